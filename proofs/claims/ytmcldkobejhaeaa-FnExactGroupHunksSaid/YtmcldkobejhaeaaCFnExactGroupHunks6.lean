/- Part 6 of 6 of a proof of this sentence: The Go function loop.example/g00825/laws.FnExactGroupHunks returns true for every input, and each argument reads afterwards as it read before. No condition. -/
import Derived.Test.YtmcldkobejhaeaaRows
import Derived.WalkKit
import Derived.ProofKit
import Derived.OpenShut
import Derived.ShutString
import Derived.ChangeOld
import Derived.Below
import Derived.SizedLaws
import Derived.Lib.SmallJoins
import Derived.Test.YtmcldkobejhaeaaCFnExactGroupHunks5
namespace Go.Proofs.Ytmcldkobejhaeaa.Pl
open Go.RowKit Go.Proofs.YtmcldkobejhaeaaW.PrintWords Go.Proofs.YtmcldkobejhaeaaW.PrintLast Go.Proofs.Ytmcldkobejhaeaa.My
set_option linter.unusedVariables false
set_option linter.unusedSimpArgs false
def chainG : Int → Int → List IG → Bool
  | _, _, [] => true
  | a, b, x :: t => groupB x.f0 x.f1 x.f2 && (decide (a ≤ x.f0) && (decide (b ≤ x.f1) && chainG (x.f0 + ((sideL 3 x.f2).length : Int)) (x.f1 + ((sideL 2 x.f2).length : Int)) t))
def goodGs (l : List IG) : Bool := decide ((l.length : Int) ≤ 20) && chainG 0 0 l
theorem goodGroups_l0 (l : List IG) (hf : FitIG l) (hL : ∀ x ∈ l, x.f2.length ≤ 1048576) : ∀ d i (a b : Int), i + d = l.length → (i = 0 → a = 0 ∧ b = 0) → (∀ h : 0 < i, ∀ h2 : i - 1 < l.length, groupB l[i - 1].f0 l[i - 1].f1 l[i - 1].f2 = true ∧ a = l[i - 1].f0 + ((sideL 3 l[i - 1].f2).length : Int) ∧ b = l[i - 1].f1 + ((sideL 2 l[i - 1].f2).length : Int)) →
    Ev (fun k => impl_goodGroups.l0 k l l (l.length : Int) (i : Int)) (chainG a b (l.drop i)) := by
  intro d
  have hLl := hf.1
  induction d with
  | zero =>
    intro i a b hi h0 hp
    refine Ev.step (fun k => impl_goodGroups.l0.eq_2 ..) (ev_neg (by omega) (ev_some ?_))
    rw [List.drop_of_length_le (by omega)]
    simp [chainG]
  | succ d ih =>
    intro i a b hi h0 hp
    have hlt : i < l.length := by omega
    have hfi := (hf.2 _ (List.getElem_mem hlt)).2.2
    refine Ev.step (fun k => impl_goodGroups.l0.eq_2 ..) (ev_pos (by omega) (ev_pos (by omega) (ev_pos (by omega) ?_)))
    simp only [rdIG l i hlt]
    rw [drop_cons l i hlt]
    simp only [chainG]
    refine ev_bind (goodGroup_ev _ _ _ hfi (hL _ (List.getElem_mem hlt))) (ev_ite (fun h1 => ?_) (fun h1 => ev_some (by rw [Bool.not_eq_true] at h1; rw [h1]; rfl)))
    obtain ⟨q0, q1, q2, q3, q4, q5, q6, q7, q8⟩ := groupB_facts h1
    rw [h1, Bool.true_and, wrap_succ i (by omega)]
    have hnext := ih (i + 1) (l[i].f0 + ((sideL 3 l[i].f2).length : Int)) (l[i].f1 + ((sideL 2 l[i].f2).length : Int)) (by omega) (by omega) (fun _ _ => ⟨h1, rfl, rfl⟩)
    refine ev_ite (fun h3 => ?_) (fun h3 => ?_)
    · obtain ⟨p1, p2, p3⟩ := hp (by omega) (by omega)
      obtain ⟨r0, r1, r2, r3, r4, r5, r6, r7, r8⟩ := groupB_facts p1
      have hw : wrap64 ((i : Int) - 1) = ((i - 1 : Nat) : Int) := wrap_pred i (by omega) (by omega)
      rw [hw]
      refine ev_pos (by omega) (ev_pos (by omega) ?_)
      simp only [rdIG l (i - 1) (by omega)]
      refine ev_bind (old_ev _ _ _ (by omega)) ?_
      rw [wrap64_id (by omega) (by omega), ← p2]
      refine ev_ite (fun h => ev_some (by rw [decide_eq_false (show ¬ a ≤ l[i].f0 by omega)]; rfl)) (fun h => ?_)
      rw [decide_eq_true (show a ≤ l[i].f0 by omega), Bool.true_and]
      refine ev_bind (fresh_ev _ _ _ (by omega)) ?_
      rw [wrap64_id (by omega) (by omega), ← p3]
      refine ev_ite (fun h => ev_some (by rw [decide_eq_false (show ¬ b ≤ l[i].f1 by omega)]; rfl)) (fun h => ?_)
      rw [decide_eq_true (show b ≤ l[i].f1 by omega), Bool.true_and]
      exact hnext
    · obtain ⟨rfl, rfl⟩ := h0 (by omega)
      rw [decide_eq_true q0, decide_eq_true q2, Bool.true_and, Bool.true_and]
      exact hnext
theorem l6Good_l0 (l : List IG) (hf : FitIG l) (hL : ∀ x ∈ l, x.f2.length ≤ 1048576) : ∀ d i (a b : Int), i + d = l.length → (i = 0 → a = 0 ∧ b = 0) → (∀ h : 0 < i, ∀ h2 : i - 1 < l.length, groupB l[i - 1].f0 l[i - 1].f1 l[i - 1].f2 = true ∧ a = l[i - 1].f0 + ((sideL 3 l[i - 1].f2).length : Int) ∧ b = l[i - 1].f1 + ((sideL 2 l[i - 1].f2).length : Int)) →
    Ev (fun k => spec_l6Good.l0 k l l (l.length : Int) (i : Int)) (chainG a b (l.drop i) && decide ((l.length : Int) ≤ 20)) := by
  intro d
  have hLl := hf.1
  induction d with
  | zero =>
    intro i a b hi h0 hp
    refine Ev.step (fun k => spec_l6Good.l0.eq_2 ..) (ev_neg (by omega) (ev_some ?_))
    rw [List.drop_of_length_le (by omega)]
    simp [chainG]
  | succ d ih =>
    intro i a b hi h0 hp
    have hlt : i < l.length := by omega
    have hfi := (hf.2 _ (List.getElem_mem hlt)).2.2
    refine Ev.step (fun k => spec_l6Good.l0.eq_2 ..) (ev_pos (by omega) (ev_pos (by omega) (ev_pos (by omega) ?_)))
    simp only [rdIG l i hlt]
    rw [drop_cons l i hlt]
    simp only [chainG]
    refine ev_bind (l6Group_ev _ _ _ hfi (hL _ (List.getElem_mem hlt))) (ev_ite (fun h1 => ?_) (fun h1 => ev_some (by rw [Bool.not_eq_true] at h1; rw [h1]; rfl)))
    obtain ⟨q0, q1, q2, q3, q4, q5, q6, q7, q8⟩ := groupB_facts h1
    rw [h1, Bool.true_and, wrap_succ i (by omega)]
    have hnext := ih (i + 1) (l[i].f0 + ((sideL 3 l[i].f2).length : Int)) (l[i].f1 + ((sideL 2 l[i].f2).length : Int)) (by omega) (by omega) (fun _ _ => ⟨h1, rfl, rfl⟩)
    refine ev_ite (fun h3 => ?_) (fun h3 => ?_)
    · obtain ⟨p1, p2, p3⟩ := hp (by omega) (by omega)
      obtain ⟨r0, r1, r2, r3, r4, r5, r6, r7, r8⟩ := groupB_facts p1
      have hw : wrap64 ((i : Int) - 1) = ((i - 1 : Nat) : Int) := wrap_pred i (by omega) (by omega)
      rw [hw]
      refine ev_pos (by omega) (ev_pos (by omega) ?_)
      simp only [rdIG l (i - 1) (by omega)]
      refine ev_bind (l6Old_ev _ _ _ (by omega)) ?_
      rw [wrap64_id (by omega) (by omega), ← p2]
      refine ev_ite (fun h => ev_some (by rw [decide_eq_false (show ¬ a ≤ l[i].f0 by omega)]; rfl)) (fun h => ?_)
      rw [decide_eq_true (show a ≤ l[i].f0 by omega), Bool.true_and]
      refine ev_bind (l6New_ev _ _ _ (by omega)) ?_
      rw [wrap64_id (by omega) (by omega), ← p3]
      refine ev_ite (fun h => ev_some (by rw [decide_eq_false (show ¬ b ≤ l[i].f1 by omega)]; rfl)) (fun h => ?_)
      rw [decide_eq_true (show b ≤ l[i].f1 by omega), Bool.true_and]
      exact hnext
    · obtain ⟨rfl, rfl⟩ := h0 (by omega)
      rw [decide_eq_true q0, decide_eq_true q2, Bool.true_and, Bool.true_and]
      exact hnext
theorem goodGroups_ev (l : List IG) (hf : FitIG l) (hL : ∀ x ∈ l, x.f2.length ≤ 1048576) : Ev (fun k => impl_goodGroups.f k l) (goodGs l) := by
  simp only [impl_goodGroups.f]
  unfold goodGs
  refine ev_ite (fun h => ev_some (by rw [decide_eq_false (show ¬ (l.length : Int) ≤ 20 by omega)]; rfl)) (fun h => ?_)
  rw [decide_eq_true (show (l.length : Int) ≤ 20 by omega), Bool.true_and]
  exact goodGroups_l0 l hf hL l.length 0 0 0 (by omega) (fun _ => ⟨rfl, rfl⟩) (fun h => by omega)
theorem l6Good_ev (l : List IG) (hf : FitIG l) (hL : ∀ x ∈ l, x.f2.length ≤ 1048576) : Ev (fun k => spec_l6Good.f k l) (goodGs l) := by
  simp only [spec_l6Good.f]
  exact ev_to (l6Good_l0 l hf hL l.length 0 0 0 (by omega) (fun _ => ⟨rfl, rfl⟩) (fun h => by omega)) (by unfold goodGs; rw [Bool.and_comm]; rfl)
theorem chainG_mem : ∀ (l : List IG) (a b : Int), chainG a b l = true → ∀ x ∈ l, groupB x.f0 x.f1 x.f2 = true
  | [], _, _, _, x, hx => by cases hx
  | y :: t, a, b, h, x, hx => by
    simp only [chainG, Bool.and_eq_true] at h
    rcases List.mem_cons.1 hx with rfl | hx
    · exact h.1
    · exact chainG_mem t _ _ h.2.2.2 x hx
end Go.Proofs.Ytmcldkobejhaeaa.Pl
namespace Go.Proofs.Ytmcldkobejhaeaa.My
open Go.RowKit Go.Proofs.YtmcldkobejhaeaaW.PrintWords Go.Proofs.YtmcldkobejhaeaaW.PrintLast Go.Proofs.YtmcldkobejhaeaaW.PrintMore Go.Proofs.Ytmcldkobejhaeaa.Pl
attribute [local go_sem] max2_int min2_int max_two min_two max_three min_three max_four min_four
set_option linter.unusedVariables false
set_option linter.unusedSimpArgs false
def farN (n : Nat) (x : IG) : Bool := decide ((n : Int) < x.f0 + ((sideL 3 x.f2).length : Int))
def GrS (x : IG) : Prop := 0 ≤ x.f0 ∧ x.f0 ≤ 999 ∧ 0 ≤ x.f1 ∧ x.f1 ≤ 999 ∧ x.f2.length ≤ 80
def far.T : Bool × List (List Nat × List Nat) := (true, [([], []), ([0], [0]), ([], []), ([2], [2]), ([3], [3]), ([1, 4], [1, 4]), ([], []), ([6], [6]), ([5, 7], [5, 7]), ([8, 3, 0, 1, 2, 3, 4, 5, 6, 7, 8], [8])])
def far.B : List Nat := [0, 1, 0, 4, 12, 31, 0, 64, 255, 511]
theorem far.tab : rtab .any (opsOf Try.f119 1) = far.T := by kernel_rfl
theorem far.bits : waitsOk far.T.2 far.B = true := by kernel_rfl
set_option maxHeartbeats 8000000 in
set_option maxRecDepth 100000 in
theorem far_made (gb : Nat) (AL : Option Addr) (nL cL : Nat) (p q : Int) (A2 : Option Addr) (c2 : Nat) (rs : List IR) (r : Bool) (w : World) (hr2 : Kd.C k140 w A2 rs.length rs) (hc2 : rs.length ≤ c2) (hbx : w.heap[gb]? = some (.cells #[.slice AL nL cL] 24 (0, 0))) (hp : 0 ≤ p ∧ p ≤ 999) (hl : rs.length ≤ 80) (hr : decide ((nL : Int) < p + ((sideL 3 rs).length : Int)) = r) :
    Calls Try.prog 119 #[.agg #[.int .i64 p, .int .i64 q, .slice A2 rs.length c2], .pointer (some ⟨gb, 0, none⟩)] w fun e w' => e = .returned (.bool r) ∧ Below w.heap.size w w' := by
  have hu73 := Try.underlying73
  obtain ⟨ko, eo⟩ := old_ev p q rs (by omega)
  have EO := am (eo ko (Nat.le_refl _))
  have hsl := sideL_len 3 rs
  have hwr : wrap64 (p + ((sideL 3 rs).length : Int)) = p + ((sideL 3 rs).length : Int) := wrap64_id (by omega) (by omega)
  rw [← hwr] at hr
  clear eo hsl hwr
  obtain ⟨t, ht⟩ : ∃ t, t = sideL 3 rs := ⟨_, rfl⟩
  rw [← ht] at hr EO
  have hr' : decide ((nL : Int) < wrap64 (p + (t.length : Int))) = r := hr
  have HRR := am hr'
  have HR2 := am hr2
  have HC2 := am hc2
  have HX := am hbx
  have HB := am (Below.refl w.heap.size w)
  clear hr2 hc2 hbx hr hr' hp hl ht
  go_enter Try.func119, Try.ntmps119
  go_wp2_with ((with_reducible refine gate_dst (N := 2) rfl ?_); refine box_event ?hg (N := 2) ?hd (cs := #[.int .i64 p, .int .i64 q, .slice A2 rs.length c2]) (t := 73) ?hr ?_; (case hd => rfl); (case hg => rfl); (case hr => first | (go_simp; done) | (go_simp; rfl)); intro gg hg w1 hbox hb; have BG := am hbox; have BX := am (blk_below (zk HX.out) hb); have HB1 := am (below_step zb hb); clear HB hb hbox hg)
  have n0_ := am (blk_drew BG.out)
  have n1_ := am (blk_drew BX.out)
  have n2_ := am (below_drew1 HB1.out)
  clear BG BX HB1
  have BG := n0_
  have BX := n1_
  have HB := n2_
  clear n0_ n1_ n2_
  refine start_ (n := 10) (S := fun w' => w'.cell? ⟨gg, 0, none⟩ = some (.int .i64 p) ∧ w'.cell? ⟨gg, 1, none⟩ = some (.int .i64 q) ∧ w'.cell? ⟨gg, 2, none⟩ = some (.slice A2 rs.length c2) ∧ w'.cell? ⟨gb, 0, none⟩ = some (.slice AL nL cL)) (ds := []) #[O,O,O,O,O,O,O,O,O,O] (by kernel_rfl) rfl rfl ⟨(blk_cell BG.out 0).trans rfl, (blk_cell BG.out 1).trans rfl, (blk_cell BG.out 2).trans rfl, (blk_cell BX.out 0).trans rfl⟩ (fun hHeld => ?_)
  refine with_tabW far.tab far.bits (fun HT_ HW_ => ?_)
  generalize w1.drew = w2 at BG BX HB hHeld ⊢
  refine pure_ (i := 0) (N := some 4) (v := ?_) (a' := ?_) #[Y,O,O,O,O,O,O,O,O,O] rfl rfl zx (fun _ _ _ h => h) (Or.inl ⟨by rfl, ?_⟩) ?_ ?_
  rotate_left; (intro w'; go_simp; with_reducible rfl); rotate_left; (simp only [Act.put,qa,qb,qc,i64_w,i32_w]; rfl)
  refine take_ (i := 1) (N := some 5) (v := ?_) (a' := ?_) #[Y,Y,O,O,O,O,O,O,O,O] rfl rfl (take_ofW HT_.out HW_.out (by kernel_rfl)) (fun _ _ _ h => h) (Or.inl ⟨by rfl, ?_⟩) hHeld ?_ ?_
  rotate_left; (rintro w' ⟨s0, s1, s2, s3⟩; go_simp; with_reducible rfl); rotate_left; (simp only [Act.put,qa,qb,qc,i64_w,i32_w]; rfl)
  refine take_ (i := 2) (N := some 6) (v := ?_) (a' := ?_) #[Y,Y,Y,O,O,O,O,O,O,O] rfl rfl (take_ofW HT_.out HW_.out (by kernel_rfl)) (fun _ _ _ h => h) (Or.inl ⟨by rfl, ?_⟩) hHeld ?_ ?_
  rotate_left; (rintro w' ⟨s0, s1, s2, s3⟩; go_simp; with_reducible rfl); rotate_left; (simp only [Act.put,qa,qb,qc,i64_w,i32_w]; rfl)
  refine take_ (i := 6) (N := some 10) (v := ?_) (a' := ?_) #[Y,Y,Y,O,O,O,Y,O,O,O] rfl rfl (take_ofW HT_.out HW_.out (by kernel_rfl)) (fun _ _ _ h => h) (Or.inl ⟨by rfl, ?_⟩) hHeld ?_ ?_
  rotate_left; (rintro w' ⟨s0, s1, s2, s3⟩; go_simp; with_reducible rfl); rotate_left; (simp only [Act.put,qa,qb,qc,i64_w,i32_w]; rfl)
  refine pure_ (i := 7) (N := some 11) (v := ?_) (a' := ?_) #[Y,Y,Y,O,O,O,Y,Y,O,O] rfl rfl zx (fun _ _ _ h => h) (Or.inl ⟨by rfl, ?_⟩) ?_ ?_
  rotate_left; (intro w'; go_simp; with_reducible rfl); rotate_left; (simp only [Act.put,qa,qb,qc,i64_w,i32_w]; rfl)
  refine one_ (i := 3) (N := some 7) #[Y,Y,Y,Y,O,O,Y,Y,O,O] rfl rfl (one_of HT_.out (by kernel_rfl)) (by decide) (fun K hK => ?_)
  refine goes_ Try.func112 (by kernel_rfl) rfl #[.agg #[.int .i64 p, .int .i64 q, .slice A2 rs.length c2]] (by rfl) rfl rfl zm ?_
  with_reducible refine (impl_Group_old.calls ko p q _ _ rs t _ ?side1 ?side2 EO.out).mono ?_
  (case side1 => exact zq (Kd.C_below HR2.out HB.out))
  (case side2 => exact HC2.out)
  rintro e w3 ⟨v3, rfl, ho0, hb⟩
  refine ⟨_, rfl, ?_⟩
  have n0_ := am (blk_below (zk BG.out) hb)
  have n1_ := am (blk_below (zk BX.out) hb)
  have n2_ := am (below_step HB.out hb)
  clear BG BX HB
  have BG := n0_
  have BX := n1_
  have HB := n2_
  clear n0_ n1_ n2_ hb
  obtain ⟨Ao, co, eo⟩ := Kd.R_slice ho0
  subst eo
  clear ho0
  refine hK.out _ _ ⟨(blk_cell BG.out 0).trans rfl, (blk_cell BG.out 1).trans rfl, (blk_cell BG.out 2).trans rfl, (blk_cell BX.out 0).trans rfl⟩ (fun hHeld => ?_)
  clear hK K
  refine norm_ (a' := ?_) ?_ ?_
  rotate_left
  · show Act.put _ (some 7) _ = _
    simp only [Act.put,qa,qb,qc,i64_w,i32_w]
    rfl
  refine pure_ (i := 4) (N := some 8) (v := ?_) (a' := ?_) #[Y,Y,Y,Y,Y,O,Y,Y,O,O] rfl rfl zx (fun _ _ _ h => h) (Or.inl ⟨by rfl, ?_⟩) ?_ ?_
  rotate_left; (intro w'; go_simp; with_reducible rfl); rotate_left; (simp only [Act.put,qa,qb,qc,i64_w,i32_w]; rfl)
  refine pure_ (i := 5) (N := some 9) (v := ?_) (a' := ?_) #[Y,Y,Y,Y,Y,Y,Y,Y,O,O] rfl rfl zx (fun _ _ _ h => h) (Or.inl ⟨by rfl, ?_⟩) ?_ ?_
  rotate_left; (intro w'; go_simp; with_reducible rfl); rotate_left; (simp only [Act.put,qa,qb,qc,i64_w,i32_w]; rfl)
  refine pure_ (i := 8) (N := some 12) (v := ?_) (a' := ?_) #[Y,Y,Y,Y,Y,Y,Y,Y,Y,O] rfl rfl zx (fun _ _ _ h => h) (Or.inl ⟨by rfl, ?_⟩) ?_ ?_
  rotate_left; (intro w'; go_simp; with_reducible rfl); rotate_left; (simp only [Act.put,qa,qb,qc,i64_w,i32_w]; rfl)
  refine pure_ (i := 9) (N := some 3) (v := ?_) (a' := ?_) #[Y,Y,Y,Y,Y,Y,Y,Y,Y,Y] rfl rfl zx (fun _ _ _ h => h) (Or.inl ⟨by rfl, ?_⟩) ?_ ?_
  rotate_left; (intro w'; go_simp; with_reducible rfl); rotate_left; (simp only [Act.put,qa,qb,qc,i64_w,i32_w]; rfl)
  refine done_ (done_of HT_.out (by kernel_rfl)) ?_
  try go_wp2
  go_ret
  exact ⟨congrArg (fun b => Ending.returned (Value.bool b)) HRR.out, HB.out⟩
theorem any_take {α : Type} (f : α → Bool) (l : List α) (i : Nat) (hi : i < l.length) (h : (l.take i).any f = false) (hx : f l[i] = false) : (l.take (i + 1)).any f = false := by
  rw [List.take_succ_eq_append_getElem hi, List.any_append, h, List.any_cons, hx]
  rfl
set_option maxHeartbeats 8000000 in
set_option maxRecDepth 100000 in
theorem farIx_made (gb : Nat) (AL : Option Addr) (nL cL : Nat) (A0 : Option Addr) (c0 : Nat) (l0 : List IG) (w : World) (hr0 : Kd.C k73 w A0 l0.length l0) (hc0 : l0.length ≤ c0) (hbx : w.heap[gb]? = some (.cells #[.slice AL nL cL] 24 (0, 0))) (hL : l0.length ≤ 20) (hG : ∀ x ∈ l0, GrS x) :
    Calls Try.prog 146 #[.slice A0 l0.length c0, .func (.func 119) #[] #[.pointer (some ⟨gb, 0, none⟩)]] w fun e w' => (∃ r : Int, e = .returned (.int .i64 r) ∧ decide (0 ≤ r) = l0.any (farN nL)) ∧ Below w.heap.size w w' := by
  have hu73 := Try.underlying73
  have HX := am hbx
  have HR0 := am hr0
  have HC0 := am hc0
  have HG := am hG
  have HL := am hL
  have HB := am (Below.refl w.heap.size w)
  clear hbx hr0 hc0 hG hL
  go_enter Try.func146, Try.ntmps146
  go_wp2
  go_loopg [8] l0.length (fun kq v8 w' => ∃ i : Nat, v8 = .int .i64 (i : Int) ∧ i + kq = l0.length ∧ Aside0 ((l0.take i).any (farN nL) = false) ∧ Aside0 (Below w.heap.size w w'))
  case atStart => exact ⟨0, rfl, by omega, ⟨by simp⟩, ⟨by repeat (first | exact HB.out | apply below_alloc | apply pw_below_drewN | apply below_drew1)⟩⟩
  case round =>
    clear HB
    obtain ⟨i, rfl, e1, HA, HB⟩ := hrel
    by_cases hi : i < l0.length
    · have hd : decide ((i : Int) < (l0.length : Int)) = true := decide_eq_true (by omega)
      have p1 : 0 ≤ (i : Int) := by omega
      have q1 : (i : Int) < (l0.length : Int) := by omega
      obtain ⟨ad, A2, C2, eA, hx0, hx1, hx2, hl2, hr2⟩ := at_T73 HR0.out (i : Int) p1 q1
      cases eA
      rw [rdIG l0 i hi] at hx0 hx1 hx2 hl2 hr2
      replace hx0 := (HB.out.cell (World.block_lt_of_cell? w _ hx0)).trans hx0
      replace hx1 := (HB.out.cell (World.block_lt_of_cell? w _ hx1)).trans hx1
      replace hx2 := (HB.out.cell (World.block_lt_of_cell? w _ hx2)).trans hx2
      simp only [Int.toNat_natCast] at hx0 hx1 hx2
      obtain ⟨g0, g1, g2, g3, g4⟩ := HG.out _ (List.getElem_mem hi)
      obtain ⟨r, hr⟩ : ∃ r, farN nL l0[i] = r := ⟨_, rfl⟩
      have HRR := am hr
      have HR2 := am (Kd.C_below hr2 HB.out)
      have HL2 := am hl2
      have HG2 := am (And.intro (And.intro g0 g1) g4)
      clear hr2 hl2 g0 g1 g2 g3 g4 hr
      replace p1 := eq_true p1
      replace q1 := eq_true q1
      cases r with
      | true =>
        go_wp2_with fail
        refine Calls.mono (far_made gb AL nL cL _ _ _ _ _ true _ HR2.out HL2.out (blk_below HX.out HB.out) HG2.out.1 HG2.out.2 HRR.out) ?_
        rintro _ w2 ⟨rfl, hb⟩
        dsimp only
        have HB2 := am (below_step HB.out hb)
        clear hb
        go_wp2
        go_ret
        refine ⟨⟨_, rfl, ?_⟩, HB2.out⟩
        rw [decide_eq_true (by omega), Eq.comm, List.any_eq_true]
        exact ⟨_, List.getElem_mem hi, HRR.out⟩
      | false =>
        go_wp2_with fail
        refine Calls.mono (far_made gb AL nL cL _ _ _ _ _ false _ HR2.out HL2.out (blk_below HX.out HB.out) HG2.out.1 HG2.out.2 HRR.out) ?_
        rintro _ w2 ⟨rfl, hb⟩
        dsimp only
        have HB2 := am (below_step HB.out hb)
        clear hb
        go_wp2
        go_roundg (l0.length - (i + 1))
        case measure => omega
        case rel => exact ⟨i + 1, by rw [wrap_succ i (by have := HL.out; omega)], by omega, ⟨any_take _ _ i hi HA.out HRR.out⟩, HB2⟩
    · have hd : decide ((i : Int) < (l0.length : Int)) = false := decide_eq_false (by omega)
      go_wp2
      go_ret
      refine ⟨⟨_, rfl, ?_⟩, HB.out⟩
      have h := HA.out
      rw [List.take_of_length_le (by omega)] at h
      rw [h]
      rfl
set_option maxHeartbeats 8000000 in
set_option maxRecDepth 100000 in
theorem farAny_made (gb : Nat) (AL : Option Addr) (nL cL : Nat) (A0 : Option Addr) (c0 : Nat) (l0 : List IG) (r : Bool) (w : World) (hr0 : Kd.C k73 w A0 l0.length l0) (hc0 : l0.length ≤ c0) (hbx : w.heap[gb]? = some (.cells #[.slice AL nL cL] 24 (0, 0))) (hL : l0.length ≤ 20) (hG : ∀ x ∈ l0, GrS x) (hr : l0.any (farN nL) = r) :
    Calls Try.prog 118 #[.slice A0 l0.length c0, .func (.func 119) #[] #[.pointer (some ⟨gb, 0, none⟩)]] w fun e w' => e = .returned (.bool r) ∧ Below w.heap.size w w' := by
  have HX := am hbx
  have HR0 := am hr0
  have HRR := am hr
  have HB := am (Below.refl w.heap.size w)
  clear hbx hr0 hr
  go_enter Try.func118, Try.ntmps118
  go_wp2_with fail
  refine Calls.mono (farIx_made gb AL nL cL A0 c0 l0 _ (Kd.C_below HR0.out (by repeat (first | exact HB.out | apply below_alloc | apply pw_below_drewN | apply below_drew1))) hc0 (blk_below HX.out (by repeat (first | exact HB.out | apply below_alloc | apply pw_below_drewN | apply below_drew1))) hL hG) ?_
  rintro _ w2 ⟨⟨q, rfl, hq⟩, hb⟩
  dsimp only
  have HQ := am hq
  have HB2 := am (below_step (by repeat (first | exact HB.out | apply below_alloc | apply pw_below_drewN | apply below_drew1)) hb)
  clear hb hq
  go_wp2
  go_ret
  exact ⟨congrArg (fun b => Ending.returned (Value.bool b)) (HQ.out.trans HRR.out), HB2.out⟩
end Go.Proofs.Ytmcldkobejhaeaa.My
namespace Go.Proofs.Ytmcldkobejhaeaa.Pl
open Go.RowKit Go.Proofs.YtmcldkobejhaeaaW.PrintWords Go.Proofs.YtmcldkobejhaeaaW.PrintLast Go.Proofs.Ytmcldkobejhaeaa.My
set_option linter.unusedVariables false
set_option linter.unusedSimpArgs false
def cutI (l : List ByteArray) (p e : Int) : List ByteArray := (l.take e.toNat).drop p.toNat
theorem cutI_len (l : List ByteArray) (p e : Int) : (cutI l p e).length ≤ l.length := by
  unfold cutI
  rw [List.length_drop, List.length_take]
  omega
def saysX (l : List ByteArray) (more : Int) (x : IG) : Prop := sideL 3 x.f2 = cutI l x.f0 (x.f0 + ((sideL 3 x.f2).length : Int)) ∧ x.f1 = x.f0 + more
instance (l : List ByteArray) (more : Int) (x : IG) : Decidable (saysX l more x) := by unfold saysX; infer_instance
def moreX (x : IG) : Int := ((sideL 2 x.f2).length : Int) - ((sideL 3 x.f2).length : Int)
def loopH (l : List ByteArray) : Int → List IH → List IG → List IH × Int
  | _, out, [] => (out, 0)
  | more, out, x :: t => if saysX l more x then loopH l (more + moreX x) (out ++ hksF x.f0 [] false x.f2) t else ([], 2)
def groupHunksR (l : List ByteArray) (g : List IG) : List IH × Int × Bool :=
  if good l = true ∧ goodGs g = true then (if g.any (farN l.length) = true then ([], 3, true) else ((loopH l 0 [] g).1, (loopH l 0 [] g).2, true)) else ([], 0, false)
theorem grS_of {g : List IG} (h : goodGs g = true) : g.length ≤ 20 ∧ ∀ x ∈ g, GrS x := by
  unfold goodGs at h
  simp only [Bool.and_eq_true, decide_eq_true_eq] at h
  refine ⟨by omega, fun x hx => ?_⟩
  obtain ⟨a, b, c, d, e, _⟩ := groupB_facts (chainG_mem g 0 0 h.2 x hx)
  exact ⟨a, b, c, d, e⟩
theorem hks_len {x : IG} (h : GrS x) : (hksF x.f0 [] false x.f2).length ≤ 80 ∧ ∀ y ∈ hksF x.f0 [] false x.f2, y.f2.length ≤ 80 := by
  obtain ⟨_, _, _, _, h⟩ := h
  have hs := hksF_small x.f2 x.f0 [] false 0 (fun y hy => by cases hy)
  simp only [List.length_nil] at hs
  exact ⟨by omega, fun y hy => by have := hs.2 y hy; omega⟩
theorem loopH_small (l : List ByteArray) : ∀ (g : List IG) (more : Int) (out : List IH), (∀ x ∈ g, GrS x) → (∀ y ∈ out, y.f2.length ≤ 80) → (loopH l more out g).1.length ≤ out.length + 80 * g.length ∧ ∀ y ∈ (loopH l more out g).1, y.f2.length ≤ 80
  | [], more, out, hg, ho => ⟨Nat.le_refl _, ho⟩
  | x :: t, more, out, hg, ho => by
    have hx := hks_len (hg x (List.mem_cons_self ..))
    simp only [loopH, List.length_cons]
    split
    · have := loopH_small l t (more + moreX x) (out ++ hksF x.f0 [] false x.f2) (fun y hy => hg y (List.mem_cons_of_mem _ hy)) (fun y hy => by
        rcases List.mem_append.1 hy with hy | hy
        · exact ho y hy
        · exact hx.2 y hy)
      rw [List.length_append] at this
      exact ⟨by omega, this.2⟩
    · exact ⟨by simp, fun y hy => by cases hy⟩
theorem groupHunksR_small (l : List ByteArray) (g : List IG) : (groupHunksR l g).1.length ≤ 1600 ∧ ∀ y ∈ (groupHunksR l g).1, y.f2.length ≤ 80 := by
  unfold groupHunksR
  split
  · rename_i h
    obtain ⟨h1, h2⟩ := grS_of h.2
    split
    · exact ⟨Nat.zero_le _, fun y hy => by cases hy⟩
    · have := loopH_small l g 0 [] h2 (fun y hy => by cases hy)
      simp only [List.length_nil] at this
      exact ⟨Nat.le_trans this.1 (by omega), this.2⟩
  · exact ⟨Nat.zero_le _, fun y hy => by cases hy⟩
end Go.Proofs.Ytmcldkobejhaeaa.Pl
namespace Go.Proofs.Ytmcldkobejhaeaa.My
open Go.RowKit Go.Proofs.YtmcldkobejhaeaaW.PrintWords Go.Proofs.YtmcldkobejhaeaaW.PrintLast Go.Proofs.YtmcldkobejhaeaaW.PrintMore
set_option linter.unusedVariables false
open Classical in
theorem S_append_rows {P : Program} {ops : Array Oper} {rest : List Oper} {o : Oper} {a : Act} {Q : Exit → Act → World → Prop} {α : Type} (d : Kd α) {w0 W : World} (base : Nat) (hgd : o.guard = none) (s x : Operand) (t e : TypeId) (z : Value) (bytes : Nat)
    (ho : o.op = .call { callee := .builtin .append, args := #[s, x], argTypes := #[t, t] })
    (ht : P.underlying t = some (.slice e)) (hinfo : (P.info? e).map (fun i => (i.zero, i.size, i.bytes)) = some (some z, d.sz, bytes)) (hz : z.cells.size = d.sz) (hs0 : 0 < d.sz) (hb0 : 0 < bytes)
    (v : Value) (xs ys : List α) (vy : Value) (base2 : Nat) (ok okp : Nat → Prop) (hs : a.eval s = v) (hx : a.eval x = vy)
    (HO : Kd.S d e W base (fun k => ok k ∧ ¬ okp k) v xs) (HY : Kd.S d e W base2 okp vy ys) (hb2 : base ≤ base2) (hokp : ∀ k, okp k → ok k ∧ some k ≠ v.ownBlock) (hfresh : ∀ k, W.heap.size ≤ k → ok k)
    (HB : Below base w0 W) (hbase : base ≤ W.heap.size) (hl : (xs.length + ys.length) * bytes ≤ 140737488355328)
    (h : ∀ v1 w1, Kd.S d e w1 base ok v1 (xs ++ ys) → Below base w0 w1 → W.grownBy w1 v.ownBlock → (v1.ownBlock = v.ownBlock ∨ ∃ b, v1.ownBlock = some b ∧ W.heap.size ≤ b) → wpList P ops Q rest (a.put o.dst v1) w1) :
    wpList P ops Q (o :: rest) a W := by
  obtain ⟨f1, H1⟩ := HO
  obtain ⟨f2, H2⟩ := Kd.S_lower HY hb2
  obtain ⟨_, inner, hown, hrep⟩ := H2
  have hn : (ys.zipIdx).length = (ys.zipIdx xs.length).length := by simp
  have hro : OwnRow (fun p c => (Kd.tag (fun k => if okp k then xs.length + f2 k else f1 k) d).M W base okp p c) e d.sz W base vy (ys.zipIdx xs.length) := by
    refine ⟨inner, hn ▸ hown, hn ▸ hrep.1, fun j p hj => ?_⟩
    rw [List.getElem?_zipIdx] at hj
    obtain ⟨y, hy, rfl⟩ := Option.map_eq_some_iff.1 hj
    have h3 := hrep.2 j (y, j) (Kd.zip_at hy)
    refine d.M_mono (fun k hk => ⟨hk.1.1, ?_⟩) h3
    have h4 : f2 k = j := hk.2
    show (if okp k then xs.length + f2 k else f1 k) = xs.length + j
    rw [if_pos hk.1.1, h4]
  obtain ⟨A, c, rfl, -, hrr⟩ := hro.reads
  refine Kd.R_append_rows (Kd.tag (fun k => if okp k then xs.length + f2 k else f1 k) d) base hgd s x t e z bytes ho ht hinfo hz hs0 hb0 v xs.zipIdx (ys.zipIdx xs.length) A _ c ok okp hs hx
    (Kd.R_mono (Kd.R_tag H1 (fun k hk _ => if_neg hk.2)) (fun _ hk => hk.1)) hrr (fun _ _ hk => hk) hokp hfresh HB hbase (by simpa using hl) ?_
  intro v1 w1 hr
  refine h v1 w1 ⟨fun k => if okp k then xs.length + f2 k else f1 k, ?_⟩
  rw [List.zipIdx_append, Nat.zero_add]
  exact hr
end Go.Proofs.Ytmcldkobejhaeaa.My
namespace Go.Proofs.Ytmcldkobejhaeaa.My
open Go.RowKit Go.Proofs.YtmcldkobejhaeaaW.PrintWords Go.Proofs.YtmcldkobejhaeaaW.PrintLast Go.Proofs.YtmcldkobejhaeaaW.PrintMore
attribute [local go_sem] max2_int min2_int max_two min_two max_three min_three max_four min_four
set_option linter.unusedVariables false
set_option linter.unusedSimpArgs false
def slices_Equal_string_string.l0 : Nat → List ByteArray → List ByteArray → Int → Int → Option (Bool)
 | 0, _, _, _, _ => none
 | k + 1, x0, x1, x12, x13 => if x13 < x12 then (if 0 ≤ x13 then (if x13 < (x0.length : Int) then (if x13 < (x1.length : Int) then (if (rdOf ByteArray.empty x0 x13).toList = (rdOf ByteArray.empty x1 x13).toList then (slices_Equal_string_string.l0 k x0 x1 x12 (wrap64 (x13 + 1))) else (some false)) else (none)) else (none)) else (none)) else (some true)
def slices_Equal_string_string.f (k : Nat) (l0 : List ByteArray) (l1 : List ByteArray) : Option (Bool) := if (l0.length : Int) = (l1.length : Int) then (slices_Equal_string_string.l0 k l0 l1 (l0.length : Int) 0) else (some false)
set_option maxHeartbeats 8000000 in
set_option maxRecDepth 100000 in
theorem slices_Equal_string_string.calls (k : Nat) (A0 : Option Addr) (c0 : Nat) (l0 : List ByteArray) (A1 : Option Addr) (c1 : Nat) (l1 : List ByteArray) (r : Bool) (w : World) (hr0 : Kd.C Kd.string w A0 l0.length l0) (hc0 : l0.length ≤ c0) (hr1 : Kd.C Kd.string w A1 l1.length l1) (hc1 : l1.length ≤ c1) (h : slices_Equal_string_string.f k l0 l1 = some r) :
  Calls Try.prog 120 #[.slice A0 l0.length c0, .slice A1 l1.length c1] w fun e w' => e = .returned (.bool r) ∧ Drawn0 w w' := by
 have HR0 := am hr0
 have HC0 := am hc0
 clear hr0 hc0
 have HR1 := am hr1
 have HC1 := am hc1
 clear hr1 hc1
 have H : (if (l0.length : Int) = (l1.length : Int) then (slices_Equal_string_string.l0 k l0 l1 (l0.length : Int) 0) else (some false)) = some r := h
 clear h
 by_cases c3 : (l0.length : Int) = (l1.length : Int)
 ·rw [if_pos c3] at H
  have c3b0 : ((l0.length : Int) == (l1.length : Int)) = true := beq_iff_eq.mpr c3
  have c3b1 : ((l0.length : Int) != (l1.length : Int)) = false := bne_eq_false_iff_eq.mpr c3
  have c3b2 : (l0.length == l1.length) = true := by first | simpa using c3 | (simp at c3 ⊢; omega)
  clear c3
  have H' := am H
  clear H
  go_enter Try.func120, Try.ntmps120
  go_wp2
  repeat (go_quiet (fail); try go_wp2)
  go_loopg [13] k (fun kq v13 w' => ∃ (x13_1 : Int), v13 = .int .i64 x13_1 ∧ Aside0 (slices_Equal_string_string.l0 kq l0 l1 (l0.length : Int) x13_1 = some r) ∧ Aside0 (kq ≤ k) ∧ Drawn0 w w')
  case atStart => exact ⟨(0), zf, H', ⟨Nat.le_refl _⟩, by repeat (first | exact Drawn0.refl _ | apply Drawn0.step)⟩
  case round =>
   clear H'
   try clear c1
   try clear p2
   try clear c3
   try clear c3b0
   try clear c3b1
   try clear c3b2
   obtain ⟨x13_1, rfl, HA, HK1, ⟨m1, rfl⟩⟩ := hrel
   cases gk with
   | zero => exact absurd HA.out (by simp [slices_Equal_string_string.l0])
   | succ k1 =>
    have H := HA.out
    clear HA
    simp only [slices_Equal_string_string.l0] at H
    by_cases c4 : x13_1 < (l0.length : Int)
    ·rw [if_pos c4] at H
     have c4b0 : decide (x13_1 < (l0.length : Int)) = true := decide_eq_true c4
     clear c4
     by_cases c5 : 0 ≤ x13_1
     ·rw [if_pos c5] at H
      have c5b0 : decide (0 ≤ x13_1) = true := decide_eq_true c5
      clear c5
      by_cases c6 : x13_1 < (l0.length : Int)
      ·rw [if_pos c6] at H
       have c6b0 : decide (x13_1 < (l0.length : Int)) = true := decide_eq_true c6
       clear c6
       by_cases c7 : x13_1 < (l1.length : Int)
       ·rw [if_pos c7] at H
        have c7b0 : decide (x13_1 < (l1.length : Int)) = true := decide_eq_true c7
        clear c7
        by_cases c8 : (rdOf ByteArray.empty l0 x13_1).toList = (rdOf ByteArray.empty l1 x13_1).toList
        ·rw [if_pos c8] at H
         have c8b0 : ((rdOf ByteArray.empty l0 x13_1).toList == (rdOf ByteArray.empty l1 x13_1).toList) = true := beq_iff_eq.mpr c8
         have c8b1 : ((rdOf ByteArray.empty l0 x13_1).toList != (rdOf ByteArray.empty l1 x13_1).toList) = false := bne_eq_false_iff_eq.mpr c8
         clear c8
         have H' := am H
         clear H
         have p667 : 0 ≤ (x13_1 : Int) := oa
         have q667 : x13_1 < (l0.length : Int) := oa
         obtain ⟨ad667, e667, hx667_0⟩ := Kd.at_string HR0.out x13_1 p667 q667
         cases e667
         replace p667 := eq_true p667
         replace q667 := eq_true q667
         have p668 : 0 ≤ (x13_1 : Int) := oa
         have q668 : x13_1 < (l1.length : Int) := oa
         obtain ⟨ad668, e668, hx668_0⟩ := Kd.at_string HR1.out x13_1 p668 q668
         cases e668
         replace p668 := eq_true p668
         replace q668 := eq_true q668
         go_wp2
         repeat (go_quiet (fail); try go_wp2)
         go_roundg k1
         case measure => have := HK1.out; omega
         case rel => exact ⟨(wrap64 (x13_1 + 1)), zf, H', ⟨by have := HK1.out; omega⟩, by repeat (first | exact Drawn0.refl _ | apply Drawn0.step)⟩
        ·rw [if_neg c8] at H
         have c8b0 : ((rdOf ByteArray.empty l0 x13_1).toList == (rdOf ByteArray.empty l1 x13_1).toList) = false := beq_eq_false_iff_ne.mpr c8
         have c8b1 : ((rdOf ByteArray.empty l0 x13_1).toList != (rdOf ByteArray.empty l1 x13_1).toList) = true := bne_iff_ne.mpr c8
         obtain rfl := Option.some.inj H
         have p667 : 0 ≤ (x13_1 : Int) := oa
         have q667 : x13_1 < (l0.length : Int) := oa
         obtain ⟨ad667, e667, hx667_0⟩ := Kd.at_string HR0.out x13_1 p667 q667
         cases e667
         replace p667 := eq_true p667
         replace q667 := eq_true q667
         have p668 : 0 ≤ (x13_1 : Int) := oa
         have q668 : x13_1 < (l1.length : Int) := oa
         obtain ⟨ad668, e668, hx668_0⟩ := Kd.at_string HR1.out x13_1 p668 q668
         cases e668
         replace p668 := eq_true p668
         replace q668 := eq_true q668
         go_wp2
         repeat (go_quiet (fail); try go_wp2)
         go_ret
         exact ⟨by first | rfl | (simp; done) | (simp [*]; done), by repeat (first | exact Drawn0.refl _ | apply Drawn0.step)⟩
       ·rw [if_neg c7] at H
        exact absurd H (by simp)
      ·rw [if_neg c6] at H
       exact absurd H (by simp)
     ·rw [if_neg c5] at H
      exact absurd H (by simp)
    ·rw [if_neg c4] at H
     have c4b0 : decide (x13_1 < (l0.length : Int)) = false := decide_eq_false c4
     clear c4
     obtain rfl := Option.some.inj H
     go_wp2
     repeat (go_quiet (fail); try go_wp2)
     go_ret
     exact ⟨by first | rfl | (simp; done) | (simp [*]; done), by repeat (first | exact Drawn0.refl _ | apply Drawn0.step)⟩
 ·rw [if_neg c3] at H
  have c3b0 : ((l0.length : Int) == (l1.length : Int)) = false := beq_eq_false_iff_ne.mpr c3
  have c3b1 : ((l0.length : Int) != (l1.length : Int)) = true := bne_iff_ne.mpr c3
  have c3b2 : (l0.length == l1.length) = false := by first | simpa using c3 | (simp at c3 ⊢; omega)
  obtain rfl := Option.some.inj H
  go_enter Try.func120, Try.ntmps120
  go_wp2
  repeat (go_quiet (fail); try go_wp2)
  go_ret
  exact ⟨by first | rfl | (simp; done) | (simp [*]; done), by repeat (first | exact Drawn0.refl _ | apply Drawn0.step)⟩
end Go.Proofs.Ytmcldkobejhaeaa.My
namespace Go.Proofs.Ytmcldkobejhaeaa.Pl
open Go.RowKit Go.Proofs.YtmcldkobejhaeaaW.PrintWords Go.Proofs.YtmcldkobejhaeaaW.PrintLast Go.Proofs.Ytmcldkobejhaeaa.My
set_option linter.unusedVariables false
set_option linter.unusedSimpArgs false
theorem equalT_l0 (a b : List ByteArray) (hab : a.length = b.length) (hL : a.length ≤ 9223372036854775807) : ∀ d i, i + d = a.length → Ev (fun k => slices_Equal_string_string.l0 k a b (a.length : Int) (i : Int)) (decide (a.drop i = b.drop i)) := by
  intro d
  induction d with
  | zero =>
    intro i hi
    refine Ev.step (fun k => slices_Equal_string_string.l0.eq_2 ..) (ev_neg (by omega) (ev_some ?_))
    rw [List.drop_of_length_le (by omega), List.drop_of_length_le (by omega)]
    simp
  | succ d ih =>
    intro i hi
    have h1 : i < a.length := by omega
    have h2 : i < b.length := by omega
    refine Ev.step (fun k => slices_Equal_string_string.l0.eq_2 ..) (ev_pos (by omega) (ev_pos (by omega) (ev_pos (by omega) (ev_pos (by omega) ?_))))
    rw [rdOf_lt _ _ _ h1, rdOf_lt _ _ _ h2, drop_cons a i h1, drop_cons b i h2]
    refine ev_ite (fun h => ?_) (fun h => ev_some ?_)
    · rw [wrap_succ i (by omega)]
      refine ev_to (ih (i + 1) (by omega)) ?_
      rw [ba_ext h]
      simp only [List.cons.injEq, true_and]
    · have : ¬ a[i] = b[i] := fun e => h (by rw [e])
      simp only [List.cons.injEq, this, false_and, decide_false]
theorem equalT_ev (a b : List ByteArray) (hL : a.length ≤ 9223372036854775807) : Ev (fun k => slices_Equal_string_string.f k a b) (decide (a = b)) := by
  simp only [slices_Equal_string_string.f]
  refine ev_ite (fun h => ?_) (fun h => ev_some ?_)
  · exact equalT_l0 a b (by omega) hL a.length 0 (by omega)
  · have : ¬ a = b := fun e => h (by rw [e])
    simp [this]
theorem l1SameT_l0 (a b : List ByteArray) (hab : a.length = b.length) (hL : a.length ≤ 9223372036854775807) : ∀ d i, i + d = a.length → Ev (fun k => spec_l1SameT.l0 k a b (a.length : Int) (i : Int)) (decide (a.drop i = b.drop i)) := by
  intro d
  induction d with
  | zero =>
    intro i hi
    refine Ev.step (fun k => spec_l1SameT.l0.eq_2 ..) (ev_neg (by omega) (ev_some ?_))
    rw [List.drop_of_length_le (by omega), List.drop_of_length_le (by omega)]
    simp
  | succ d ih =>
    intro i hi
    have h1 : i < a.length := by omega
    have h2 : i < b.length := by omega
    refine Ev.step (fun k => spec_l1SameT.l0.eq_2 ..) (ev_pos (by omega) (ev_pos (by omega) (ev_pos (by omega) (ev_pos (by omega) ?_))))
    rw [rdOf_lt _ _ _ h1, rdOf_lt _ _ _ h2, drop_cons a i h1, drop_cons b i h2]
    refine ev_ite (fun h => ?_) (fun h => ev_some ?_)
    · rw [wrap_succ i (by omega)]
      refine ev_to (ih (i + 1) (by omega)) ?_
      rw [ba_ext h]
      simp only [List.cons.injEq, true_and]
    · have : ¬ a[i] = b[i] := fun e => h (by rw [e])
      simp only [List.cons.injEq, this, false_and, decide_false]
theorem l1SameT_ev (a b : List ByteArray) (hL : a.length ≤ 9223372036854775807) : Ev (fun k => spec_l1SameT.f k a b) (decide (a = b)) := by
  simp only [spec_l1SameT.f]
  refine ev_ite (fun h => ?_) (fun h => ev_some ?_)
  · exact l1SameT_l0 a b (by omega) hL a.length 0 (by omega)
  · have : ¬ a = b := fun e => h (by rw [e])
    simp [this]
end Go.Proofs.Ytmcldkobejhaeaa.Pl
namespace Go.Proofs.Ytmcldkobejhaeaa.My
open Go.RowKit Go.Proofs.YtmcldkobejhaeaaW.PrintWords Go.Proofs.YtmcldkobejhaeaaW.PrintLast Go.Proofs.YtmcldkobejhaeaaW.PrintMore Go.Proofs.Ytmcldkobejhaeaa.Pl
attribute [local go_sem] max2_int min2_int max_two min_two max_three min_three max_four min_four
set_option linter.unusedVariables false
set_option linter.unusedSimpArgs false
theorem drawn_below {w w' : World} (h : Drawn0 w w') : Below w.heap.size w w' := by
  obtain ⟨nd_, e_⟩ := h
  rw [e_]
  exact pw_below_drewN (Below.refl _ _) nd_
theorem cut_row (w : World) (A0 : Option Addr) (c0 : Nat) (l0 : List ByteArray) (hr : Kd.C Kd.string w A0 l0.length l0) (hc : l0.length ≤ c0) (p q : Int) (h0 : 0 ≤ p) (h1 : p ≤ q) (h2 : q ≤ (l0.length : Int)) :
    ∃ A' : Option Addr, (∀ W : World, (Instr.slice 24 (.slice A0 l0.length c0) (some (.int .i64 p)) (some (.int .i64 q)) none).run Try.prog W = .ok (.slice A' (cutI l0 p q).length (c0 - p.toNat)) W) ∧ Kd.C Kd.string w A' (cutI l0 p q).length (cutI l0 p q) ∧ (cutI l0 p q).length ≤ c0 - p.toNat := by
  obtain ⟨i0, hi0, _, hsz, _⟩ := info_parts info9
  obtain ⟨A', hcut, hA, hC⟩ := print_mid_of (P := Try.prog) Value.string (⟨#[]⟩ : ByteArray) 24 9 .i64 .i64 Try.underlying24 hi0 hsz A0 c0 l0 p q h0 h1 h2 hc
  exact ⟨A', hcut, Kd.C_of_reads (h1 := fun _ => rfl) (hA _ (Kd.reads_of_C hr)), hC⟩
structure GSt (w W : World) (gb gx : Nat) (A0 : Option Addr) (n0 c0 : Nat) (p q : Int) (u : Value) (v7 : Value) (acc : List IH) : Prop where
  b : W.heap[gb]? = some (.cells #[.slice A0 n0 c0] 24 (0, 0))
  x : W.heap[gx]? = some (.cells #[.int .i64 p, .int .i64 q, u] 73 (0, 0))
  s : Kd.S k106 106 W w.heap.size (fun _ => True) v7 acc
  B : Below w.heap.size w W
theorem GSt.below {w W W1 : World} {gb gx : Nat} {A0 : Option Addr} {n0 c0 : Nat} {p q : Int} {u v7 : Value} {acc : List IH} (h : GSt w W gb gx A0 n0 c0 p q u v7 acc) (hb : Below W.heap.size W W1) : GSt w W1 gb gx A0 n0 c0 p q u v7 acc :=
  ⟨blk_below h.b hb, blk_below h.x hb, Kd.S_below h.s hb, below_step h.B hb⟩
theorem GSt.cells {w W : World} {gb gx : Nat} {A0 : Option Addr} {n0 c0 : Nat} {p q : Int} {u v7 : Value} {acc : List IH} (h : GSt w W gb gx A0 n0 c0 p q u v7 acc) :
    W.cell? ⟨gb, 0, none⟩ = some (.slice A0 n0 c0) ∧ W.cell? ⟨gx, 0, none⟩ = some (.int .i64 p) ∧ W.cell? ⟨gx, 1, none⟩ = some (.int .i64 q) ∧ W.cell? ⟨gx, 2, none⟩ = some u := ⟨(blk_cell h.b 0).trans rfl, (blk_cell h.x 0).trans rfl, (blk_cell h.x 1).trans rfl, (blk_cell h.x 2).trans rfl⟩
theorem gst_box {w W W1 : World} {gb gx : Nat} {A0 : Option Addr} {n0 c0 : Nat} {v7 : Value} {acc : List IH} (hbx : W.heap[gb]? = some (.cells #[.slice A0 n0 c0] 24 (0, 0))) (hs : Kd.S k106 106 W w.heap.size (fun _ => True) v7 acc) (hB : Below w.heap.size w W) (hb : Below W.heap.size W W1)
    (hx : W1.heap[gx]? = some (.cells #[.int .i64 0, .int .i64 0, .slice none 0 0] 73 (0, 0))) (hgx : W.heap.size ≤ gx) (p q : Int) (u : Value) :
    GSt w (((W1.setCell ⟨gx, 0, none⟩ (.int .i64 p)).setCell ⟨gx, 1, none⟩ (.int .i64 q)).setCell ⟨gx, 2, none⟩ u) gb gx A0 n0 c0 p q u v7 acc := by
  have ne : gb ≠ gx := blk_ne (blk_below hbx hb) hx (by decide)
  have hge : w.heap.size ≤ gx := Nat.le_trans hB.size hgx
  have h1 := Kd.S_types (Kd.S_below hs hb) hx (by decide)
  exact ⟨blk_far (blk_far (blk_far (blk_below hbx hb) (p := ⟨gx, 0, none⟩) ne _) (p := ⟨gx, 1, none⟩) ne _) (p := ⟨gx, 2, none⟩) ne _, blk_put (blk_put (blk_put hx 0 _ rfl) 1 _ rfl) 2 _ rfl,
    Kd.S_mono (Kd.S_far (p := ⟨gx, 2, none⟩) (Kd.S_far (p := ⟨gx, 1, none⟩) (Kd.S_far (p := ⟨gx, 0, none⟩) h1 (fun k hk => hk.2) _) (fun k hk => hk.2) _) (fun k hk => hk.2) _) (fun k hk => trivial), below_set (below_set (below_set (below_step hB hb) hge) hge) hge⟩
def GHInv (l : List ByteArray) (g : List IG) (i kq : Nat) (more : Int) (acc : List IH) (r1 : List IH) (r2 : Int) : Prop :=
  i + kq = g.length ∧ -80 * (i : Int) ≤ more ∧ more ≤ 80 * (i : Int) ∧ acc.length ≤ 80 * i ∧ loopH l more acc (g.drop i) = (r1, r2)
set_option maxHeartbeats 16000000 in
set_option maxRecDepth 100000 in
theorem impl_GroupHunks_made (A0 : Option Addr) (c0 : Nat) (l0 : List ByteArray) (A1 : Option Addr) (c1 : Nat) (l1 : List IG) (r1 : List IH) (r2 : Int) (r3 : Bool) (w : World) (hr0 : Kd.C Kd.string w A0 l0.length l0) (hc0 : l0.length ≤ c0) (hr1 : Kd.C k73 w A1 l1.length l1) (hc1 : l1.length ≤ c1) (f0 : FitS l0) (f1 : FitIG l1) (hL : ∀ x ∈ l1, x.f2.length ≤ 1048576) (h : groupHunksR l0 l1 = (r1, r2, r3)) :
    Calls Try.prog 59 #[.slice A0 l0.length c0, .slice A1 l1.length c1] w fun e w' => ∃ v, e = .returned (.tuple #[v, .int .i64 r2, .bool r3]) ∧ Kd.S k106 106 w' w.heap.size (fun _ => True) v r1 ∧ Below w.heap.size w w' := by
  have hu73 := Try.underlying73
  have hu106 := Try.underlying106
  obtain ⟨kg, eg⟩ := goodLines_ev l0 f0
  obtain ⟨kh, eh⟩ := goodGroups_ev l1 f1 hL
  have EG := am (eg kg (Nat.le_refl _))
  have EH := am (eh kh (Nat.le_refl _))
  have HL0 := am f0.1
  have HR0 := am hr0
  have HC0 := am hc0
  have HR1 := am hr1
  have HC1 := am hc1
  have HB := am (Below.refl w.heap.size w)
  clear hr0 hc0 hr1 hc1 f0 f1 hL eg eh
  obtain ⟨b1, hb1⟩ : ∃ b, good l0 = b := ⟨_, rfl⟩
  obtain ⟨b2, hb2⟩ : ∃ b, goodGs l1 = b := ⟨_, rfl⟩
  rw [hb1] at EG
  rw [hb2] at EH
  cases b1 with
  | false =>
    have h' : groupHunksR l0 l1 = ([], 0, false) := by unfold groupHunksR; rw [if_neg (by simp [hb1])]
    rw [h'] at h
    cases h
    clear h' hb1 hb2
    go_enter Try.func59, Try.ntmps59
    go_wp2_with ((with_reducible refine gate_dst (N := 2) rfl ?_); refine box_event ?hg (N := 2) ?hd (cs := #[.slice A0 l0.length c0]) (t := 24) ?hr ?_; (case hd => rfl); (case hg => rfl); (case hr => first | (go_simp; done) | (go_simp; rfl)); intro gb hg w1 hbox hb; have BK := am hbox; have HB1 := am (below_step zb hb); clear HB hb hbox hg; have HB := HB1; clear HB1; have hcl : w1.cell? ⟨gb, 0, none⟩ = some (.slice A0 l0.length c0) := (blk_cell BK.out 0).trans rfl)
    refine Calls.mono (impl_goodLines.calls kg _ _ l0 false _ (Kd.C_below HR0.out zb) HC0.out EG.out) ?_
    rintro _ w2 ⟨rfl, hb0⟩
    dsimp only
    have HB2 := am (below_step zb (drawn_below hb0))
    clear hb0 HB hcl
    have HB := HB2
    clear HB2
    go_wp2
    go_ret3
    exact ⟨_, rfl, Kd.S_nil _ _ _ _ _, zb⟩
  | true =>
    cases b2 with
    | false =>
      have h' : groupHunksR l0 l1 = ([], 0, false) := by unfold groupHunksR; rw [if_neg (by simp [hb2])]
      rw [h'] at h
      cases h
      clear h' hb1 hb2
      go_enter Try.func59, Try.ntmps59
      go_wp2_with ((with_reducible refine gate_dst (N := 2) rfl ?_); refine box_event ?hg (N := 2) ?hd (cs := #[.slice A0 l0.length c0]) (t := 24) ?hr ?_; (case hd => rfl); (case hg => rfl); (case hr => first | (go_simp; done) | (go_simp; rfl)); intro gb hg w1 hbox hb; have BK := am hbox; have HB1 := am (below_step zb hb); clear HB hb hbox hg; have HB := HB1; clear HB1; have hcl : w1.cell? ⟨gb, 0, none⟩ = some (.slice A0 l0.length c0) := (blk_cell BK.out 0).trans rfl)
      refine Calls.mono (impl_goodLines.calls kg _ _ l0 true _ (Kd.C_below HR0.out zb) HC0.out EG.out) ?_
      rintro _ w2 ⟨rfl, hb0⟩
      dsimp only
      have HB2 := am (below_step zb (drawn_below hb0))
      clear hb0 HB hcl
      have HB := HB2
      clear HB2
      go_wp2_with fail
      refine Calls.mono (impl_goodGroups.calls kh _ _ l1 false _ (Kd.C_below HR1.out zb) HC1.out EH.out) ?_
      rintro _ w3 ⟨rfl, hb0⟩
      dsimp only
      have HB2 := am (below_step zb hb0)
      clear hb0 HB
      have HB := HB2
      clear HB2
      go_wp2
      go_ret3
      exact ⟨_, rfl, Kd.S_nil _ _ _ _ _, zb⟩
    | true =>
      obtain ⟨b3, hb3⟩ : ∃ b, l1.any (farN l0.length) = b := ⟨_, rfl⟩
      obtain ⟨hl1, hgs⟩ := grS_of hb2
      have HL1 := am hl1
      have HGS := am hgs
      clear hl1 hgs
      go_enter Try.func59, Try.ntmps59
      go_wp2_with ((with_reducible refine gate_dst (N := 2) rfl ?_); refine box_event ?hg (N := 2) ?hd (cs := #[.slice A0 l0.length c0]) (t := 24) ?hr ?_; (case hd => rfl); (case hg => rfl); (case hr => first | (go_simp; done) | (go_simp; rfl)); intro gb hg w1 hbox hb; have BK := am hbox; have HB1 := am (below_step zb hb); clear HB hb hbox hg; have HB := HB1; clear HB1; have hcl : w1.cell? ⟨gb, 0, none⟩ = some (.slice A0 l0.length c0) := (blk_cell BK.out 0).trans rfl)
      refine Calls.mono (impl_goodLines.calls kg _ _ l0 true _ (Kd.C_below HR0.out zb) HC0.out EG.out) ?_
      rintro _ w2 ⟨rfl, hb0⟩
      dsimp only
      have BK2 := am (blk_below (zk BK.out) (drawn_below hb0))
      have HB2 := am (below_step zb (drawn_below hb0))
      clear hb0 HB BK hcl
      have HB := HB2
      have BK := BK2
      clear HB2 BK2
      go_wp2_with fail
      refine Calls.mono (impl_goodGroups.calls kh _ _ l1 true _ (Kd.C_below HR1.out zb) HC1.out EH.out) ?_
      rintro _ w3 ⟨rfl, hb0⟩
      dsimp only
      have BK2 := am (blk_below (zk BK.out) hb0)
      have HB2 := am (below_step zb hb0)
      clear hb0 HB BK
      have HB := HB2
      have BK := BK2
      clear HB2 BK2
      go_wp2_with fail
      refine Calls.mono (farAny_made gb A0 l0.length c0 A1 c1 l1 b3 _ (Kd.C_below HR1.out zb) HC1.out (zk BK.out) HL1.out HGS.out hb3) ?_
      rintro _ w4 ⟨rfl, hb0⟩
      dsimp only
      have BK2 := am (blk_below (zk BK.out) hb0)
      have HB2 := am (below_step zb hb0)
      clear hb0 HB BK
      have HB := HB2
      have BK := BK2
      clear HB2 BK2
      cases b3 with
      | true =>
        have h' : groupHunksR l0 l1 = ([], 3, true) := by unfold groupHunksR; rw [if_pos ⟨hb1, hb2⟩, if_pos hb3]
        rw [h'] at h
        cases h
        clear h' hb1 hb2 hb3
        go_wp2
        go_ret3
        exact ⟨_, rfl, Kd.S_nil _ _ _ _ _, zb⟩
      | false =>
        have h' : groupHunksR l0 l1 = ((loopH l0 0 [] l1).1, (loopH l0 0 [] l1).2, true) := by unfold groupHunksR; rw [if_pos ⟨hb1, hb2⟩, if_neg (by simp [hb3])]
        rw [h'] at h
        obtain ⟨h1, h4⟩ := Prod.mk.inj h
        obtain ⟨h2, h3⟩ := Prod.mk.inj h4
        have hl0 : loopH l0 0 [] l1 = (r1, r2) := Prod.ext h1 h2
        cases h3
        clear h4
        have HLP := am hl0
        have HFAR := am (show ∀ x ∈ l1, x.f0 + ((sideL 3 x.f2).length : Int) ≤ (l0.length : Int) from fun x hx => by
          have := (List.any_eq_false.1 hb3) x hx
          unfold farN at this
          simp only [decide_eq_true_eq] at this
          omega)
        clear h h' h1 h2 hl0 hb1 hb2 hb3
        go_wp2_with (first | ((with_reducible refine gate_dst (N := 23) rfl ?_); refine Kd.S_lit k106 _ 106 ?hg (N := 23) ?hd (xs := ([] : List S106)) (inner := []) (ok := fun _ => True) (okp := fun _ => True) ?hr ?hp (fun _ hk => hk) trivial (Below.refl _ _) (Nat.le_refl _) (by simp) ?_; (case hd => rfl); (case hg => rfl); (case hr => first | (go_simp; done) | (go_simp; rfl)); (case hp => exact (Reps.none _ _)); intro v277 w5 ho5 hb hg_ hnew_; clear hg_ hnew_; have HO := am (Kd.S_lower ho5 (below_size zb)); have BK2 := am (blk_below (zk BK.out) hb); have HB1 := am (below_step zb hb); clear HB BK hb ho5; have HB := HB1; have BK := BK2; clear HB1 BK2))
        go_loopg [7, 8, 26] l1.length (fun kq v7 v8 v26 w' => ∃ (acc : List IH) (more : Int) (i : Nat), v8 = .int .i64 more ∧ v26 = .int .i64 (i : Int) ∧ Aside0 (GHInv l0 l1 i kq more acc r1 r2) ∧ Aside0 (Kd.S k106 106 w' w.heap.size (fun _ => True) v7 acc) ∧ Aside0 (w'.heap[gb]? = some (.cells #[.slice A0 l0.length c0] 24 (0, 0))) ∧ Aside0 (Below w.heap.size w w'))
        case atStart => exact ⟨[], 0, 0, rfl, rfl, ⟨by omega, by omega, by omega, Nat.zero_le _, HLP.out⟩, ⟨zs HO.out⟩, ⟨zk BK.out⟩, ⟨zb⟩⟩
        case round =>
          clear HO BK HB HLP
          obtain ⟨acc, more, i, rfl, rfl, HI, HO, BK, HB⟩ := hrel
          obtain ⟨e1, m0, m1, e2, e3⟩ := HI.out
          have HE := am e3
          have HM := am (And.intro m0 (And.intro m1 e2))
          clear HI e3 m0 m1 e2
          by_cases hi : i < l1.length
          · have hd : decide ((i : Int) < (l1.length : Int)) = true := decide_eq_true (by omega)
            have p1 : 0 ≤ (i : Int) := by omega
            have q1 : (i : Int) < (l1.length : Int) := by omega
            obtain ⟨ad, A2, C2, eA, hx0, hx1, hx2, hl2, hr2⟩ := at_T73 HR1.out (i : Int) p1 q1
            cases eA
            rw [rdIG l1 i hi] at hx0 hx1 hx2 hl2 hr2
            replace hx0 := (HB.out.cell (World.block_lt_of_cell? w _ hx0)).trans hx0
            replace hx1 := (HB.out.cell (World.block_lt_of_cell? w _ hx1)).trans hx1
            replace hx2 := (HB.out.cell (World.block_lt_of_cell? w _ hx2)).trans hx2
            simp only [Int.toNat_natCast] at hx0 hx1 hx2
            have hfar := HFAR.out _ (List.getElem_mem hi)
            have hgs := HGS.out _ (List.getElem_mem hi)
            have e4 := HE.out
            rw [List.drop_eq_getElem_cons hi] at e4
            obtain ⟨x, hxe⟩ : ∃ x, x = l1[i] := ⟨_, rfl⟩
            rw [← hxe] at hx0 hx1 hx2 hl2 hr2 hfar hgs e4
            have XE := am hxe
            have HE4 := am e4
            clear HE e4 hxe
            have hg0 := hgs
            obtain ⟨g0, g1, g2, g3, g4⟩ := hg0
            obtain ⟨ko, eo⟩ := old_ev x.f0 x.f1 x.f2 (by omega)
            obtain ⟨kf, ef⟩ := fresh_ev x.f0 x.f1 x.f2 (by omega)
            obtain ⟨kk, ek⟩ := implHunks_ev x.f0 x.f1 x.f2 x.f0 (by omega)
            have hkl := (hks_len hgs).1
            have hs3 := sideL_len 3 x.f2
            have hs2 := sideL_len 2 x.f2
            have hstep : loopH l0 more acc (x :: l1.drop (i + 1)) = if saysX l0 more x then loopH l0 (more + moreX x) (acc ++ hksF x.f0 [] false x.f2) (l1.drop (i + 1)) else ([], 2) := rfl
            rw [HE4.out] at hstep
            have hmx : moreX x = ((sideL 2 x.f2).length : Int) - ((sideL 3 x.f2).length : Int) := rfl
            have hsx : saysX l0 more x ↔ (sideL 3 x.f2 = cutI l0 x.f0 (x.f0 + ((sideL 3 x.f2).length : Int)) ∧ x.f1 = x.f0 + more) := Iff.rfl
            rw [hmx] at hstep
            have EO := am (eo ko (Nat.le_refl _))
            have EF := am (ef kf (Nat.le_refl _))
            have EK := am (ek kk (Nat.le_refl _))
            clear eo ef ek hmx HE4
            obtain ⟨t, ht⟩ : ∃ t, t = sideL 3 x.f2 := ⟨_, rfl⟩
            obtain ⟨t2, ht2⟩ : ∃ t, t = sideL 2 x.f2 := ⟨_, rfl⟩
            obtain ⟨hs, hhs⟩ : ∃ t, t = hksF x.f0 [] false x.f2 := ⟨_, rfl⟩
            rw [← ht] at hs3 hfar hstep hsx EO
            rw [← ht2] at hs2 hstep EF
            rw [← hhs] at hkl hstep EK
            clear ht ht2 hhs
            have hwr : wrap64 (x.f0 + (t.length : Int)) = x.f0 + (t.length : Int) := wrap64_id (by omega) (by omega)
            rw [← hwr] at hsx
            obtain ⟨en, hen⟩ : ∃ z : Int, wrap64 (x.f0 + (t.length : Int)) = z := ⟨_, rfl⟩
            rw [hen] at hsx hwr
            obtain ⟨S1, hcut1, hC1, hn1⟩ := cut_row w A0 c0 l0 HR0.out HC0.out x.f0 en g0 (by omega) (by omega)
            obtain ⟨kq2, eq2⟩ := equalT_ev t (cutI l0 x.f0 en) (by omega)
            have hmo := HM.out
            have hi20 := HL1.out
            have hw2 : wrap64 (x.f0 + more) = x.f0 + more := wrap64_id (by omega) (by omega)
            have hw3 : wrap64 (more + wrap64 ((t2.length : Int) - (t.length : Int))) = more + ((t2.length : Int) - (t.length : Int)) := by
              rw [wrap64_id (x := (t2.length : Int) - (t.length : Int)) (by omega) (by omega), wrap64_id (by omega) (by omega)]
            have HW3 := am hw3
            have HCN := am (show (cutI l0 x.f0 en).length ≤ c0 - x.f0.toNat from hn1)
            have HC1_ := am hC1
            obtain ⟨b4, hb4⟩ : ∃ b, decide (t = cutI l0 x.f0 en) = b := ⟨_, rfl⟩
            obtain ⟨b5, hb5⟩ : ∃ b, (x.f1 != wrap64 (x.f0 + more)) = b := ⟨_, rfl⟩
            have EQ := am (eq2 kq2 (Nat.le_refl _))
            rw [hb4] at EQ
            have hsay : saysX l0 more x ↔ (b4 = true ∧ b5 = false) := by
              rw [hsx, ← hb4, ← hb5, hw2]
              simp
            have HSTEP := am hstep
            have HSAY := am hsay
            have HNUM := am (show acc.length + hs.length ≤ 2000 ∧ t.length ≤ 80 ∧ t2.length ≤ 80 ∧ hs.length ≤ 80 from ⟨by omega, by omega, by omega, by omega⟩)
            have HR2 := am hr2
            have HL2 := am hl2
            have HEN := am hen
            clear hfar hgs hkl hs3 hs2 hstep hsx hwr hw2 hw3 hn1 hC1 eq2 hmo hi20 hb4 hsay hr2 hl2 g0 g1 g2 g3 g4
            replace p1 := eq_true p1
            replace q1 := eq_true q1
            go_wp2_with (first | ((with_reducible refine gate_dst (N := 10) rfl ?_); refine box_event ?hg (N := 10) ?hd (cs := #[.int .i64 0, .int .i64 0, .slice none 0 0]) (t := 73) ?hr ?_; (case hd => rfl); (case hg => rfl); (case hr => first | (go_simp; done) | (go_simp; rfl)); intro gx hgx w6 hbox hb; have BX := am hbox; have GX := am hgx; have BB := am hb; have y0 : w6.cell? ⟨gx, 0, none⟩ = some (.int .i64 0) := (blk_cell BX.out 0).trans rfl; have y1 : w6.cell? ⟨gx, 1, none⟩ = some (.int .i64 0) := (blk_cell BX.out 1).trans rfl; have y2 : w6.cell? ⟨gx, 2, none⟩ = some (.slice none 0 0) := (blk_cell BX.out 2).trans rfl; have z0 := blk_frozen BX.out 0; have z1 := blk_frozen BX.out 1; have z2 := blk_frozen BX.out 2; clear hbox hb hgx))
            have HG := am (gst_box (w := w) BK.out HO.out HB.out BB.out BX.out (Nat.le_of_eq GX.out.symm) x.f0 x.f1 (.slice A2 x.f2.length C2))
            clear HO BK HB BB BX GX y0 y1 y2 z0 z1 z2 hx0 hx1 hx2
            refine Calls.mono (impl_Group_old.calls ko x.f0 x.f1 _ _ x.f2 t _ (Kd.C_below HR2.out HG.out.B) HL2.out EO.out) ?_
            rintro _ w7 ⟨v7_, rfl, ho, hb⟩
            dsimp only
            obtain ⟨Ao, co, eo⟩ := Kd.R_slice ho
            subst eo
            obtain ⟨-, ho2, ho3⟩ := Kd.R_reads' ho
            have HT := am (And.intro ho2 ho3)
            have HG7 := am (HG.out.below hb)
            clear HG ho ho2 ho3 hb
            obtain ⟨y0, y1, y2, y3⟩ := HG7.out.cells
            go_wp2_with fail
            refine Calls.mono (slices_Equal_string_string.calls kq2 _ _ t _ _ (cutI l0 x.f0 en) b4 _ HT.out.2 HT.out.1 (Kd.C_below HC1_.out HG7.out.B) HCN.out EQ.out) ?_
            rintro _ w8 ⟨rfl, hb0⟩
            dsimp only
            have HG8 := am (HG7.out.below (drawn_below hb0))
            clear HG7 y0 y1 y2 y3 hb0 HT
            obtain ⟨y0, y1, y2, y3⟩ := HG8.out.cells
            cases b4 with
            | false =>
              have h6 := HSTEP.out
              rw [if_neg (by rw [HSAY.out]; simp)] at h6
              obtain ⟨h1, h2⟩ := Prod.mk.inj h6
              subst h1 h2
              go_wp2
              go_ret3
              exact ⟨_, rfl, Kd.S_nil _ _ _ _ _, by have HB := am HG8.out.B; exact zb⟩
            | true =>
              cases b5 with
              | true =>
                have h6 := HSTEP.out
                rw [if_neg (by rw [HSAY.out]; simp)] at h6
                obtain ⟨h1, h2⟩ := Prod.mk.inj h6
                subst h1 h2
                go_wp2
                go_ret3
                exact ⟨_, rfl, Kd.S_nil _ _ _ _ _, by have HB := am HG8.out.B; exact zb⟩
              | false =>
                have h6 := HSTEP.out
                rw [if_pos (by rw [HSAY.out]; simp)] at h6
                have HLP := am h6
                clear HSTEP HSAY h6
                go_wp2_with fail
                refine Calls.mono (impl_Group_hunks.calls kk x.f0 x.f1 _ _ x.f2 x.f0 hs _ (Kd.C_below HR2.out HG8.out.B) HL2.out EK.out) ?_
                rintro _ w9 ⟨v9, rfl, ho, hb⟩
                dsimp only
                have HO9 := am (Kd.S_mono (Kd.S_old HG8.out.s hb) (ok' := fun k_ => True ∧ ¬ w8.heap.size ≤ k_) (fun k_ hk_ => ⟨trivial, Nat.not_le.2 hk_.2⟩))
                have HY9 := am (Kd.S_mono (Kd.S_bound ho) (ok' := fun k_ => w8.heap.size ≤ k_) (fun k_ hk_ => hk_.2.1))
                have HOWN := am (show ∀ k_, w8.heap.size ≤ k_ → True ∧ some k_ ≠ (u7 : Value).ownBlock from fun k_ hk_ => ⟨trivial, fun e => Nat.lt_irrefl _ (Nat.lt_of_lt_of_le (Kd.S_lt HG8.out.s k_ e.symm) hk_)⟩)
                have HG9 := am (HG8.out.below hb)
                have HB8 := am HG8.out.B.size
                clear HG8 ho hb y0 y1 y2 y3
                obtain ⟨zs_, hzs⟩ : ∃ z, z = acc ++ hs := ⟨_, rfl⟩
                have HZ := am hzs
                clear hzs
                go_wp2_with (first | ((with_reducible refine gateB (b := .append) (xs := #[.tmp 53, .tmp 57]) rfl ?_); at_builtin; refine S_append_rows k106 (w0 := w) w.heap.size rfl (.tmp 53) (.tmp 57) 42 106 (.agg #[(.int .i64 0), (.int .i64 0), (.slice none 0 0)]) 40 rfl Try.underlying42 info106 rfl (by decide) (by omega) u7 acc hs v9 w8.heap.size (fun _ => True) (fun k_ => w8.heap.size ≤ k_) rfl rfl HO9.out HY9.out HB8.out HOWN.out (fun _ _ => trivial) HG9.out.B HG9.out.B.size ?aL ?_; (case aL => have := HNUM.out; omega); intro v10 w10 ho hb hg hat; rw [← HZ.out] at ho; have HB10 := am hb; have HO10 := am ho; have BK10 := am (blk_grown HG9.out.b hg (Kd.S_ne HG9.out.s HG9.out.b (by decide))); have BX10 := am (blk_grown HG9.out.x hg (Kd.S_ne HG9.out.s HG9.out.x (by decide))); have HG10 := am (GSt.mk BK10.out BX10.out HO10.out HB10.out); clear ho hb hg hat HB10 HO10 BK10 BX10; obtain ⟨y0, y1, y2, y3⟩ := HG10.out.cells))
                clear HG9 HO9 HY9 HOWN HB8
                refine Calls.mono (impl_Group_fresh.calls kf x.f0 x.f1 _ _ x.f2 t2 _ (Kd.C_below HR2.out HG10.out.B) HL2.out EF.out) ?_
                rintro _ w11 ⟨v11, rfl, ho, hb⟩
                dsimp only
                obtain ⟨Af, cf, ef⟩ := Kd.R_slice ho
                subst ef
                have HG11 := am (HG10.out.below hb)
                clear HG10 y0 y1 y2 y3 ho hb
                go_wp2
                have HINV := am (show GHInv l0 l1 (i + 1) (l1.length - (i + 1)) (more + ((t2.length : Int) - (t.length : Int))) zs_ r1 r2 from by
                  have hm := HM.out
                  have hn := HNUM.out
                  have hz := HZ.out
                  refine ⟨by omega, by omega, by omega, by rw [hz, List.length_append]; omega, ?_⟩
                  rw [hz]
                  exact HLP.out.symm)
                go_roundg (l1.length - (i + 1))
                case measure => omega
                case rel => exact ⟨zs_, _, i + 1, rfl, by rw [wrap_succ i (by have := HL1.out; omega)], by rw [HW3.out]; exact HINV, ⟨zs HG11.out.s⟩, ⟨zk HG11.out.b⟩, by have HB := am HG11.out.B; exact ⟨zb⟩⟩
          · have hd : decide ((i : Int) < (l1.length : Int)) = false := decide_eq_false (by omega)
            go_wp2
            go_ret3
            have e4 := HE.out
            rw [List.drop_eq_nil_of_le (by omega)] at e4
            obtain ⟨h1, h2⟩ := Prod.mk.inj e4
            subst h1 h2
            exact ⟨_, rfl, zs HO.out, zb⟩
end Go.Proofs.Ytmcldkobejhaeaa.My
namespace Go.Proofs.Ytmcldkobejhaeaa.My
open Go.RowKit Go.Proofs.YtmcldkobejhaeaaW.PrintWords Go.Proofs.YtmcldkobejhaeaaW.PrintLast Go.Proofs.YtmcldkobejhaeaaW.PrintMore Go.Proofs.Ytmcldkobejhaeaa.Pl
set_option linter.unusedVariables false
def FitGH (l1 : List IG) : Prop := FitIG l1 ∧ ∀ x ∈ l1, x.f2.length ≤ 1048576
open Classical in
noncomputable def impl_GroupHunks.f (k : Nat) (l0 : List ByteArray) (l1 : List IG) : Option ((List IH) × Int × Bool) := if FitS l0 ∧ FitGH l1 then some (groupHunksR l0 l1) else none
theorem impl_GroupHunks.calls (k : Nat) (A0 : Option Addr) (c0 : Nat) (l0 : List ByteArray) (A1 : Option Addr) (c1 : Nat) (l1 : List IG) (r1 : List IH) (r2 : Int) (r3 : Bool) (w : World) (hr0 : Kd.C Kd.string w A0 l0.length l0) (hc0 : l0.length ≤ c0) (hr1 : Kd.C k73 w A1 l1.length l1) (hc1 : l1.length ≤ c1) (h : impl_GroupHunks.f k l0 l1 = some (r1, r2, r3)) :
    Calls Try.prog 59 #[.slice A0 l0.length c0, .slice A1 l1.length c1] w fun e w' => ∃ v0_ : Value, e = .returned (.tuple #[v0_, .int .i64 r2, .bool r3]) ∧ Kd.S k106 106 w' w.heap.size (fun _ => True) v0_ r1 ∧ Below w.heap.size w w' := by
  simp only [impl_GroupHunks.f] at h
  split at h
  · rename_i c
    exact impl_GroupHunks_made A0 c0 l0 A1 c1 l1 r1 r2 r3 w hr0 hc0 hr1 hc1 c.1 c.2.1 c.2.2 (Option.some.inj h)
  · cases h
end Go.Proofs.Ytmcldkobejhaeaa.My
namespace Go.Proofs.Ytmcldkobejhaeaa.My
open Go.RowKit Go.Proofs.YtmcldkobejhaeaaW.PrintWords Go.Proofs.YtmcldkobejhaeaaW.PrintLast Go.Proofs.YtmcldkobejhaeaaW.PrintMore
attribute [local go_sem] max2_int min2_int max_two min_two max_three min_three max_four min_four
set_option linter.unusedVariables false
set_option linter.unusedSimpArgs false
def laws_eqHunk.f (k : Nat) (a0_0 : Int) (a0_1 : Int) (l0_2 : List ByteArray) (a1_0 : Int) (a1_1 : Int) (l1_2 : List ByteArray) : Option (Bool) := if a0_0 = a1_0 then (if a0_1 = a1_1 then ((laws_eqStringS.f k l0_2 l1_2).bind fun t309 => (if t309 = true then (some true) else (some false))) else (some false)) else (some false)
set_option maxHeartbeats 8000000 in
set_option maxRecDepth 100000 in
theorem laws_eqHunk.calls (k : Nat) (a0_0 : Int) (a0_1 : Int) (A0_2 : Option Addr) (c0_2 : Nat) (l0_2 : List ByteArray) (a1_0 : Int) (a1_1 : Int) (A1_2 : Option Addr) (c1_2 : Nat) (l1_2 : List ByteArray) (r : Bool) (w : World) (hr0_2 : Kd.C Kd.string w A0_2 l0_2.length l0_2) (hc0_2 : l0_2.length ≤ c0_2) (hr1_2 : Kd.C Kd.string w A1_2 l1_2.length l1_2) (hc1_2 : l1_2.length ≤ c1_2) (h : laws_eqHunk.f k a0_0 a0_1 l0_2 a1_0 a1_1 l1_2 = some r) :
  Calls Try.prog 102 #[.agg #[.int .i64 a0_0, .int .i64 a0_1, .slice A0_2 l0_2.length c0_2], .agg #[.int .i64 a1_0, .int .i64 a1_1, .slice A1_2 l1_2.length c1_2]] w fun e w' => e = .returned (.bool r) ∧ Below w.heap.size w w' := by
 have hu106 := Try.underlying106
 have HR0_2 := am hr0_2
 have HC0_2 := am hc0_2
 clear hr0_2 hc0_2
 have HR1_2 := am hr1_2
 have HC1_2 := am hc1_2
 clear hr1_2 hc1_2
 have HB := am (Below.refl w.heap.size w)
 have H := h
 clear h
 unfold laws_eqHunk.f at H
 by_cases c3 : a0_0 = a1_0
 ·rw [if_pos c3] at H
  have c3b0 : (a0_0 == a1_0) = true := beq_iff_eq.mpr c3
  have c3b1 : (a0_0 != a1_0) = false := bne_eq_false_iff_eq.mpr c3
  clear c3
  by_cases c4 : a0_1 = a1_1
  ·rw [if_pos c4] at H
   have c4b0 : (a0_1 == a1_1) = true := beq_iff_eq.mpr c4
   have c4b1 : (a0_1 != a1_1) = false := bne_eq_false_iff_eq.mpr c4
   clear c4
   replace H := Option.bind_eq_some_iff.mp H
   obtain ⟨t309, A50, H⟩ := H
   replace H : (if t309 = true then (some true) else (some false)) = some r := H
   have A5 := am A50
   clear A50
   by_cases c6 : t309 = true
   ·subst c6
    rw [if_pos rfl] at H
    obtain rfl := Option.some.inj H
    go_enter Try.func102, Try.ntmps102
    go_wp2_with (first | ((with_reducible refine gate_dst (N := 2) rfl ?_); refine box_event ?hg (N := 2) ?hd (cs := #[.int .i64 a0_0, .int .i64 a0_1, .slice A0_2 l0_2.length c0_2]) (t := 106) ?hr ?_; (case hd => rfl); (case hg => rfl); (case hr => first | (go_simp; done) | (go_simp; rfl)); intro gb307 hg w7 hbox hb; have BK307 := am (hbox); have GW307 := am ((by rw [hg]; exact (below_size zb) : w.heap.size ≤ gb307)); have GE307 := am ((by rw [hg]; exact (below_size zb) : w.heap.size ≤ gb307)); replace HB := am (below_step zb hb); clear hb hbox hg) | ((with_reducible refine gate_dst (N := 3) rfl ?_); refine box_event ?hg (N := 3) ?hd (cs := #[.int .i64 a1_0, .int .i64 a1_1, .slice A1_2 l1_2.length c1_2]) (t := 106) ?hr ?_; (case hd => rfl); (case hg => rfl); (case hr => first | (go_simp; done) | (go_simp; rfl)); intro gb308 hg w8 hbox hb; have BK308 := am (hbox); have GW308 := am ((by rw [hg]; exact (below_size zw) : w.heap.size ≤ gb308)); have GE308 := am ((by rw [hg]; exact (below_size zw) : w.heap.size ≤ gb308)); replace HB := am (below_step zw hb); have NB307_308 := am ((by rw [hg]; exact Nat.ne_of_lt (blk_lt (g := gb307) (o := .cells #[.int .i64 a0_0, .int .i64 a0_1, .slice A0_2 l0_2.length c0_2] 106 (0, 0)) (zk BK307.out)) : gb307 ≠ gb308)); have NB308_307 := am ((by rw [hg]; exact Nat.ne_of_gt (blk_lt (g := gb307) (o := .cells #[.int .i64 a0_0, .int .i64 a0_1, .slice A0_2 l0_2.length c0_2] 106 (0, 0)) (zk BK307.out)) : gb308 ≠ gb307)); replace BK307 := am (blk_below (g := gb307) (o := .cells #[.int .i64 a0_0, .int .i64 a0_1, .slice A0_2 l0_2.length c0_2] 106 (0, 0)) (zk BK307.out) hb); clear hb hbox hg; have hnb9 := NB307_308.out; have hnc9 := NB308_307.out; obtain ⟨hcz10_0, hcz10_1, hcz10_2⟩ := cz3 BK307.out; obtain ⟨hfz10_0, hfz10_1, hfz10_2⟩ := fz3 BK307.out; obtain ⟨hcz11_0, hcz11_1, hcz11_2⟩ := cz3 BK308.out; obtain ⟨hfz11_0, hfz11_1, hfz11_2⟩ := fz3 BK308.out) | ((with_reducible refine gateC (f := 44) rfl ?_); refine goesL_ (some 19) rfl rfl Try.func44 (by kernel_rfl) rfl #[.slice A0_2 l0_2.length c0_2, .slice A1_2 l1_2.length c1_2] rfl zm ?_; (with_reducible refine (laws_eqStringS.calls k _ _ l0_2 _ _ l1_2 true _ ?side1 ?side2 ?side3 ?side4 A5.out).mono ?_); (case side1 => exact zq (Kd.C_below HR0_2.out HB.out)); (case side2 => exact HC0_2.out); (case side3 => exact zq (Kd.C_below HR1_2.out HB.out)); (case side4 => exact HC1_2.out); rintro e w' ⟨rfl, ⟨nd, rfl⟩⟩; refine ⟨_, rfl, ?_⟩))
    go_ret
    exact ⟨by first | rfl | (simp [errW_none, errW_some] <;> rfl) | (simp [*, errW_none, errW_some] <;> rfl), zw⟩
   ·replace c6 := Bool.eq_false_iff.mpr c6
    subst c6
    rw [if_neg nofun] at H
    obtain rfl := Option.some.inj H
    go_enter Try.func102, Try.ntmps102
    go_wp2_with (first | ((with_reducible refine gate_dst (N := 2) rfl ?_); refine box_event ?hg (N := 2) ?hd (cs := #[.int .i64 a0_0, .int .i64 a0_1, .slice A0_2 l0_2.length c0_2]) (t := 106) ?hr ?_; (case hd => rfl); (case hg => rfl); (case hr => first | (go_simp; done) | (go_simp; rfl)); intro gb307 hg w12 hbox hb; have BK307 := am (hbox); have GW307 := am ((by rw [hg]; exact (below_size zb) : w.heap.size ≤ gb307)); have GE307 := am ((by rw [hg]; exact (below_size zb) : w.heap.size ≤ gb307)); replace HB := am (below_step zb hb); clear hb hbox hg) | ((with_reducible refine gate_dst (N := 3) rfl ?_); refine box_event ?hg (N := 3) ?hd (cs := #[.int .i64 a1_0, .int .i64 a1_1, .slice A1_2 l1_2.length c1_2]) (t := 106) ?hr ?_; (case hd => rfl); (case hg => rfl); (case hr => first | (go_simp; done) | (go_simp; rfl)); intro gb308 hg w13 hbox hb; have BK308 := am (hbox); have GW308 := am ((by rw [hg]; exact (below_size zw) : w.heap.size ≤ gb308)); have GE308 := am ((by rw [hg]; exact (below_size zw) : w.heap.size ≤ gb308)); replace HB := am (below_step zw hb); have NB307_308 := am ((by rw [hg]; exact Nat.ne_of_lt (blk_lt (g := gb307) (o := .cells #[.int .i64 a0_0, .int .i64 a0_1, .slice A0_2 l0_2.length c0_2] 106 (0, 0)) (zk BK307.out)) : gb307 ≠ gb308)); have NB308_307 := am ((by rw [hg]; exact Nat.ne_of_gt (blk_lt (g := gb307) (o := .cells #[.int .i64 a0_0, .int .i64 a0_1, .slice A0_2 l0_2.length c0_2] 106 (0, 0)) (zk BK307.out)) : gb308 ≠ gb307)); replace BK307 := am (blk_below (g := gb307) (o := .cells #[.int .i64 a0_0, .int .i64 a0_1, .slice A0_2 l0_2.length c0_2] 106 (0, 0)) (zk BK307.out) hb); clear hb hbox hg; have hnb14 := NB307_308.out; have hnc14 := NB308_307.out; obtain ⟨hcz15_0, hcz15_1, hcz15_2⟩ := cz3 BK307.out; obtain ⟨hfz15_0, hfz15_1, hfz15_2⟩ := fz3 BK307.out; obtain ⟨hcz16_0, hcz16_1, hcz16_2⟩ := cz3 BK308.out; obtain ⟨hfz16_0, hfz16_1, hfz16_2⟩ := fz3 BK308.out) | ((with_reducible refine gateC (f := 44) rfl ?_); refine goesL_ (some 19) rfl rfl Try.func44 (by kernel_rfl) rfl #[.slice A0_2 l0_2.length c0_2, .slice A1_2 l1_2.length c1_2] rfl zm ?_; (with_reducible refine (laws_eqStringS.calls k _ _ l0_2 _ _ l1_2 false _ ?side1 ?side2 ?side3 ?side4 A5.out).mono ?_); (case side1 => exact zq (Kd.C_below HR0_2.out HB.out)); (case side2 => exact HC0_2.out); (case side3 => exact zq (Kd.C_below HR1_2.out HB.out)); (case side4 => exact HC1_2.out); rintro e w' ⟨rfl, ⟨nd, rfl⟩⟩; refine ⟨_, rfl, ?_⟩))
    go_ret
    exact ⟨by first | rfl | (simp [errW_none, errW_some] <;> rfl) | (simp [*, errW_none, errW_some] <;> rfl), zw⟩
  ·rw [if_neg c4] at H
   have c4b0 : (a0_1 == a1_1) = false := beq_eq_false_iff_ne.mpr c4
   have c4b1 : (a0_1 != a1_1) = true := bne_iff_ne.mpr c4
   obtain rfl := Option.some.inj H
   go_enter Try.func102, Try.ntmps102
   go_wp2_with (first | ((with_reducible refine gate_dst (N := 2) rfl ?_); refine box_event ?hg (N := 2) ?hd (cs := #[.int .i64 a0_0, .int .i64 a0_1, .slice A0_2 l0_2.length c0_2]) (t := 106) ?hr ?_; (case hd => rfl); (case hg => rfl); (case hr => first | (go_simp; done) | (go_simp; rfl)); intro gb307 hg w17 hbox hb; have BK307 := am (hbox); have GW307 := am ((by rw [hg]; exact (below_size zb) : w.heap.size ≤ gb307)); have GE307 := am ((by rw [hg]; exact (below_size zb) : w.heap.size ≤ gb307)); replace HB := am (below_step zb hb); clear hb hbox hg) | ((with_reducible refine gate_dst (N := 3) rfl ?_); refine box_event ?hg (N := 3) ?hd (cs := #[.int .i64 a1_0, .int .i64 a1_1, .slice A1_2 l1_2.length c1_2]) (t := 106) ?hr ?_; (case hd => rfl); (case hg => rfl); (case hr => first | (go_simp; done) | (go_simp; rfl)); intro gb308 hg w18 hbox hb; have BK308 := am (hbox); have GW308 := am ((by rw [hg]; exact (below_size zw) : w.heap.size ≤ gb308)); have GE308 := am ((by rw [hg]; exact (below_size zw) : w.heap.size ≤ gb308)); replace HB := am (below_step zw hb); have NB307_308 := am ((by rw [hg]; exact Nat.ne_of_lt (blk_lt (g := gb307) (o := .cells #[.int .i64 a0_0, .int .i64 a0_1, .slice A0_2 l0_2.length c0_2] 106 (0, 0)) (zk BK307.out)) : gb307 ≠ gb308)); have NB308_307 := am ((by rw [hg]; exact Nat.ne_of_gt (blk_lt (g := gb307) (o := .cells #[.int .i64 a0_0, .int .i64 a0_1, .slice A0_2 l0_2.length c0_2] 106 (0, 0)) (zk BK307.out)) : gb308 ≠ gb307)); replace BK307 := am (blk_below (g := gb307) (o := .cells #[.int .i64 a0_0, .int .i64 a0_1, .slice A0_2 l0_2.length c0_2] 106 (0, 0)) (zk BK307.out) hb); clear hb hbox hg; have hnb19 := NB307_308.out; have hnc19 := NB308_307.out; obtain ⟨hcz20_0, hcz20_1, hcz20_2⟩ := cz3 BK307.out; obtain ⟨hfz20_0, hfz20_1, hfz20_2⟩ := fz3 BK307.out; obtain ⟨hcz21_0, hcz21_1, hcz21_2⟩ := cz3 BK308.out; obtain ⟨hfz21_0, hfz21_1, hfz21_2⟩ := fz3 BK308.out))
   go_ret
   exact ⟨by first | rfl | (simp [errW_none, errW_some] <;> rfl) | (simp [*, errW_none, errW_some] <;> rfl), zw⟩
 ·rw [if_neg c3] at H
  have c3b0 : (a0_0 == a1_0) = false := beq_eq_false_iff_ne.mpr c3
  have c3b1 : (a0_0 != a1_0) = true := bne_iff_ne.mpr c3
  obtain rfl := Option.some.inj H
  go_enter Try.func102, Try.ntmps102
  go_wp2_with (first | ((with_reducible refine gate_dst (N := 2) rfl ?_); refine box_event ?hg (N := 2) ?hd (cs := #[.int .i64 a0_0, .int .i64 a0_1, .slice A0_2 l0_2.length c0_2]) (t := 106) ?hr ?_; (case hd => rfl); (case hg => rfl); (case hr => first | (go_simp; done) | (go_simp; rfl)); intro gb307 hg w22 hbox hb; have BK307 := am (hbox); have GW307 := am ((by rw [hg]; exact (below_size zb) : w.heap.size ≤ gb307)); have GE307 := am ((by rw [hg]; exact (below_size zb) : w.heap.size ≤ gb307)); replace HB := am (below_step zb hb); clear hb hbox hg) | ((with_reducible refine gate_dst (N := 3) rfl ?_); refine box_event ?hg (N := 3) ?hd (cs := #[.int .i64 a1_0, .int .i64 a1_1, .slice A1_2 l1_2.length c1_2]) (t := 106) ?hr ?_; (case hd => rfl); (case hg => rfl); (case hr => first | (go_simp; done) | (go_simp; rfl)); intro gb308 hg w23 hbox hb; have BK308 := am (hbox); have GW308 := am ((by rw [hg]; exact (below_size zw) : w.heap.size ≤ gb308)); have GE308 := am ((by rw [hg]; exact (below_size zw) : w.heap.size ≤ gb308)); replace HB := am (below_step zw hb); have NB307_308 := am ((by rw [hg]; exact Nat.ne_of_lt (blk_lt (g := gb307) (o := .cells #[.int .i64 a0_0, .int .i64 a0_1, .slice A0_2 l0_2.length c0_2] 106 (0, 0)) (zk BK307.out)) : gb307 ≠ gb308)); have NB308_307 := am ((by rw [hg]; exact Nat.ne_of_gt (blk_lt (g := gb307) (o := .cells #[.int .i64 a0_0, .int .i64 a0_1, .slice A0_2 l0_2.length c0_2] 106 (0, 0)) (zk BK307.out)) : gb308 ≠ gb307)); replace BK307 := am (blk_below (g := gb307) (o := .cells #[.int .i64 a0_0, .int .i64 a0_1, .slice A0_2 l0_2.length c0_2] 106 (0, 0)) (zk BK307.out) hb); clear hb hbox hg; have hnb24 := NB307_308.out; have hnc24 := NB308_307.out; obtain ⟨hcz25_0, hcz25_1, hcz25_2⟩ := cz3 BK307.out; obtain ⟨hfz25_0, hfz25_1, hfz25_2⟩ := fz3 BK307.out; obtain ⟨hcz26_0, hcz26_1, hcz26_2⟩ := cz3 BK308.out; obtain ⟨hfz26_0, hfz26_1, hfz26_2⟩ := fz3 BK308.out))
  go_ret
  exact ⟨by first | rfl | (simp [errW_none, errW_some] <;> rfl) | (simp [*, errW_none, errW_some] <;> rfl), zw⟩

def laws_eqHunkS.l0 : Nat → List (S106) → List (S106) → Int → Option (Bool)
 | 0, _, _, _ => none
 | k + 1, x0, x1, x5 => if x5 < (x0.length : Int) then (if 0 ≤ x5 then (if x5 < (x1.length : Int) then ((laws_eqHunk.f k ((T106 x0 x5).f0) ((T106 x0 x5).f1) ((T106 x0 x5).f2) ((T106 x1 x5).f0) ((T106 x1 x5).f1) ((T106 x1 x5).f2)).bind fun t312 => (if t312 = true then (laws_eqHunkS.l0 k x0 x1 (wrap64 (x5 + 1))) else (some false))) else (none)) else (none)) else (some true)
def laws_eqHunkS.f (k : Nat) (l0 : List (S106)) (l1 : List (S106)) : Option (Bool) := if (l0.length : Int) = (l1.length : Int) then (laws_eqHunkS.l0 k l0 l1 0) else (some false)
def laws_eqHunkS.T6 : Bool × List (List Nat × List Nat) := (true, [([], []), ([], []), ([0, 1], [0, 1]), ([2], [2]), ([], []), ([], []), ([4, 5], [4, 5]), ([6], [6]), ([3, 7], [3, 7]), ([8], [8])])
def laws_eqHunkS.B6 : List Nat := [0, 0, 3, 7, 0, 0, 48, 112, 255, 511]
theorem laws_eqHunkS.tab6 : rtab .any (opsOf Try.f45 6) = laws_eqHunkS.T6 := by kernel_rfl
theorem laws_eqHunkS.bits6 : waitsOk laws_eqHunkS.T6.2 laws_eqHunkS.B6 = true := by kernel_rfl
set_option maxHeartbeats 8000000 in
set_option maxRecDepth 100000 in
theorem laws_eqHunkS.calls (k : Nat) (A0 : Option Addr) (c0 : Nat) (l0 : List (S106)) (A1 : Option Addr) (c1 : Nat) (l1 : List (S106)) (r : Bool) (w : World) (hr0 : Kd.C k106 w A0 l0.length l0) (hc0 : l0.length ≤ c0) (hr1 : Kd.C k106 w A1 l1.length l1) (hc1 : l1.length ≤ c1) (h : laws_eqHunkS.f k l0 l1 = some r) :
  Calls Try.prog 45 #[.slice A0 l0.length c0, .slice A1 l1.length c1] w fun e w' => e = .returned (.bool r) ∧ Below w.heap.size w w' := by
 have hu106 := Try.underlying106
 have HR0 := am hr0
 have HC0 := am hc0
 clear hr0 hc0
 have HR1 := am hr1
 have HC1 := am hc1
 clear hr1 hc1
 have HB := am (Below.refl w.heap.size w)
 have H := h
 clear h
 unfold laws_eqHunkS.f at H
 by_cases c3 : (l0.length : Int) = (l1.length : Int)
 ·rw [if_pos c3] at H
  have c3b0 : ((l0.length : Int) == (l1.length : Int)) = true := beq_iff_eq.mpr c3
  have c3b1 : ((l0.length : Int) != (l1.length : Int)) = false := bne_eq_false_iff_eq.mpr c3
  have c3b2 : (l0.length == l1.length) = true := by first | simpa using c3 | (simp at c3 ⊢; omega)
  clear c3
  have H' := am H
  clear H
  go_enter Try.func45, Try.ntmps45
  go_wp2
  go_loopg [5] k (fun kq v5 w' => ∃ (x5_1 : Int), v5 = .int .i64 x5_1 ∧ Aside0 (laws_eqHunkS.l0 kq l0 l1 x5_1 = some r) ∧ Aside0 (kq ≤ k) ∧ Aside0 (Below w.heap.size w w'))
  case atStart => exact ⟨(0), zf, H', ⟨Nat.le_refl _⟩, ⟨zb⟩⟩
  case round =>
   clear H'
   try clear c1
   try clear p2
   try clear c3
   try clear c3b0
   try clear c3b1
   try clear c3b2
   obtain ⟨x5_1, rfl, HA, HK1, HB⟩ := hrel
   cases gk with
   | zero => exact absurd HA.out (by simp [laws_eqHunkS.l0])
   | succ k1 =>
    have H := HA.out
    clear HA
    simp only [laws_eqHunkS.l0] at H
    by_cases c4 : x5_1 < (l0.length : Int)
    ·rw [if_pos c4] at H
     have c4b0 : decide (x5_1 < (l0.length : Int)) = true := decide_eq_true c4
     clear c4
     obtain ⟨c5, H⟩ := itn H
     have c5b0 := decide_eq_true c5
     clear c5
     obtain ⟨c6, H⟩ := itn H
     have c6b0 := decide_eq_true c6
     clear c6
     replace H := Option.bind_eq_some_iff.mp H
     obtain ⟨t312, A70, H⟩ := H
     replace H : (if t312 = true then (laws_eqHunkS.l0 k1 l0 l1 (wrap64 (x5_1 + 1))) else (some false)) = some r := H
     have A7 := am A70
     clear A70
     by_cases c8 : t312 = true
     ·subst c8
      rw [if_pos rfl] at H
      have H' := am H
      clear H
      try go_wp2
      replace HB := am (below_drew1 HB.out)
      have p310 : 0 ≤ (x5_1 : Int) := oa
      have q310 : x5_1 < (l0.length : Int) := oa
      obtain ⟨ad310, A310_2, c310_2, e310, hx310_0, hx310_1, hx310_2, hl310_2, hi310_2⟩ := at_T106 HR0.out x5_1 p310 q310
      have hw310_2 := hx310_2
      have hw310_1 := hx310_1
      have hw310_0 := hx310_0
      cases e310
      replace hx310_0 := bc HB.out hx310_0
      replace hx310_1 := bc HB.out hx310_1
      replace hx310_2 := bc HB.out hx310_2
      have HR310_2 := am hi310_2
      have HC310_2 := am hl310_2
      clear hi310_2 hl310_2
      replace p310 := eq_true p310
      replace q310 := eq_true q310
      have p311 : 0 ≤ (x5_1 : Int) := oa
      have q311 : x5_1 < (l1.length : Int) := oa
      obtain ⟨ad311, A311_2, c311_2, e311, hx311_0, hx311_1, hx311_2, hl311_2, hi311_2⟩ := at_T106 HR1.out x5_1 p311 q311
      have hw311_2 := hx311_2
      have hw311_1 := hx311_1
      have hw311_0 := hx311_0
      cases e311
      replace hx311_0 := bc HB.out hx311_0
      replace hx311_1 := bc HB.out hx311_1
      replace hx311_2 := bc HB.out hx311_2
      have HR311_2 := am hi311_2
      have HC311_2 := am hl311_2
      clear hi311_2 hl311_2
      replace p311 := eq_true p311
      replace q311 := eq_true q311
      refine start_ (n := 10) (S := fun w' => w'.cell? (ad310.add ((x5_1).toNat * 3)) = some (.int .i64 ((T106 l0 x5_1).f0)) ∧ w'.cell? ⟨(ad310.add ((x5_1).toNat * 3)).block, (ad310.add ((x5_1).toNat * 3)).off + 1, none⟩ = some (.int .i64 ((T106 l0 x5_1).f1)) ∧ w'.cell? ⟨(ad310.add ((x5_1).toNat * 3)).block, (ad310.add ((x5_1).toNat * 3)).off + 2, none⟩ = some (.slice A310_2 ((T106 l0 x5_1).f2).length c310_2) ∧ w'.cell? (ad311.add ((x5_1).toNat * 3)) = some (.int .i64 ((T106 l1 x5_1).f0)) ∧ w'.cell? ⟨(ad311.add ((x5_1).toNat * 3)).block, (ad311.add ((x5_1).toNat * 3)).off + 1, none⟩ = some (.int .i64 ((T106 l1 x5_1).f1)) ∧ w'.cell? ⟨(ad311.add ((x5_1).toNat * 3)).block, (ad311.add ((x5_1).toNat * 3)).off + 2, none⟩ = some (.slice A311_2 ((T106 l1 x5_1).f2).length c311_2)) (ds := []) #[O,O,O,O,O,O,O,O,O,O] (by kernel_rfl) rfl rfl ⟨((HB.out.cell (World.block_lt_of_cell? w _ hw310_0)).trans hw310_0), ((HB.out.cell (World.block_lt_of_cell? w _ hw310_1)).trans hw310_1), ((HB.out.cell (World.block_lt_of_cell? w _ hw310_2)).trans hw310_2), ((HB.out.cell (World.block_lt_of_cell? w _ hw311_0)).trans hw311_0), ((HB.out.cell (World.block_lt_of_cell? w _ hw311_1)).trans hw311_1), ((HB.out.cell (World.block_lt_of_cell? w _ hw311_2)).trans hw311_2)⟩ (fun hHeld => ?_); refine with_tabW laws_eqHunkS.tab6 laws_eqHunkS.bits6 (fun HT_ HW_ => ?_)
      generalize wr.drew = w9 at HB HR310_2 HR311_2 hx310_0 hx310_1 hx310_2 hx311_0 hx311_1 hx311_2 hHeld ⊢
      refine pu 0 (some 17) ?_
      refine pu 1 (some 18) ?_
      refine pu 2 (some 19) ?_
      refine pu 4 (some 21) ?_
      refine pu 5 (some 22) ?_
      refine pu 6 (some 23) ?_
      refine ta 3 (some 20) ?_
      refine ta 7 (some 24) ?_
      refine one_ (i := 8) (N := some 25) #[Y,Y,Y,Y,Y,Y,Y,Y,Y,O] rfl rfl (one_of HT_.out (by kernel_rfl)) (by decide) (fun K hK => ?_)
      refine goes_ Try.func102 (by kernel_rfl) rfl #[.agg #[.int .i64 ((T106 l0 x5_1).f0), .int .i64 ((T106 l0 x5_1).f1), .slice A310_2 ((T106 l0 x5_1).f2).length c310_2], .agg #[.int .i64 ((T106 l1 x5_1).f0), .int .i64 ((T106 l1 x5_1).f1), .slice A311_2 ((T106 l1 x5_1).f2).length c311_2]] (by rfl) rfl rfl zm ?_
      with_reducible refine (laws_eqHunk.calls k1 ((T106 l0 x5_1).f0) ((T106 l0 x5_1).f1) _ _ ((T106 l0 x5_1).f2) ((T106 l1 x5_1).f0) ((T106 l1 x5_1).f1) _ _ ((T106 l1 x5_1).f2) true _ ?side1 ?side2 ?side3 ?side4 A7.out).mono ?_
      (case side1 => exact zq (Kd.C_below HR310_2.out HB.out))
      (case side2 => exact HC310_2.out)
      (case side3 => exact zq (Kd.C_below HR311_2.out HB.out))
      (case side4 => exact HC311_2.out)
      rintro e w10 ⟨rfl, hb⟩
      refine ⟨_, rfl, ?_⟩
      replace HB := am (below_step zb hb)
      (try clear hb)
      (try clear hb2)
      (try clear hk)
      (try clear hi)
      refine hK.out _ _ ⟨((HB.out.cell (World.block_lt_of_cell? w _ hw310_0)).trans hw310_0), ((HB.out.cell (World.block_lt_of_cell? w _ hw310_1)).trans hw310_1), ((HB.out.cell (World.block_lt_of_cell? w _ hw310_2)).trans hw310_2), ((HB.out.cell (World.block_lt_of_cell? w _ hw311_0)).trans hw311_0), ((HB.out.cell (World.block_lt_of_cell? w _ hw311_1)).trans hw311_1), ((HB.out.cell (World.block_lt_of_cell? w _ hw311_2)).trans hw311_2)⟩ (fun hHeld => ?_)
      clear hK K
      refine norm_ (a' := ?_) ?_ ?_
      rotate_left
      ·show Act.put _ (some 25) _ = _
       simp only [Act.put,qa,qb,qc,i64_w,i32_w]
       rfl
      refine pu 9 (some 26) ?_
      refine done_ (done_of HT_.out (by kernel_rfl)) ?_
      try go_wp2
      go_roundg k1
      case measure => have := HK1.out; omega
      case rel => exact ⟨(wrap64 (x5_1 + 1)), zf, H', ⟨by have := HK1.out; omega⟩, ⟨zb⟩⟩
     ·replace c8 := Bool.eq_false_iff.mpr c8
      subst c8
      rw [if_neg nofun] at H
      obtain rfl := Option.some.inj H
      try go_wp2
      replace HB := am (below_drew1 HB.out)
      have p310 : 0 ≤ (x5_1 : Int) := oa
      have q310 : x5_1 < (l0.length : Int) := oa
      obtain ⟨ad310, A310_2, c310_2, e310, hx310_0, hx310_1, hx310_2, hl310_2, hi310_2⟩ := at_T106 HR0.out x5_1 p310 q310
      have hw310_2 := hx310_2
      have hw310_1 := hx310_1
      have hw310_0 := hx310_0
      cases e310
      replace hx310_0 := bc HB.out hx310_0
      replace hx310_1 := bc HB.out hx310_1
      replace hx310_2 := bc HB.out hx310_2
      have HR310_2 := am hi310_2
      have HC310_2 := am hl310_2
      clear hi310_2 hl310_2
      replace p310 := eq_true p310
      replace q310 := eq_true q310
      have p311 : 0 ≤ (x5_1 : Int) := oa
      have q311 : x5_1 < (l1.length : Int) := oa
      obtain ⟨ad311, A311_2, c311_2, e311, hx311_0, hx311_1, hx311_2, hl311_2, hi311_2⟩ := at_T106 HR1.out x5_1 p311 q311
      have hw311_2 := hx311_2
      have hw311_1 := hx311_1
      have hw311_0 := hx311_0
      cases e311
      replace hx311_0 := bc HB.out hx311_0
      replace hx311_1 := bc HB.out hx311_1
      replace hx311_2 := bc HB.out hx311_2
      have HR311_2 := am hi311_2
      have HC311_2 := am hl311_2
      clear hi311_2 hl311_2
      replace p311 := eq_true p311
      replace q311 := eq_true q311
      refine start_ (n := 10) (S := fun w' => w'.cell? (ad310.add ((x5_1).toNat * 3)) = some (.int .i64 ((T106 l0 x5_1).f0)) ∧ w'.cell? ⟨(ad310.add ((x5_1).toNat * 3)).block, (ad310.add ((x5_1).toNat * 3)).off + 1, none⟩ = some (.int .i64 ((T106 l0 x5_1).f1)) ∧ w'.cell? ⟨(ad310.add ((x5_1).toNat * 3)).block, (ad310.add ((x5_1).toNat * 3)).off + 2, none⟩ = some (.slice A310_2 ((T106 l0 x5_1).f2).length c310_2) ∧ w'.cell? (ad311.add ((x5_1).toNat * 3)) = some (.int .i64 ((T106 l1 x5_1).f0)) ∧ w'.cell? ⟨(ad311.add ((x5_1).toNat * 3)).block, (ad311.add ((x5_1).toNat * 3)).off + 1, none⟩ = some (.int .i64 ((T106 l1 x5_1).f1)) ∧ w'.cell? ⟨(ad311.add ((x5_1).toNat * 3)).block, (ad311.add ((x5_1).toNat * 3)).off + 2, none⟩ = some (.slice A311_2 ((T106 l1 x5_1).f2).length c311_2)) (ds := []) #[O,O,O,O,O,O,O,O,O,O] (by kernel_rfl) rfl rfl ⟨((HB.out.cell (World.block_lt_of_cell? w _ hw310_0)).trans hw310_0), ((HB.out.cell (World.block_lt_of_cell? w _ hw310_1)).trans hw310_1), ((HB.out.cell (World.block_lt_of_cell? w _ hw310_2)).trans hw310_2), ((HB.out.cell (World.block_lt_of_cell? w _ hw311_0)).trans hw311_0), ((HB.out.cell (World.block_lt_of_cell? w _ hw311_1)).trans hw311_1), ((HB.out.cell (World.block_lt_of_cell? w _ hw311_2)).trans hw311_2)⟩ (fun hHeld => ?_); refine with_tabW laws_eqHunkS.tab6 laws_eqHunkS.bits6 (fun HT_ HW_ => ?_)
      generalize wr.drew = w11 at HB HR310_2 HR311_2 hx310_0 hx310_1 hx310_2 hx311_0 hx311_1 hx311_2 hHeld ⊢
      refine pu 0 (some 17) ?_
      refine pu 1 (some 18) ?_
      refine pu 2 (some 19) ?_
      refine pu 4 (some 21) ?_
      refine pu 5 (some 22) ?_
      refine pu 6 (some 23) ?_
      refine ta 3 (some 20) ?_
      refine ta 7 (some 24) ?_
      refine one_ (i := 8) (N := some 25) #[Y,Y,Y,Y,Y,Y,Y,Y,Y,O] rfl rfl (one_of HT_.out (by kernel_rfl)) (by decide) (fun K hK => ?_)
      refine goes_ Try.func102 (by kernel_rfl) rfl #[.agg #[.int .i64 ((T106 l0 x5_1).f0), .int .i64 ((T106 l0 x5_1).f1), .slice A310_2 ((T106 l0 x5_1).f2).length c310_2], .agg #[.int .i64 ((T106 l1 x5_1).f0), .int .i64 ((T106 l1 x5_1).f1), .slice A311_2 ((T106 l1 x5_1).f2).length c311_2]] (by rfl) rfl rfl zm ?_
      with_reducible refine (laws_eqHunk.calls k1 ((T106 l0 x5_1).f0) ((T106 l0 x5_1).f1) _ _ ((T106 l0 x5_1).f2) ((T106 l1 x5_1).f0) ((T106 l1 x5_1).f1) _ _ ((T106 l1 x5_1).f2) false _ ?side1 ?side2 ?side3 ?side4 A7.out).mono ?_
      (case side1 => exact zq (Kd.C_below HR310_2.out HB.out))
      (case side2 => exact HC310_2.out)
      (case side3 => exact zq (Kd.C_below HR311_2.out HB.out))
      (case side4 => exact HC311_2.out)
      rintro e w12 ⟨rfl, hb⟩
      refine ⟨_, rfl, ?_⟩
      replace HB := am (below_step zb hb)
      (try clear hb)
      (try clear hb2)
      (try clear hk)
      (try clear hi)
      refine hK.out _ _ ⟨((HB.out.cell (World.block_lt_of_cell? w _ hw310_0)).trans hw310_0), ((HB.out.cell (World.block_lt_of_cell? w _ hw310_1)).trans hw310_1), ((HB.out.cell (World.block_lt_of_cell? w _ hw310_2)).trans hw310_2), ((HB.out.cell (World.block_lt_of_cell? w _ hw311_0)).trans hw311_0), ((HB.out.cell (World.block_lt_of_cell? w _ hw311_1)).trans hw311_1), ((HB.out.cell (World.block_lt_of_cell? w _ hw311_2)).trans hw311_2)⟩ (fun hHeld => ?_)
      clear hK K
      refine norm_ (a' := ?_) ?_ ?_
      rotate_left
      ·show Act.put _ (some 25) _ = _
       simp only [Act.put,qa,qb,qc,i64_w,i32_w]
       rfl
      refine pu 9 (some 26) ?_
      refine done_ (done_of HT_.out (by kernel_rfl)) ?_
      try go_wp2
      go_ret
      exact ⟨by first | rfl | (simp [errW_none, errW_some] <;> rfl) | (simp [*, errW_none, errW_some] <;> rfl), zb⟩
    ·rw [if_neg c4] at H
     have c4b0 : decide (x5_1 < (l0.length : Int)) = false := decide_eq_false c4
     clear c4
     obtain rfl := Option.some.inj H
     go_wp2
     go_ret
     exact ⟨by first | rfl | (simp [errW_none, errW_some] <;> rfl) | (simp [*, errW_none, errW_some] <;> rfl), zb⟩
 ·rw [if_neg c3] at H
  have c3b0 : ((l0.length : Int) == (l1.length : Int)) = false := beq_eq_false_iff_ne.mpr c3
  have c3b1 : ((l0.length : Int) != (l1.length : Int)) = true := bne_iff_ne.mpr c3
  have c3b2 : (l0.length == l1.length) = false := by first | simpa using c3 | (simp at c3 ⊢; omega)
  obtain rfl := Option.some.inj H
  go_enter Try.func45, Try.ntmps45
  go_wp2
  go_ret
  exact ⟨by first | rfl | (simp [errW_none, errW_some] <;> rfl) | (simp [*, errW_none, errW_some] <;> rfl), zb⟩

def laws_markText.l0 : Nat → Int → ByteArray → Option (ByteArray)
 | 0, _, _ => none
 | k + 1, x0, x3 => if x0 > 0 then ((some (([(wrap64 (48 + (Int.tmod x0 10))) % 256] : List Int) : List Int)).bind fun y313 => (if (strOfNums y313).size + x3.size ≤ 9223372036854775807 then (laws_markText.l0 k (wrap64 (Int.tdiv x0 10)) ((strOfNums y313) ++ x3)) else (none))) else (if 1 + x3.size ≤ 9223372036854775807 then (some ((⟨#[109]⟩ : ByteArray) ++ x3)) else (none))
def laws_markText.f (k : Nat) (a0 : Int) : Option (ByteArray) := if a0 ≤ 0 then (some (⟨#[109, 48]⟩ : ByteArray)) else (laws_markText.l0 k a0 (⟨#[]⟩ : ByteArray))
set_option maxHeartbeats 8000000 in
set_option maxRecDepth 100000 in
theorem laws_markText.calls (k : Nat) (a0 : Int) (r : ByteArray) (w : World) (h : laws_markText.f k a0 = some r) :
  Calls Try.prog 103 #[.int .i64 a0] w fun e w' => e = .returned (.string r) ∧ Below w.heap.size w w' := by
 have HB := am (Below.refl w.heap.size w)
 have H : (if a0 ≤ 0 then (some (⟨#[109, 48]⟩ : ByteArray)) else (laws_markText.l0 k a0 (⟨#[]⟩ : ByteArray))) = some r := h
 clear h
 by_cases c2 : a0 ≤ 0
 ·rw [if_pos c2] at H
  have c2b0 : decide (a0 ≤ 0) = true := decide_eq_true c2
  clear c2
  obtain rfl := Option.some.inj H
  go_enter Try.func103, Try.ntmps103
  go_wp2
  go_ret
  exact ⟨by first | rfl | (simp [errW_none, errW_some] <;> rfl) | (simp [*, errW_none, errW_some] <;> rfl), zb⟩
 ·rw [if_neg c2] at H
  have c2b0 : decide (a0 ≤ 0) = false := decide_eq_false c2
  clear c2
  have H' := am H
  clear H
  go_enter Try.func103, Try.ntmps103
  go_wp2
  go_loopg [0, 3] k (fun kq v0 v3 w' => ∃ (x0_1 : Int) (x3_1 : ByteArray), v0 = .int .i64 x0_1 ∧ v3 = .string x3_1 ∧ Aside0 (laws_markText.l0 kq x0_1 x3_1 = some r) ∧ Aside0 (kq ≤ k) ∧ Aside0 (Below w.heap.size w w'))
  case atStart => exact ⟨(a0), ((⟨#[]⟩ : ByteArray)), zf, zf, H', ⟨Nat.le_refl _⟩, ⟨zb⟩⟩
  case round =>
   clear H'
   try clear c1
   try clear c2
   try clear c2b0
   try clear p2
   obtain ⟨x0_1, x3_1, rfl, rfl, HA, HK1, HB⟩ := hrel
   cases gk with
   | zero => exact absurd HA.out (by simp [laws_markText.l0])
   | succ k1 =>
    have H := HA.out
    clear HA
    simp only [laws_markText.l0] at H
    by_cases c3 : x0_1 > 0
    ·rw [if_pos c3] at H
     have c3b0 : decide (0 < x0_1) = true := decide_eq_true c3
     clear c3
     obtain ⟨y313, hy313⟩ : ∃ y_ : List Int, y_ = (([(wrap64 (48 + (Int.tmod x0_1 10))) % 256] : List Int)) := ⟨_, rfl⟩
     replace H : (if (strOfNums y313).size + x3_1.size ≤ 9223372036854775807 then (laws_markText.l0 k1 (wrap64 (Int.tdiv x0_1 10)) ((strOfNums y313) ++ x3_1)) else (none)) = some r := by first | (rw [hy313]; with_reducible exact H) | (have H2_ := (Option.bind_some _ _).symm.trans H; rw [hy313]; with_reducible exact H2_) | (have H2_ := (Option.bind_some _ _).symm.trans H; with_reducible exact H2_) | with_reducible exact H | (rw [hy313]; exact H) | exact H
     have Ny313 := am hy313
     clear hy313
     by_cases c4 : (strOfNums y313).size + x3_1.size ≤ 9223372036854775807
     ·rw [if_pos c4] at H
      have c4b0 := eq_true c4
      have c4b1 : decide ((strOfNums y313).size + x3_1.size ≤ 9223372036854775807) = true := decide_eq_true c4
      try have c4b2 : (9223372036854775807 < (strOfNums y313).size + x3_1.size) = False := eq_false (Nat.not_lt.2 c4)
      have H' := am H
      clear H
      go_wp2_with (first | ((with_reducible refine gate_dst (N := 12) rfl ?_); refine Kd.R_lit (Kd.int .u8) _ 5 ?hg (N := 12) ?hd (xs := ([(wrap64 (48 + (Int.tmod x0_1 10))) % 256] : List Int)) (inner := [.int .u8 ((wrap64 (48 + (Int.tmod x0_1 10))) % 256)]) (ok := fun _ => True) (okp := fun _ => True) ?hr ?hp (fun _ hk => hk) trivial (Below.refl _ _) (Nat.le_refl _) (by simp) ?_; (case hd => rfl); (case hg => rfl); (case hr => first | (go_simp; done) | (go_simp; rfl)); (case hp => exact (Reps.one (show Kd.M (Kd.int .u8) _ _ _ ((wrap64 (48 + (Int.tmod x0_1 10))) % 256) [.int .u8 ((wrap64 (48 + (Int.tmod x0_1 10))) % 256)] from rfl) (Reps.none _ _))); intro v314 w5 ho6 hb hg_ hnew_; clear hg_ hnew_; (first | rw [← Ny313.out] at ho6 | (simp only [Int.reduceToNat] at ho6; rw [← Ny313.out] at ho6)); have n0_ := am (Kd.R_lower ho6 (below_size zb)); have n1_ := am (below_step zb hb); clear HB; have HO315 := n0_; have HB := n1_; clear n0_ n1_; clear hb ho6; have hcv7 := own_string (P := Try.prog) Try.underlying22 Try.underlying5 Try.underlying9 (Kd.own_of_R HO315.out)))
      go_roundg k1
      case measure => have := HK1.out; omega
      case rel => exact ⟨(wrap64 (Int.tdiv x0_1 10)), ((strOfNums y313) ++ x3_1), zf, zf, H', ⟨by have := HK1.out; omega⟩, ⟨zb⟩⟩
     ·rw [if_neg c4] at H
      exact absurd H (by simp)
    ·rw [if_neg c3] at H
     have c3b0 : decide (0 < x0_1) = false := decide_eq_false c3
     clear c3
     by_cases c8 : 1 + x3_1.size ≤ 9223372036854775807
     ·rw [if_pos c8] at H
      have c8b0 := eq_true c8
      have c8b1 : decide (1 + x3_1.size ≤ 9223372036854775807) = true := decide_eq_true c8
      try have c8b2 : (9223372036854775807 < 1 + x3_1.size) = False := eq_false (Nat.not_lt.2 c8)
      obtain rfl := Option.some.inj H
      go_wp2
      go_ret
      exact ⟨by first | rfl | (simp [errW_none, errW_some] <;> rfl) | (simp [*, errW_none, errW_some] <;> rfl), zb⟩
     ·rw [if_neg c8] at H
      exact absurd H (by simp)

def laws_heldStringS.l0 : Nat → List ByteArray → Int → Int → Option (Int)
 | 0, _, _, _ => none
 | k + 1, x0, x1, x5 => if x5 < (x0.length : Int) then (if 0 ≤ x5 then ((laws_markText.f k x1).bind fun t670 => (if (rdOf ByteArray.empty x0 x5).toList = t670.toList then (laws_heldStringS.l0 k x0 (wrap64 (x1 + 1)) (wrap64 (x5 + 1))) else (some (-1)))) else (none)) else (some x1)
def laws_heldStringS.f (k : Nat) (l0 : List ByteArray) (a1 : Int) : Option (Int) := laws_heldStringS.l0 k l0 a1 0
set_option maxHeartbeats 8000000 in
set_option maxRecDepth 100000 in
theorem laws_heldStringS.calls (k : Nat) (A0 : Option Addr) (c0 : Nat) (l0 : List ByteArray) (a1 : Int) (r : Int) (w : World) (hr0 : Kd.C Kd.string w A0 l0.length l0) (hc0 : l0.length ≤ c0) (h : laws_heldStringS.f k l0 a1 = some r) :
  Calls Try.prog 122 #[.slice A0 l0.length c0, .int .i64 a1] w fun e w' => e = .returned (.int .i64 r) ∧ Below w.heap.size w w' := by
 have HR0 := am hr0
 have HC0 := am hc0
 clear hr0 hc0
 have HB := am (Below.refl w.heap.size w)
 have H := h
 clear h
 unfold laws_heldStringS.f at H
 have H' := am H
 clear H
 go_enter Try.func122, Try.ntmps122
 go_wp2
 go_loopg [1, 5] k (fun kq v1 v5 w' => ∃ (x1_1 : Int) (x5_1 : Int), v1 = .int .i64 x1_1 ∧ v5 = .int .i64 x5_1 ∧ Aside0 (laws_heldStringS.l0 kq l0 x1_1 x5_1 = some r) ∧ Aside0 (kq ≤ k) ∧ Aside0 (Below w.heap.size w w'))
 case atStart => exact ⟨(a1), (0), zf, zf, H', ⟨Nat.le_refl _⟩, ⟨zb⟩⟩
 case round =>
  clear H'
  try clear c1
  try clear p2
  obtain ⟨x1_1, x5_1, rfl, rfl, HA, HK1, HB⟩ := hrel
  cases gk with
  | zero => exact absurd HA.out (by simp [laws_heldStringS.l0])
  | succ k1 =>
   have H := HA.out
   clear HA
   simp only [laws_heldStringS.l0] at H
   by_cases c3 : x5_1 < (l0.length : Int)
   ·rw [if_pos c3] at H
    have c3b0 : decide (x5_1 < (l0.length : Int)) = true := decide_eq_true c3
    clear c3
    obtain ⟨c4, H⟩ := itn H
    have c4b0 := decide_eq_true c4
    clear c4
    replace H := Option.bind_eq_some_iff.mp H
    obtain ⟨t670, A50, H⟩ := H
    replace H : (if (rdOf ByteArray.empty l0 x5_1).toList = t670.toList then (laws_heldStringS.l0 k1 l0 (wrap64 (x1_1 + 1)) (wrap64 (x5_1 + 1))) else (some (-1))) = some r := H
    have A5 := am A50
    clear A50
    by_cases c6 : (rdOf ByteArray.empty l0 x5_1).toList = t670.toList
    ·rw [if_pos c6] at H
     have c6b0 : ((rdOf ByteArray.empty l0 x5_1).toList == t670.toList) = true := beq_iff_eq.mpr c6
     have c6b1 : ((rdOf ByteArray.empty l0 x5_1).toList != t670.toList) = false := bne_eq_false_iff_eq.mpr c6
     clear c6
     have H' := am H
     clear H
     try go_wp2
     replace HB := am (below_drew1 HB.out)
     have p669 : 0 ≤ (x5_1 : Int) := oa
     have q669 : x5_1 < (l0.length : Int) := oa
     obtain ⟨ad669, e669, hx669_0⟩ := Kd.at_string HR0.out x5_1 p669 q669
     have hw669_0 := hx669_0
     cases e669
     replace hx669_0 := bc HB.out hx669_0
     replace p669 := eq_true p669
     replace q669 := eq_true q669
     refine start_ (n := 7) (S := fun w' => w'.cell? (ad669.add (x5_1).toNat) = some (.string (rdOf ByteArray.empty l0 x5_1))) (ds := []) #[O,O,O,O,O,O,O] (by kernel_rfl) rfl rfl (((HB.out.cell (World.block_lt_of_cell? w _ hw669_0)).trans hw669_0)) (fun hHeld => ?_)
     generalize wr.drew = w7 at HB hx669_0 hHeld ⊢
     refine pure_ (i := 0) (N := some 12) (v := ?_) (a' := ?_) #[Y,O,O,O,O,O,O] rfl rfl (by kernel_rfl) (fun _ _ _ h => h) (Or.inl ⟨by rfl, ?_⟩) ?_ ?_
     rotate_left; (intro w'; go_simp; with_reducible rfl); rotate_left; (simp only [Act.put,qa,qb,qc,i64_w,i32_w]; rfl)
     refine pure_ (i := 1) (N := some 13) (v := ?_) (a' := ?_) #[Y,Y,O,O,O,O,O] rfl rfl (by kernel_rfl) (fun _ _ _ h => h) (Or.inl ⟨by rfl, ?_⟩) ?_ ?_
     rotate_left; (intro w'; go_simp; with_reducible rfl); rotate_left; (simp only [Act.put,qa,qb,qc,i64_w,i32_w]; rfl)
     refine pure_ (i := 2) (N := some 14) (v := ?_) (a' := ?_) #[Y,Y,Y,O,O,O,O] rfl rfl (by kernel_rfl) (fun _ _ _ h => h) (Or.inl ⟨by rfl, ?_⟩) ?_ ?_
     rotate_left; (intro w'; go_simp; with_reducible rfl); rotate_left; (simp only [Act.put,qa,qb,qc,i64_w,i32_w]; rfl)
     refine pure_ (i := 4) (N := some 16) (v := ?_) (a' := ?_) #[Y,Y,Y,O,Y,O,O] rfl rfl (by kernel_rfl) (fun _ _ _ h => h) (Or.inl ⟨by rfl, ?_⟩) ?_ ?_
     rotate_left; (intro w'; go_simp; with_reducible rfl); rotate_left; (simp only [Act.put,qa,qb,qc,i64_w,i32_w]; rfl)
     refine take_ (i := 3) (N := some 15) (v := ?_) (a' := ?_) #[Y,Y,Y,Y,Y,O,O] rfl rfl (by kernel_rfl) (fun _ _ _ h => h) (Or.inl ⟨by rfl, ?_⟩) hHeld ?_ ?_
     rotate_left
     ·intro w' s0
      go_simp
      with_reducible rfl
     rotate_left
     ·simp only [Act.put,qa,qb,qc,i64_w,i32_w]
      rfl
     refine one_ (i := 5) (N := some 17) #[Y,Y,Y,Y,Y,Y,O] rfl rfl (by kernel_rfl) (by decide) (fun K hK => ?_)
     refine goes_ Try.func103 (by kernel_rfl) rfl #[.int .i64 x1_1] (by rfl) rfl rfl zm ?_
     with_reducible refine (laws_markText.calls k1 x1_1 t670 _ A5.out).mono ?_
     rintro e w8 ⟨rfl, hb⟩
     refine ⟨_, rfl, ?_⟩
     replace HB := am (below_step zb hb)
     (try clear hb)
     (try clear hb2)
     (try clear hk)
     (try clear hi)
     refine hK.out _ _ (((HB.out.cell (World.block_lt_of_cell? w _ hw669_0)).trans hw669_0)) (fun hHeld => ?_)
     clear hK K
     refine norm_ (a' := ?_) ?_ ?_
     rotate_left
     ·show Act.put _ (some 17) _ = _
      simp only [Act.put,qa,qb,qc,i64_w,i32_w]
      rfl
     refine pure_ (i := 6) (N := some 18) (v := ?_) (a' := ?_) #[Y,Y,Y,Y,Y,Y,Y] rfl rfl (by kernel_rfl) (fun _ _ _ h => h) (Or.inl ⟨by rfl, ?_⟩) ?_ ?_
     rotate_left; (intro w'; go_simp; with_reducible rfl); rotate_left; (simp only [Act.put,qa,qb,qc,i64_w,i32_w]; rfl)
     refine done_ (by kernel_rfl) ?_
     try go_wp2
     go_roundg k1
     case measure => have := HK1.out; omega
     case rel => exact ⟨(wrap64 (x1_1 + 1)), (wrap64 (x5_1 + 1)), zf, zf, H', ⟨by have := HK1.out; omega⟩, ⟨zb⟩⟩
    ·rw [if_neg c6] at H
     have c6b0 : ((rdOf ByteArray.empty l0 x5_1).toList == t670.toList) = false := beq_eq_false_iff_ne.mpr c6
     have c6b1 : ((rdOf ByteArray.empty l0 x5_1).toList != t670.toList) = true := bne_iff_ne.mpr c6
     obtain rfl := Option.some.inj H
     try go_wp2
     replace HB := am (below_drew1 HB.out)
     have p669 : 0 ≤ (x5_1 : Int) := oa
     have q669 : x5_1 < (l0.length : Int) := oa
     obtain ⟨ad669, e669, hx669_0⟩ := Kd.at_string HR0.out x5_1 p669 q669
     have hw669_0 := hx669_0
     cases e669
     replace hx669_0 := bc HB.out hx669_0
     replace p669 := eq_true p669
     replace q669 := eq_true q669
     refine start_ (n := 7) (S := fun w' => w'.cell? (ad669.add (x5_1).toNat) = some (.string (rdOf ByteArray.empty l0 x5_1))) (ds := []) #[O,O,O,O,O,O,O] (by kernel_rfl) rfl rfl (((HB.out.cell (World.block_lt_of_cell? w _ hw669_0)).trans hw669_0)) (fun hHeld => ?_)
     generalize wr.drew = w9 at HB hx669_0 hHeld ⊢
     refine pure_ (i := 0) (N := some 12) (v := ?_) (a' := ?_) #[Y,O,O,O,O,O,O] rfl rfl (by kernel_rfl) (fun _ _ _ h => h) (Or.inl ⟨by rfl, ?_⟩) ?_ ?_
     rotate_left; (intro w'; go_simp; with_reducible rfl); rotate_left; (simp only [Act.put,qa,qb,qc,i64_w,i32_w]; rfl)
     refine pure_ (i := 1) (N := some 13) (v := ?_) (a' := ?_) #[Y,Y,O,O,O,O,O] rfl rfl (by kernel_rfl) (fun _ _ _ h => h) (Or.inl ⟨by rfl, ?_⟩) ?_ ?_
     rotate_left; (intro w'; go_simp; with_reducible rfl); rotate_left; (simp only [Act.put,qa,qb,qc,i64_w,i32_w]; rfl)
     refine pure_ (i := 2) (N := some 14) (v := ?_) (a' := ?_) #[Y,Y,Y,O,O,O,O] rfl rfl (by kernel_rfl) (fun _ _ _ h => h) (Or.inl ⟨by rfl, ?_⟩) ?_ ?_
     rotate_left; (intro w'; go_simp; with_reducible rfl); rotate_left; (simp only [Act.put,qa,qb,qc,i64_w,i32_w]; rfl)
     refine pure_ (i := 4) (N := some 16) (v := ?_) (a' := ?_) #[Y,Y,Y,O,Y,O,O] rfl rfl (by kernel_rfl) (fun _ _ _ h => h) (Or.inl ⟨by rfl, ?_⟩) ?_ ?_
     rotate_left; (intro w'; go_simp; with_reducible rfl); rotate_left; (simp only [Act.put,qa,qb,qc,i64_w,i32_w]; rfl)
     refine take_ (i := 3) (N := some 15) (v := ?_) (a' := ?_) #[Y,Y,Y,Y,Y,O,O] rfl rfl (by kernel_rfl) (fun _ _ _ h => h) (Or.inl ⟨by rfl, ?_⟩) hHeld ?_ ?_
     rotate_left
     ·intro w' s0
      go_simp
      with_reducible rfl
     rotate_left
     ·simp only [Act.put,qa,qb,qc,i64_w,i32_w]
      rfl
     refine one_ (i := 5) (N := some 17) #[Y,Y,Y,Y,Y,Y,O] rfl rfl (by kernel_rfl) (by decide) (fun K hK => ?_)
     refine goes_ Try.func103 (by kernel_rfl) rfl #[.int .i64 x1_1] (by rfl) rfl rfl zm ?_
     with_reducible refine (laws_markText.calls k1 x1_1 t670 _ A5.out).mono ?_
     rintro e w10 ⟨rfl, hb⟩
     refine ⟨_, rfl, ?_⟩
     replace HB := am (below_step zb hb)
     (try clear hb)
     (try clear hb2)
     (try clear hk)
     (try clear hi)
     refine hK.out _ _ (((HB.out.cell (World.block_lt_of_cell? w _ hw669_0)).trans hw669_0)) (fun hHeld => ?_)
     clear hK K
     refine norm_ (a' := ?_) ?_ ?_
     rotate_left
     ·show Act.put _ (some 17) _ = _
      simp only [Act.put,qa,qb,qc,i64_w,i32_w]
      rfl
     refine pure_ (i := 6) (N := some 18) (v := ?_) (a' := ?_) #[Y,Y,Y,Y,Y,Y,Y] rfl rfl (by kernel_rfl) (fun _ _ _ h => h) (Or.inl ⟨by rfl, ?_⟩) ?_ ?_
     rotate_left; (intro w'; go_simp; with_reducible rfl); rotate_left; (simp only [Act.put,qa,qb,qc,i64_w,i32_w]; rfl)
     refine done_ (by kernel_rfl) ?_
     try go_wp2
     go_ret
     exact ⟨by first | rfl | (simp [errW_none, errW_some] <;> rfl) | (simp [*, errW_none, errW_some] <;> rfl), zb⟩
   ·rw [if_neg c3] at H
    have c3b0 : decide (x5_1 < (l0.length : Int)) = false := decide_eq_false c3
    clear c3
    obtain rfl := Option.some.inj H
    go_wp2
    go_ret
    exact ⟨by first | rfl | (simp [errW_none, errW_some] <;> rfl) | (simp [*, errW_none, errW_some] <;> rfl), zb⟩

def laws_heldHunkS.l0 : Nat → List (S106) → Int → Int → Option (Int)
 | 0, _, _, _ => none
 | k + 1, x0, x1, x5 => if x5 < (x0.length : Int) then (if 0 ≤ x5 then (if ((T106 x0 x5).f0) = x1 then (if ((T106 x0 x5).f1) = (wrap64 (x1 + 1)) then ((laws_heldStringS.f k ((T106 x0 x5).f2) (wrap64 ((wrap64 (x1 + 1)) + 1))).bind fun t674 => (if t674 < 0 then (some (-1)) else (laws_heldHunkS.l0 k x0 t674 (wrap64 (x5 + 1))))) else (some (-1))) else (some (-1))) else (none)) else (some x1)
def laws_heldHunkS.f (k : Nat) (l0 : List (S106)) (a1 : Int) : Option (Int) := laws_heldHunkS.l0 k l0 a1 0
set_option maxHeartbeats 8000000 in
set_option maxRecDepth 100000 in
theorem laws_heldHunkS.calls (k : Nat) (A0 : Option Addr) (c0 : Nat) (l0 : List (S106)) (a1 : Int) (r : Int) (w : World) (hr0 : Kd.C k106 w A0 l0.length l0) (hc0 : l0.length ≤ c0) (h : laws_heldHunkS.f k l0 a1 = some r) :
  Calls Try.prog 60 #[.slice A0 l0.length c0, .int .i64 a1] w fun e w' => e = .returned (.int .i64 r) ∧ Below w.heap.size w w' := by
 have HR0 := am hr0
 have HC0 := am hc0
 clear hr0 hc0
 have HB := am (Below.refl w.heap.size w)
 have H := h
 clear h
 unfold laws_heldHunkS.f at H
 have H' := am H
 clear H
 go_enter Try.func60, Try.ntmps60
 go_wp2
 go_loopg [1, 5] k (fun kq v1 v5 w' => ∃ (x1_1 : Int) (x5_1 : Int), v1 = .int .i64 x1_1 ∧ v5 = .int .i64 x5_1 ∧ Aside0 (laws_heldHunkS.l0 kq l0 x1_1 x5_1 = some r) ∧ Aside0 (kq ≤ k) ∧ Aside0 (Below w.heap.size w w'))
 case atStart => exact ⟨(a1), (0), zf, zf, H', ⟨Nat.le_refl _⟩, ⟨zb⟩⟩
 case round =>
  clear H'
  try clear p2
  obtain ⟨x1_1, x5_1, rfl, rfl, HA, HK1, HB⟩ := hrel
  cases gk with
  | zero => exact absurd HA.out (by simp [laws_heldHunkS.l0])
  | succ k1 =>
   have H := HA.out
   clear HA
   simp only [laws_heldHunkS.l0] at H
   by_cases c3 : x5_1 < (l0.length : Int)
   ·rw [if_pos c3] at H
    have c3b0 : decide (x5_1 < (l0.length : Int)) = true := decide_eq_true c3
    clear c3
    obtain ⟨c4, H⟩ := itn H
    have c4b0 := decide_eq_true c4
    clear c4
    by_cases c5 : ((T106 l0 x5_1).f0) = x1_1
    ·rw [if_pos c5] at H
     have c5b0 : (((T106 l0 x5_1).f0) == x1_1) = true := beq_iff_eq.mpr c5
     have c5b1 : (((T106 l0 x5_1).f0) != x1_1) = false := bne_eq_false_iff_eq.mpr c5
     clear c5
     by_cases c6 : ((T106 l0 x5_1).f1) = (wrap64 (x1_1 + 1))
     ·rw [if_pos c6] at H
      have c6b0 : (((T106 l0 x5_1).f1) == (wrap64 (x1_1 + 1))) = true := beq_iff_eq.mpr c6
      have c6b1 : (((T106 l0 x5_1).f1) != (wrap64 (x1_1 + 1))) = false := bne_eq_false_iff_eq.mpr c6
      clear c6
      replace H := Option.bind_eq_some_iff.mp H
      obtain ⟨t674, A70, H⟩ := H
      replace H : (if t674 < 0 then (some (-1)) else (laws_heldHunkS.l0 k1 l0 t674 (wrap64 (x5_1 + 1)))) = some r := H
      have A7 := am A70
      clear A70
      by_cases c8 : t674 < 0
      ·rw [if_pos c8] at H
       have c8b0 : decide (t674 < 0) = true := decide_eq_true c8
       clear c8
       obtain rfl := Option.some.inj H
       have p671 : 0 ≤ (x5_1 : Int) := oa
       have q671 : x5_1 < (l0.length : Int) := oa
       obtain ⟨ad671, A671_2, c671_2, e671, hx671_0, hx671_1, hx671_2, hl671_2, hi671_2⟩ := at_T106 HR0.out x5_1 p671 q671
       cases e671
       replace hx671_0 := bc HB.out hx671_0
       replace hx671_1 := bc HB.out hx671_1
       replace hx671_2 := bc HB.out hx671_2
       have HR671_2 := am hi671_2
       have HC671_2 := am hl671_2
       clear hi671_2 hl671_2
       replace p671 := eq_true p671
       replace q671 := eq_true q671
       have p672 : 0 ≤ (x5_1 : Int) := oa
       have q672 : x5_1 < (l0.length : Int) := oa
       obtain ⟨ad672, A672_2, c672_2, e672, hx672_0, hx672_1, hx672_2, hl672_2, hi672_2⟩ := at_T106 HR0.out x5_1 p672 q672
       obtain rfl : ad671 = ad672 := (by injection e672)
       replace hx672_0 := bc HB.out hx672_0
       replace hx672_1 := bc HB.out hx672_1
       replace hx672_2 := bc HB.out hx672_2
       have HR672_2 := am hi672_2
       have HC672_2 := am hl672_2
       clear hi672_2 hl672_2
       replace p672 := eq_true p672
       replace q672 := eq_true q672
       have ea_ := Option.some.inj (hx671_2.symm.trans hx672_2)
       injection ea_ with ea_ en_ ec_
       subst ea_
       subst ec_
       clear en_
       have p673 : 0 ≤ (x5_1 : Int) := oa
       have q673 : x5_1 < (l0.length : Int) := oa
       obtain ⟨ad673, A673_2, c673_2, e673, hx673_0, hx673_1, hx673_2, hl673_2, hi673_2⟩ := at_T106 HR0.out x5_1 p673 q673
       obtain rfl : ad671 = ad673 := (by injection e673)
       replace hx673_0 := bc HB.out hx673_0
       replace hx673_1 := bc HB.out hx673_1
       replace hx673_2 := bc HB.out hx673_2
       have HR673_2 := am hi673_2
       have HC673_2 := am hl673_2
       clear hi673_2 hl673_2
       replace p673 := eq_true p673
       replace q673 := eq_true q673
       have ea_ := Option.some.inj (hx671_2.symm.trans hx673_2)
       injection ea_ with ea_ en_ ec_
       subst ea_
       subst ec_
       clear en_
       go_wp2_with (first | ((with_reducible refine gateC (f := 122) rfl ?_); refine goesL_ (some 36) rfl rfl Try.func122 (by kernel_rfl) rfl #[.slice A671_2 ((T106 l0 x5_1).f2).length c671_2, .int .i64 (wrap64 ((wrap64 (x1_1 + 1)) + 1))] rfl zm ?_; (with_reducible refine (laws_heldStringS.calls k1 _ _ ((T106 l0 x5_1).f2) (wrap64 ((wrap64 (x1_1 + 1)) + 1)) t674 _ ?side1 ?side2 A7.out).mono ?_); (case side1 => exact zq (Kd.C_below HR673_2.out HB.out)); (case side2 => exact HC673_2.out); rintro e w9 ⟨rfl, hb⟩; refine ⟨_, rfl, ?_⟩; replace HB := am (below_step zb hb); (try clear hb)))
       go_ret
       exact ⟨by first | rfl | (simp [errW_none, errW_some] <;> rfl) | (simp [*, errW_none, errW_some] <;> rfl), zb⟩
      ·rw [if_neg c8] at H
       have c8b0 : decide (t674 < 0) = false := decide_eq_false c8
       clear c8
       have H' := am H
       clear H
       have p671 : 0 ≤ (x5_1 : Int) := oa
       have q671 : x5_1 < (l0.length : Int) := oa
       obtain ⟨ad671, A671_2, c671_2, e671, hx671_0, hx671_1, hx671_2, hl671_2, hi671_2⟩ := at_T106 HR0.out x5_1 p671 q671
       cases e671
       replace hx671_0 := bc HB.out hx671_0
       replace hx671_1 := bc HB.out hx671_1
       replace hx671_2 := bc HB.out hx671_2
       have HR671_2 := am hi671_2
       have HC671_2 := am hl671_2
       clear hi671_2 hl671_2
       replace p671 := eq_true p671
       replace q671 := eq_true q671
       have p672 : 0 ≤ (x5_1 : Int) := oa
       have q672 : x5_1 < (l0.length : Int) := oa
       obtain ⟨ad672, A672_2, c672_2, e672, hx672_0, hx672_1, hx672_2, hl672_2, hi672_2⟩ := at_T106 HR0.out x5_1 p672 q672
       obtain rfl : ad671 = ad672 := (by injection e672)
       replace hx672_0 := bc HB.out hx672_0
       replace hx672_1 := bc HB.out hx672_1
       replace hx672_2 := bc HB.out hx672_2
       have HR672_2 := am hi672_2
       have HC672_2 := am hl672_2
       clear hi672_2 hl672_2
       replace p672 := eq_true p672
       replace q672 := eq_true q672
       have ea_ := Option.some.inj (hx671_2.symm.trans hx672_2)
       injection ea_ with ea_ en_ ec_
       subst ea_
       subst ec_
       clear en_
       have p673 : 0 ≤ (x5_1 : Int) := oa
       have q673 : x5_1 < (l0.length : Int) := oa
       obtain ⟨ad673, A673_2, c673_2, e673, hx673_0, hx673_1, hx673_2, hl673_2, hi673_2⟩ := at_T106 HR0.out x5_1 p673 q673
       obtain rfl : ad671 = ad673 := (by injection e673)
       replace hx673_0 := bc HB.out hx673_0
       replace hx673_1 := bc HB.out hx673_1
       replace hx673_2 := bc HB.out hx673_2
       have HR673_2 := am hi673_2
       have HC673_2 := am hl673_2
       clear hi673_2 hl673_2
       replace p673 := eq_true p673
       replace q673 := eq_true q673
       have ea_ := Option.some.inj (hx671_2.symm.trans hx673_2)
       injection ea_ with ea_ en_ ec_
       subst ea_
       subst ec_
       clear en_
       go_wp2_with (first | ((with_reducible refine gateC (f := 122) rfl ?_); refine goesL_ (some 36) rfl rfl Try.func122 (by kernel_rfl) rfl #[.slice A671_2 ((T106 l0 x5_1).f2).length c671_2, .int .i64 (wrap64 ((wrap64 (x1_1 + 1)) + 1))] rfl zm ?_; (with_reducible refine (laws_heldStringS.calls k1 _ _ ((T106 l0 x5_1).f2) (wrap64 ((wrap64 (x1_1 + 1)) + 1)) t674 _ ?side1 ?side2 A7.out).mono ?_); (case side1 => exact zq (Kd.C_below HR673_2.out HB.out)); (case side2 => exact HC673_2.out); rintro e w10 ⟨rfl, hb⟩; refine ⟨_, rfl, ?_⟩; replace HB := am (below_step zb hb); (try clear hb)))
       go_roundg k1
       case measure => have := HK1.out; omega
       case rel => exact ⟨(t674), (wrap64 (x5_1 + 1)), zf, zf, H', ⟨by have := HK1.out; omega⟩, ⟨zb⟩⟩
     ·rw [if_neg c6] at H
      have c6b0 : (((T106 l0 x5_1).f1) == (wrap64 (x1_1 + 1))) = false := beq_eq_false_iff_ne.mpr c6
      have c6b1 : (((T106 l0 x5_1).f1) != (wrap64 (x1_1 + 1))) = true := bne_iff_ne.mpr c6
      obtain rfl := Option.some.inj H
      have p671 : 0 ≤ (x5_1 : Int) := oa
      have q671 : x5_1 < (l0.length : Int) := oa
      obtain ⟨ad671, A671_2, c671_2, e671, hx671_0, hx671_1, hx671_2, hl671_2, hi671_2⟩ := at_T106 HR0.out x5_1 p671 q671
      cases e671
      replace hx671_0 := bc HB.out hx671_0
      replace hx671_1 := bc HB.out hx671_1
      replace hx671_2 := bc HB.out hx671_2
      have HR671_2 := am hi671_2
      have HC671_2 := am hl671_2
      clear hi671_2 hl671_2
      replace p671 := eq_true p671
      replace q671 := eq_true q671
      have p672 : 0 ≤ (x5_1 : Int) := oa
      have q672 : x5_1 < (l0.length : Int) := oa
      obtain ⟨ad672, A672_2, c672_2, e672, hx672_0, hx672_1, hx672_2, hl672_2, hi672_2⟩ := at_T106 HR0.out x5_1 p672 q672
      obtain rfl : ad671 = ad672 := (by injection e672)
      replace hx672_0 := bc HB.out hx672_0
      replace hx672_1 := bc HB.out hx672_1
      replace hx672_2 := bc HB.out hx672_2
      have HR672_2 := am hi672_2
      have HC672_2 := am hl672_2
      clear hi672_2 hl672_2
      replace p672 := eq_true p672
      replace q672 := eq_true q672
      have ea_ := Option.some.inj (hx671_2.symm.trans hx672_2)
      injection ea_ with ea_ en_ ec_
      subst ea_
      subst ec_
      clear en_
      go_wp2
      go_ret
      exact ⟨by first | rfl | (simp [errW_none, errW_some] <;> rfl) | (simp [*, errW_none, errW_some] <;> rfl), zb⟩
    ·rw [if_neg c5] at H
     have c5b0 : (((T106 l0 x5_1).f0) == x1_1) = false := beq_eq_false_iff_ne.mpr c5
     have c5b1 : (((T106 l0 x5_1).f0) != x1_1) = true := bne_iff_ne.mpr c5
     obtain rfl := Option.some.inj H
     have p671 : 0 ≤ (x5_1 : Int) := oa
     have q671 : x5_1 < (l0.length : Int) := oa
     obtain ⟨ad671, A671_2, c671_2, e671, hx671_0, hx671_1, hx671_2, hl671_2, hi671_2⟩ := at_T106 HR0.out x5_1 p671 q671
     cases e671
     replace hx671_0 := bc HB.out hx671_0
     replace hx671_1 := bc HB.out hx671_1
     replace hx671_2 := bc HB.out hx671_2
     have HR671_2 := am hi671_2
     have HC671_2 := am hl671_2
     clear hi671_2 hl671_2
     replace p671 := eq_true p671
     replace q671 := eq_true q671
     go_wp2
     go_ret
     exact ⟨by first | rfl | (simp [errW_none, errW_some] <;> rfl) | (simp [*, errW_none, errW_some] <;> rfl), zb⟩
   ·rw [if_neg c3] at H
    have c3b0 : decide (x5_1 < (l0.length : Int)) = false := decide_eq_false c3
    clear c3
    obtain rfl := Option.some.inj H
    go_wp2
    go_ret
    exact ⟨by first | rfl | (simp [errW_none, errW_some] <;> rfl) | (simp [*, errW_none, errW_some] <;> rfl), zb⟩

def laws_markStringS.l0 : Nat → List ByteArray → Int → Int → Option (Int × List ByteArray)
 | 0, _, _, _ => none
 | k + 1, x0, x1, x5 => if x5 < (x0.length : Int) then ((laws_markText.f k x1).bind fun t316 => (if 0 ≤ x5 then (laws_markStringS.l0 k (x0.set (x5 : Int).toNat t316) (wrap64 (x1 + 1)) (wrap64 (x5 + 1))) else (none))) else (some (x1, x0))
def laws_markStringS.f (k : Nat) (l0 : List ByteArray) (a1 : Int) : Option (Int × List ByteArray) := laws_markStringS.l0 k l0 a1 0
set_option maxHeartbeats 8000000 in
set_option maxRecDepth 100000 in
theorem laws_markStringS.calls (k : Nat) (P0_ : Nat → Prop) (u9000_ : Value) (l0 : List ByteArray) (a1 : Int) (r1 : Int) (r2 : List ByteArray) (w0 w : World) (hB : Below w0.heap.size w0 w) (ho0 : Kd.R Kd.string 9 w w0.heap.size P0_ u9000_ l0) (h : laws_markStringS.f k l0 a1 = some (r1, r2)) :
  Calls Try.prog 46 #[u9000_, .int .i64 a1] w fun e w' => e = .returned (.int .i64 r1) ∧ Kd.R Kd.string 9 w' w0.heap.size (fun k_ => (P0_ k_ ∨ w.heap.size ≤ k_)) u9000_ r2 ∧ Below w0.heap.size w0 w' ∧ Kept w w' (fun k_ => P0_ k_) := by
 have HO0 := am (show Kd.R Kd.string 9 w w0.heap.size (fun k_ => (P0_ k_ ∨ w.heap.size ≤ k_)) u9000_ l0 from Kd.R_mono ho0 (fun k_ hk => (.inl hk)))
 have HK := am (Kept.refl w (fun k_ => P0_ k_))
 have HW0 := am hB.size
 have HB := am hB
 clear hB
 have H : (laws_markStringS.l0 k l0 a1 0) = some (r1, r2) := h
 clear h
 have H' := am H
 clear H
 go_enter Try.func46, Try.ntmps46
 go_wp2
 go_loopg [1, 5] k (fun kq v1 v5 w' => ∃ (x0_1 : List ByteArray) (x1_1 : Int) (x5_1 : Int), v1 = .int .i64 x1_1 ∧ v5 = .int .i64 x5_1 ∧ Aside0 (laws_markStringS.l0 kq x0_1 x1_1 x5_1 = some (r1, r2)) ∧ Aside0 (kq ≤ k) ∧ Aside0 (Kd.R Kd.string 9 w' w0.heap.size (fun k_ => (P0_ k_ ∨ w.heap.size ≤ k_)) u9000_ x0_1) ∧ Aside0 (Kept w w' (fun k_ => P0_ k_)) ∧ Aside0 (Below w0.heap.size w0 w'))
 case atStart => exact ⟨(l0), (a1), (0), zf, zf, H', ⟨Nat.le_refl _⟩, ⟨zr HO0.out⟩, ⟨by repeat (first | (with_reducible first | exact HK.out | apply Kept.alloc | apply Kept.drewN | apply Kept.drew) | exact HK.out)⟩, ⟨zb⟩⟩
 case round =>
  clear H'
  try clear p2
  obtain ⟨x0_1, x1_1, x5_1, rfl, rfl, HA, HK1, HO_0, HK, HB⟩ := hrel
  cases gk with
  | zero => exact absurd HA.out (by simp [laws_markStringS.l0])
  | succ k1 =>
   have H := HA.out
   clear HA
   simp only [laws_markStringS.l0] at H
   by_cases c3 : x5_1 < (x0_1.length : Int)
   ·rw [if_pos c3] at H
    have c3b0 : decide (x5_1 < (x0_1.length : Int)) = true := decide_eq_true c3
    clear c3
    replace H := Option.bind_eq_some_iff.mp H
    obtain ⟨t316, A40, H⟩ := H
    replace H : (if 0 ≤ x5_1 then (laws_markStringS.l0 k1 (x0_1.set (x5_1 : Int).toNat t316) (wrap64 (x1_1 + 1)) (wrap64 (x5_1 + 1))) else (none)) = some (r1, r2) := H
    have A4 := am A40
    clear A40
    by_cases c5 : 0 ≤ x5_1
    ·rw [if_pos c5] at H
     have c5b0 : decide (0 ≤ x5_1) = true := decide_eq_true c5
     clear c5
     obtain ⟨y317, hy317⟩ : ∃ y_ : List ByteArray, y_ = (x0_1.set (x5_1 : Int).toNat t316) := ⟨_, rfl⟩
     replace H : (laws_markStringS.l0 k1 y317 (wrap64 (x1_1 + 1)) (wrap64 (x5_1 + 1))) = some (r1, r2) := by first | (rw [hy317]; with_reducible exact H) | (have H2_ := (Option.bind_some _ _).symm.trans H; rw [hy317]; with_reducible exact H2_) | (have H2_ := (Option.bind_some _ _).symm.trans H; with_reducible exact H2_) | with_reducible exact H | (rw [hy317]; exact H) | exact H
     have Ny317 := am hy317
     clear hy317
     have H' := am H
     clear H
     obtain ⟨Ao7, co7, eo7⟩ := Kd.R_slice HO_0.out
     subst eo7
     go_wp2_with (first | ((with_reducible refine gateC (f := 103) rfl ?_); refine goesL_ (some 15) rfl rfl Try.func103 (by kernel_rfl) rfl #[.int .i64 x1_1] rfl zm ?_; (with_reducible refine (laws_markText.calls k1 x1_1 t316 _ A4.out).mono ?_); rintro e w8 ⟨rfl, hb⟩; refine ⟨_, rfl, ?_⟩; have n0_ := am (Kd.R_below (zr HO_0.out) hb); have n1_ := am (Kept.below (S := (fun k_ => P0_ k_)) (by repeat (first | (with_reducible first | exact HK.out | apply Kept.alloc | apply Kept.drewN | apply Kept.drew) | exact HK.out)) hb); have n2_ := am (below_step zb hb); clear HO_0; clear HK; clear HB; have HO_0 := n0_; have HK := n1_; have HB := n2_; clear n0_ n1_ n2_; (try clear hb); have p6 : 0 ≤ (x5_1 : Int) := oa; have q6 : (x5_1 : Int) < ((x0_1.length : Int) : Int) := oa; obtain ⟨go6, co6, eo6, gb6, gl6, cl6, HG6⟩ := Kd.R_form HO_0.out (by omega); (first | cases eo6 | (injection eo6 with ea_ en_ ec_; (first | subst ea_ | (injection ea_ with ea_; subst ea_)); subst ec_; clear en_)); have GB6 := am gb6; have GG6 := am HG6; clear gb6 gl6 HG6; have HMgo6 := am (show (P0_ go6 ∨ w.heap.size ≤ go6) from (HO_0.out.1 _ rfl)); obtain ⟨hx6_0, hf6_0⟩ := Kd.R_celln (⟨#[]⟩ : ByteArray) HO_0.out (x5_1 : Int) p6 q6; replace p6 := eq_true p6; replace q6 := eq_true q6; obtain ⟨hy9_, hz9_⟩ := Kd.R_celln (⟨#[]⟩ : ByteArray) HO_0.out (x5_1 : Int) oa oa; have HP9 := Kd.R_putg HO_0.out (x5_1 : Int) t316) | ((with_reducible refine gate_store (t := 9) (p := 16) rfl ?_); refine store_event (t := 9) (p := 16) (v := ?vo_w10) (w1 := (w8.setCell ⟨go6, (x5_1 : Int).toNat, none⟩ (.string t316))) ?hg ?ho ?hn ?hr ?_; (case ho => rfl); (case hg => rfl); (case hn => rfl); (case hr => first | (go_simp; done) | (go_simp; rfl)); intro w10 hw; have hg : w8.grownBy w10 (some go6) := (by rw [hw]; exact HP9.2); have hp_ : Kd.R Kd.string 9 w10 w0.heap.size (fun k_ => (P0_ k_ ∨ w.heap.size ≤ k_)) (.slice (some ⟨go6, 0, none⟩) x0_1.length co7) y317 := (by rw [hw, Ny317.out]; exact HP9.1); clear HP9; have n0_ := am (hp_); have n1_ := am ((by rw [hw]; exact below_set (HB.out) GB6.out : Below w0.heap.size w0 w10)); have n2_ := am (Kept.of_grown (S := (fun k_ => P0_ k_)) hg (by repeat (first | (with_reducible first | exact HK.out | apply Kept.alloc | apply Kept.drewN | apply Kept.drew) | exact HK.out)) (fun k_ e_ => (HO_0.out.1 k_ e_))); clear HO_0; clear HB; clear HK; have HO_0 := n0_; have HB := n1_; have HK := n2_; clear n0_ n1_ n2_; clear hg hw hp_))
     go_roundg k1
     case measure => have := HK1.out; omega
     case rel => exact ⟨(y317), (wrap64 (x1_1 + 1)), (wrap64 (x5_1 + 1)), zf, zf, H', ⟨by have := HK1.out; omega⟩, ⟨zr HO_0.out⟩, ⟨by repeat (first | (with_reducible first | exact HK.out | apply Kept.alloc | apply Kept.drewN | apply Kept.drew) | exact HK.out)⟩, ⟨zb⟩⟩
    ·rw [if_neg c5] at H
     exact absurd H (by simp)
   ·rw [if_neg c3] at H
    have c3b0 : decide (x5_1 < (x0_1.length : Int)) = false := decide_eq_false c3
    clear c3
    simp only [Option.some.injEq, Prod.mk.injEq] at H
    obtain ⟨rfl, rfl⟩ := H
    obtain ⟨Ao11, co11, eo11⟩ := Kd.R_slice HO_0.out
    subst eo11
    go_wp2
    go_ret
    exact ⟨by first | rfl | (simp [errW_none, errW_some] <;> rfl) | (simp [*, errW_none, errW_some] <;> rfl), zr HO_0.out, zb, by repeat (first | (with_reducible first | exact HK.out | apply Kept.alloc | apply Kept.drewN | apply Kept.drew) | exact HK.out)⟩
end Go.Proofs.Ytmcldkobejhaeaa.My
namespace Go.Proofs.Ytmcldkobejhaeaa.Pl
open Go.RowKit Go.Proofs.YtmcldkobejhaeaaW.PrintWords Go.Proofs.YtmcldkobejhaeaaW.PrintLast Go.Proofs.Ytmcldkobejhaeaa.My
set_option linter.unusedVariables false
set_option linter.unusedSimpArgs false
theorem strOfNums_size (l : List Int) : (strOfNums l).size = l.length := by
  unfold strOfNums
  rw [← data_length]
  simp
theorem tdiv10 (n : Int) (h : 0 ≤ n) : Int.tdiv n 10 = n / 10 := by
  rw [Int.tdiv_eq_ediv_of_nonneg h]
theorem markText_l0 : ∀ (d : Nat) (n : Int) (t : ByteArray), 0 ≤ n → n.toNat ≤ d → n ≤ 4611686018427387904 → t.size + n.toNat ≤ 4611686018427387905 → ∃ r, Ev (fun k => laws_markText.l0 k n t) r := by
  intro d
  induction d with
  | zero =>
    intro n t h0 hd h1 h2
    exact ⟨_, Ev.step (fun k => laws_markText.l0.eq_2 ..) (ev_neg (by omega) (ev_pos (by omega) (ev_some rfl)))⟩
  | succ d ih =>
    intro n t h0 hd h1 h2
    by_cases h : 0 < n
    · have e : wrap64 (Int.tdiv n 10) = n / 10 := by rw [tdiv10 n h0, wrap64_id (by omega) (by omega)]
      obtain ⟨r, hr⟩ := ih (n / 10) (strOfNums [(wrap64 (48 + (Int.tmod n 10))) % 256] ++ t) (by omega) (by omega) (by omega) (by
        rw [ByteArray.size_append, strOfNums_size, List.length_singleton]
        omega)
      refine ⟨r, Ev.step (fun k => laws_markText.l0.eq_2 ..) (ev_pos h ?_)⟩
      simp only [Option.bind_some]
      refine ev_pos ?_ ?_
      · rw [strOfNums_size, List.length_singleton]
        omega
      · rw [e]
        exact hr
    · exact ⟨_, Ev.step (fun k => laws_markText.l0.eq_2 ..) (ev_neg (by omega) (ev_pos (by omega) (ev_some rfl)))⟩
theorem markText_some (n : Int) (h0 : 0 ≤ n) (h1 : n ≤ 4611686018427387904) : ∃ r, Ev (fun k => laws_markText.f k n) r := by
  simp only [laws_markText.f]
  by_cases h : n ≤ 0
  · exact ⟨_, ev_pos h (ev_some rfl)⟩
  · obtain ⟨r, hr⟩ := markText_l0 n.toNat n ⟨#[]⟩ h0 (Nat.le_refl _) h1 (by
      show (0 : Nat) + n.toNat ≤ _
      omega)
    exact ⟨r, ev_neg h hr⟩
noncomputable def mark (n : Nat) : ByteArray := open Classical in if h : ∃ r, Ev (fun k => laws_markText.f k (n : Int)) r then h.choose else ⟨#[]⟩
theorem mark_ev (n : Nat) (h : n ≤ 4611686018427387904) : Ev (fun k => laws_markText.f k (n : Int)) (mark n) := by
  have hs := markText_some (n : Int) (by omega) (by omega)
  unfold mark
  rw [dif_pos hs]
  exact hs.choose_spec
noncomputable def marks (m n : Nat) : List ByteArray := (List.range n).map fun i => mark (m + i)
theorem marks_length (m n : Nat) : (marks m n).length = n := by simp [marks]
theorem marks_get (m n i : Nat) (h : i < n) : (marks m n)[i]'(by rw [marks_length]; exact h) = mark (m + i) := by simp [marks]
theorem markStringS_l0 (n m : Nat) (hn : n ≤ 1099511627776) (hm : m ≤ 1099511627776) : ∀ d i (o : List ByteArray), i + d = n → o.length = n → o.take i = (marks m n).take i →
    Ev (fun k => laws_markStringS.l0 k o ((m + i : Nat) : Int) (i : Int)) (((m + n : Nat) : Int), marks m n) := by
  intro d
  induction d with
  | zero =>
    intro i o hi hl ht
    refine Ev.step (fun k => laws_markStringS.l0.eq_2 ..) (ev_neg (by omega) (ev_some ?_))
    rw [List.take_of_length_le (by omega), List.take_of_length_le (by rw [marks_length]; omega)] at ht
    rw [ht, show i = n from by omega]
  | succ d ih =>
    intro i o hi hl ht
    refine Ev.step (fun k => laws_markStringS.l0.eq_2 ..) (ev_pos (by omega) (ev_bind (mark_ev (m + i) (by omega)) (ev_pos (by omega) ?_)))
    rw [wrap_succ i (by omega), wrap_succ (m + i) (by omega), Int.toNat_natCast]
    refine ih (i + 1) _ (by omega) (by rw [List.length_set]; exact hl) ?_
    rw [List.take_succ_eq_append_getElem (by rw [List.length_set]; omega), List.take_succ_eq_append_getElem (by rw [marks_length]; omega), List.getElem_set_self, List.take_set_of_le (Nat.le_refl i), ht, marks_get m n i (by omega)]
theorem markStringS_ev (l : List ByteArray) (m : Nat) (hn : l.length ≤ 1099511627776) (hm : m ≤ 1099511627776) : Ev (fun k => laws_markStringS.f k l (m : Int)) (((m + l.length : Nat) : Int), marks m l.length) := by
  simp only [laws_markStringS.f]
  exact markStringS_l0 l.length m hn hm l.length 0 l (by omega) rfl rfl
end Go.Proofs.Ytmcldkobejhaeaa.Pl
namespace Go.Proofs.Ytmcldkobejhaeaa.My
open Go.RowKit Go.Proofs.YtmcldkobejhaeaaW.PrintWords Go.Proofs.YtmcldkobejhaeaaW.PrintLast Go.Proofs.YtmcldkobejhaeaaW.PrintMore
attribute [local go_sem] max2_int min2_int max_two min_two max_three min_three max_four min_four
set_option linter.unusedVariables false
set_option linter.unusedSimpArgs false
def laws_szHunk.f (k : Nat) (a0_0 : Int) (a0_1 : Int) (l0_2 : List ByteArray) (a1 : Int) : Option (Int) := (laws_szStringS.f k l0_2 a1).bind fun t103 => (if t103 < 0 then (some (-1)) else (some t103))
set_option maxHeartbeats 8000000 in
set_option maxRecDepth 100000 in
theorem laws_szHunk.calls (k : Nat) (a0_0 : Int) (a0_1 : Int) (A0_2 : Option Addr) (c0_2 : Nat) (l0_2 : List ByteArray) (a1 : Int) (r : Int) (w : World) (hr0_2 : Kd.C Kd.string w A0_2 l0_2.length l0_2) (hc0_2 : l0_2.length ≤ c0_2) (h : laws_szHunk.f k a0_0 a0_1 l0_2 a1 = some r) :
  Calls Try.prog 97 #[.agg #[.int .i64 a0_0, .int .i64 a0_1, .slice A0_2 l0_2.length c0_2], .int .i64 a1] w fun e w' => e = .returned (.int .i64 r) ∧ Below w.heap.size w w' := by
 have hu115 := Try.underlying115
 have HR0_2 := am hr0_2
 have HC0_2 := am hc0_2
 clear hr0_2 hc0_2
 have HB := am (Below.refl w.heap.size w)
 have H : ((laws_szStringS.f k l0_2 a1).bind fun t103 => (if t103 < 0 then (some (-1)) else (some t103))) = some r := h
 clear h
 replace H := Option.bind_eq_some_iff.mp H
 obtain ⟨t103, A30, H⟩ := H
 replace H : (if t103 < 0 then (some (-1)) else (some t103)) = some r := H
 have A3 := am A30
 clear A30
 by_cases c4 : t103 < 0
 ·rw [if_pos c4] at H
  have c4b0 : decide (t103 < 0) = true := decide_eq_true c4
  clear c4
  obtain rfl := Option.some.inj H
  go_enter Try.func97, Try.ntmps97
  go_wp2_with (first | ((with_reducible refine gate_dst (N := 2) rfl ?_); refine box_event ?hg (N := 2) ?hd (cs := #[.int .i64 a0_0, .int .i64 a0_1, .slice A0_2 l0_2.length c0_2]) (t := 115) ?hr ?_; (case hd => rfl); (case hg => rfl); (case hr => first | (go_simp; done) | (go_simp; rfl)); intro gb102 hg w5 hbox hb; have n0_ := am (below_step zb hb); have n1_ := am (hbox); have n2_ := am ((by rw [hg]; exact (below_size zb) : w.heap.size ≤ gb102)); have n3_ := am ((by rw [hg]; exact (below_size zb) : w.heap.size ≤ gb102)); clear HB; have HB := n0_; have BK102 := n1_; have GW102 := n2_; have GE102 := n3_; clear n0_ n1_ n2_ n3_; clear hb hbox hg; have hcz6_0 : w5.cell? ⟨gb102, 0, none⟩ = some (.int .i64 a0_0) := (blk_cell BK102.out 0).trans rfl; have hcz6_1 : w5.cell? ⟨gb102, 1, none⟩ = some (.int .i64 a0_1) := (blk_cell BK102.out 1).trans rfl; have hcz6_2 : w5.cell? ⟨gb102, 2, none⟩ = some (.slice A0_2 l0_2.length c0_2) := (blk_cell BK102.out 2).trans rfl; have hfz6_0 := blk_frozen BK102.out 0; have hfz6_1 := blk_frozen BK102.out 1; have hfz6_2 := blk_frozen BK102.out 2) | ((with_reducible refine gateC (f := 37) rfl ?_); refine goesL_ (some 8) rfl rfl Try.func37 (by kernel_rfl) rfl #[.slice A0_2 l0_2.length c0_2, .int .i64 a1] rfl zm ?_; (with_reducible refine (laws_szStringS.calls k _ _ l0_2 a1 t103 _ ?side1 ?side2 A3.out).mono ?_); (case side1 => exact zq (Kd.C_below HR0_2.out HB.out)); (case side2 => exact HC0_2.out); rintro e w' ⟨rfl, ⟨nd, rfl⟩⟩; refine ⟨_, rfl, ?_⟩))
  go_ret
  exact ⟨by first | rfl | (simp [errW_none, errW_some] <;> rfl) | (simp [*, errW_none, errW_some] <;> rfl), zw⟩
 ·rw [if_neg c4] at H
  have c4b0 : decide (t103 < 0) = false := decide_eq_false c4
  clear c4
  obtain rfl := Option.some.inj H
  go_enter Try.func97, Try.ntmps97
  go_wp2_with (first | ((with_reducible refine gate_dst (N := 2) rfl ?_); refine box_event ?hg (N := 2) ?hd (cs := #[.int .i64 a0_0, .int .i64 a0_1, .slice A0_2 l0_2.length c0_2]) (t := 115) ?hr ?_; (case hd => rfl); (case hg => rfl); (case hr => first | (go_simp; done) | (go_simp; rfl)); intro gb102 hg w7 hbox hb; have n0_ := am (below_step zb hb); have n1_ := am (hbox); have n2_ := am ((by rw [hg]; exact (below_size zb) : w.heap.size ≤ gb102)); have n3_ := am ((by rw [hg]; exact (below_size zb) : w.heap.size ≤ gb102)); clear HB; have HB := n0_; have BK102 := n1_; have GW102 := n2_; have GE102 := n3_; clear n0_ n1_ n2_ n3_; clear hb hbox hg; have hcz8_0 : w7.cell? ⟨gb102, 0, none⟩ = some (.int .i64 a0_0) := (blk_cell BK102.out 0).trans rfl; have hcz8_1 : w7.cell? ⟨gb102, 1, none⟩ = some (.int .i64 a0_1) := (blk_cell BK102.out 1).trans rfl; have hcz8_2 : w7.cell? ⟨gb102, 2, none⟩ = some (.slice A0_2 l0_2.length c0_2) := (blk_cell BK102.out 2).trans rfl; have hfz8_0 := blk_frozen BK102.out 0; have hfz8_1 := blk_frozen BK102.out 1; have hfz8_2 := blk_frozen BK102.out 2) | ((with_reducible refine gateC (f := 37) rfl ?_); refine goesL_ (some 8) rfl rfl Try.func37 (by kernel_rfl) rfl #[.slice A0_2 l0_2.length c0_2, .int .i64 a1] rfl zm ?_; (with_reducible refine (laws_szStringS.calls k _ _ l0_2 a1 t103 _ ?side1 ?side2 A3.out).mono ?_); (case side1 => exact zq (Kd.C_below HR0_2.out HB.out)); (case side2 => exact HC0_2.out); rintro e w' ⟨rfl, ⟨nd, rfl⟩⟩; refine ⟨_, rfl, ?_⟩))
  go_ret
  exact ⟨by first | rfl | (simp [errW_none, errW_some] <;> rfl) | (simp [*, errW_none, errW_some] <;> rfl), zw⟩

def laws_szHunkS.l0 : Nat → List (S115) → Int → Int → Option (Int)
 | 0, _, _, _ => none
 | k + 1, x0, x1, x5 => if x5 < (x0.length : Int) then (if 0 ≤ x5 then ((laws_szHunk.f k ((T115 x0 x5).f0) ((T115 x0 x5).f1) ((T115 x0 x5).f2) x1).bind fun t105 => (if t105 < 0 then (some (-1)) else (laws_szHunkS.l0 k x0 t105 (wrap64 (x5 + 1))))) else (none)) else (some x1)
def laws_szHunkS.f (k : Nat) (l0 : List (S115)) (a1 : Int) : Option (Int) := if (wrap64 (a1 - (l0.length : Int))) < 0 then (some (-1)) else (laws_szHunkS.l0 k l0 (wrap64 (a1 - (l0.length : Int))) 0)
set_option maxHeartbeats 8000000 in
set_option maxRecDepth 100000 in
theorem laws_szHunkS.calls (k : Nat) (A0 : Option Addr) (c0 : Nat) (l0 : List (S115)) (a1 : Int) (r : Int) (w : World) (hr0 : Kd.C k115 w A0 l0.length l0) (hc0 : l0.length ≤ c0) (h : laws_szHunkS.f k l0 a1 = some r) :
  Calls Try.prog 38 #[.slice A0 l0.length c0, .int .i64 a1] w fun e w' => e = .returned (.int .i64 r) ∧ Below w.heap.size w w' := by
 have hu115 := Try.underlying115
 have HR0 := am hr0
 have HC0 := am hc0
 clear hr0 hc0
 have HB := am (Below.refl w.heap.size w)
 have H : (if (wrap64 (a1 - (l0.length : Int))) < 0 then (some (-1)) else (laws_szHunkS.l0 k l0 (wrap64 (a1 - (l0.length : Int))) 0)) = some r := h
 clear h
 by_cases c3 : (wrap64 (a1 - (l0.length : Int))) < 0
 ·rw [if_pos c3] at H
  have c3b0 : decide ((wrap64 (a1 - (l0.length : Int))) < 0) = true := decide_eq_true c3
  clear c3
  obtain rfl := Option.some.inj H
  go_enter Try.func38, Try.ntmps38
  go_wp2
  go_ret
  exact ⟨by first | rfl | (simp [errW_none, errW_some] <;> rfl) | (simp [*, errW_none, errW_some] <;> rfl), zb⟩
 ·rw [if_neg c3] at H
  have c3b0 : decide ((wrap64 (a1 - (l0.length : Int))) < 0) = false := decide_eq_false c3
  clear c3
  have H' := am H
  clear H
  go_enter Try.func38, Try.ntmps38
  go_wp2
  go_loopg [1, 5] k (fun kq v1 v5 w' => ∃ (x1_1 : Int) (x5_1 : Int), v1 = .int .i64 x1_1 ∧ v5 = .int .i64 x5_1 ∧ Aside0 (laws_szHunkS.l0 kq l0 x1_1 x5_1 = some r) ∧ Aside0 (kq ≤ k) ∧ Aside0 (Below w.heap.size w w'))
  case atStart => exact ⟨(wrap64 (a1 - (l0.length : Int))), (0), zf, zf, H', ⟨Nat.le_refl _⟩, ⟨zb⟩⟩
  case round =>
   clear H'
   try clear p2
   try clear c3
   try clear c3b0
   obtain ⟨x1_1, x5_1, rfl, rfl, HA, HK1, HB⟩ := hrel
   cases gk with
   | zero => exact absurd HA.out (by simp [laws_szHunkS.l0])
   | succ k1 =>
    have H := HA.out
    clear HA
    simp only [laws_szHunkS.l0] at H
    by_cases c4 : x5_1 < (l0.length : Int)
    ·rw [if_pos c4] at H
     have c4b0 : decide (x5_1 < (l0.length : Int)) = true := decide_eq_true c4
     clear c4
     by_cases c5 : 0 ≤ x5_1
     ·rw [if_pos c5] at H
      have c5b0 : decide (0 ≤ x5_1) = true := decide_eq_true c5
      clear c5
      replace H := Option.bind_eq_some_iff.mp H
      obtain ⟨t105, A60, H⟩ := H
      replace H : (if t105 < 0 then (some (-1)) else (laws_szHunkS.l0 k1 l0 t105 (wrap64 (x5_1 + 1)))) = some r := H
      have A6 := am A60
      clear A60
      by_cases c7 : t105 < 0
      ·rw [if_pos c7] at H
       have c7b0 : decide (t105 < 0) = true := decide_eq_true c7
       clear c7
       obtain rfl := Option.some.inj H
       have p104 : 0 ≤ (x5_1 : Int) := oa
       have q104 : x5_1 < (l0.length : Int) := oa
       obtain ⟨ad104, A104_2, c104_2, e104, hx104_0, hx104_1, hx104_2, hl104_2, hi104_2⟩ := at_T115 HR0.out x5_1 p104 q104
       cases e104
       replace hx104_0 := (HB.out.cell (World.block_lt_of_cell? w _ hx104_0)).trans hx104_0
       replace hx104_1 := (HB.out.cell (World.block_lt_of_cell? w _ hx104_1)).trans hx104_1
       replace hx104_2 := (HB.out.cell (World.block_lt_of_cell? w _ hx104_2)).trans hx104_2
       have HR104_2 := am hi104_2
       have HC104_2 := am hl104_2
       clear hi104_2 hl104_2
       replace p104 := eq_true p104
       replace q104 := eq_true q104
       go_wp2_with (first | ((with_reducible refine gateC (f := 97) rfl ?_); refine goesL_ (some 23) rfl rfl Try.func97 (by kernel_rfl) rfl #[.agg #[.int .i64 ((T115 l0 x5_1).f0), .int .i64 ((T115 l0 x5_1).f1), .slice A104_2 ((T115 l0 x5_1).f2).length c104_2], .int .i64 x1_1] rfl zm ?_; (with_reducible refine (laws_szHunk.calls k1 ((T115 l0 x5_1).f0) ((T115 l0 x5_1).f1) _ _ ((T115 l0 x5_1).f2) x1_1 t105 _ ?side1 ?side2 A6.out).mono ?_); (case side1 => exact zq (Kd.C_below HR104_2.out HB.out)); (case side2 => exact HC104_2.out); rintro e w8 ⟨rfl, hb⟩; refine ⟨_, rfl, ?_⟩; have n0_ := am (below_step zb hb); clear HB; have HB := n0_; clear n0_; (try clear hb)))
       go_ret
       exact ⟨by first | rfl | (simp [errW_none, errW_some] <;> rfl) | (simp [*, errW_none, errW_some] <;> rfl), zb⟩
      ·rw [if_neg c7] at H
       have c7b0 : decide (t105 < 0) = false := decide_eq_false c7
       clear c7
       have H' := am H
       clear H
       have p104 : 0 ≤ (x5_1 : Int) := oa
       have q104 : x5_1 < (l0.length : Int) := oa
       obtain ⟨ad104, A104_2, c104_2, e104, hx104_0, hx104_1, hx104_2, hl104_2, hi104_2⟩ := at_T115 HR0.out x5_1 p104 q104
       cases e104
       replace hx104_0 := (HB.out.cell (World.block_lt_of_cell? w _ hx104_0)).trans hx104_0
       replace hx104_1 := (HB.out.cell (World.block_lt_of_cell? w _ hx104_1)).trans hx104_1
       replace hx104_2 := (HB.out.cell (World.block_lt_of_cell? w _ hx104_2)).trans hx104_2
       have HR104_2 := am hi104_2
       have HC104_2 := am hl104_2
       clear hi104_2 hl104_2
       replace p104 := eq_true p104
       replace q104 := eq_true q104
       go_wp2_with (first | ((with_reducible refine gateC (f := 97) rfl ?_); refine goesL_ (some 23) rfl rfl Try.func97 (by kernel_rfl) rfl #[.agg #[.int .i64 ((T115 l0 x5_1).f0), .int .i64 ((T115 l0 x5_1).f1), .slice A104_2 ((T115 l0 x5_1).f2).length c104_2], .int .i64 x1_1] rfl zm ?_; (with_reducible refine (laws_szHunk.calls k1 ((T115 l0 x5_1).f0) ((T115 l0 x5_1).f1) _ _ ((T115 l0 x5_1).f2) x1_1 t105 _ ?side1 ?side2 A6.out).mono ?_); (case side1 => exact zq (Kd.C_below HR104_2.out HB.out)); (case side2 => exact HC104_2.out); rintro e w9 ⟨rfl, hb⟩; refine ⟨_, rfl, ?_⟩; have n0_ := am (below_step zb hb); clear HB; have HB := n0_; clear n0_; (try clear hb)))
       go_roundg k1
       case measure => have := HK1.out; omega
       case rel => exact ⟨(t105), (wrap64 (x5_1 + 1)), zf, zf, H', ⟨by have := HK1.out; omega⟩, ⟨zb⟩⟩
     ·rw [if_neg c5] at H
      exact absurd H (by simp)
    ·rw [if_neg c4] at H
     have c4b0 : decide (x5_1 < (l0.length : Int)) = false := decide_eq_false c4
     clear c4
     obtain rfl := Option.some.inj H
     go_wp2
     go_ret
     exact ⟨by first | rfl | (simp [errW_none, errW_some] <;> rfl) | (simp [*, errW_none, errW_some] <;> rfl), zb⟩

def laws_toHunk.f (k : Nat) (a0_0 : Int) (a0_1 : Int) (l0_2 : List ByteArray) : Option (Int × Int × List ByteArray) := (laws_toStringS.f k l0_2).bind fun t214 => (some (a0_0, a0_1, t214))
set_option maxHeartbeats 8000000 in
set_option maxRecDepth 100000 in
theorem laws_toHunk.calls (k : Nat) (a0_0 : Int) (a0_1 : Int) (A0_2 : Option Addr) (c0_2 : Nat) (l0_2 : List ByteArray) (r1 : Int) (r2 : Int) (r3 : List ByteArray) (w : World) (hr0_2 : Kd.C Kd.string w A0_2 l0_2.length l0_2) (hc0_2 : l0_2.length ≤ c0_2) (h : laws_toHunk.f k a0_0 a0_1 l0_2 = some (r1, r2, r3)) :
  Calls Try.prog 99 #[.agg #[.int .i64 a0_0, .int .i64 a0_1, .slice A0_2 l0_2.length c0_2]] w fun e w' => ∃ v2_ : Value, e = .returned (.agg #[.int .i64 r1, .int .i64 r2, v2_]) ∧ Kd.R Kd.string 9 w' w.heap.size (fun _ => True) v2_ r3 ∧ Below w.heap.size w w' := by
 have hu115 := Try.underlying115
 have hu106 := Try.underlying106
 have HR0_2 := am hr0_2
 have HC0_2 := am hc0_2
 clear hr0_2 hc0_2
 have HB := am (Below.refl w.heap.size w)
 have H := h
 clear h
 unfold laws_toHunk.f at H
 replace H := Option.bind_eq_some_iff.mp H
 obtain ⟨t214, A20, H⟩ := H
 replace H : (some (a0_0, a0_1, t214)) = some (r1, r2, r3) := H
 have A2 := am A20
 clear A20
 simp only [Option.some.injEq, Prod.mk.injEq] at H
 obtain ⟨rfl, rfl, rfl⟩ := H
 go_enter Try.func99, Try.ntmps99
 go_wp2_with (first | ((with_reducible refine gate_dst (N := 1) rfl ?_); refine box_event ?hg (N := 1) ?hd (cs := #[.int .i64 a0_0, .int .i64 a0_1, .slice A0_2 l0_2.length c0_2]) (t := 115) ?hr ?_; (case hd => rfl); (case hg => rfl); (case hr => first | (go_simp; done) | (go_simp; rfl)); intro gb211 hg w3 hbox hb; have BK211 := am (hbox); have GW211 := am ((by rw [hg]; exact (below_size zb) : w.heap.size ≤ gb211)); have GE211 := am ((by rw [hg]; exact (below_size zb) : w.heap.size ≤ gb211)); replace HB := am (below_step zb hb); clear hb hbox hg) | ((with_reducible refine gate_dst (N := 2) rfl ?_); refine box_event ?hg (N := 2) ?hd (cs := #[.int .i64 0, .int .i64 0, .slice none 0 0]) (t := 106) ?hr ?_; (case hd => rfl); (case hg => rfl); (case hr => first | (go_simp; done) | (go_simp; rfl)); intro gb212 hg w4 hbox hb; have BK212 := am (hbox); have GW212 := am ((by rw [hg]; exact (below_size zw) : w.heap.size ≤ gb212)); have GE212 := am ((by rw [hg]; exact (below_size zw) : w.heap.size ≤ gb212)); replace HB := am (below_step zw hb); have NB211_212 := am ((by rw [hg]; exact Nat.ne_of_lt (blk_lt (g := gb211) (o := .cells #[.int .i64 a0_0, .int .i64 a0_1, .slice A0_2 l0_2.length c0_2] 115 (0, 0)) (zk BK211.out)) : gb211 ≠ gb212)); have NB212_211 := am ((by rw [hg]; exact Nat.ne_of_gt (blk_lt (g := gb211) (o := .cells #[.int .i64 a0_0, .int .i64 a0_1, .slice A0_2 l0_2.length c0_2] 115 (0, 0)) (zk BK211.out)) : gb212 ≠ gb211)); replace BK211 := am (blk_below (g := gb211) (o := .cells #[.int .i64 a0_0, .int .i64 a0_1, .slice A0_2 l0_2.length c0_2] 115 (0, 0)) (zk BK211.out) hb); clear hb hbox hg) | ((with_reducible refine gate_dst (N := 3) rfl ?_); refine box_event ?hg (N := 3) ?hd (cs := #[.int .i64 0, .int .i64 0, .slice none 0 0]) (t := 106) ?hr ?_; (case hd => rfl); (case hg => rfl); (case hr => first | (go_simp; done) | (go_simp; rfl)); intro gb213 hg w5 hbox hb; have BK213 := am (hbox); have GW213 := am ((by rw [hg]; exact (below_size zw) : w.heap.size ≤ gb213)); have GE213 := am ((by rw [hg]; exact (below_size zw) : w.heap.size ≤ gb213)); replace HB := am (below_step zw hb); have NB211_213 := am ((by rw [hg]; exact Nat.ne_of_lt (blk_lt (g := gb211) (o := .cells #[.int .i64 a0_0, .int .i64 a0_1, .slice A0_2 l0_2.length c0_2] 115 (0, 0)) (zk BK211.out)) : gb211 ≠ gb213)); have NB213_211 := am ((by rw [hg]; exact Nat.ne_of_gt (blk_lt (g := gb211) (o := .cells #[.int .i64 a0_0, .int .i64 a0_1, .slice A0_2 l0_2.length c0_2] 115 (0, 0)) (zk BK211.out)) : gb213 ≠ gb211)); replace BK211 := am (blk_below (g := gb211) (o := .cells #[.int .i64 a0_0, .int .i64 a0_1, .slice A0_2 l0_2.length c0_2] 115 (0, 0)) (zk BK211.out) hb); have NB212_213 := am ((by rw [hg]; exact Nat.ne_of_lt (blk_lt (g := gb212) (o := .cells #[.int .i64 0, .int .i64 0, .slice none 0 0] 106 (0, 0)) (zk BK212.out)) : gb212 ≠ gb213)); have NB213_212 := am ((by rw [hg]; exact Nat.ne_of_gt (blk_lt (g := gb212) (o := .cells #[.int .i64 0, .int .i64 0, .slice none 0 0] 106 (0, 0)) (zk BK212.out)) : gb213 ≠ gb212)); replace BK212 := am (blk_below (g := gb212) (o := .cells #[.int .i64 0, .int .i64 0, .slice none 0 0] 106 (0, 0)) (zk BK212.out) hb); clear hb hbox hg; have hnb6 := NB211_212.out; have hnc6 := NB212_211.out; have hnb7 := NB211_213.out; have hnc7 := NB213_211.out; obtain ⟨hcz8_0, hcz8_1, hcz8_2⟩ := cz3 BK211.out; obtain ⟨hfz8_0, hfz8_1, hfz8_2⟩ := fz3 BK211.out; have hnb9 := NB213_212.out; have hnc9 := NB212_213.out; obtain ⟨hcz10_0, hcz10_1, hcz10_2⟩ := cz3 BK213.out; obtain ⟨hfz10_0, hfz10_1, hfz10_2⟩ := fz3 BK213.out) | ((with_reducible refine gateC (f := 40) rfl ?_); refine goesL_ (some 12) rfl rfl Try.func40 (by kernel_rfl) rfl #[.slice A0_2 l0_2.length c0_2] rfl zm ?_; (with_reducible refine (laws_toStringS.calls k _ _ l0_2 t214 _ ?side1 ?side2 A2.out).mono ?_); (case side1 => exact Kd.C_below HR0_2.out zw); (case side2 => exact HC0_2.out); rintro e w11 ⟨v215, rfl, ho0, hb⟩; refine ⟨_, rfl, ?_⟩; have HO216 := am (Kd.R_lower ho0 (below_size zw)); replace BK211 := am (blk_below (g := gb211) (o := .cells #[.int .i64 a0_0, .int .i64 a0_1, .slice A0_2 l0_2.length c0_2] 115 (0, 0)) (by (with_reducible repeat (first | refine blk_drewN ?_ _ | refine blk_drew ?_ | refine blk_alloc ?_ _)); refine blk_far ?_ NB211_213.out _; (with_reducible repeat (first | refine blk_drewN ?_ _ | refine blk_drew ?_ | refine blk_alloc ?_ _)); refine blk_far ?_ NB211_213.out _; (with_reducible repeat (first | refine blk_drewN ?_ _ | refine blk_drew ?_ | refine blk_alloc ?_ _)); exact BK211.out) hb); replace BK212 := am (blk_below (g := gb212) (o := .cells #[.int .i64 0, .int .i64 0, .slice none 0 0] 106 (0, 0)) (by (with_reducible repeat (first | refine blk_drewN ?_ _ | refine blk_drew ?_ | refine blk_alloc ?_ _)); refine blk_far ?_ NB212_213.out _; (with_reducible repeat (first | refine blk_drewN ?_ _ | refine blk_drew ?_ | refine blk_alloc ?_ _)); refine blk_far ?_ NB212_213.out _; (with_reducible repeat (first | refine blk_drewN ?_ _ | refine blk_drew ?_ | refine blk_alloc ?_ _)); exact BK212.out) hb); replace BK213 := am (blk_below (g := gb213) (o := .cells #[.int .i64 a0_0, .int .i64 a0_1, .slice none 0 0] 106 (0, 0)) (by (with_reducible repeat (first | refine blk_drewN ?_ _ | refine blk_drew ?_ | refine blk_alloc ?_ _)); refine blk_put (cs := #[.int .i64 a0_0, .int .i64 0, .slice none 0 0]) ?_ 1 _ rfl; (with_reducible repeat (first | refine blk_drewN ?_ _ | refine blk_drew ?_ | refine blk_alloc ?_ _)); refine blk_put (cs := #[.int .i64 0, .int .i64 0, .slice none 0 0]) ?_ 0 _ rfl; (with_reducible repeat (first | refine blk_drewN ?_ _ | refine blk_drew ?_ | refine blk_alloc ?_ _)); exact BK213.out) hb); replace HB := am (below_step zw hb); (try clear hb); (try clear ho0); obtain ⟨Ao12, co12, eo12⟩ := Kd.R_slice HO216.out; subst eo12; obtain ⟨hcz13_0, hcz13_1, hcz13_2⟩ := cz3 BK213.out; obtain ⟨hfz13_0, hfz13_1, hfz13_2⟩ := fz3 BK213.out; obtain ⟨hcz14_0, hcz14_1, hcz14_2⟩ := cz3 BK212.out; obtain ⟨hfz14_0, hfz14_1, hfz14_2⟩ := fz3 BK212.out))
 refine bodyPost_ret (results_cell_row rfl _ _ gb212 106 #[.int .i64 a0_0, .int .i64 a0_1, .slice Ao12 t214.length co12] (0, 0) _ rfl (by (with_reducible repeat (first | refine blk_drewN ?_ _ | refine blk_drew ?_ | refine blk_alloc ?_ _)); refine blk_put (cs := #[.int .i64 a0_0, .int .i64 a0_1, .slice none 0 0]) ?_ 2 _ rfl; (with_reducible repeat (first | refine blk_drewN ?_ _ | refine blk_drew ?_ | refine blk_alloc ?_ _)); refine blk_put (cs := #[.int .i64 a0_0, .int .i64 0, .slice none 0 0]) ?_ 1 _ rfl; (with_reducible repeat (first | refine blk_drewN ?_ _ | refine blk_drew ?_ | refine blk_alloc ?_ _)); refine blk_put (cs := #[.int .i64 0, .int .i64 0, .slice none 0 0]) ?_ 0 _ rfl; (with_reducible repeat (first | refine blk_drewN ?_ _ | refine blk_drew ?_ | refine blk_alloc ?_ _)); refine blk_far ?_ NB212_213.out _; (with_reducible repeat (first | refine blk_drewN ?_ _ | refine blk_drew ?_ | refine blk_alloc ?_ _)); exact BK212.out) Try.underlying106 rfl (by kernel_rfl)) rfl ?_
 exact ⟨_, by first | rfl | (simp [errW_none, errW_some] <;> rfl) | (simp [*, errW_none, errW_some] <;> rfl), by (with_reducible repeat (first | apply Kd.R_alloc | apply Kd.R_drewN | apply Kd.R_drew)); exact Kd.R_mono (Kd.R_far (p := ⟨gb212, 2, none⟩) (Kd.R_far (p := ⟨gb212, 1, none⟩) (Kd.R_far (p := ⟨gb212, 0, none⟩) (Kd.R_far (p := ⟨gb213, 2, none⟩) (Kd.R_types (Kd.R_types HO216.out BK213.out (by decide)) BK212.out (by decide)) (fun _ hk => hk.1.2) (.slice Ao12 t214.length co12)) (fun _ hk => hk.2) (.int .i64 a0_0)) (fun _ hk => hk.2) (.int .i64 a0_1)) (fun _ hk => hk.2) (.slice Ao12 t214.length co12)) (fun _ hk => trivial), zw⟩

def laws_toHunkS.l0 : Nat → List (S115) → List (S106) → Int → Option ((List (S106)))
 | 0, _, _, _ => none
 | k + 1, x0, x3, x4 => if x4 < (x0.length : Int) then (if 0 ≤ x4 then ((laws_toHunk.f k ((T115 x0 x4).f0) ((T115 x0 x4).f1) ((T115 x0 x4).f2)).bind fun bt221 => (if x4 < (x3.length : Int) then (laws_toHunkS.l0 k x0 (x3.set (x4 : Int).toNat (⟨bt221.1, bt221.2.1, bt221.2.2⟩ : S106)) (wrap64 (x4 + 1))) else (none))) else (none)) else (some x3)
def laws_toHunkS.f (k : Nat) (l0 : List (S115)) : Option ((List (S106))) := if 0 ≤ (l0.length : Int) then (if ((l0.length : Int) : Int).toNat ≤ 7036874417766 then (laws_toHunkS.l0 k l0 (List.replicate ((l0.length : Int) : Int).toNat z106) 0) else (none)) else (none)
set_option maxHeartbeats 8000000 in
set_option maxRecDepth 100000 in
theorem laws_toHunkS.calls (k : Nat) (A0 : Option Addr) (c0 : Nat) (l0 : List (S115)) (r : List (S106)) (w : World) (hr0 : Kd.C k115 w A0 l0.length l0) (hc0 : l0.length ≤ c0) (h : laws_toHunkS.f k l0 = some r) :
  Calls Try.prog 41 #[.slice A0 l0.length c0] w fun e w' => ∃ v0_ : Value, e = .returned (v0_) ∧ Kd.S k106 106 w' w.heap.size (fun _ => True) v0_ r ∧ Below w.heap.size w w' := by
 have hu115 := Try.underlying115
 have hu106 := Try.underlying106
 have HR0 := am hr0
 have HC0 := am hc0
 clear hr0 hc0
 have HB := am (Below.refl w.heap.size w)
 have H := h
 clear h
 unfold laws_toHunkS.f at H
 obtain ⟨c2, H⟩ := itn H
 have c2b0 := eq_true c2
 have c2b1 := decide_eq_true c2
 clear c2
 obtain ⟨c3, H⟩ := itn H
 have c3b0 := eq_true c3
 have c3b1 := decide_eq_true c3
 clear c3
 obtain ⟨y217, hy217⟩ : ∃ y_ : List (S106), y_ = (List.replicate ((l0.length : Int) : Int).toNat z106) := ⟨_, rfl⟩
 replace H : (laws_toHunkS.l0 k l0 y217 0) = some r := by first | (rw [hy217]; with_reducible exact H) | (have H2_ := (Option.bind_some _ _).symm.trans H; rw [hy217]; with_reducible exact H2_) | (have H2_ := (Option.bind_some _ _).symm.trans H; with_reducible exact H2_) | with_reducible exact H | (rw [hy217]; exact H) | exact H
 have Ny217 := am hy217
 clear hy217
 have H' := am H
 clear H
 go_enter Try.func41, Try.ntmps41
 go_wp2_with (first | ((with_reducible refine gate_dst (N := 7) rfl ?_); refine Kd.S_make k106 _ 106 rfl (N := 7) rfl 42 _ _ rfl (l0.length : Int) rfl rfl Try.underlying42 (.agg #[(.int .i64 0), (.int .i64 0), (.slice none 0 0)]) 40 info106 rfl (by decide) (by omega) z106 (ok := fun _ => True) (okp := fun _ => True) (k106_mkM _ _ _ z106 (Kd.R_nil _ _ _ _ _)) (fun _ hk => hk) trivial oa (Nat.le_trans (Nat.mul_le_mul_right _ (oa : (l0.length : Int).toNat ≤ 7036874417766)) (by omega)) (Below.refl _ _) (Nat.le_refl _) ?_; intro v218 w4 ho5 hb hg_ hnew_; clear hg_ hnew_; (first | rw [← Ny217.out] at ho5 | (simp only [Int.reduceToNat] at ho5; rw [← Ny217.out] at ho5)); have HO219 := am (Kd.S_lower ho5 (below_size zb)); replace HB := am (below_step zb hb); clear hb ho5))
 go_loopg [4] k (fun kq v4 w' => ∃ (x3_1 : List (S106)) (x4_1 : Int), v4 = .int .i64 x4_1 ∧ Aside0 (laws_toHunkS.l0 kq l0 x3_1 x4_1 = some r) ∧ Aside0 (kq ≤ k) ∧ Aside0 (Kd.S k106 106 w' w.heap.size (fun _ => True) v218 x3_1) ∧ Aside0 (Below w.heap.size w w'))
 case atStart => exact ⟨(y217), (0), zf, H', ⟨Nat.le_refl _⟩, ⟨zs HO219.out⟩, ⟨zb⟩⟩
 case round =>
  clear H'
  try clear c2
  try clear c2b0
  try clear c2b1
  try clear p2
  try clear c3
  try clear c3b0
  try clear c3b1
  try clear c4
  obtain ⟨x3_1, x4_1, rfl, HA, HK1, HO_3, HB⟩ := hrel
  cases gk with
  | zero => exact absurd HA.out (by simp [laws_toHunkS.l0])
  | succ k1 =>
   have H := HA.out
   clear HA
   simp only [laws_toHunkS.l0] at H
   by_cases c6 : x4_1 < (l0.length : Int)
   ·rw [if_pos c6] at H
    have c6b0 : decide (x4_1 < (l0.length : Int)) = true := decide_eq_true c6
    clear c6
    obtain ⟨c7, H⟩ := itn H
    have c7b0 := decide_eq_true c7
    clear c7
    replace H := Option.bind_eq_some_iff.mp H
    obtain ⟨⟨t221, t222, t223⟩, A80, H⟩ := H
    dsimp only at H
    have A8 := am A80
    clear A80
    obtain ⟨c9, H⟩ := itn H
    have c9b0 := decide_eq_true c9
    clear c9
    obtain ⟨y226, hy226⟩ : ∃ y_ : List (S106), y_ = (x3_1.set (x4_1 : Int).toNat (⟨t221, t222, t223⟩ : S106)) := ⟨_, rfl⟩
    replace H : (laws_toHunkS.l0 k1 l0 y226 (wrap64 (x4_1 + 1))) = some r := by first | (rw [hy226]; with_reducible exact H) | (have H2_ := (Option.bind_some _ _).symm.trans H; rw [hy226]; with_reducible exact H2_) | (have H2_ := (Option.bind_some _ _).symm.trans H; with_reducible exact H2_) | with_reducible exact H | (rw [hy226]; exact H) | exact H
    have Ny226 := am hy226
    clear hy226
    have H' := am H
    clear H
    have p220 : 0 ≤ (x4_1 : Int) := oa
    have q220 : x4_1 < (l0.length : Int) := oa
    obtain ⟨ad220, A220_2, c220_2, e220, hx220_0, hx220_1, hx220_2, hl220_2, hi220_2⟩ := at_T115 HR0.out x4_1 p220 q220
    cases e220
    replace hx220_0 := bc HB.out hx220_0
    replace hx220_1 := bc HB.out hx220_1
    replace hx220_2 := bc HB.out hx220_2
    have HR220_2 := am hi220_2
    have HC220_2 := am hl220_2
    clear hi220_2 hl220_2
    replace p220 := eq_true p220
    replace q220 := eq_true q220
    go_wp2_with (first | ((with_reducible refine gateC (f := 99) rfl ?_); refine goesL_ (some 20) rfl rfl Try.func99 (by kernel_rfl) rfl #[.agg #[.int .i64 ((T115 l0 x4_1).f0), .int .i64 ((T115 l0 x4_1).f1), .slice A220_2 ((T115 l0 x4_1).f2).length c220_2]] rfl zm ?_; (with_reducible refine (laws_toHunk.calls k1 ((T115 l0 x4_1).f0) ((T115 l0 x4_1).f1) _ _ ((T115 l0 x4_1).f2) t221 t222 t223 _ ?side1 ?side2 A8.out).mono ?_); (case side1 => exact zq (Kd.C_below HR220_2.out HB.out)); (case side2 => exact HC220_2.out); rintro e w11 ⟨v224, rfl, ho0, hb⟩; refine ⟨_, rfl, ?_⟩; replace HO_3 := am (Kd.S_elder' (zs HO_3.out) (Kd.R_base ho0) hb); have HO225 := am (Kd.R_lower ho0 (below_size zb)); replace HB := am (below_step zb hb); (try clear hb); (try clear ho0); have p10 : 0 ≤ (x4_1 : Int) := oa; have q10 : (x4_1 : Int) < ((x3_1.length : Int) : Int) := oa; obtain ⟨go10, co10, eo10, gb10, gl10, cl10, HG10⟩ := Kd.S_form HO_3.out (by omega); (first | cases eo10 | (injection eo10 with ea_ en_ ec_; (first | subst ea_ | (injection ea_ with ea_; subst ea_)); subst ec_; clear en_)); have GB10 := am gb10; have GG10 := am HG10; clear gb10 gl10 HG10; obtain ⟨_, ce10, hcl10, hM10, hcc10, hfr10, _, _⟩ := Kd.S_elem HO_3.out z106 (x4_1 : Int) p10 q10; obtain ⟨ve10_2, rfl, ge10_2⟩ := k106_openM hM10; have hx10_0 : w11.cell? ⟨go10, (x4_1 : Int).toNat * 3, none⟩ = some (.int .i64 ((T106 x3_1 x4_1).f0)) := hcc10 0 _ rfl; have hx10_1 : w11.cell? ⟨go10, (x4_1 : Int).toNat * 3 + 1, none⟩ = some (.int .i64 ((T106 x3_1 x4_1).f1)) := hcc10 1 _ rfl; have hx10_2 : w11.cell? ⟨go10, (x4_1 : Int).toNat * 3 + 2, none⟩ = some (ve10_2) := hcc10 2 _ rfl; have hf10_0 : w11.frozen? ⟨go10, (x4_1 : Int).toNat * 3, none⟩ = false := hfr10 0; have hf10_1 : w11.frozen? ⟨go10, (x4_1 : Int).toNat * 3 + 1, none⟩ = false := hfr10 1; have hf10_2 : w11.frozen? ⟨go10, (x4_1 : Int).toNat * 3 + 2, none⟩ = false := hfr10 2; clear hcl10 hcc10 hfr10; (try clear hM10); replace p10 := eq_true p10; replace q10 := eq_true q10; have n_ := am (Kd.S_mono (ok' := (fun k_ => some k_ ≠ (v224 : Value).ownBlock)) HO_3.out (fun k_ hk => hk.2)); clear HO_3; have HO_3 := n_; clear n_; have HX12 := am (show Kd.S k106 106 w11 w.heap.size (fun k_ => ((fun _ => True)) k_ ∧ ¬ ((fun k_ => some k_ = (v224 : Value).ownBlock)) k_) (.slice (some ⟨go10, 0, none⟩) x3_1.length co10) x3_1 from (by (with_reducible repeat (first | apply Kd.S_alloc | apply Kd.S_drewN | apply Kd.S_drew)); exact Kd.S_mono HO_3.out (fun k_ hk => ⟨trivial, fun e_ => hk e_⟩))); obtain ⟨oki12, ce12, hcl12, hM12, hcc12, hfr12, hoki12, hH12⟩ := Kd.S_elem HX12.out z106 (x4_1 : Int) oa (by have h_ : (x4_1 : Int) < ((x3_1.length : Int) : Int) := oa; first | exact h_ | (have e_ := (Kd.S_reads' HO_3.out).1; omega) | simpa using h_); obtain ⟨ve12_2, rfl, ge12_2⟩ := k106_openM hM12; have HP12 := Kd.S_seg hH12 oa (by have h_ : (x4_1 : Int) < ((x3_1.length : Int) : Int) := oa; first | exact h_ | (have e_ := (Kd.S_reads' HO_3.out).1; omega) | simpa using h_) (seg := [.int .i64 t221, .int .i64 t222, v224]) (j := 0) (show 3 ≤ 3 from by decide) (x' := (⟨t221, t222, t223⟩ : S106)) (k106_mkM _ _ _ (⟨t221, t222, t223⟩ : S106) (Kd.R_mono (Kd.R_tight rfl (Kd.R_mono (ok' := fun k_ => ((fun _ => True)) k_ ∧ k_ ≠ go10) (Kd.R_apart' (HO225.out) (Kd.S_typed HO_3.out) (by decide)) (fun k_ hk => ⟨trivial, fun e_ => (hk.2) (by rw [e_]; rfl)⟩))) (fun _ h_ => Or.inr (h_)))) (fun _ hk => hk) (fun k_ hk_ => ((Kd.R_mono (ok' := fun k_ => ((fun _ => True)) k_ ∧ k_ ≠ go10) (Kd.R_apart' (HO225.out) (Kd.S_typed HO_3.out) (by decide)) (fun k_ hk => ⟨trivial, fun e_ => (hk.2) (by rw [e_]; rfl)⟩))).1 k_ hk_.symm); have hx12_0 := hcc12 0 _ rfl; (try simp only [show (k106).sz = 3 from rfl, Nat.mul_one, Nat.add_zero] at hx12_0); have hf12_0 := hfr12 0; (try simp only [show (k106).sz = 3 from rfl, Nat.mul_one, Nat.add_zero] at hf12_0); have hx12_1 := hcc12 1 _ rfl; (try simp only [show (k106).sz = 3 from rfl, Nat.mul_one, Nat.add_zero] at hx12_1); have hf12_1 := hfr12 1; (try simp only [show (k106).sz = 3 from rfl, Nat.mul_one, Nat.add_zero] at hf12_1); have hx12_2 := hcc12 2 _ rfl; (try simp only [show (k106).sz = 3 from rfl, Nat.mul_one, Nat.add_zero] at hx12_2); have hf12_2 := hfr12 2; (try simp only [show (k106).sz = 3 from rfl, Nat.mul_one, Nat.add_zero] at hf12_2); clear hcl12 hcc12 hfr12 hoki12 hH12; (try clear hM12)) | ((with_reducible refine gate_store (t := 106) (p := 21) rfl ?_); refine store_event (t := 106) (p := 21) (v := ?vo_w13) (w1 := (((w11.setCell ⟨go10, (x4_1 : Int).toNat * 3, none⟩ (.int .i64 t221)).setCell ⟨go10, (x4_1 : Int).toNat * 3 + 1, none⟩ (.int .i64 t222)).setCell ⟨go10, (x4_1 : Int).toNat * 3 + 2, none⟩ (v224))) ?hg ?ho ?hn ?hr ?_; (case ho => rfl); (case hg => rfl); (case hn => rfl); (case hr => (obtain ⟨A2_, c2_, e2_⟩ := Kd.R_slice HO225.out); (subst e2_); first | (go_simp; done) | (go_simp; rfl)); intro w13 hw; have hg : w11.grownBy w13 (some go10) := (by rw [hw]; exact HP12.2); have hp_ : Kd.S k106 106 w13 w.heap.size (fun _ => True) (.slice (some ⟨go10, 0, none⟩) x3_1.length co10) y226 := (by rw [hw, Ny226.out]; exact HP12.1); clear HP12; replace HO_3 := am (hp_); replace HB := am ((by rw [hw]; exact below_set (below_set (below_set (HB.out) GB10.out) GB10.out) GB10.out : Below w.heap.size w w13)); clear HO225; clear hg hw hp_))
    go_roundg k1
    case measure => have := HK1.out; omega
    case rel => exact ⟨(y226), (wrap64 (x4_1 + 1)), zf, H', ⟨by have := HK1.out; omega⟩, ⟨zs HO_3.out⟩, ⟨zb⟩⟩
   ·rw [if_neg c6] at H
    have c6b0 : decide (x4_1 < (l0.length : Int)) = false := decide_eq_false c6
    clear c6
    obtain rfl := Option.some.inj H
    go_wp2
    go_ret
    exact ⟨_, by first | rfl | (simp [errW_none, errW_some] <;> rfl) | (simp [*, errW_none, errW_some] <;> rfl), zs HO_3.out, zb⟩
end Go.Proofs.Ytmcldkobejhaeaa.My
namespace Go.Proofs.Ytmcldkobejhaeaa.Pl
open Go.RowKit Go.Proofs.YtmcldkobejhaeaaW.PrintWords Go.Proofs.YtmcldkobejhaeaaW.PrintLast Go.Proofs.Ytmcldkobejhaeaa.My
set_option linter.unusedVariables false
set_option linter.unusedSimpArgs false
theorem eqHunk_ev (x y : IH) (h : FitS x.f2) : Ev (fun k => laws_eqHunk.f k x.f0 x.f1 x.f2 y.f0 y.f1 y.f2) (decide (x = y)) := by
  simp only [laws_eqHunk.f]
  refine ev_ite (fun h0 => ev_ite (fun h1 => ev_bind (eqStringS_ev _ _ h.1) ?_) (fun h1 => ev_some ?_)) (fun h0 => ev_some ?_)
  · refine ev_ite (fun h2 => ev_some ?_) (fun h2 => ev_some ?_)
    · rw [ih_ext h0 h1 (of_decide_eq_true h2)]
      simp
    · have : ¬ x = y := fun e => h2 (by rw [e]; simp)
      simp [this]
  · have : ¬ x = y := fun e => h1 (by rw [e])
    simp [this]
  · have : ¬ x = y := fun e => h0 (by rw [e])
    simp [this]
end Go.Proofs.Ytmcldkobejhaeaa.Pl
namespace Go.Proofs.Ytmcldkobejhaeaa.My
open Go.RowKit Go.Proofs.YtmcldkobejhaeaaW.PrintWords Go.Proofs.YtmcldkobejhaeaaW.PrintLast Go.Proofs.YtmcldkobejhaeaaW.PrintMore Go.Proofs.Ytmcldkobejhaeaa.Pl
set_option linter.unusedVariables false
set_option linter.unusedSimpArgs false
noncomputable def mkH (x : IH) (m : Nat) : IH := ⟨(m : Int), wrap64 ((m : Int) + 1), marks (m + 2) x.f2.length⟩
noncomputable def mkHs : List IH → Nat → List IH
  | [], _ => []
  | x :: t, m => mkH x m :: mkHs t (m + 2 + x.f2.length)
def endH : List IH → Nat → Nat
  | [], m => m
  | x :: t, m => endH t (m + 2 + x.f2.length)
theorem endH_ge : ∀ (l : List IH) (m : Nat), m ≤ endH l m
  | [], _ => Nat.le_refl _
  | x :: t, m => by have := endH_ge t (m + 2 + x.f2.length); simp only [endH]; omega
theorem mk_step {l xs : List IH} {m mm i : Nat} (h : i < xs.length) (h1 : endH (xs.drop i) mm = endH l m) (h2 : xs.take i ++ mkHs (xs.drop i) mm = mkHs l m) :
    mm + 2 + xs[i].f2.length ≤ endH l m ∧ endH ((xs.set i (mkH xs[i] mm)).drop (i + 1)) (mm + 2 + xs[i].f2.length) = endH l m ∧ (xs.set i (mkH xs[i] mm)).take (i + 1) ++ mkHs ((xs.set i (mkH xs[i] mm)).drop (i + 1)) (mm + 2 + xs[i].f2.length) = mkHs l m := by
  rw [List.drop_eq_getElem_cons h] at h1 h2
  simp only [endH, mkHs] at h1 h2
  have := endH_ge (xs.drop (i + 1)) (mm + 2 + xs[i].f2.length)
  rw [List.drop_set_of_lt (by omega), List.take_succ_eq_append_getElem (by rw [List.length_set]; exact h), List.getElem_set_self, List.take_set_of_le (Nat.le_refl i), List.append_assoc]
  exact ⟨by omega, h1, h2⟩
def MkInv (l : List IH) (m : Nat) (xs : List IH) (x5 : Int) (mm kq : Nat) : Prop := 0 ≤ x5 ∧ x5.toNat + kq = l.length ∧ xs.length = l.length ∧ endH (xs.drop x5.toNat) mm = endH l m ∧ xs.take x5.toNat ++ mkHs (xs.drop x5.toNat) mm = mkHs l m
theorem MkInv.start (l : List IH) (m : Nat) : MkInv l m l 0 m l.length := ⟨by omega, by simp, rfl, rfl, rfl⟩
theorem wr2 (mm n E : Nat) (h : mm + 2 + n ≤ E) (hE : E ≤ 1099511627776) : wrap64 (wrap64 ((mm : Int) + 1) + 1) = ((mm + 2 : Nat) : Int) := by rw [wrap_succ mm (by omega), wrap_succ (mm + 1) (by omega)]
theorem le_a (a n E : Nat) (h : a + n ≤ E) (hE : E ≤ 1099511627776) : n ≤ 1099511627776 := by omega
theorem le_b (a n E : Nat) (h : a + n ≤ E) (hE : E ≤ 1099511627776) : a ≤ 1099511627776 := by omega
theorem MkInv.step {l xs : List IH} {m mm kq : Nat} {x5 : Int} (h : MkInv l m xs x5 mm kq) (hm : endH l m ≤ 1099511627776) (hL : l.length ≤ 1099511627776) (hi : x5 < (l.length : Int)) :
    ∃ k1, kq = k1 + 1 ∧ ∃ kk mm2, laws_markStringS.f kk (xs.getD x5.toNat z106).f2 (wrap64 (wrap64 ((mm : Int) + 1) + 1)) = some (((mm2 : Nat) : Int), marks (mm + 2) (xs.getD x5.toNat z106).f2.length) ∧ MkInv l m (xs.set x5.toNat (mkH (xs.getD x5.toNat z106) mm)) (wrap64 (x5 + 1)) mm2 k1 := by
  obtain ⟨h0, h1, h2, h3, h4⟩ := h
  have hxi : x5.toNat < xs.length := by omega
  have hgx : xs.getD x5.toNat z106 = xs[x5.toNat] := by rw [List.getD_eq_getElem?_getD, List.getElem?_eq_getElem hxi]; rfl
  obtain ⟨q1, q2, q3⟩ := mk_step hxi h3 h4
  have ew := wr2 mm _ _ q1 hm
  obtain ⟨kk, hkk⟩ := markStringS_ev xs[x5.toNat].f2 (mm + 2) (le_a _ _ _ q1 hm) (le_b _ _ _ q1 hm)
  rw [hgx, ew]
  refine ⟨kq - 1, by omega, kk, _, hkk kk (Nat.le_refl _), ?_⟩
  have e5 : wrap64 (x5 + 1) = x5 + 1 := wrap64_id (by omega) (by omega)
  have e6 : (x5 + 1).toNat = x5.toNat + 1 := by omega
  rw [e5]
  refine ⟨by omega, by omega, by rw [List.length_set]; exact h2, ?_, ?_⟩
  · rw [e6]; exact q2
  · rw [e6]; exact q3
theorem MkInv.last {l xs : List IH} {m mm kq : Nat} {x5 : Int} (h : MkInv l m xs x5 mm kq) (hi : ¬ x5 < (l.length : Int)) : mm = endH l m ∧ xs = mkHs l m := by
  obtain ⟨h0, h1, h2, h3, h4⟩ := h
  rw [List.drop_of_length_le (by omega)] at h3 h4
  rw [List.take_of_length_le (by omega)] at h4
  simp only [mkHs, endH, List.append_nil] at h3 h4
  exact ⟨h3, h4⟩
theorem MkInv.len {l xs : List IH} {m mm kq : Nat} {x5 : Int} (h : MkInv l m xs x5 mm kq) : 0 ≤ x5 ∧ xs.length = l.length := ⟨h.1, h.2.2.1⟩
set_option maxHeartbeats 8000000 in
set_option maxRecDepth 100000 in
theorem laws_markHunkS_made (P : Nat → Prop) (u : Value) (l : List IH) (m : Nat) (w0 w : World) (hm : endH l m ≤ 1099511627776) (hL : l.length ≤ 1099511627776) (hB : Below w0.heap.size w0 w) (ho : Kd.S k106 106 w w0.heap.size P u l) :
    Calls Try.prog 47 #[u, .int .i64 (m : Int)] w fun e w' => e = .returned (.int .i64 ((endH l m : Nat) : Int)) ∧ Kd.S k106 106 w' w0.heap.size P u (mkHs l m) ∧ Below w0.heap.size w0 w' ∧ Kept w w' P := by
  obtain ⟨A, c, rfl⟩ := Kd.S_slice ho
  have HM := am hm
  have HL := am hL
  have HO := am ho
  have HB := am hB
  clear hm hL ho hB
  go_enter Try.func47, Try.ntmps47
  go_wp2
  go_loopg [1, 5] l.length (fun kq v1 v5 w' => ∃ (xs : List IH) (x5 : Int) (mm : Nat), v1 = .int .i64 (mm : Int) ∧ v5 = .int .i64 x5 ∧ Aside0 (MkInv l m xs x5 mm kq) ∧ Aside0 (Kd.S k106 106 w' w0.heap.size P (.slice A l.length c) xs) ∧ Aside0 (Kept w w' P) ∧ Aside0 (Below w0.heap.size w0 w'))
  case atStart => exact ⟨l, 0, m, rfl, rfl, ⟨MkInv.start l m⟩, HO, ⟨Kept.refl _ _⟩, HB⟩
  case round =>
    clear HO HB
    obtain ⟨xs, x5, mm, rfl, rfl, HF, HO, HK, HB⟩ := hrel
    by_cases hi : x5 < (l.length : Int)
    · obtain ⟨k1, rfl, kk, mm2, hkk, hnext⟩ := HF.out.step HM.out HL.out hi
      have HN := am hnext
      have hlen := HF.out.len
      clear HF hnext
      have hc : decide (x5 < (l.length : Int)) = true := decide_eq_true hi
      have hp := hlen.1
      have hxp : 0 < xs.length := by omega
      obtain ⟨g, cap, eg, hgb, hgl, hgc⟩ := Kd.S_form HO.out hxp
      injection eg with ea en ec
      clear en
      subst ea
      subst ec
      obtain ⟨oki, ce, hcl, hM, hcc, hfr, hoki, hH⟩ := Kd.S_elem HO.out z106 x5 hp hi
      obtain ⟨v2, rfl, ge2⟩ := k106_openM hM
      have hx0 := hcc 0 _ rfl
      have hx1 := hcc 1 _ rfl
      have hx2 := hcc 2 _ rfl
      have hf0 := hfr 0
      have hf1 := hfr 1
      simp only [show (k106).sz = 3 from rfl, Nat.add_zero] at hx0 hx1 hx2 hf0 hf1
      have hsg := am (Kd.H_seg hH hp hi (seg := [.int .i64 (mm : Int), .int .i64 (wrap64 ((mm : Int) + 1))]) (j := 0) (show 2 ≤ 3 from by decide) (by intro q hq; simp only [List.mem_cons, List.not_mem_nil, or_false] at hq; rcases hq with rfl | rfl <;> rfl)).1
      have hR2 := am (Kd.R_far (p := ⟨g, x5.toNat * 3 + 1, none⟩) (Kd.R_far (p := ⟨g, x5.toNat * 3, none⟩) ge2 (fun k hk => (hoki k hk).2) (.int .i64 (mm : Int))) (fun k hk => (hoki k hk).2) (.int .i64 (wrap64 ((mm : Int) + 1))))
      have hPg : P g := (Kd.S_R HO.out).1 g (by simp [Value.ownBlock])
      have hK2 := am (Kept.setCell (Kept.setCell HK.out (p := ⟨g, x5.toNat * 3, none⟩) (.inl hPg) (.int .i64 (mm : Int))) (p := ⟨g, x5.toNat * 3 + 1, none⟩) (.inl hPg) (.int .i64 (wrap64 ((mm : Int) + 1))))
      have hB2 := am (show Below w0.heap.size w0 ((wr.setCell ⟨g, x5.toNat * 3, none⟩ (.int .i64 (mm : Int))).setCell ⟨g, x5.toNat * 3 + 1, none⟩ (.int .i64 (wrap64 ((mm : Int) + 1)))) from below_set (below_set HB.out hgb) hgb)
      have hOK := am hoki
      have HKK := am hkk
      clear hcl hcc hfr hH hM ge2 hoki hkk hlen hgc hPg
      replace hp := eq_true hp
      replace hi := eq_true hi
      go_wp2_with fail
      refine (laws_markStringS.calls kk oki v2 (xs.getD x5.toNat z106).f2 _ _ _ w0 _ hB2.out hR2.out HKK.out).mono ?_
      rintro e w4 ⟨rfl, hR4, hB4, hK4⟩
      have HS4 := am (show Kd.S k106 106 w4 w0.heap.size P (.slice (some ⟨g, 0, none⟩) l.length c) (xs.set x5.toNat (mkH (xs.getD x5.toNat z106) mm)) from
        Kd.H_back (okp := oki) (Kd.H_step hsg.out (fun k hk hn hlt => hK4.2 k hlt hn)) (k106_mkM w4 w0.heap.size oki (mkH (xs.getD x5.toNat z106) mm) (Kd.R_flat (fun h => h) hR4 (fun k hk _ => hR2.out.1 k hk))) (fun _ h => h))
      have HK4 := am (Kept.then_ hK2.out hK4 (fun k hk => .inl (hOK.out k hk).1))
      have HB4 := am hB4
      clear hR4 hB4 hK4 hsg hR2 hK2 hB2 HO HK HB hx0 hx1 hx2 hf0 hf1
      go_wp2
      go_roundg k1
      case measure => omega
      case rel => exact ⟨_, _, mm2, rfl, rfl, HN, HS4, HK4, HB4⟩
    · have hc : decide (x5 < (l.length : Int)) = false := decide_eq_false hi
      obtain ⟨rfl, rfl⟩ := HF.out.last hi
      go_wp2
      trace_state
      go_ret
      exact ⟨rfl, HO.out, HB.out, HK.out⟩
end Go.Proofs.Ytmcldkobejhaeaa.My
namespace Go.Proofs.Ytmcldkobejhaeaa.Pl
open Go.RowKit Go.Proofs.YtmcldkobejhaeaaW.PrintWords Go.Proofs.YtmcldkobejhaeaaW.PrintLast Go.Proofs.Ytmcldkobejhaeaa.My
set_option linter.unusedVariables false
set_option linter.unusedSimpArgs false
theorem heldStringS_l0 (n m : Nat) (hn : n ≤ 1099511627776) (hm : m ≤ 1099511627776) : ∀ d i, i + d = n → Ev (fun k => laws_heldStringS.l0 k (marks m n) ((m + i : Nat) : Int) (i : Int)) ((m + n : Nat) : Int) := by
  intro d
  induction d with
  | zero =>
    intro i hi
    refine Ev.step (fun k => laws_heldStringS.l0.eq_2 ..) (ev_neg (by rw [marks_length]; omega) (ev_some ?_))
    rw [show i = n from by omega]
  | succ d ih =>
    intro i hi
    refine Ev.step (fun k => laws_heldStringS.l0.eq_2 ..) (ev_pos (by rw [marks_length]; omega) (ev_pos (by omega) (ev_bind (mark_ev (m + i) (by omega)) (ev_pos ?_ ?_))))
    · rw [rdOf_lt _ _ _ (by rw [marks_length]; omega), marks_get m n i (by omega)]
    · rw [wrap_succ i (by omega), wrap_succ (m + i) (by omega)]
      exact ih (i + 1) (by omega)
theorem heldStringS_ev (m n : Nat) (hn : n ≤ 1099511627776) (hm : m ≤ 1099511627776) : Ev (fun k => laws_heldStringS.f k (marks m n) (m : Int)) ((m + n : Nat) : Int) := by
  simp only [laws_heldStringS.f]
  exact heldStringS_l0 n m hn hm n 0 (by omega)
end Go.Proofs.Ytmcldkobejhaeaa.Pl
namespace Go.Proofs.Ytmcldkobejhaeaa.My
open Go.RowKit Go.Proofs.YtmcldkobejhaeaaW.PrintWords Go.Proofs.YtmcldkobejhaeaaW.PrintLast Go.Proofs.YtmcldkobejhaeaaW.PrintMore
attribute [local go_sem] max2_int min2_int max_two min_two max_three min_three max_four min_four
set_option linter.unusedVariables false
set_option linter.unusedSimpArgs false
def laws_markRowS.l0 : Nat → List (S140) → Int → Int → Option (Int × (List (S140)))
 | 0, _, _, _ => none
 | k + 1, x0, x1, x5 => if x5 < (x0.length : Int) then (if 0 ≤ x5 then ((some (x0.set (x5 : Int).toNat (⟨x1, (T140 x0 x5).f1⟩ : S140) : List (S140))).bind fun y318 => ((laws_markText.f k (wrap64 (x1 + 1))).bind fun t319 => (laws_markRowS.l0 k (y318.set (x5 : Int).toNat (⟨(T140 y318 x5).f0, t319⟩ : S140)) (wrap64 ((wrap64 (x1 + 1)) + 1)) (wrap64 (x5 + 1))))) else (none)) else (some (x1, x0))
def laws_markRowS.f (k : Nat) (l0 : List (S140)) (a1 : Int) : Option (Int × (List (S140))) := laws_markRowS.l0 k l0 a1 0
set_option maxHeartbeats 8000000 in
set_option maxRecDepth 100000 in
theorem laws_markRowS.calls (k : Nat) (P0_ : Nat → Prop) (u9000_ : Value) (l0 : List (S140)) (a1 : Int) (r1 : Int) (r2 : List (S140)) (w0 w : World) (hB : Below w0.heap.size w0 w) (ho0 : Kd.R k140 140 w w0.heap.size P0_ u9000_ l0) (h : laws_markRowS.f k l0 a1 = some (r1, r2)) :
  Calls Try.prog 104 #[u9000_, .int .i64 a1] w fun e w' => e = .returned (.int .i64 r1) ∧ Kd.R k140 140 w' w0.heap.size (fun k_ => (P0_ k_ ∨ w.heap.size ≤ k_)) u9000_ r2 ∧ Below w0.heap.size w0 w' ∧ Kept w w' (fun k_ => P0_ k_) := by
 have HO0 := am (show Kd.R k140 140 w w0.heap.size (fun k_ => (P0_ k_ ∨ w.heap.size ≤ k_)) u9000_ l0 from Kd.R_mono ho0 (fun k_ hk => (.inl hk)))
 have HK := am (Kept.refl w (fun k_ => P0_ k_))
 have HW0 := am hB.size
 have HB := am hB
 clear hB
 have H := h
 clear h
 unfold laws_markRowS.f at H
 have H' := am H
 clear H
 go_enter Try.func104, Try.ntmps104
 go_wp2
 go_loopg [1, 5] k (fun kq v1 v5 w' => ∃ (x0_1 : List (S140)) (x1_1 : Int) (x5_1 : Int), v1 = .int .i64 x1_1 ∧ v5 = .int .i64 x5_1 ∧ Aside0 (laws_markRowS.l0 kq x0_1 x1_1 x5_1 = some (r1, r2)) ∧ Aside0 (kq ≤ k) ∧ Aside0 (Kd.R k140 140 w' w0.heap.size (fun k_ => (P0_ k_ ∨ w.heap.size ≤ k_)) u9000_ x0_1) ∧ Aside0 (Kept w w' (fun k_ => P0_ k_)) ∧ Aside0 (Below w0.heap.size w0 w'))
 case atStart => exact ⟨(l0), (a1), (0), zf, zf, H', ⟨Nat.le_refl _⟩, ⟨zr HO0.out⟩, ⟨by repeat (first | (with_reducible first | exact HK.out | apply Kept.alloc | apply Kept.drewN | apply Kept.drew) | exact HK.out)⟩, ⟨zb⟩⟩
 case round =>
  clear H'
  try clear c1
  try clear p2
  obtain ⟨x0_1, x1_1, x5_1, rfl, rfl, HA, HK1, HO_0, HK, HB⟩ := hrel
  cases gk with
  | zero => exact absurd HA.out (by simp [laws_markRowS.l0])
  | succ k1 =>
   have H := HA.out
   clear HA
   simp only [laws_markRowS.l0] at H
   by_cases c3 : x5_1 < (x0_1.length : Int)
   ·rw [if_pos c3] at H
    have c3b0 : decide (x5_1 < (x0_1.length : Int)) = true := decide_eq_true c3
    clear c3
    obtain ⟨c4, H⟩ := itn H
    have c4b0 := decide_eq_true c4
    clear c4
    obtain ⟨y318, hy318⟩ : ∃ y_ : List (S140), y_ = (x0_1.set (x5_1 : Int).toNat (⟨x1_1, (T140 x0_1 x5_1).f1⟩ : S140)) := ⟨_, rfl⟩
    replace H : ((laws_markText.f k1 (wrap64 (x1_1 + 1))).bind fun t319 => (laws_markRowS.l0 k1 (y318.set (x5_1 : Int).toNat (⟨(T140 y318 x5_1).f0, t319⟩ : S140)) (wrap64 ((wrap64 (x1_1 + 1)) + 1)) (wrap64 (x5_1 + 1)))) = some (r1, r2) := by first | (rw [hy318]; with_reducible exact H) | (have H2_ := (Option.bind_some _ _).symm.trans H; rw [hy318]; with_reducible exact H2_) | (have H2_ := (Option.bind_some _ _).symm.trans H; with_reducible exact H2_) | with_reducible exact H | (rw [hy318]; exact H) | exact H
    have Ny318 := am hy318
    clear hy318
    replace H := Option.bind_eq_some_iff.mp H
    obtain ⟨t319, A60, H⟩ := H
    replace H : (laws_markRowS.l0 k1 (y318.set (x5_1 : Int).toNat (⟨(T140 y318 x5_1).f0, t319⟩ : S140)) (wrap64 ((wrap64 (x1_1 + 1)) + 1)) (wrap64 (x5_1 + 1))) = some (r1, r2) := H
    have A6 := am A60
    clear A60
    obtain ⟨y320, hy320⟩ : ∃ y_ : List (S140), y_ = (y318.set (x5_1 : Int).toNat (⟨(T140 y318 x5_1).f0, t319⟩ : S140)) := ⟨_, rfl⟩
    replace H : (laws_markRowS.l0 k1 y320 (wrap64 ((wrap64 (x1_1 + 1)) + 1)) (wrap64 (x5_1 + 1))) = some (r1, r2) := by first | (rw [hy320]; with_reducible exact H) | (have H2_ := (Option.bind_some _ _).symm.trans H; rw [hy320]; with_reducible exact H2_) | (have H2_ := (Option.bind_some _ _).symm.trans H; with_reducible exact H2_) | with_reducible exact H | (rw [hy320]; exact H) | exact H
    have Ny320 := am hy320
    clear hy320
    have H' := am H
    clear H
    obtain ⟨Ao8, co8, eo8⟩ := Kd.R_slice HO_0.out
    subst eo8
    have p5 : 0 ≤ (x5_1 : Int) := oa
    have q5 : (x5_1 : Int) < ((x0_1.length : Int) : Int) := oa
    obtain ⟨go5, co5, eo5, gb5, gl5, cl5, HG5⟩ := Kd.R_form HO_0.out (by omega)
    (first | cases eo5 | (injection eo5 with ea_ en_ ec_; (first | subst ea_ | (injection ea_ with ea_; subst ea_)); subst ec_; clear en_))
    have GB5 := am gb5
    have GG5 := am HG5
    clear gb5 gl5 HG5
    have HMgo5 := am (show (P0_ go5 ∨ w.heap.size ≤ go5) from (HO_0.out.1 _ rfl))
    obtain ⟨ce5, hcl5, hM5, hcc5, hfr5⟩ := Kd.R_elem HO_0.out z140 (x5_1 : Int) p5 q5
    obtain rfl := k140_openM hM5
    have hx5_0 : wr.cell? ⟨go5, (x5_1 : Int).toNat * 2, none⟩ = some (.int .i64 ((T140 x0_1 x5_1).f0)) := hcc5 0 _ rfl
    have hx5_1 : wr.cell? ⟨go5, (x5_1 : Int).toNat * 2 + 1, none⟩ = some (.string ((T140 x0_1 x5_1).f1)) := hcc5 1 _ rfl
    have hf5_0 : wr.frozen? ⟨go5, (x5_1 : Int).toNat * 2, none⟩ = false := hfr5 0
    have hf5_1 : wr.frozen? ⟨go5, (x5_1 : Int).toNat * 2 + 1, none⟩ = false := hfr5 1
    clear hcl5 hcc5 hfr5; (try clear hM5)
    replace p5 := eq_true p5
    replace q5 := eq_true q5
    have HX9 := am (show Kd.R k140 140 wr w0.heap.size (fun k_ => (P0_ k_ ∨ w.heap.size ≤ k_)) (.slice (some ⟨go5, 0, none⟩) x0_1.length co8) x0_1 from (zr HO_0.out))
    obtain ⟨ce9, hcl9, hM9, hcc9, hfr9⟩ := Kd.R_elem HX9.out z140 (x5_1 : Int) oa (by have h_ : (x5_1 : Int) < ((x0_1.length : Int) : Int) := oa; first | exact h_ | (have e_ := (Kd.R_reads' HO_0.out).1; omega) | simpa using h_)
    obtain rfl := k140_openM hM9
    have HP9 := Kd.R_seg HX9.out (x5_1 : Int) oa (by have h_ : (x5_1 : Int) < ((x0_1.length : Int) : Int) := oa; first | exact h_ | (have e_ := (Kd.R_reads' HO_0.out).1; omega) | simpa using h_) (seg := [.int .i64 x1_1]) (j := 0) hcl9 hcc9 (show 1 ≤ 2 from by decide) (x' := (⟨x1_1, (T140 x0_1 x5_1).f1⟩ : S140)) (k140_mkM _ _ _ (⟨x1_1, (T140 x0_1 x5_1).f1⟩ : S140) ) (fun _ hk => hk)
    have hx9_0 := hcc9 0 _ rfl
    (try simp only [show (k140).sz = 2 from rfl, Nat.mul_one, Nat.add_zero] at hx9_0)
    have hf9_0 := hfr9 0
    (try simp only [show (k140).sz = 2 from rfl, Nat.mul_one, Nat.add_zero] at hf9_0)
    clear hcl9 hcc9 hfr9; (try clear hM9)
    go_wp2_with (first | ((with_reducible refine gate_store (t := 3) (p := 16) rfl ?_); refine store_event (t := 3) (p := 16) (v := ?vo_w10) (w1 := (wr.setCell ⟨go5, (x5_1 : Int).toNat * 2, none⟩ (.int .i64 x1_1))) ?hg ?ho ?hn ?hr ?_; (case ho => rfl); (case hg => rfl); (case hn => rfl); (case hr => first | (go_simp; done) | (go_simp; rfl)); intro w10 hw; have hg : wr.grownBy w10 (some go5) := (by rw [hw]; exact HP9.2); have hp_ : Kd.R k140 140 w10 w0.heap.size (fun k_ => (P0_ k_ ∨ w.heap.size ≤ k_)) (.slice (some ⟨go5, 0, none⟩) x0_1.length co8) y318 := (by rw [hw, Ny318.out]; exact HP9.1); clear HP9; replace HB := am ((by rw [hw]; exact below_set (HB.out) GB5.out : Below w0.heap.size w0 w10)); replace HK := am (Kept.of_grown (S := (fun k_ => P0_ k_)) hg (by repeat (first | (with_reducible first | exact HK.out | apply Kept.alloc | apply Kept.drewN | apply Kept.drew) | exact HK.out)) (fun k_ e_ => (HO_0.out.1 k_ e_))); replace HO_0 := am (hp_); clear hg hw hp_) | ((with_reducible refine gateC (f := 103) rfl ?_); refine goesL_ (some 22) rfl rfl Try.func103 (by kernel_rfl) rfl #[.int .i64 (wrap64 (x1_1 + 1))] rfl zm ?_; (with_reducible refine (laws_markText.calls k1 (wrap64 (x1_1 + 1)) t319 _ A6.out).mono ?_); rintro e w11 ⟨rfl, hb⟩; refine ⟨_, rfl, ?_⟩; replace HO_0 := am (Kd.R_below (zr HO_0.out) hb); replace HK := am (Kept.below (S := (fun k_ => P0_ k_)) (by repeat (first | (with_reducible first | exact HK.out | apply Kept.alloc | apply Kept.drewN | apply Kept.drew) | exact HK.out)) hb); replace HB := am (below_step zb hb); (try clear hb); have p7 : 0 ≤ (x5_1 : Int) := oa; have q7 : (x5_1 : Int) < ((x0_1.length : Int) : Int) := oa; obtain ⟨ce7, hcl7, hM7, hcc7, hfr7⟩ := Kd.R_elem HO_0.out z140 (x5_1 : Int) p7 q7; obtain rfl := k140_openM hM7; have hx7_0 : w11.cell? ⟨go5, (x5_1 : Int).toNat * 2, none⟩ = some (.int .i64 ((T140 y318 x5_1).f0)) := hcc7 0 _ rfl; have hx7_1 : w11.cell? ⟨go5, (x5_1 : Int).toNat * 2 + 1, none⟩ = some (.string ((T140 y318 x5_1).f1)) := hcc7 1 _ rfl; have hf7_0 : w11.frozen? ⟨go5, (x5_1 : Int).toNat * 2, none⟩ = false := hfr7 0; have hf7_1 : w11.frozen? ⟨go5, (x5_1 : Int).toNat * 2 + 1, none⟩ = false := hfr7 1; clear hcl7 hcc7 hfr7; (try clear hM7); replace p7 := eq_true p7; replace q7 := eq_true q7; have HX12 := am (show Kd.R k140 140 w11 w0.heap.size (fun k_ => (P0_ k_ ∨ w.heap.size ≤ k_)) (.slice (some ⟨go5, 0, none⟩) x0_1.length co8) y318 from (zr HO_0.out)); obtain ⟨ce12, hcl12, hM12, hcc12, hfr12⟩ := Kd.R_elem HX12.out z140 (x5_1 : Int) oa (by have h_ : (x5_1 : Int) < ((x0_1.length : Int) : Int) := oa; first | exact h_ | (have e_ := (Kd.R_reads' HO_0.out).1; omega) | simpa using h_); obtain rfl := k140_openM hM12; have HP12 := Kd.R_seg HX12.out (x5_1 : Int) oa (by have h_ : (x5_1 : Int) < ((x0_1.length : Int) : Int) := oa; first | exact h_ | (have e_ := (Kd.R_reads' HO_0.out).1; omega) | simpa using h_) (seg := [.string t319]) (j := 1) hcl12 hcc12 (show 2 ≤ 2 from by decide) (x' := (⟨(T140 y318 x5_1).f0, t319⟩ : S140)) (k140_mkM _ _ _ (⟨(T140 y318 x5_1).f0, t319⟩ : S140) ) (fun _ hk => hk); have hx12_1 := hcc12 1 _ rfl; (try simp only [show (k140).sz = 2 from rfl, Nat.mul_one, Nat.add_zero] at hx12_1); have hf12_1 := hfr12 1; (try simp only [show (k140).sz = 2 from rfl, Nat.mul_one, Nat.add_zero] at hf12_1); clear hcl12 hcc12 hfr12; (try clear hM12)) | ((with_reducible refine gate_store (t := 9) (p := 24) rfl ?_); refine store_event (t := 9) (p := 24) (v := ?vo_w13) (w1 := (w11.setCell ⟨go5, (x5_1 : Int).toNat * 2 + 1, none⟩ (.string t319))) ?hg ?ho ?hn ?hr ?_; (case ho => rfl); (case hg => rfl); (case hn => rfl); (case hr => first | (go_simp; done) | (go_simp; rfl)); intro w13 hw; have hg : w11.grownBy w13 (some go5) := (by rw [hw]; exact HP12.2); have hp_ : Kd.R k140 140 w13 w0.heap.size (fun k_ => (P0_ k_ ∨ w.heap.size ≤ k_)) (.slice (some ⟨go5, 0, none⟩) x0_1.length co8) y320 := (by rw [hw, Ny320.out]; exact HP12.1); clear HP12; replace HB := am ((by rw [hw]; exact below_set (HB.out) GB5.out : Below w0.heap.size w0 w13)); replace HK := am (Kept.of_grown (S := (fun k_ => P0_ k_)) hg (by repeat (first | (with_reducible first | exact HK.out | apply Kept.alloc | apply Kept.drewN | apply Kept.drew) | exact HK.out)) (fun k_ e_ => (HO_0.out.1 k_ e_))); replace HO_0 := am (hp_); clear hg hw hp_))
    go_roundg k1
    case measure => have := HK1.out; omega
    case rel => exact ⟨(y320), (wrap64 ((wrap64 (x1_1 + 1)) + 1)), (wrap64 (x5_1 + 1)), zf, zf, H', ⟨by have := HK1.out; omega⟩, ⟨zr HO_0.out⟩, ⟨by repeat (first | (with_reducible first | exact HK.out | apply Kept.alloc | apply Kept.drewN | apply Kept.drew) | exact HK.out)⟩, ⟨zb⟩⟩
   ·rw [if_neg c3] at H
    have c3b0 : decide (x5_1 < (x0_1.length : Int)) = false := decide_eq_false c3
    clear c3
    simp only [Option.some.injEq, Prod.mk.injEq] at H
    obtain ⟨rfl, rfl⟩ := H
    obtain ⟨Ao14, co14, eo14⟩ := Kd.R_slice HO_0.out
    subst eo14
    go_wp2
    go_ret
    exact ⟨by first | rfl | (simp [errW_none, errW_some] <;> rfl) | (simp [*, errW_none, errW_some] <;> rfl), zr HO_0.out, zb, by repeat (first | (with_reducible first | exact HK.out | apply Kept.alloc | apply Kept.drewN | apply Kept.drew) | exact HK.out)⟩
end Go.Proofs.Ytmcldkobejhaeaa.My
namespace Go.Proofs.Ytmcldkobejhaeaa.Pl
open Go.RowKit Go.Proofs.YtmcldkobejhaeaaW.PrintWords Go.Proofs.YtmcldkobejhaeaaW.PrintLast Go.Proofs.Ytmcldkobejhaeaa.My
set_option linter.unusedVariables false
set_option linter.unusedSimpArgs false
noncomputable def mkRs (m n : Nat) : List IR := (List.range n).map fun i => (⟨((m + 2 * i : Nat) : Int), mark (m + 2 * i + 1)⟩ : IR)
theorem mkRs_length (m n : Nat) : (mkRs m n).length = n := by simp [mkRs]
theorem mkRs_get (m n i : Nat) (h : i < n) : (mkRs m n)[i]'(by rw [mkRs_length]; exact h) = (⟨((m + 2 * i : Nat) : Int), mark (m + 2 * i + 1)⟩ : IR) := by simp [mkRs]
theorem mk_bd (m n i q d : Nat) (hq : q = m + 2 * i) (hi : i + (d + 1) = n) (hn : n ≤ 1099511627776) (hm : m ≤ 1099511627776) : q < 9223372036854775807 ∧ q + 1 < 9223372036854775807 ∧ q + 1 ≤ 4611686018427387904 ∧ i < 9223372036854775807 ∧ i < n ∧ q + 1 + 1 = m + 2 * (i + 1) := by omega
theorem markRowS_l0 (n m : Nat) (hn : n ≤ 1099511627776) (hm : m ≤ 1099511627776) : ∀ d i q (o : List IR), q = m + 2 * i → i + d = n → o.length = n → o.take i = (mkRs m n).take i →
    Ev (fun k => laws_markRowS.l0 k o (q : Int) (i : Int)) (((m + 2 * n : Nat) : Int), mkRs m n) := by
  intro d
  induction d with
  | zero =>
    intro i q o hq hi hl ht
    refine Ev.step (fun k => laws_markRowS.l0.eq_2 ..) (ev_neg (by omega) (ev_some ?_))
    rw [List.take_of_length_le (by omega), List.take_of_length_le (by rw [mkRs_length]; omega)] at ht
    rw [ht, hq, show i = n from by omega]
  | succ d ih =>
    intro i q o hq hi hl ht
    obtain ⟨b1, b2, b3, b4, b5, b6⟩ := mk_bd m n i q d hq hi hn hm
    refine Ev.step (fun k => laws_markRowS.l0.eq_2 ..) (ev_pos (by omega) (ev_pos (by omega) (ev_bind (ev_some rfl) ?_)))
    rw [wrap_succ q b1, wrap_succ (q + 1) b2, wrap_succ i b4, Int.toNat_natCast]
    rw [rdIR o i (by omega)]
    refine ev_bind (mark_ev (q + 1) b3) ?_
    rw [rdIR (o.set i _) i (by rw [List.length_set]; omega), List.getElem_set_self, List.set_set]
    refine ih (i + 1) _ _ b6 (by omega) (by rw [List.length_set]; exact hl) ?_
    rw [List.take_succ_eq_append_getElem (by rw [List.length_set]; omega), List.take_succ_eq_append_getElem (by rw [mkRs_length]; omega), List.getElem_set_self, List.take_set_of_le (Nat.le_refl i), ht, mkRs_get m n i b5, hq]
theorem markRowS_ev (l : List IR) (m : Nat) (hn : l.length ≤ 1099511627776) (hm : m ≤ 1099511627776) : Ev (fun k => laws_markRowS.f k l (m : Int)) (((m + 2 * l.length : Nat) : Int), mkRs m l.length) := by
  simp only [laws_markRowS.f]
  exact markRowS_l0 l.length m hn hm l.length 0 m l (by omega) (by omega) rfl rfl
end Go.Proofs.Ytmcldkobejhaeaa.Pl
namespace Go.Proofs.Ytmcldkobejhaeaa.My
open Go.RowKit Go.Proofs.YtmcldkobejhaeaaW.PrintWords Go.Proofs.YtmcldkobejhaeaaW.PrintLast Go.Proofs.YtmcldkobejhaeaaW.PrintMore Go.Proofs.Ytmcldkobejhaeaa.Pl
set_option linter.unusedVariables false
set_option linter.unusedSimpArgs false
noncomputable def mkG (x : IG) (m : Nat) : IG := ⟨(m : Int), wrap64 ((m : Int) + 1), mkRs (m + 2) x.f2.length⟩
noncomputable def mkGs : List IG → Nat → List IG
  | [], _ => []
  | x :: t, m => mkG x m :: mkGs t (m + 2 + 2 * x.f2.length)
def endG : List IG → Nat → Nat
  | [], m => m
  | x :: t, m => endG t (m + 2 + 2 * x.f2.length)
theorem endG_ge : ∀ (l : List IG) (m : Nat), m ≤ endG l m
  | [], _ => Nat.le_refl _
  | x :: t, m => by have := endG_ge t (m + 2 + 2 * x.f2.length); simp only [endG]; omega
theorem mkG_step {l xs : List IG} {m mm i : Nat} (h : i < xs.length) (h1 : endG (xs.drop i) mm = endG l m) (h2 : xs.take i ++ mkGs (xs.drop i) mm = mkGs l m) :
    mm + 2 + 2 * xs[i].f2.length ≤ endG l m ∧ endG ((xs.set i (mkG xs[i] mm)).drop (i + 1)) (mm + 2 + 2 * xs[i].f2.length) = endG l m ∧ (xs.set i (mkG xs[i] mm)).take (i + 1) ++ mkGs ((xs.set i (mkG xs[i] mm)).drop (i + 1)) (mm + 2 + 2 * xs[i].f2.length) = mkGs l m := by
  rw [List.drop_eq_getElem_cons h] at h1 h2
  simp only [endG, mkGs] at h1 h2
  have := endG_ge (xs.drop (i + 1)) (mm + 2 + 2 * xs[i].f2.length)
  rw [List.drop_set_of_lt (by omega), List.take_succ_eq_append_getElem (by rw [List.length_set]; exact h), List.getElem_set_self, List.take_set_of_le (Nat.le_refl i), List.append_assoc]
  exact ⟨by omega, h1, h2⟩
def MgInv (l : List IG) (m : Nat) (xs : List IG) (x5 : Int) (mm kq : Nat) : Prop := 0 ≤ x5 ∧ x5.toNat + kq = l.length ∧ xs.length = l.length ∧ endG (xs.drop x5.toNat) mm = endG l m ∧ xs.take x5.toNat ++ mkGs (xs.drop x5.toNat) mm = mkGs l m
theorem MgInv.start (l : List IG) (m : Nat) : MgInv l m l 0 m l.length := ⟨by omega, by simp, rfl, rfl, rfl⟩
theorem wrG2 (mm n E : Nat) (h : mm + 2 + 2 * n ≤ E) (hE : E ≤ 1099511627776) : wrap64 (wrap64 ((mm : Int) + 1) + 1) = ((mm + 2 : Nat) : Int) := by rw [wrap_succ mm (by omega), wrap_succ (mm + 1) (by omega)]
theorem leG_a (a n E : Nat) (h : a + 2 * n ≤ E) (hE : E ≤ 1099511627776) : n ≤ 1099511627776 := by omega
theorem leG_b (a n E : Nat) (h : a + 2 * n ≤ E) (hE : E ≤ 1099511627776) : a ≤ 1099511627776 := by omega
theorem MgInv.step {l xs : List IG} {m mm kq : Nat} {x5 : Int} (h : MgInv l m xs x5 mm kq) (hm : endG l m ≤ 1099511627776) (hL : l.length ≤ 1099511627776) (hi : x5 < (l.length : Int)) :
    ∃ k1, kq = k1 + 1 ∧ ∃ kk mm2, laws_markRowS.f kk (xs.getD x5.toNat z73).f2 (wrap64 (wrap64 ((mm : Int) + 1) + 1)) = some (((mm2 : Nat) : Int), mkRs (mm + 2) (xs.getD x5.toNat z73).f2.length) ∧ MgInv l m (xs.set x5.toNat (mkG (xs.getD x5.toNat z73) mm)) (wrap64 (x5 + 1)) mm2 k1 := by
  obtain ⟨h0, h1, h2, h3, h4⟩ := h
  have hxi : x5.toNat < xs.length := by omega
  have hgx : xs.getD x5.toNat z73 = xs[x5.toNat] := by rw [List.getD_eq_getElem?_getD, List.getElem?_eq_getElem hxi]; rfl
  obtain ⟨q1, q2, q3⟩ := mkG_step hxi h3 h4
  have ew := wrG2 mm _ _ q1 hm
  obtain ⟨kk, hkk⟩ := markRowS_ev xs[x5.toNat].f2 (mm + 2) (leG_a _ _ _ q1 hm) (leG_b _ _ _ q1 hm)
  rw [hgx, ew]
  refine ⟨kq - 1, by omega, kk, _, hkk kk (Nat.le_refl _), ?_⟩
  have e5 : wrap64 (x5 + 1) = x5 + 1 := wrap64_id (by omega) (by omega)
  have e6 : (x5 + 1).toNat = x5.toNat + 1 := by omega
  rw [e5]
  refine ⟨by omega, by omega, by rw [List.length_set]; exact h2, ?_, ?_⟩
  · rw [e6]; exact q2
  · rw [e6]; exact q3
theorem MgInv.last {l xs : List IG} {m mm kq : Nat} {x5 : Int} (h : MgInv l m xs x5 mm kq) (hi : ¬ x5 < (l.length : Int)) : mm = endG l m ∧ xs = mkGs l m := by
  obtain ⟨h0, h1, h2, h3, h4⟩ := h
  rw [List.drop_of_length_le (by omega)] at h3 h4
  rw [List.take_of_length_le (by omega)] at h4
  simp only [mkGs, endG, List.append_nil] at h3 h4
  exact ⟨h3, h4⟩
theorem MgInv.len {l xs : List IG} {m mm kq : Nat} {x5 : Int} (h : MgInv l m xs x5 mm kq) : 0 ≤ x5 ∧ xs.length = l.length := ⟨h.1, h.2.2.1⟩
set_option maxHeartbeats 8000000 in
set_option maxRecDepth 100000 in
theorem laws_markGroupS_made (P : Nat → Prop) (u : Value) (l : List IG) (m : Nat) (w0 w : World) (hm : endG l m ≤ 1099511627776) (hL : l.length ≤ 1099511627776) (hB : Below w0.heap.size w0 w) (ho : Kd.S k73 73 w w0.heap.size P u l) :
    Calls Try.prog 48 #[u, .int .i64 (m : Int)] w fun e w' => e = .returned (.int .i64 ((endG l m : Nat) : Int)) ∧ Kd.S k73 73 w' w0.heap.size P u (mkGs l m) ∧ Below w0.heap.size w0 w' ∧ Kept w w' P := by
  obtain ⟨A, c, rfl⟩ := Kd.S_slice ho
  have HM := am hm
  have HL := am hL
  have HO := am ho
  have HB := am hB
  clear hm hL ho hB
  go_enter Try.func48, Try.ntmps48
  go_wp2
  go_loopg [1, 5] l.length (fun kq v1 v5 w' => ∃ (xs : List IG) (x5 : Int) (mm : Nat), v1 = .int .i64 (mm : Int) ∧ v5 = .int .i64 x5 ∧ Aside0 (MgInv l m xs x5 mm kq) ∧ Aside0 (Kd.S k73 73 w' w0.heap.size P (.slice A l.length c) xs) ∧ Aside0 (Kept w w' P) ∧ Aside0 (Below w0.heap.size w0 w'))
  case atStart => exact ⟨l, 0, m, rfl, rfl, ⟨MgInv.start l m⟩, HO, ⟨Kept.refl _ _⟩, HB⟩
  case round =>
    clear HO HB
    obtain ⟨xs, x5, mm, rfl, rfl, HF, HO, HK, HB⟩ := hrel
    by_cases hi : x5 < (l.length : Int)
    · obtain ⟨k1, rfl, kk, mm2, hkk, hnext⟩ := HF.out.step HM.out HL.out hi
      have HN := am hnext
      have hlen := HF.out.len
      clear HF hnext
      have hc : decide (x5 < (l.length : Int)) = true := decide_eq_true hi
      have hp := hlen.1
      have hxp : 0 < xs.length := by omega
      obtain ⟨g, cap, eg, hgb, hgl, hgc⟩ := Kd.S_form HO.out hxp
      injection eg with ea en ec
      clear en
      subst ea
      subst ec
      obtain ⟨oki, ce, hcl, hM, hcc, hfr, hoki, hH⟩ := Kd.S_elem HO.out z73 x5 hp hi
      obtain ⟨v2, rfl, ge2⟩ := k73_openM hM
      have hx0 := hcc 0 _ rfl
      have hx1 := hcc 1 _ rfl
      have hx2 := hcc 2 _ rfl
      have hf0 := hfr 0
      have hf1 := hfr 1
      simp only [show (k73).sz = 3 from rfl, Nat.add_zero] at hx0 hx1 hx2 hf0 hf1
      have hsg := am (Kd.H_seg hH hp hi (seg := [.int .i64 (mm : Int), .int .i64 (wrap64 ((mm : Int) + 1))]) (j := 0) (show 2 ≤ 3 from by decide) (by intro q hq; simp only [List.mem_cons, List.not_mem_nil, or_false] at hq; rcases hq with rfl | rfl <;> rfl)).1
      have hR2 := am (Kd.R_far (p := ⟨g, x5.toNat * 3 + 1, none⟩) (Kd.R_far (p := ⟨g, x5.toNat * 3, none⟩) ge2 (fun k hk => (hoki k hk).2) (.int .i64 (mm : Int))) (fun k hk => (hoki k hk).2) (.int .i64 (wrap64 ((mm : Int) + 1))))
      have hPg : P g := (Kd.S_R HO.out).1 g (by simp [Value.ownBlock])
      have hK2 := am (Kept.setCell (Kept.setCell HK.out (p := ⟨g, x5.toNat * 3, none⟩) (.inl hPg) (.int .i64 (mm : Int))) (p := ⟨g, x5.toNat * 3 + 1, none⟩) (.inl hPg) (.int .i64 (wrap64 ((mm : Int) + 1))))
      have hB2 := am (show Below w0.heap.size w0 ((wr.setCell ⟨g, x5.toNat * 3, none⟩ (.int .i64 (mm : Int))).setCell ⟨g, x5.toNat * 3 + 1, none⟩ (.int .i64 (wrap64 ((mm : Int) + 1)))) from below_set (below_set HB.out hgb) hgb)
      have hOK := am hoki
      have HKK := am hkk
      clear hcl hcc hfr hH hM ge2 hoki hkk hlen hgc hPg
      replace hp := eq_true hp
      replace hi := eq_true hi
      go_wp2_with fail
      refine (laws_markRowS.calls kk oki v2 (xs.getD x5.toNat z73).f2 _ _ _ w0 _ hB2.out hR2.out HKK.out).mono ?_
      rintro e w4 ⟨rfl, hR4, hB4, hK4⟩
      have HS4 := am (show Kd.S k73 73 w4 w0.heap.size P (.slice (some ⟨g, 0, none⟩) l.length c) (xs.set x5.toNat (mkG (xs.getD x5.toNat z73) mm)) from
        Kd.H_back (okp := oki) (Kd.H_step hsg.out (fun k hk hn hlt => hK4.2 k hlt hn)) (k73_mkM w4 w0.heap.size oki (mkG (xs.getD x5.toNat z73) mm) (Kd.R_flat (fun h => h) hR4 (fun k hk _ => hR2.out.1 k hk))) (fun _ h => h))
      have HK4 := am (Kept.then_ hK2.out hK4 (fun k hk => .inl (hOK.out k hk).1))
      have HB4 := am hB4
      clear hR4 hB4 hK4 hsg hR2 hK2 hB2 HO HK HB hx0 hx1 hx2 hf0 hf1
      go_wp2
      go_roundg k1
      case measure => omega
      case rel => exact ⟨_, _, mm2, rfl, rfl, HN, HS4, HK4, HB4⟩
    · have hc : decide (x5 < (l.length : Int)) = false := decide_eq_false hi
      obtain ⟨rfl, rfl⟩ := HF.out.last hi
      go_wp2
      go_ret
      exact ⟨rfl, HO.out, HB.out, HK.out⟩

set_option maxHeartbeats 4000000 in
set_option maxRecDepth 100000 in
theorem laws_FnExactGroupHunks_early0 (k : Nat) (A0 : Option Addr) (c0 : Nat) (l0 : List ByteArray) (A1 : Option Addr) (c1 : Nat) (l1 : List LG) (w : World) (hr0 : Kd.C Kd.string w A0 l0.length l0) (hc0 : l0.length ≤ c0) (hr1 : Kd.C k68 w A1 l1.length l1) (hc1 : l1.length ≤ c1)
    (s0 : Int) (es0 : laws_szStringS.f k l0 1048576 = some s0) (ns0 : s0 < 0) :
    Calls Try.prog 8 #[.slice A0 l0.length c0, .slice A1 l1.length c1] w fun e w' => e = .returned (.bool true) ∧ Below w.heap.size w w' := by
 have hr0_ := am hr0
 clear hr0
 have hr0 := hr0_
 clear hr0_
 have hc0_ := am hc0
 clear hc0
 have hc0 := hc0_
 clear hc0_
 have hr1_ := am hr1
 clear hr1
 have hr1 := hr1_
 clear hr1_
 have hc1_ := am hc1
 clear hc1
 have hc1 := hc1_
 clear hc1_
 have n0 : decide (s0 < 0) = true := decide_eq_true ns0
 clear ns0
 have es0_ := am es0
 clear es0
 have es0 := es0_
 clear es0_
 have HB := am (Below.refl w.heap.size w)
 go_enter Try.func8, Try.ntmps8
 go_wp2_with fail
 refine (laws_szStringS.calls k A0 c0 l0 1048576 s0 _ (Kd.C_below hr0.out HB.out) hc0.out es0.out).mono ?_
 rintro e w1 ⟨rfl, hb0⟩
 have hb : Below w.heap.size w w1 := by first | exact hb0 | (obtain ⟨nd_, e_⟩ := hb0; rw [e_]; exact pw_below_drewN (Below.refl _ _) nd_)
 clear hb0
 have HB_ := am (below_step HB.out hb)
 have Zw1 := am hb.size
 clear HB hb
 have HB := HB_
 clear HB_
 go_wp2
 go_ret
 exact ⟨rfl, HB.out⟩
set_option maxHeartbeats 4000000 in
set_option maxRecDepth 100000 in
theorem laws_FnExactGroupHunks_early1 (k : Nat) (A0 : Option Addr) (c0 : Nat) (l0 : List ByteArray) (A1 : Option Addr) (c1 : Nat) (l1 : List LG) (w : World) (hr0 : Kd.C Kd.string w A0 l0.length l0) (hc0 : l0.length ≤ c0) (hr1 : Kd.C k68 w A1 l1.length l1) (hc1 : l1.length ≤ c1)
    (s0 : Int) (es0 : laws_szStringS.f k l0 1048576 = some s0) (ns0 : ¬ s0 < 0)
    (s1 : Int) (es1 : laws_szGroupS.f k l1 s0 = some s1) (ns1 : s1 < 0) :
    Calls Try.prog 8 #[.slice A0 l0.length c0, .slice A1 l1.length c1] w fun e w' => e = .returned (.bool true) ∧ Below w.heap.size w w' := by
 have hr0_ := am hr0
 clear hr0
 have hr0 := hr0_
 clear hr0_
 have hc0_ := am hc0
 clear hc0
 have hc0 := hc0_
 clear hc0_
 have hr1_ := am hr1
 clear hr1
 have hr1 := hr1_
 clear hr1_
 have hc1_ := am hc1
 clear hc1
 have hc1 := hc1_
 clear hc1_
 have n0 : decide (s0 < 0) = false := decide_eq_false ns0
 clear ns0
 have es0_ := am es0
 clear es0
 have es0 := es0_
 clear es0_
 have n1 : decide (s1 < 0) = true := decide_eq_true ns1
 clear ns1
 have es1_ := am es1
 clear es1
 have es1 := es1_
 clear es1_
 have HB := am (Below.refl w.heap.size w)
 go_enter Try.func8, Try.ntmps8
 go_wp2_with fail
 refine (laws_szStringS.calls k A0 c0 l0 1048576 s0 _ (Kd.C_below hr0.out HB.out) hc0.out es0.out).mono ?_
 rintro e w1 ⟨rfl, hb0⟩
 have hb : Below w.heap.size w w1 := by first | exact hb0 | (obtain ⟨nd_, e_⟩ := hb0; rw [e_]; exact pw_below_drewN (Below.refl _ _) nd_)
 clear hb0
 have HB_ := am (below_step HB.out hb)
 have Zw1 := am hb.size
 clear HB hb
 have HB := HB_
 clear HB_
 go_wp2_with fail
 refine (laws_szGroupS.calls k A1 c1 l1 s0 s1 _ (Kd.C_below hr1.out HB.out) hc1.out es1.out).mono ?_
 rintro e w2 ⟨rfl, hb0⟩
 have hb : Below w1.heap.size w1 w2 := by first | exact hb0 | (obtain ⟨nd_, e_⟩ := hb0; rw [e_]; exact pw_below_drewN (Below.refl _ _) nd_)
 clear hb0
 have HB_ := am (below_step HB.out hb)
 have Zw2 := am hb.size
 clear HB hb
 have HB := HB_
 clear HB_
 go_wp2
 go_ret
 exact ⟨rfl, HB.out⟩
set_option maxHeartbeats 16000000 in
set_option maxRecDepth 100000 in
theorem laws_FnExactGroupHunks_true (k : Nat) (A0 : Option Addr) (c0 : Nat) (l0 : List ByteArray) (A1 : Option Addr) (c1 : Nat) (l1 : List LG) (w : World) (hr0 : Kd.C Kd.string w A0 l0.length l0) (hc0 : l0.length ≤ c0) (hr1 : Kd.C k68 w A1 l1.length l1) (hc1 : l1.length ≤ c1)
    (s0 : Int) (es0 : laws_szStringS.f k l0 1048576 = some s0) (ns0 : ¬ s0 < 0)
    (s1 : Int) (es1 : laws_szGroupS.f k l1 s0 = some s1) (ns1 : ¬ s1 < 0)
    (x0 : List ByteArray) (et0 : laws_toStringS.f k l0 = some x0) (ee0 : laws_eqStringS.f k x0 x0 = some true)
    (x1 : List IG) (et1 : laws_toGroupS.f k l1 = some x1) (ee1 : laws_eqGroupS.f k x1 x1 = some true)
    (v : List IH) (r0 : Int) (r1 : Bool) (esp : spec_GroupHunks.f k x0 x1 = some (v, r0, r1)) (eim : impl_GroupHunks.f k x0 x1 = some (v, r0, r1)) (eev : laws_eqHunkS.f k v v = some true)
    (em0 : laws_markStringS.f k x0 ((1 : Nat) : Int) = some ((((1 + x0.length) : Nat) : Int), marks 1 x0.length))
    (hm1 : (endG x1 (1 + x0.length)) ≤ 1099511627776) (hL1 : x1.length ≤ 1099511627776)
    (hmv : (endH v 1) ≤ 1099511627776) (hLv : v.length ≤ 1099511627776) (ehv : laws_heldHunkS.f k (mkHs v 1) 1 = some (((endH v 1) : Nat) : Int)) :
    Calls Try.prog 8 #[.slice A0 l0.length c0, .slice A1 l1.length c1] w fun e w' => e = .returned (.bool true) ∧ Below w.heap.size w w' := by
 have n0 : decide (s0 < 0) = false := decide_eq_false ns0
 clear ns0
 have hr0_ := am hr0
 clear hr0
 have hr0 := hr0_
 clear hr0_
 have hc0_ := am hc0
 clear hc0
 have hc0 := hc0_
 clear hc0_
 have es0_ := am es0
 clear es0
 have es0 := es0_
 clear es0_
 have et0_ := am et0
 clear et0
 have et0 := et0_
 clear et0_
 have ee0_ := am ee0
 clear ee0
 have ee0 := ee0_
 clear ee0_
 have em0_ := am em0
 clear em0
 have em0 := em0_
 clear em0_
 have n1 : decide (s1 < 0) = false := decide_eq_false ns1
 clear ns1
 have hr1_ := am hr1
 clear hr1
 have hr1 := hr1_
 clear hr1_
 have hc1_ := am hc1
 clear hc1
 have hc1 := hc1_
 clear hc1_
 have es1_ := am es1
 clear es1
 have es1 := es1_
 clear es1_
 have et1_ := am et1
 clear et1
 have et1 := et1_
 clear et1_
 have ee1_ := am ee1
 clear ee1
 have ee1 := ee1_
 clear ee1_
 have hm1_ := am hm1
 clear hm1
 have hm1 := hm1_
 clear hm1_
 have hL1_ := am hL1
 clear hL1
 have hL1 := hL1_
 clear hL1_
 have esp_ := am esp
 clear esp
 have esp := esp_
 clear esp_
 have eim_ := am eim
 clear eim
 have eim := eim_
 clear eim_
 have eev_ := am eev
 clear eev
 have eev := eev_
 clear eev_
 have ehv_ := am ehv
 clear ehv
 have ehv := ehv_
 clear ehv_
 have hmv_ := am hmv
 clear hmv
 have hmv := hmv_
 clear hmv_
 have hLv_ := am hLv
 clear hLv
 have hLv := hLv_
 clear hLv_
 have nm0 : decide (((((1 + x0.length) : Nat) : Int)) < 0) = false := decide_eq_false (Int.not_lt.2 (Int.natCast_nonneg _))
 have nm1 : decide (((((endG x1 (1 + x0.length)) : Nat) : Int)) < 0) = false := decide_eq_false (Int.not_lt.2 (Int.natCast_nonneg _))
 have nv : decide (((((endH v 1) : Nat) : Int)) < 0) = false := decide_eq_false (Int.not_lt.2 (Int.natCast_nonneg _))
 have HB := am (Below.refl w.heap.size w)
 go_enter Try.func8, Try.ntmps8
 go_wp2_with fail
 refine (laws_szStringS.calls k A0 c0 l0 1048576 s0 _ (Kd.C_below hr0.out HB.out) hc0.out es0.out).mono ?_
 rintro e w1 ⟨rfl, hb0⟩
 have hb : Below w.heap.size w w1 := by first | exact hb0 | (obtain ⟨nd_, e_⟩ := hb0; rw [e_]; exact pw_below_drewN (Below.refl _ _) nd_)
 clear hb0
 have HB_ := am (below_step HB.out hb)
 have Zw1 := am hb.size
 clear HB hb
 have HB := HB_
 clear HB_
 go_wp2_with fail
 refine (laws_szGroupS.calls k A1 c1 l1 s0 s1 _ (Kd.C_below hr1.out HB.out) hc1.out es1.out).mono ?_
 rintro e w2 ⟨rfl, hb0⟩
 have hb : Below w1.heap.size w1 w2 := by first | exact hb0 | (obtain ⟨nd_, e_⟩ := hb0; rw [e_]; exact pw_below_drewN (Below.refl _ _) nd_)
 clear hb0
 have HB_ := am (below_step HB.out hb)
 have Zw2 := am hb.size
 clear HB hb
 have HB := HB_
 clear HB_
 go_wp2_with fail
 refine (laws_toStringS.calls k A0 c0 l0 x0 _ (Kd.C_below hr0.out HB.out) hc0.out et0.out).mono ?_
 rintro e w3 ⟨vv, rfl, ho, hb⟩
 obtain ⟨AY0, cY0, rfl⟩ := Kd.R_slice ho
 have Y0 := am (Kd.R_mono (ok' := fun k_ => w2.heap.size ≤ k_ ∧ k_ < w3.heap.size) (Kd.R_lower (Kd.R_bound ho) HB.out.size) (fun k_ h_ => ⟨h_.2.1, h_.2.2.1⟩))
 clear ho
 have HB_ := am (below_step HB.out hb)
 have Zw3 := am hb.size
 clear HB hb
 have HB := HB_
 clear HB_
 go_wp2_with fail
 refine (laws_toGroupS.calls k A1 c1 l1 x1 _ (Kd.C_below hr1.out HB.out) hc1.out et1.out).mono ?_
 rintro e w4 ⟨vv, rfl, ho, hb⟩
 obtain ⟨AY1, cY1, rfl⟩ := Kd.S_slice ho
 have Y0_ := am (Kd.R_below Y0.out hb)
 clear Y0
 have Y0 := Y0_
 clear Y0_
 have Y1 := am (Kd.S_mono (ok' := fun k_ => w3.heap.size ≤ k_ ∧ k_ < w4.heap.size) (Kd.S_lower (Kd.S_bound ho) HB.out.size) (fun k_ h_ => ⟨h_.2.1, h_.2.2.1⟩))
 clear ho
 have HB_ := am (below_step HB.out hb)
 have Zw4 := am hb.size
 clear HB hb
 have HB := HB_
 clear HB_
 go_wp2_with fail
 refine (spec_GroupHunks.calls k AY0 cY0 x0 AY1 cY1 x1 v r0 r1 _ (Kd.R_reads' Y0.out).2.2 (Kd.R_reads' Y0.out).2.1 (Kd.S_reads' Y1.out).2.2 (Kd.S_reads' Y1.out).2.1 esp.out).mono ?_
 rintro e w5 ⟨vv, rfl, ho, hb⟩
 obtain ⟨AVW, cVW, rfl⟩ := Kd.N_slice ho
 have Y0_ := am (Kd.R_below Y0.out hb)
 clear Y0
 have Y0 := Y0_
 clear Y0_
 have Y1_ := am (Kd.S_below Y1.out hb)
 clear Y1
 have Y1 := Y1_
 clear Y1_
 have VW := am (Kd.N_mono (ok' := fun k_ => w4.heap.size ≤ k_ ∧ k_ < w5.heap.size) (Kd.N_lower (Kd.N_bound ho) HB.out.size) (fun k_ h_ => ⟨h_.1, h_.2⟩))
 clear ho
 have HB_ := am (below_step HB.out hb)
 have Zw5 := am hb.size
 clear HB hb
 have HB := HB_
 clear HB_
 clear Y0
 clear Y1
 go_wp2_with fail
 refine (laws_toStringS.calls k A0 c0 l0 x0 _ (Kd.C_below hr0.out HB.out) hc0.out et0.out).mono ?_
 rintro e w6 ⟨vv, rfl, ho, hb⟩
 obtain ⟨AX0, cX0, rfl⟩ := Kd.R_slice ho
 have VW_ := am (Kd.N_below VW.out hb)
 clear VW
 have VW := VW_
 clear VW_
 have X0 := am (Kd.R_mono (ok' := fun k_ => w5.heap.size ≤ k_ ∧ k_ < w6.heap.size) (Kd.R_lower (Kd.R_bound ho) HB.out.size) (fun k_ h_ => ⟨h_.2.1, h_.2.2.1⟩))
 clear ho
 have HB_ := am (below_step HB.out hb)
 have Zw6 := am hb.size
 clear HB hb
 have HB := HB_
 clear HB_
 go_wp2_with fail
 refine (laws_toGroupS.calls k A1 c1 l1 x1 _ (Kd.C_below hr1.out HB.out) hc1.out et1.out).mono ?_
 rintro e w7 ⟨vv, rfl, ho, hb⟩
 obtain ⟨AX1, cX1, rfl⟩ := Kd.S_slice ho
 have VW_ := am (Kd.N_below VW.out hb)
 clear VW
 have VW := VW_
 clear VW_
 have X0_ := am (Kd.R_below X0.out hb)
 clear X0
 have X0 := X0_
 clear X0_
 have X1 := am (Kd.S_mono (ok' := fun k_ => w6.heap.size ≤ k_ ∧ k_ < w7.heap.size) (Kd.S_lower (Kd.S_bound ho) HB.out.size) (fun k_ h_ => ⟨h_.2.1, h_.2.2.1⟩))
 clear ho
 have HB_ := am (below_step HB.out hb)
 have Zw7 := am hb.size
 clear HB hb
 have HB := HB_
 clear HB_
 go_wp2_with fail
 refine (impl_GroupHunks.calls k AX0 cX0 x0 AX1 cX1 x1 v r0 r1 _ (Kd.R_reads' X0.out).2.2 (Kd.R_reads' X0.out).2.1 (Kd.S_reads' X1.out).2.2 (Kd.S_reads' X1.out).2.1 eim.out).mono ?_
 rintro e w8 ⟨vv, rfl, ho, hb⟩
 obtain ⟨AVG, cVG, rfl⟩ := Kd.S_slice ho
 have VW_ := am (Kd.N_below VW.out hb)
 clear VW
 have VW := VW_
 clear VW_
 have X0_ := am (Kd.R_below X0.out hb)
 clear X0
 have X0 := X0_
 clear X0_
 have X1_ := am (Kd.S_below X1.out hb)
 clear X1
 have X1 := X1_
 clear X1_
 have VG := am (Kd.S_mono (ok' := fun k_ => w7.heap.size ≤ k_ ∧ k_ < w8.heap.size) (Kd.S_lower (Kd.S_bound ho) HB.out.size) (fun k_ h_ => ⟨h_.2.1, h_.2.2.1⟩))
 clear ho
 have HB_ := am (below_step HB.out hb)
 have Zw8 := am hb.size
 clear HB hb
 have HB := HB_
 clear HB_
 go_wp2_with fail
 refine (laws_eqHunkS.calls k AVG cVG v AVW cVW v true _ (Kd.S_reads' VG.out).2.2 (Kd.S_reads' VG.out).2.1 (Kd.N_reads' VW.out).2.2 (Kd.N_reads' VW.out).2.1 eev.out).mono ?_
 rintro e w9 ⟨rfl, hb0⟩
 have hb : Below w8.heap.size w8 w9 := by first | exact hb0 | (obtain ⟨nd_, e_⟩ := hb0; rw [e_]; exact pw_below_drewN (Below.refl _ _) nd_)
 clear hb0
 have VW_ := am (Kd.N_below VW.out hb)
 clear VW
 have VW := VW_
 clear VW_
 have X0_ := am (Kd.R_below X0.out hb)
 clear X0
 have X0 := X0_
 clear X0_
 have X1_ := am (Kd.S_below X1.out hb)
 clear X1
 have X1 := X1_
 clear X1_
 have VG_ := am (Kd.S_below VG.out hb)
 clear VG
 have VG := VG_
 clear VG_
 have HB_ := am (below_step HB.out hb)
 have Zw9 := am hb.size
 clear HB hb
 have HB := HB_
 clear HB_
 go_wp2_with fail
 refine (laws_toStringS.calls k A0 c0 l0 x0 _ (Kd.C_below hr0.out HB.out) hc0.out et0.out).mono ?_
 rintro e w10 ⟨vv, rfl, ho, hb⟩
 obtain ⟨AQ0, cQ0, rfl⟩ := Kd.R_slice ho
 have VW_ := am (Kd.N_below VW.out hb)
 clear VW
 have VW := VW_
 clear VW_
 have X0_ := am (Kd.R_below X0.out hb)
 clear X0
 have X0 := X0_
 clear X0_
 have X1_ := am (Kd.S_below X1.out hb)
 clear X1
 have X1 := X1_
 clear X1_
 have VG_ := am (Kd.S_below VG.out hb)
 clear VG
 have VG := VG_
 clear VG_
 have Q0 := am (Kd.R_mono (ok' := fun k_ => w9.heap.size ≤ k_ ∧ k_ < w10.heap.size) (Kd.R_lower (Kd.R_bound ho) HB.out.size) (fun k_ h_ => ⟨h_.2.1, h_.2.2.1⟩))
 clear ho
 have HB_ := am (below_step HB.out hb)
 have Zw10 := am hb.size
 clear HB hb
 have HB := HB_
 clear HB_
 go_wp2_with fail
 refine (laws_eqStringS.calls k AX0 cX0 x0 AQ0 cQ0 x0 true _ (Kd.R_reads' X0.out).2.2 (Kd.R_reads' X0.out).2.1 (Kd.R_reads' Q0.out).2.2 (Kd.R_reads' Q0.out).2.1 ee0.out).mono ?_
 rintro e w11 ⟨rfl, hb0⟩
 have hb : Below w10.heap.size w10 w11 := by first | exact hb0 | (obtain ⟨nd_, e_⟩ := hb0; rw [e_]; exact pw_below_drewN (Below.refl _ _) nd_)
 clear hb0
 have VW_ := am (Kd.N_below VW.out hb)
 clear VW
 have VW := VW_
 clear VW_
 have X0_ := am (Kd.R_below X0.out hb)
 clear X0
 have X0 := X0_
 clear X0_
 have X1_ := am (Kd.S_below X1.out hb)
 clear X1
 have X1 := X1_
 clear X1_
 have VG_ := am (Kd.S_below VG.out hb)
 clear VG
 have VG := VG_
 clear VG_
 have Q0_ := am (Kd.R_below Q0.out hb)
 clear Q0
 have Q0 := Q0_
 clear Q0_
 have HB_ := am (below_step HB.out hb)
 have Zw11 := am hb.size
 clear HB hb
 have HB := HB_
 clear HB_
 clear Q0
 go_wp2_with fail
 refine (laws_toGroupS.calls k A1 c1 l1 x1 _ (Kd.C_below hr1.out HB.out) hc1.out et1.out).mono ?_
 rintro e w12 ⟨vv, rfl, ho, hb⟩
 obtain ⟨AQ1, cQ1, rfl⟩ := Kd.S_slice ho
 have VW_ := am (Kd.N_below VW.out hb)
 clear VW
 have VW := VW_
 clear VW_
 have X0_ := am (Kd.R_below X0.out hb)
 clear X0
 have X0 := X0_
 clear X0_
 have X1_ := am (Kd.S_below X1.out hb)
 clear X1
 have X1 := X1_
 clear X1_
 have VG_ := am (Kd.S_below VG.out hb)
 clear VG
 have VG := VG_
 clear VG_
 have Q1 := am (Kd.S_mono (ok' := fun k_ => w11.heap.size ≤ k_ ∧ k_ < w12.heap.size) (Kd.S_lower (Kd.S_bound ho) HB.out.size) (fun k_ h_ => ⟨h_.2.1, h_.2.2.1⟩))
 clear ho
 have HB_ := am (below_step HB.out hb)
 have Zw12 := am hb.size
 clear HB hb
 have HB := HB_
 clear HB_
 go_wp2_with fail
 refine (laws_eqGroupS.calls k AX1 cX1 x1 AQ1 cQ1 x1 true _ (Kd.S_reads' X1.out).2.2 (Kd.S_reads' X1.out).2.1 (Kd.S_reads' Q1.out).2.2 (Kd.S_reads' Q1.out).2.1 ee1.out).mono ?_
 rintro e w13 ⟨rfl, hb0⟩
 have hb : Below w12.heap.size w12 w13 := by first | exact hb0 | (obtain ⟨nd_, e_⟩ := hb0; rw [e_]; exact pw_below_drewN (Below.refl _ _) nd_)
 clear hb0
 have VW_ := am (Kd.N_below VW.out hb)
 clear VW
 have VW := VW_
 clear VW_
 have X0_ := am (Kd.R_below X0.out hb)
 clear X0
 have X0 := X0_
 clear X0_
 have X1_ := am (Kd.S_below X1.out hb)
 clear X1
 have X1 := X1_
 clear X1_
 have VG_ := am (Kd.S_below VG.out hb)
 clear VG
 have VG := VG_
 clear VG_
 have Q1_ := am (Kd.S_below Q1.out hb)
 clear Q1
 have Q1 := Q1_
 clear Q1_
 have HB_ := am (below_step HB.out hb)
 have Zw13 := am hb.size
 clear HB hb
 have HB := HB_
 clear HB_
 clear Q1
 go_wp2_with fail
 refine (laws_markStringS.calls k (fun k_ => w5.heap.size ≤ k_ ∧ k_ < w6.heap.size) _ x0 _ _ _ w _ HB.out X0.out em0.out).mono ?_
 rintro e w14 ⟨rfl, hR, hb, hk⟩
 have VW_ := am (Kd.N_kept VW.out hk (fun k_ h1_ h2_ => Nat.lt_irrefl k_ (Nat.lt_of_lt_of_le h1_.2 (Nat.le_trans (Nat.le_refl _) h2_.1))))
 clear VW
 have VW := VW_
 clear VW_
 have X1_ := am (Kd.S_kept X1.out hk (fun k_ h1_ h2_ => Nat.lt_irrefl k_ (Nat.lt_of_lt_of_le h2_.2 (Nat.le_trans (Nat.le_refl _) h1_.1))))
 clear X1
 have X1 := X1_
 clear X1_
 have VG_ := am (Kd.S_kept VG.out hk (fun k_ h1_ h2_ => Nat.lt_irrefl k_ (Nat.lt_of_lt_of_le h2_.2 (Nat.le_trans (Nat.le_trans (Nat.le_refl _) Zw7.out) h1_.1))))
 clear VG
 have VG := VG_
 clear VG_
 clear X0 hR
 have Zw14 := am hk.1
 clear hk HB
 have HB := am hb
 clear hb
 go_wp2_with fail
 refine (laws_markGroupS_made (fun k_ => w6.heap.size ≤ k_ ∧ k_ < w7.heap.size) _ x1 (1 + x0.length) w _ hm1.out hL1.out HB.out X1.out).mono ?_
 rintro e w15 ⟨rfl, hR, hb, hk⟩
 have VW_ := am (Kd.N_kept VW.out hk (fun k_ h1_ h2_ => Nat.lt_irrefl k_ (Nat.lt_of_lt_of_le h1_.2 (Nat.le_trans (Nat.le_trans (Nat.le_refl _) Zw6.out) h2_.1))))
 clear VW
 have VW := VW_
 clear VW_
 have VG_ := am (Kd.S_kept VG.out hk (fun k_ h1_ h2_ => Nat.lt_irrefl k_ (Nat.lt_of_lt_of_le h2_.2 (Nat.le_trans (Nat.le_refl _) h1_.1))))
 clear VG
 have VG := VG_
 clear VG_
 clear X1 hR
 have Zw15 := am hk.1
 clear hk HB
 have HB := am hb
 clear hb
 go_wp2_with fail
 refine (laws_eqHunkS.calls k AVG cVG v AVW cVW v true _ (Kd.S_reads' VG.out).2.2 (Kd.S_reads' VG.out).2.1 (Kd.N_reads' VW.out).2.2 (Kd.N_reads' VW.out).2.1 eev.out).mono ?_
 rintro e w16 ⟨rfl, hb0⟩
 have hb : Below w15.heap.size w15 w16 := by first | exact hb0 | (obtain ⟨nd_, e_⟩ := hb0; rw [e_]; exact pw_below_drewN (Below.refl _ _) nd_)
 clear hb0
 have VW_ := am (Kd.N_below VW.out hb)
 clear VW
 have VW := VW_
 clear VW_
 have VG_ := am (Kd.S_below VG.out hb)
 clear VG
 have VG := VG_
 clear VG_
 have HB_ := am (below_step HB.out hb)
 have Zw16 := am hb.size
 clear HB hb
 have HB := HB_
 clear HB_
 go_wp2_with fail
 refine (laws_markHunkS_made (fun k_ => w7.heap.size ≤ k_ ∧ k_ < w8.heap.size) _ v 1 w _ hmv.out hLv.out HB.out VG.out).mono ?_
 rintro e w17 ⟨rfl, hR, hb, hk⟩
 have VW_ := am (Kd.N_kept VW.out hk (fun k_ h1_ h2_ => Nat.lt_irrefl k_ (Nat.lt_of_lt_of_le h1_.2 (Nat.le_trans (Nat.le_trans (Nat.le_trans (Nat.le_refl _) Zw6.out) Zw7.out) h2_.1))))
 clear VW
 have VW := VW_
 clear VW_
 have VG_ := am hR
 clear VG hR
 have VG := VG_
 clear VG_
 have Zw17 := am hk.1
 clear hk HB
 have HB := am hb
 clear hb
 go_wp2_with fail
 have eLen := (Kd.S_reads' VG.out).1
 refine calls_of_args (args' := #[.slice AVG ((mkHs v 1) : List IH).length cVG, .int .i64 1]) (by rw [← eLen]) ?_
 refine (laws_heldHunkS.calls k AVG cVG (mkHs v 1) 1 _ _ (Kd.S_reads' VG.out).2.2 (by rw [← eLen]; exact (Kd.S_reads' VG.out).2.1) ehv.out).mono ?_
 rintro e w18 ⟨rfl, hb0⟩
 clear eLen
 have hb : Below w17.heap.size w17 w18 := by first | exact hb0 | (obtain ⟨nd_, e_⟩ := hb0; rw [e_]; exact pw_below_drewN (Below.refl _ _) nd_)
 clear hb0
 have VW_ := am (Kd.N_below VW.out hb)
 clear VW
 have VW := VW_
 clear VW_
 have VG_ := am (Kd.S_below VG.out hb)
 clear VG
 have VG := VG_
 clear VG_
 have HB_ := am (below_step HB.out hb)
 have Zw18 := am hb.size
 clear HB hb
 have HB := HB_
 clear HB_
 go_wp2_with fail
 refine (laws_toStringS.calls k A0 c0 l0 x0 _ (Kd.C_below hr0.out HB.out) hc0.out et0.out).mono ?_
 rintro e w19 ⟨vv, rfl, ho, hb⟩
 obtain ⟨AY0, cY0, rfl⟩ := Kd.R_slice ho
 have VW_ := am (Kd.N_below VW.out hb)
 clear VW
 have VW := VW_
 clear VW_
 have VG_ := am (Kd.S_below VG.out hb)
 clear VG
 have VG := VG_
 clear VG_
 have Y0 := am (Kd.R_mono (ok' := fun k_ => w18.heap.size ≤ k_ ∧ k_ < w19.heap.size) (Kd.R_lower (Kd.R_bound ho) HB.out.size) (fun k_ h_ => ⟨h_.2.1, h_.2.2.1⟩))
 clear ho
 have HB_ := am (below_step HB.out hb)
 have Zw19 := am hb.size
 clear HB hb
 have HB := HB_
 clear HB_
 go_wp2_with fail
 refine (laws_toGroupS.calls k A1 c1 l1 x1 _ (Kd.C_below hr1.out HB.out) hc1.out et1.out).mono ?_
 rintro e w20 ⟨vv, rfl, ho, hb⟩
 obtain ⟨AY1, cY1, rfl⟩ := Kd.S_slice ho
 have VW_ := am (Kd.N_below VW.out hb)
 clear VW
 have VW := VW_
 clear VW_
 have VG_ := am (Kd.S_below VG.out hb)
 clear VG
 have VG := VG_
 clear VG_
 have Y0_ := am (Kd.R_below Y0.out hb)
 clear Y0
 have Y0 := Y0_
 clear Y0_
 have Y1 := am (Kd.S_mono (ok' := fun k_ => w19.heap.size ≤ k_ ∧ k_ < w20.heap.size) (Kd.S_lower (Kd.S_bound ho) HB.out.size) (fun k_ h_ => ⟨h_.2.1, h_.2.2.1⟩))
 clear ho
 have HB_ := am (below_step HB.out hb)
 have Zw20 := am hb.size
 clear HB hb
 have HB := HB_
 clear HB_
 go_wp2_with fail
 refine (impl_GroupHunks.calls k AY0 cY0 x0 AY1 cY1 x1 v r0 r1 _ (Kd.R_reads' Y0.out).2.2 (Kd.R_reads' Y0.out).2.1 (Kd.S_reads' Y1.out).2.2 (Kd.S_reads' Y1.out).2.1 eim.out).mono ?_
 rintro e w21 ⟨vv, rfl, ho, hb⟩
 obtain ⟨AVH, cVH, rfl⟩ := Kd.S_slice ho
 have VW_ := am (Kd.N_below VW.out hb)
 clear VW
 have VW := VW_
 clear VW_
 have VG_ := am (Kd.S_below VG.out hb)
 clear VG
 have VG := VG_
 clear VG_
 have Y0_ := am (Kd.R_below Y0.out hb)
 clear Y0
 have Y0 := Y0_
 clear Y0_
 have Y1_ := am (Kd.S_below Y1.out hb)
 clear Y1
 have Y1 := Y1_
 clear Y1_
 have VH := am (Kd.S_mono (ok' := fun k_ => w20.heap.size ≤ k_ ∧ k_ < w21.heap.size) (Kd.S_lower (Kd.S_bound ho) HB.out.size) (fun k_ h_ => ⟨h_.2.1, h_.2.2.1⟩))
 clear ho
 have HB_ := am (below_step HB.out hb)
 have Zw21 := am hb.size
 clear HB hb
 have HB := HB_
 clear HB_
 clear Y0
 clear Y1
 go_wp2_with fail
 refine (laws_eqHunkS.calls k AVH cVH v AVW cVW v true _ (Kd.S_reads' VH.out).2.2 (Kd.S_reads' VH.out).2.1 (Kd.N_reads' VW.out).2.2 (Kd.N_reads' VW.out).2.1 eev.out).mono ?_
 rintro e w22 ⟨rfl, hb0⟩
 have hb : Below w21.heap.size w21 w22 := by first | exact hb0 | (obtain ⟨nd_, e_⟩ := hb0; rw [e_]; exact pw_below_drewN (Below.refl _ _) nd_)
 clear hb0
 have VW_ := am (Kd.N_below VW.out hb)
 clear VW
 have VW := VW_
 clear VW_
 have VG_ := am (Kd.S_below VG.out hb)
 clear VG
 have VG := VG_
 clear VG_
 have VH_ := am (Kd.S_below VH.out hb)
 clear VH
 have VH := VH_
 clear VH_
 have HB_ := am (below_step HB.out hb)
 have Zw22 := am hb.size
 clear HB hb
 have HB := HB_
 clear HB_
 clear VH VW
 go_wp2_with fail
 have eLen := (Kd.S_reads' VG.out).1
 refine calls_of_args (args' := #[.slice AVG ((mkHs v 1) : List IH).length cVG, .int .i64 1]) (by rw [← eLen]) ?_
 refine (laws_heldHunkS.calls k AVG cVG (mkHs v 1) 1 _ _ (Kd.S_reads' VG.out).2.2 (by rw [← eLen]; exact (Kd.S_reads' VG.out).2.1) ehv.out).mono ?_
 rintro e w23 ⟨rfl, hb0⟩
 clear eLen
 have hb : Below w22.heap.size w22 w23 := by first | exact hb0 | (obtain ⟨nd_, e_⟩ := hb0; rw [e_]; exact pw_below_drewN (Below.refl _ _) nd_)
 clear hb0
 have VG_ := am (Kd.S_below VG.out hb)
 clear VG
 have VG := VG_
 clear VG_
 have HB_ := am (below_step HB.out hb)
 have Zw23 := am hb.size
 clear HB hb
 have HB := HB_
 clear HB_
 go_wp2
 go_ret
 exact ⟨rfl, HB.out⟩
end Go.Proofs.Ytmcldkobejhaeaa.My
namespace Go.Proofs.Ytmcldkobejhaeaa.Pl
open Go.RowKit Go.Proofs.YtmcldkobejhaeaaW.PrintWords Go.Proofs.YtmcldkobejhaeaaW.PrintLast Go.Proofs.Ytmcldkobejhaeaa.My
set_option linter.unusedVariables false
set_option linter.unusedSimpArgs false
theorem bnd2 {e m s c : Nat} (h : e ≤ m + 2 * s) (hm : m ≤ c) (hs : s ≤ 1048576) : e ≤ c + 2097152 := by omega
theorem endH_le : ∀ (v : List IH) (B m : Nat), (∀ x ∈ v, x.f2.length ≤ B) → endH v m ≤ m + (2 + B) * v.length
  | [], B, m, _ => by simp [endH]
  | x :: t, B, m, h => by
    have h1 := endH_le t B (m + 2 + x.f2.length) (fun y hy => h y (List.mem_cons_of_mem _ hy))
    have h2 := h x (List.mem_cons_self ..)
    simp only [List.length_cons, endH, Nat.mul_add] at h1 ⊢
    omega

theorem eqHunkS_l0' (a b : List IH) (hab : a.length = b.length) (hL : a.length ≤ 9223372036854775807) (hf : ∀ x ∈ a, FitS x.f2) : ∀ d i, i + d = a.length → Ev (fun k => laws_eqHunkS.l0 k a b (i : Int)) (decide (a.drop i = b.drop i)) := by
  intro d
  induction d with
  | zero =>
    intro i hi
    refine Ev.step (fun k => laws_eqHunkS.l0.eq_2 ..) (ev_neg (by omega) (ev_some ?_))
    rw [List.drop_of_length_le (by omega), List.drop_of_length_le (by omega)]
    simp
  | succ d ih =>
    intro i hi
    have h1 : i < a.length := by omega
    have h2 : i < b.length := by omega
    refine Ev.step (fun k => laws_eqHunkS.l0.eq_2 ..) (ev_pos (by omega) (ev_pos (by omega) (ev_pos (by omega) ?_)))
    simp only [rdIH _ _ h1, rdIH _ _ h2, drop_cons a i h1, drop_cons b i h2]
    refine ev_bind (eqHunk_ev _ _ (hf _ (List.getElem_mem h1))) (ev_ite (fun h => ?_) (fun h => ev_some ?_))
    · rw [wrap_succ i (by omega)]
      refine ev_to (ih (i + 1) (by omega)) ?_
      rw [of_decide_eq_true h]
      simp only [List.cons.injEq, true_and]
    · have : ¬ a[i] = b[i] := fun e => h (decide_eq_true e)
      simp only [List.cons.injEq, this, false_and, decide_false]
theorem eqHunkS_ev' (a b : List IH) (hL : a.length ≤ 9223372036854775807) (hf : ∀ x ∈ a, FitS x.f2) : Ev (fun k => laws_eqHunkS.f k a b) (decide (a = b)) := by
  simp only [laws_eqHunkS.f]
  refine ev_ite (fun h => ?_) (fun h => ev_some ?_)
  · exact eqHunkS_l0' a b (by omega) hL hf a.length 0 (by omega)
  · have : ¬ a = b := fun e => h (by rw [e])
    simp [this]

theorem heldHunkS_l0 (L : List IH) (E : Nat) (hE : E ≤ 1099511627776) (hL : L.length ≤ 1099511627776) : ∀ (vs : List IH) (i mm : Nat), L.drop i = mkHs vs mm → i + vs.length = L.length → endH vs mm = E → Ev (fun k => laws_heldHunkS.l0 k L (mm : Int) (i : Int)) (E : Int) := by
  intro vs
  induction vs with
  | nil =>
    intro i mm _ hi he
    refine Ev.step (fun k => laws_heldHunkS.l0.eq_2 ..) (ev_neg (by simp only [List.length_nil] at hi; omega) (ev_some ?_))
    rw [← he]
    rfl
  | cons x t ih =>
    intro i mm hd hi he
    simp only [List.length_cons] at hi
    have hlt : i < L.length := by omega
    rw [List.drop_eq_getElem_cons hlt] at hd
    simp only [mkHs, List.cons.injEq] at hd
    simp only [endH] at he
    have hge := endH_ge t (mm + 2 + x.f2.length)
    rw [he] at hge
    have hrd : T106 L (i : Int) = mkH x mm := (rdIH L i hlt).trans hd.1
    refine Ev.step (fun k => laws_heldHunkS.l0.eq_2 ..) ?_
    simp only [hrd, mkH]
    rw [wr2 mm x.f2.length E hge hE, wrap_succ i (by omega)]
    exact ev_pos (by omega) (ev_pos (by omega) (ev_pos trivial (ev_pos trivial (ev_bind (heldStringS_ev (mm + 2) x.f2.length (le_a _ _ _ hge hE) (le_b _ _ _ hge hE)) (ev_neg (by omega) (ih (i + 1) _ hd.2 (by omega) he))))))
theorem mkHs_length : ∀ (v : List IH) (m : Nat), (mkHs v m).length = v.length
  | [], _ => rfl
  | x :: t, m => by simp only [mkHs, List.length_cons, mkHs_length t]
theorem heldHunkS_ev (v : List IH) (m : Nat) (hE : endH v m ≤ 1099511627776) (hL : v.length ≤ 1099511627776) : Ev (fun k => laws_heldHunkS.f k (mkHs v m) (m : Int)) ((endH v m : Nat) : Int) := by
  simp only [laws_heldHunkS.f]
  exact heldHunkS_l0 (mkHs v m) _ hE (by rw [mkHs_length]; exact hL) v 0 m rfl (by rw [mkHs_length]; omega) rfl

theorem impl_GroupHunks_ev (l : List ByteArray) (g : List IG) (f0 : FitS l) (f1 : FitGH g) : Ev (fun k => impl_GroupHunks.f k l g) (groupHunksR l g) := by
  simp only [impl_GroupHunks.f]
  rw [if_pos ⟨f0, f1⟩]
  exact ev_some rfl
theorem all_l1 (l : List ByteArray) (g : List IG) (hl : g.length ≤ 20) (hg : ∀ x ∈ g, GrS x) (hL : l.length ≤ 9223372036854775807) (hfar : ∀ x ∈ g, x.f0 + ((sideL 3 x.f2).length : Int) ≤ (l.length : Int)) : ∀ d i (more : Int) (out : List IH), i + d = g.length → -80 * (i : Int) ≤ more → more ≤ 80 * (i : Int) → out.length ≤ 80 * i →
    Ev (fun k => spec_l6All.l1 k l more out g (g.length : Int) (i : Int)) (loopH l more out (g.drop i)) := by
  intro d
  induction d with
  | zero =>
    intro i more out hi m0 m1 ho
    refine Ev.step (fun k => spec_l6All.l1.eq_2 ..) (ev_neg (by omega) (ev_some ?_))
    rw [List.drop_of_length_le (by omega)]
    rfl
  | succ d ih =>
    intro i more out hi m0 m1 ho
    have hlt : i < g.length := by omega
    have hx := hg _ (List.getElem_mem hlt)
    have hf := hfar _ (List.getElem_mem hlt)
    have hk := (hks_len hx).1
    obtain ⟨g0, g1, g2, g3, g4⟩ := hx
    have hs3 := sideL_len 3 g[i].f2
    have hs2 := sideL_len 2 g[i].f2
    refine Ev.step (fun k => spec_l6All.l1.eq_2 ..) (ev_pos (by omega) (ev_pos (by omega) (ev_pos (by omega) ?_)))
    simp only [rdIG g i hlt]
    rw [drop_cons g i hlt]
    simp only [loopH]
    refine ev_bind (l6Old_ev _ _ _ (by omega)) ?_
    have hw : wrap64 (g[i].f0 + ((sideL 3 g[i].f2).length : Int)) = g[i].f0 + ((sideL 3 g[i].f2).length : Int) := wrap64_id (by omega) (by omega)
    have hw2 : wrap64 (g[i].f0 + more) = g[i].f0 + more := wrap64_id (by omega) (by omega)
    rw [hw]
    refine ev_pos (by omega) (ev_pos (by omega) (ev_pos (by omega) ?_))
    have hc := cutI_len l g[i].f0 (g[i].f0 + ((sideL 3 g[i].f2).length : Int))
    refine ev_bind (l1SameT_ev (cutI l g[i].f0 (g[i].f0 + ((sideL 3 g[i].f2).length : Int))) _ (by omega)) ?_
    have hj : ∀ b : Bool, (b = false ↔ saysX l more g[i]) → Ev (fun k => spec_l6All.j2 k l more out (sideL 3 g[i].f2) g (g.length : Int) (i : Int) b g[i].f0 g[i].f1 g[i].f2) (if saysX l more g[i] then loopH l (more + moreX g[i]) (out ++ hksF g[i].f0 [] false g[i].f2) (g.drop (i + 1)) else ([], 2)) := by
      intro b hb
      refine Ev.step (fun k => spec_l6All.j2.eq_2 ..) (ev_ite (fun h => ev_some (by rw [if_neg (fun h2 => by rw [hb.2 h2] at h; cases h)])) (fun h => ?_))
      rw [if_pos (hb.1 (by simpa using h))]
      refine ev_bind (l6New_ev _ _ _ (by omega)) (ev_bind (specHunks_ev _ _ _ (by omega)) (ev_pos (by omega) ?_))
      have hw3 : wrap64 (more + wrap64 (((sideL 2 g[i].f2).length : Int) - ((sideL 3 g[i].f2).length : Int))) = more + moreX g[i] := by
        unfold moreX
        rw [wrap64_id (x := ((sideL 2 g[i].f2).length : Int) - ((sideL 3 g[i].f2).length : Int)) (by omega) (by omega), wrap64_id (by omega) (by omega)]
      rw [hw3, wrap_succ i (by omega)]
      have hmx : moreX g[i] = ((sideL 2 g[i].f2).length : Int) - ((sideL 3 g[i].f2).length : Int) := rfl
      exact ih (i + 1) _ _ (by omega) (by omega) (by omega) (by rw [List.length_append]; omega)
    refine ev_ite (fun h => ?_) (fun h => ?_)
    · rw [hw2]
      refine hj _ ?_
      simp only [decide_eq_true_eq] at h
      unfold saysX
      exact ⟨fun e => ⟨h.symm, by simpa using e⟩, fun e => by simpa using e.2⟩
    · refine hj true ?_
      simp only [decide_eq_true_eq] at h
      unfold saysX
      simp only [Bool.true_eq_false, false_iff, not_and]
      exact fun e => absurd e.symm h
theorem all_l0 (l : List ByteArray) (g : List IG) (hl : g.length ≤ 20) (hg : ∀ x ∈ g, GrS x) (hL : l.length ≤ 9223372036854775807) : ∀ d i, i + d = g.length → (∀ x ∈ g.take i, farN l.length x = false) →
    Ev (fun k => spec_l6All.l0 k l g g (g.length : Int) (i : Int)) (if g.any (farN l.length) = true then ([], 3) else loopH l 0 [] g) := by
  intro d
  induction d with
  | zero =>
    intro i hi hp
    rw [List.take_of_length_le (by omega)] at hp
    refine Ev.step (fun k => spec_l6All.l0.eq_2 ..) (ev_neg (by omega) ?_)
    rw [if_neg (by rw [Bool.not_eq_true, List.any_eq_false]; exact fun x hx => by simp [hp x hx])]
    exact all_l1 l g hl hg hL (fun x hx => by have := hp x hx; unfold farN at this; simp only [decide_eq_false_iff_not] at this; omega) g.length 0 0 [] (by omega) (by omega) (by omega) (Nat.zero_le _)
  | succ d ih =>
    intro i hi hp
    have hlt : i < g.length := by omega
    obtain ⟨g0, g1, g2, g3, g4⟩ := hg _ (List.getElem_mem hlt)
    have hs3 := sideL_len 3 g[i].f2
    refine Ev.step (fun k => spec_l6All.l0.eq_2 ..) (ev_pos (by omega) (ev_pos (by omega) (ev_pos (by omega) ?_)))
    simp only [rdIG g i hlt]
    refine ev_bind (l6Old_ev _ _ _ (by omega)) ?_
    rw [wrap64_id (by omega) (by omega), wrap_succ i (by omega)]
    refine ev_ite (fun h => ev_some ?_) (fun h => ?_)
    · rw [if_pos (List.any_eq_true.2 ⟨_, List.getElem_mem hlt, decide_eq_true h⟩)]
    · refine ih (i + 1) (by omega) (fun x hx => ?_)
      rw [List.take_succ_eq_append_getElem hlt] at hx
      rcases List.mem_append.1 hx with hx | hx
      · exact hp x hx
      · rw [List.mem_singleton.1 hx]
        exact decide_eq_false h
theorem spec_GroupHunks_ev (l : List ByteArray) (g : List IG) (f0 : FitS l) (f1 : FitGH g) : Ev (fun k => spec_GroupHunks.f k l g) (groupHunksR l g) := by
  simp only [spec_GroupHunks.f]
  unfold groupHunksR
  refine ev_bind (l1Good_ev l f0) (ev_ite (fun h1 => ?_) (fun h1 => ev_some (by rw [if_neg (fun h => h1 h.1)])))
  refine ev_bind (l6Good_ev g f1.1 f1.2) (ev_ite (fun h2 => ?_) (fun h2 => ev_some (by rw [if_neg (fun h => h2 h.2)])))
  obtain ⟨hl, hg⟩ := grS_of h2
  rw [if_pos ⟨h1, h2⟩]
  simp only [spec_l6All.f]
  refine ev_bind (all_l0 l g hl hg f0.1 g.length 0 (by omega) (fun x hx => by simp at hx)) (ev_some ?_)
  split <;> rfl
theorem groupHunksR_end (l : List ByteArray) (g : List IG) (f0 : FitS l) (f1 : FitGH g) : endH (groupHunksR l g).1 1 ≤ 1099511627776 ∧ (groupHunksR l g).1.length ≤ 1099511627776 := by
  have hs := groupHunksR_small l g
  exact ⟨Nat.le_trans (endH_le _ 80 1 (fun x hx => hs.2 x hx)) (Nat.le_trans (Nat.add_le_add_left (Nat.mul_le_mul_left _ hs.1) 1) (by decide)), Nat.le_trans hs.1 (by decide)⟩
def InB (B : Nat) (out : List IH) : Prop := ∀ x ∈ out, ∀ s ∈ x.f2, s.size ≤ B
theorem goneH_in {B : Nat} {out : List IH} (h : InB B out) : InB B (goneH out) := by
  intro x hx
  have hl : 0 < out.length := by
    have := List.length_pos_of_mem hx
    rwa [goneH_len] at this
  rcases List.mem_or_eq_of_mem_set hx with hx' | rfl
  · exact h x hx'
  · exact h (lastH out) (lastH_mem hl)
theorem lineH_in {B : Nat} {out : List IH} {s : ByteArray} (h : InB B out) (hs : s.size ≤ B) : InB B (lineH out s) := by
  intro x hx
  have hl : 0 < out.length := by
    have := List.length_pos_of_mem hx
    rwa [lineH_len] at this
  rcases List.mem_or_eq_of_mem_set hx with hx' | rfl
  · exact h x hx'
  · intro y hy
    rcases List.mem_append.1 hy with hy | hy
    · exact h (lastH out) (lastH_mem hl) y hy
    · rw [List.mem_singleton.1 hy]
      exact hs
theorem snocH_in {B : Nat} {out : List IH} (p : Int) (h : InB B out) : InB B (out ++ [(⟨p, 0, []⟩ : IH)]) := by
  intro x hx
  rcases List.mem_append.1 hx with hx | hx
  · exact h x hx
  · rw [List.mem_singleton.1 hx]
    exact fun s hs => by cases hs
theorem hksF_in {B : Nat} : ∀ (rows : List IR) (p : Int) (out : List IH) (op : Bool), InB B out → (∀ r ∈ rows, r.f1.size ≤ B) → InB B (hksF p out op rows)
  | [], p, out, op, h, hr => h
  | r :: t, p, out, op, h, hr => by
    have ht : ∀ r ∈ t, r.f1.size ≤ B := fun y hy => hr y (List.mem_cons_of_mem _ hy)
    have h0 := hr r (List.mem_cons_self ..)
    simp only [hksF]
    split
    · exact hksF_in t _ _ _ h ht
    · split
      · split
        · exact hksF_in t _ _ _ (goneH_in h) ht
        · exact hksF_in t _ _ _ (lineH_in h h0) ht
      · split
        · exact hksF_in t _ _ _ (goneH_in (snocH_in p h)) ht
        · exact hksF_in t _ _ _ (lineH_in (snocH_in p h) h0) ht
theorem loopH_in {B : Nat} (l : List ByteArray) : ∀ (g : List IG) (more : Int) (out : List IH), InB B out → (∀ x ∈ g, ∀ r ∈ x.f2, r.f1.size ≤ B) → InB B (loopH l more out g).1
  | [], more, out, ho, hg => ho
  | x :: t, more, out, ho, hg => by
    simp only [loopH]
    split
    · refine loopH_in l t _ _ (fun y hy => ?_) (fun y hy => hg y (List.mem_cons_of_mem _ hy))
      rcases List.mem_append.1 hy with hy | hy
      · exact ho y hy
      · exact hksF_in x.f2 x.f0 [] false (fun y hy => by cases hy) (hg x (List.mem_cons_self ..)) y hy
    · exact fun y hy => by cases hy
theorem groupHunksR_fit (l : List ByteArray) (g : List IG) (f0 : FitS l) (f1 : FitGH g) : ∀ x ∈ (groupHunksR l g).1, FitS x.f2 := by
  intro x hx
  refine ⟨Nat.le_trans ((groupHunksR_small l g).2 x hx) (by decide), fun s hs => ?_⟩
  unfold groupHunksR at hx
  split at hx
  · split at hx
    · cases hx
    · exact loopH_in l g 0 [] (fun y hy => by cases hy) (fun y hy r hr => ((f1.1.2 y hy).2.2.2 r hr).2) x hx s hs
  · cases hx

theorem szR_len (l : List LR) : l.length ≤ szR l := by unfold szR; omega
theorem endG_szG : ∀ (h : List LG) (m : Nat), endG (h.map toG) m ≤ m + 2 * szG h
  | [], m => by simp [endG]
  | x :: t, m => by
    have h1 := endG_szG t (m + 2 + 2 * x.f2.length)
    have h2 := szR_len x.f2
    simp only [szG, List.map_cons, List.sum_cons, List.length_cons, endG, toG, List.length_map] at h1 ⊢
    omega
end Go.Proofs.Ytmcldkobejhaeaa.Pl
namespace Go.Proofs.Ytmcldkobejhaeaa.Pure
open Go.RowKit Go.Proofs.Ytmcldkobejhaeaa.My Go.Proofs.Ytmcldkobejhaeaa.Pl Go.Proofs.YtmcldkobejhaeaaW.PrintWords Go.Proofs.YtmcldkobejhaeaaW.PrintLast
set_option linter.unusedVariables false
theorem FnExactGroupHunks (l0 : List ByteArray) (l1 : List LG) (q0 : (WL Wstr) l0) (q1 : (WL W68) l1) (A0 : Option Addr) (c0 : Nat) (A1 : Option Addr) (c1 : Nat) (W : World) (hr0 : Kd.C Kd.string W A0 l0.length l0) (hc0 : l0.length ≤ c0) (hr1 : Kd.C k68 W A1 l1.length l1) (hc1 : l1.length ≤ c1) :
    Calls Try.prog 8 #[.slice A0 l0.length c0, .slice A1 l1.length c1] W fun e w' => e = .returned (.bool true) ∧ Below W.heap.size W w' := by
  have f0 := fitS_of_wl q0
  have f1 := fitG_of_wl q1
  obtain ⟨s0, hs0, hl0⟩ := szStringS_ev l0 f0 1048576 (by omega) (by omega)
  obtain ⟨ks0, es0⟩ := hs0
  by_cases h0 : s0 < 0
  · exact laws_FnExactGroupHunks_early0 (ks0) A0 c0 l0 A1 c1 l1 W hr0 hc0 hr1 hc1 s0 (es0 _ (by omega)) h0
  have z0 : szS l0 ≤ 1048576 ∧ 0 ≤ s0 ∧ s0 ≤ 1048576 := by rcases hl0 with hl0 | hl0 <;> omega
  obtain ⟨s1, hs1, hl1⟩ := szGroupS_ev l1 f1 s0 (by omega) (by omega)
  obtain ⟨ks1, es1⟩ := hs1
  by_cases h1 : s1 < 0
  · exact laws_FnExactGroupHunks_early1 (ks0 + ks1) A0 c0 l0 A1 c1 l1 W hr0 hc0 hr1 hc1 s0 (es0 _ (by omega)) h0 s1 (es1 _ (by omega)) h1
  have z1 : szG l1 ≤ 1048576 ∧ 0 ≤ s1 ∧ s1 ≤ 1048576 := by rcases hl1 with hl1 | hl1 <;> omega
  obtain ⟨kt0, et0⟩ := toStringS_ev l0 (by have := z0.1; unfold szS at this; omega)
  have g0 := f0
  have len0 : l0.length ≤ 1048576 := by have := z0.1; unfold szS at this; omega
  obtain ⟨ke0, ee0⟩ := eqStringS_ev l0 l0 g0.1
  obtain ⟨kt1, et1⟩ := toGroupS_ev l1 (smallG z1.1)
  have g1 := fitIG_of f1
  have len1 : (l1.map toG).length ≤ 1048576 := by have := z1.1; rw [List.length_map]; unfold szG at this; omega
  have hm1 : ∀ x ∈ l1.map toG, x.f2.length ≤ 1048576 := fun x hx => by
    obtain ⟨y, hy, rfl⟩ := List.mem_map.1 hx
    simp only [toG, List.length_map]
    exact (smallG z1.1).2 y hy
  obtain ⟨ke1, ee1⟩ := eqGroupS_ev (l1.map toG) (l1.map toG) g1
  obtain ⟨kp, ep⟩ := spec_GroupHunks_ev l0 (l1.map toG) g0 ⟨g1, hm1⟩
  obtain ⟨ki, ei⟩ := impl_GroupHunks_ev l0 (l1.map toG) g0 ⟨g1, hm1⟩
  have hve := groupHunksR_end l0 (l1.map toG) g0 ⟨g1, hm1⟩
  have hvf := groupHunksR_fit l0 (l1.map toG) g0 ⟨g1, hm1⟩
  generalize hq0 : (groupHunksR l0 (l1.map toG)).1 = v at *
  generalize hq1 : (groupHunksR l0 (l1.map toG)).2.1 = r0 at *
  generalize hq2 : (groupHunksR l0 (l1.map toG)).2.2 = r1 at *
  have hp : groupHunksR l0 (l1.map toG) = (v, r0, r1) := (Prod.ext hq0 (Prod.ext hq1 hq2))
  rw [hp] at ep ei
  have hb_ : (1 : Nat) ≤ 1 := Nat.le_refl _
  have hb0 : (1 + l0.length) ≤ 1048577 := Nat.add_le_add hb_ len0
  obtain ⟨km0, em0⟩ := markStringS_ev l0 1 (Nat.le_trans len0 (by decide)) (Nat.le_trans hb_ (by decide))
  have hb1 : (endG (l1.map toG) (1 + l0.length)) ≤ 3145729 := bnd2 (endG_szG l1 (1 + l0.length)) hb0 z1.1
  obtain ⟨kh, eh⟩ := heldHunkS_ev v 1 hve.1 hve.2
  obtain ⟨kv, ev⟩ := eqHunkS_ev' v v (Nat.le_trans hve.2 (by decide)) hvf
  obtain ⟨k, hk⟩ : ∃ k, ks0 + ks1 + kt0 + ke0 + kt1 + ke1 + kp + ki + km0 + kh + kv ≤ k := ⟨_, Nat.le_refl _⟩
  exact laws_FnExactGroupHunks_true k A0 c0 l0 A1 c1 l1 W hr0 hc0 hr1 hc1 s0 (es0 k (by omega)) h0 s1 (es1 k (by omega)) h1 l0 (et0 k (by omega)) ((ee0 k (by omega)).trans (by simp)) (l1.map toG) (et1 k (by omega)) ((ee1 k (by omega)).trans (by simp)) v r0 r1 (ep k (by omega)) (ei k (by omega)) ((ev k (by omega)).trans (by simp)) (em0 k (by omega)) (Nat.le_trans hb1 (by decide)) (Nat.le_trans len1 (by decide)) hve.1 hve.2 (eh k (by omega))
end Go.Proofs.Ytmcldkobejhaeaa.Pure
namespace Go.Proofs.Ytmcldkobejhaeaa.fnExactGroupHunks
open Go.ChangeShapes Go.WideShapes Go.ChangeAt Go.RowKit Go.Joins Go.Proofs.Ytmcldkobejhaeaa.Opens Go.Proofs.Ytmcldkobejhaeaa.My
open Go.ChangeMaps (open_string shut_string)
set_option linter.unusedVariables false
set_option linter.unusedSimpArgs false
theorem own : ownKnob Try.prog.godebug = none := by kernel_rfl
theorem laidOut : laidOutB Try.prog = true := by kernel_rfl
set_option maxRecDepth 100000 in
theorem lifted (os : Os) (started : os.Started) (H : Type) (enc : TypeId × Value → H) :
    ReturnsInHanded {} Try.checked os 8 .any (Rows.fnExactGroupHunksSpec.pre6 enc Try.prog Try.f8 Rows.fnExactGroupHunksRow.domain false) (Rows.fnExactGroupHunksSpec.post enc Try.prog Try.f8 false true false false) := by
  refine returnsInHanded_of_change_sized (C := Try.checked) own started (by kernel_rfl) Try.func8
    (ChangeSpec.witness6 (enc := enc) (C := Try.checked) false ⟨#[], #[.slice none 0 0, .slice none 0 0], []⟩ 8 (by kernel_rfl) (by kernel_rfl) (by kernel_rfl) (by kernel_rfl)) ?_
  intro W base args ds gs before hval0 hW hcnd hsz0 _
  have hval : ∀ (j : Nat) t v, Try.f8.params[j]? = some t → args[j]? = some v → Value.okWide Try.prog W .any base t v := hval0
  have hW' := hW
  obtain ⟨p, q, hA0, hV, rfl, hfz, hnd⟩ := hW
  have hA : DataW.TrodAll enc Try.prog W 0 (fun _ => true) true Try.f8.params.toList args.toList ds p := hA0
  rw [Try.params8] at hA hval
  obtain ⟨v0, vs0, d0, ds0, p0, q0, hargs, rfl, rfl, h0, r0⟩ := trodAll_cons hA
  obtain ⟨v1, vs1, d1, ds1, p1, q1, rfl, rfl, rfl, h1, r1⟩ := trodAll_cons r0
  obtain ⟨rfl, rfl, rfl⟩ := trodAll_nil r1
  obtain rfl : args = #[v0, v1] := by cases args; simp_all
  obtain ⟨rfl, rfl⟩ := trodVars_none hV
  obtain ⟨A0, n0, c0, rfl⟩ := okWide_slice Try.underlying24 (hval 0 24 v0 rfl rfl)
  have k0 := h0
  have lt0 : ∀ x ∈ p0, x.block < W.heap.size := by obtain ⟨m, hm⟩ := k0; exact DataW.trod_lt m _ _ _ hm
  obtain ⟨l0, rfl, hc0, hr0, q0_⟩ := Opens.row (opens_slice Try.underlying24 (by kernel_rfl) (opens_string Try.underlying9)) h0
  obtain ⟨A1, n1, c1, rfl⟩ := okWide_slice Try.underlying78 (hval 1 78 v1 rfl rfl)
  have k1 := h1
  have lt1 : ∀ x ∈ p1, x.block < W.heap.size := by obtain ⟨m, hm⟩ := k1; exact DataW.trod_lt m _ _ _ hm
  obtain ⟨l1, rfl, hc1, hr1, q1_⟩ := Opens.row (opens_slice Try.underlying78 (by kernel_rfl) opens68) h1
  clear hA0 hval0 hsz0
  refine (Pure.FnExactGroupHunks l0 l1 q0_ q1_ _ _ _ _ W hr0 hc0 hr1 hc1).mono fun e W' hh => ?_
  obtain ⟨rfl, hd⟩ := hh
  have bel : Below W.heap.size W W' := hd
  exact ⟨_, rfl, _, _, _, [], _, [], hW', trodAll_mk1 (shut_bool Try.underlying4 _), (trodAll_cons_mk (Below.trod laidOut (by kernel_rfl) (of_decide_eq_true (by kernel_rfl)) k0 bel lt0) (trodAll_cons_mk (Below.trod laidOut (by kernel_rfl) (of_decide_eq_true (by kernel_rfl)) k1 bel lt1) trodAll_mk0)), rfl, bel.frame _, fun h => by cases h⟩
theorem over : Rows.fnExactGroupHunksRow.holds Try.pinned (OpenSpec.ofChange Rows.fnExactGroupHunksSpec) :=
  OpenClaim.holds_of_wide 8 Try.f8 rfl rfl rfl rfl rfl rfl rfl ⟨rfl, rfl, rfl, rfl, rfl⟩ rfl rfl rfl rfl rfl (by kernel_rfl) Try.func8 (by kernel_rfl)
    (of_decide_eq_true (by kernel_rfl)) (by unfold Func.isWrapper; first | (rw [if_pos (by decide +kernel)]; kernel_rfl) | (rw [if_neg (by decide +kernel)]; exact ⟨rfl, rfl⟩))
    (fun os started H enc _ => lifted os started H enc)
theorem proved : Rows.FnExactGroupHunksSaid := over
#print axioms proved
end Go.Proofs.Ytmcldkobejhaeaa.fnExactGroupHunks
namespace Go.Proofs.Ytmcldkobejhaeaa
/-- The row, under a short name, for the claim. -/
theorem fnExactGroupHunks_holds : Rows.FnExactGroupHunksSaid := fnExactGroupHunks.proved
end Go.Proofs.Ytmcldkobejhaeaa
