/- Part 7 of 7 of a proof of this sentence: The Go function loop.example/g00825/laws.FnExactWidthOf returns true for every input, and each argument reads afterwards as it read before. No condition. -/
import Derived.Test.YtcefenlblnediaaRows
import Derived.WalkKit
import Derived.ProofKit
import Derived.OpenShut
import Derived.ShutString
import Derived.ChangeOld
import Derived.Below
import Derived.SizedLaws
import Derived.Lib.SmallJoins
import Derived.Test.YtcefenlblnediaaCFnExactWidthOf6
/- Plain Lean: chapter 6: the greatest number of rows around what changes, for the program and the reference. Conditions: lengths and sizes below 2^63, at most 2^20 rows in each. -/
namespace Go.Proofs.Ytcefenlblnediaa.Pl
open Go.RowKit Go.Proofs.YtcefenlblnediaaW.PrintWords Go.Proofs.YtcefenlblnediaaW.PrintLast Go.Proofs.Ytcefenlblnediaa.My
set_option linter.unusedVariables false
set_option linter.unusedSimpArgs false

/-- How many rows at the beginning stay. -/
def pre : List IR → Nat
  | [] => 0
  | r :: t => if r.f0 = 1 then pre t + 1 else 0
theorem pre_le : ∀ rows : List IR, pre rows ≤ rows.length
  | [] => Nat.le_refl _
  | r :: t => by
    have := pre_le t
    simp only [pre, List.length_cons]
    split <;> omega
theorem pre_lt : ∀ (rows : List IR) (i : Nat) (h : i < rows.length), i < pre rows → rows[i].f0 = 1
  | r :: t, 0, _, h => by
    simp only [pre] at h
    split at h
    · assumption
    · omega
  | r :: t, i + 1, hl, h => by
    simp only [pre] at h
    split at h
    · exact pre_lt t i (by simpa using hl) (by omega)
    · omega
theorem pre_at : ∀ (rows : List IR) (h : pre rows < rows.length), ¬ rows[pre rows].f0 = 1
  | r :: t, h => by
    simp only [pre] at h ⊢
    by_cases c : r.f0 = 1
    · simp only [c, if_true, List.length_cons] at h
      have := pre_at t (by omega)
      simpa [c] using this
    · simp [c]
theorem pre_any : ∀ rows : List IR, rows.any (fun r => r.f0 != 1) = true → pre rows < rows.length
  | r :: t, h => by
    simp only [List.any_cons, Bool.or_eq_true, bne_iff_ne] at h
    simp only [pre, List.length_cons]
    split
    · rename_i c
      have := pre_any t (h.resolve_left (fun e => e c))
      omega
    · omega
theorem any_reverse (rows : List IR) : rows.reverse.any (fun r => r.f0 != 1) = rows.any (fun r => r.f0 != 1) := by simp

theorem indexW_l0 (rows : List IR) (hL : rows.length ≤ 1048576) (hp : pre rows < rows.length) : ∀ d i, i + d = pre rows → Ev (fun k => slices_IndexFunc_impl_Row_impl_Row__impl_WidthOf_1.l0 k rows (rows.length : Int) (i : Int)) ((pre rows : Nat) : Int) := by
  intro d
  induction d with
  | zero =>
    intro i hi
    have e : i = pre rows := by omega
    subst e
    refine Ev.step (fun k => slices_IndexFunc_impl_Row_impl_Row__impl_WidthOf_1.l0.eq_2 ..) (ev_pos (by omega) (ev_pos (by omega) (ev_pos (by omega) (ev_bind (ev_some rfl) (ev_pos ?_ (ev_some rfl))))))
    rw [rdIR rows _ hp]
    simpa using pre_at rows hp
  | succ d ih =>
    intro i hi
    have hlt : i < rows.length := by omega
    refine Ev.step (fun k => slices_IndexFunc_impl_Row_impl_Row__impl_WidthOf_1.l0.eq_2 ..) (ev_pos (by omega) (ev_pos (by omega) (ev_pos (by omega) (ev_bind (ev_some rfl) (ev_neg ?_ ?_)))))
    · rw [rdIR rows i hlt]
      simpa using pre_lt rows i hlt (by omega)
    · rw [wrap_succ i (by omega)]
      exact ih (i + 1) (by omega)
theorem indexW_ev (rows : List IR) (hL : rows.length ≤ 1048576) (hp : rows.any (fun r => r.f0 != 1) = true) : Ev (fun k => slices_IndexFunc_impl_Row_impl_Row__impl_WidthOf_1.f k rows) ((pre rows : Nat) : Int) := by
  simp only [slices_IndexFunc_impl_Row_impl_Row__impl_WidthOf_1.f]
  exact indexW_l0 rows hL (pre_any rows hp) (pre rows) 0 (by omega)

theorem get_rev (o : List IR) (t : Nat) (h : t < o.length) : o.reverse[t]'(by rw [List.length_reverse]; exact h) = o[o.length - 1 - t]'(by omega) := List.getElem_reverse _
theorem reverse_l0 (o : List IR) (hL : o.length ≤ 1048576) : ∀ d i (x : List IR), d + 2 * i = o.length → (hx : x.length = o.length) → (∀ (t : Nat) (h : t < o.length), x[t]'(by omega) = if t < i ∨ o.length - i ≤ t then o[o.length - 1 - t]'(by omega) else o[t]) →
    Ev (fun k => slices_Reverse_impl_Row_impl_Row.l0 k x (i : Int) ((o.length : Int) - 1 - (i : Int))) o.reverse := by
  intro d
  induction d using Nat.strongRecOn with
  | _ d ih =>
    intro i x hi hx hg
    by_cases h : d ≤ 1
    · refine Ev.step (fun k => slices_Reverse_impl_Row_impl_Row.l0.eq_2 ..) (ev_neg (by omega) (ev_some ?_))
      refine List.ext_getElem (by rw [List.length_reverse]; exact hx) (fun t h1 h2 => ?_)
      rw [get_rev o t (by omega), hg t (by omega)]
      split
      · rfl
      · rename_i c
        congr 1
        omega
    · have hj : ((o.length : Int) - 1 - (i : Int)) = ((o.length - 1 - i : Nat) : Int) := by omega
      refine Ev.step (fun k => slices_Reverse_impl_Row_impl_Row.l0.eq_2 ..) (ev_pos (by omega) (ev_pos (by omega) (ev_pos (by omega) (ev_pos (by omega) (ev_pos (by omega) ?_)))))
      rw [hj, rdIR x (o.length - 1 - i) (by omega), rdIR x i (by omega), wrap_succ i (by omega), wrap64_id (by omega) (by omega), Int.toNat_natCast, Int.toNat_natCast]
      rw [show ((o.length - 1 - i : Nat) : Int) - 1 = (o.length : Int) - 1 - ((i + 1 : Nat) : Int) from by omega]
      refine ih (d - 2) (by omega) (i + 1) _ (by omega) (by rw [List.length_set, List.length_set]; exact hx) (fun t ht => ?_)
      have a1 := hg i (by omega)
      have a2 := hg (o.length - 1 - i) (by omega)
      rw [if_neg (by omega)] at a1 a2
      by_cases c1 : t = o.length - 1 - i
      · subst c1
        have e : o.length - 1 - (o.length - 1 - i) = i := by omega
        rw [List.getElem_set_self, if_pos (by omega), a1]
        simp only [e]
      · rw [List.getElem_set_ne (fun e => c1 e.symm)]
        by_cases c2 : t = i
        · subst c2
          rw [List.getElem_set_self, if_pos (by omega), a2]
        · rw [List.getElem_set_ne (fun e => c2 e.symm), hg t ht]
          by_cases c3 : t < i ∨ o.length - i ≤ t
          · rw [if_pos c3, if_pos (by omega)]
          · rw [if_neg c3, if_neg (by omega)]
theorem reverse_ev (o : List IR) (hL : o.length ≤ 1048576) : Ev (fun k => slices_Reverse_impl_Row_impl_Row.f k o) o.reverse := by
  simp only [slices_Reverse_impl_Row_impl_Row.f]
  rw [wrap64_id (by omega) (by omega)]
  have := reverse_l0 o hL o.length 0 o (by omega) rfl (fun t h => by rw [if_neg (by omega)])
  simpa using this
theorem cloneR_eq (l : List IR) (h : l.length ≤ 1048576) : slices_Clone_impl_Row_impl_Row.f l = some l := by
  unfold slices_Clone_impl_Row_impl_Row.f
  simp only [Option.bind_some, List.nil_append, List.length_nil]
  rw [if_pos (by omega)]

/-- The greatest number so far. -/
def widest : Nat → List IG → Nat
  | w, [] => w
  | w, g :: t => widest (max (max w (pre g.f2)) (pre g.f2.reverse)) t
theorem mx_nat' (a b : Nat) : mx (a : Int) (b : Int) = ((max a b : Nat) : Int) := by
  unfold mx
  split <;> omega
theorem groupB_any {a b : Int} {rows : List IR} (h : groupB a b rows = true) : rows.any (fun r => r.f0 != 1) = true := by
  unfold groupB tailS at h
  simp only [Bool.and_eq_true] at h
  exact h.2.1
theorem width_l0 (l : List IG) (hL : l.length ≤ 1048576) (hg : ∀ x ∈ l, groupB x.f0 x.f1 x.f2 = true) : ∀ d i (w : Nat), i + d = l.length → Ev (fun k => impl_WidthOf.l0 k (w : Int) l (l.length : Int) (i : Int)) (((widest w (l.drop i) : Nat) : Int), true) := by
  intro d
  induction d with
  | zero =>
    intro i w hi
    refine Ev.step (fun k => impl_WidthOf.l0.eq_2 ..) (ev_neg (by omega) (ev_some ?_))
    rw [List.drop_of_length_le (by omega)]
    rfl
  | succ d ih =>
    intro i w hi
    have hlt : i < l.length := by omega
    have hgi := hg _ (List.getElem_mem hlt)
    have hr := (groupB_facts hgi).2.2.2.2.1
    have ha := groupB_any hgi
    refine Ev.step (fun k => impl_WidthOf.l0.eq_2 ..) (ev_pos (by omega) (ev_pos (by omega) (ev_pos (by omega) ?_)))
    simp only [rdIG l i hlt]
    rw [drop_cons l i hlt, cloneR_eq _ (by omega)]
    simp only [Option.bind_some]
    refine ev_bind (indexW_ev l[i].f2 (by omega) ha) (ev_bind (reverse_ev l[i].f2 (by omega)) (ev_bind (indexW_ev l[i].f2.reverse (by rw [List.length_reverse]; omega) (by rw [any_reverse]; exact ha)) ?_))
    rw [mx_nat', mx_nat', wrap_succ i (by omega)]
    exact ih (i + 1) _ (by omega)
theorem l1Most_nat' (a b : Nat) : spec_l1Most.f (a : Int) (b : Int) = some ((max a b : Nat) : Int) := by
  unfold spec_l1Most.f
  split <;> simp <;> omega
theorem specW_l2 (l : List IG) (hL : l.length ≤ 1048576) (i w n : Nat) (p q : Int) (rows : List IR) (hr : rows.length ≤ 1048576) (v : Int × Bool) (hi : i < l.length)
    (hnext : Ev (fun k => spec_WidthOf.l0 k ((max w (max n (pre rows.reverse)) : Nat) : Int) l (l.length : Int) ((i + 1 : Nat) : Int)) v) :
    ∀ d m, m + d = pre rows.reverse → Ev (fun k => spec_WidthOf.l2 k (w : Int) (n : Int) (m : Int) l (l.length : Int) (i : Int) p q rows) v := by
  have hpl := pre_le rows.reverse
  rw [List.length_reverse] at hpl
  have fin : Ev (fun k => (spec_l1Most.f (n : Int) ((pre rows.reverse : Nat) : Int)).bind fun t => ((spec_l1Most.f (w : Int) t).bind fun u => (spec_WidthOf.l0 k u l (l.length : Int) (wrap64 ((i : Int) + 1))))) v := by
    rw [l1Most_nat']
    simp only [Option.bind_some]
    rw [l1Most_nat', wrap_succ i (by omega)]
    exact hnext
  intro d
  induction d with
  | zero =>
    intro m hm
    have e : m = pre rows.reverse := by omega
    subst e
    refine Ev.step (fun k => spec_WidthOf.l2.eq_2 ..) (ev_ite (fun c => ?_) (fun c => fin))
    have hc : pre rows.reverse < rows.length := by omega
    rw [wrap64_id (x := (rows.length : Int) - 1) (by omega) (by omega), wrap64_id (by omega) (by omega)]
    refine ev_pos (by omega) (ev_pos (by omega) (ev_neg ?_ fin))
    rw [show (rows.length : Int) - 1 - ((pre rows.reverse : Nat) : Int) = ((rows.length - 1 - pre rows.reverse : Nat) : Int) from by omega, rdIR rows _ (by omega)]
    have := pre_at rows.reverse (by rw [List.length_reverse]; exact hc)
    rwa [get_rev rows _ hc] at this
  | succ d ih =>
    intro m hm
    have hc : m < rows.length := by omega
    refine Ev.step (fun k => spec_WidthOf.l2.eq_2 ..) (ev_pos (by omega) ?_)
    rw [wrap64_id (x := (rows.length : Int) - 1) (by omega) (by omega), wrap64_id (by omega) (by omega)]
    refine ev_pos (by omega) (ev_pos (by omega) (ev_pos ?_ ?_))
    · rw [show (rows.length : Int) - 1 - (m : Int) = ((rows.length - 1 - m : Nat) : Int) from by omega, rdIR rows _ (by omega)]
      have := pre_lt rows.reverse m (by rw [List.length_reverse]; exact hc) (by omega)
      rwa [get_rev rows _ hc] at this
    · rw [wrap_succ m (by omega)]
      exact ih (m + 1) (by omega)
theorem specW_l1 (l : List IG) (hL : l.length ≤ 1048576) (i w : Nat) (p q : Int) (rows : List IR) (hr : rows.length ≤ 1048576) (v : Int × Bool) (hi : i < l.length)
    (hnext : Ev (fun k => spec_WidthOf.l0 k ((max w (max (pre rows) (pre rows.reverse)) : Nat) : Int) l (l.length : Int) ((i + 1 : Nat) : Int)) v) :
    ∀ d n, n + d = pre rows → Ev (fun k => spec_WidthOf.l1 k (w : Int) (n : Int) 0 l (l.length : Int) (i : Int) p q rows) v := by
  have hpl := pre_le rows
  have fin : Ev (fun k => spec_WidthOf.j2 k (w : Int) ((pre rows : Nat) : Int) 0 l (l.length : Int) (i : Int) p q rows) v :=
    Ev.step (fun k => spec_WidthOf.j2.eq_2 ..) (specW_l2 l hL i w (pre rows) p q rows hr v hi hnext (pre rows.reverse) 0 (by omega))
  intro d
  induction d with
  | zero =>
    intro n hn
    have e : n = pre rows := by omega
    subst e
    refine Ev.step (fun k => spec_WidthOf.l1.eq_2 ..) (ev_ite (fun c => ?_) (fun c => fin))
    have hc : pre rows < rows.length := by omega
    refine ev_pos (by omega) (ev_neg ?_ fin)
    rw [rdIR rows _ hc]
    exact pre_at rows hc
  | succ d ih =>
    intro n hn
    have hc : n < rows.length := by omega
    refine Ev.step (fun k => spec_WidthOf.l1.eq_2 ..) (ev_pos (by omega) (ev_pos (by omega) (ev_pos ?_ ?_)))
    · rw [rdIR rows n hc]
      exact pre_lt rows n hc (by omega)
    · rw [wrap_succ n (by omega)]
      exact ih (n + 1) (by omega)
theorem specW_l0 (l : List IG) (hL : l.length ≤ 1048576) (hg : ∀ x ∈ l, groupB x.f0 x.f1 x.f2 = true) : ∀ d i (w : Nat), i + d = l.length → Ev (fun k => spec_WidthOf.l0 k (w : Int) l (l.length : Int) (i : Int)) (((widest w (l.drop i) : Nat) : Int), true) := by
  intro d
  induction d with
  | zero =>
    intro i w hi
    refine Ev.step (fun k => spec_WidthOf.l0.eq_2 ..) (ev_neg (by omega) (ev_some ?_))
    rw [List.drop_of_length_le (by omega)]
    rfl
  | succ d ih =>
    intro i w hi
    have hlt : i < l.length := by omega
    have hgi := hg _ (List.getElem_mem hlt)
    have hr := (groupB_facts hgi).2.2.2.2.1
    refine Ev.step (fun k => spec_WidthOf.l0.eq_2 ..) (ev_pos (by omega) (ev_pos (by omega) (ev_pos (by omega) ?_)))
    simp only [rdIG l i hlt]
    rw [drop_cons l i hlt]
    refine specW_l1 l hL i w l[i].f0 l[i].f1 l[i].f2 (by omega) _ hlt ?_ (pre l[i].f2) 0 (by omega)
    refine ev_to (ih (i + 1) _ (by omega)) ?_
    rw [← Nat.max_assoc]
    rfl
def widthR (l : List IG) : Int × Bool := if goodGs l = true then (((widest 0 l : Nat) : Int), true) else (0, false)
theorem impl_WidthOf_ev (l : List IG) (hf : FitIG l) (hL : ∀ x ∈ l, x.f2.length ≤ 1048576) : Ev (fun k => impl_WidthOf.f k l) (widthR l) := by
  simp only [impl_WidthOf.f]
  unfold widthR
  refine ev_bind (goodGroups_ev l hf hL) (ev_ite (fun h => ?_) (fun h => ev_some (by rw [if_neg h])))
  rw [if_pos h]
  unfold goodGs at h
  simp only [Bool.and_eq_true, decide_eq_true_eq] at h
  exact width_l0 l (by omega) (chainG_mem l 0 0 h.2) l.length 0 0 (by omega)
theorem spec_WidthOf_ev (l : List IG) (hf : FitIG l) (hL : ∀ x ∈ l, x.f2.length ≤ 1048576) : Ev (fun k => spec_WidthOf.f k l) (widthR l) := by
  simp only [spec_WidthOf.f]
  unfold widthR
  refine ev_bind (l6Good_ev l hf hL) (ev_ite (fun h => ?_) (fun h => ev_some (by rw [if_neg h])))
  rw [if_pos h]
  unfold goodGs at h
  simp only [Bool.and_eq_true, decide_eq_true_eq] at h
  exact specW_l0 l (by omega) (chainG_mem l 0 0 h.2) l.length 0 0 (by omega)
end Go.Proofs.Ytcefenlblnediaa.Pl

/- WidthOf's law, in plain Lean. Conditions: lengths and sizes below 2^63. -/
namespace Go.Proofs.Ytcefenlblnediaa.Pure
open Go.RowKit Go.Proofs.Ytcefenlblnediaa.My Go.Proofs.Ytcefenlblnediaa.Pl Go.Proofs.YtcefenlblnediaaW.PrintWords Go.Proofs.YtcefenlblnediaaW.PrintLast
theorem FnExactWidthOf : laws_FnExactWidthOf.Pure := by
  intro a ha
  have fa := fitG_of_wl ha
  refine Ev.rounds (r := true) ?_
  simp only [laws_FnExactWidthOf.f]
  obtain ⟨r, hr, hl⟩ := szGroupS_ev a fa 1048576 (by omega) (by omega)
  refine ev_bind hr (ev_ite (fun _ => ev_some rfl) (fun h => ?_))
  have hz : szG a ≤ 1048576 ∧ 0 ≤ r ∧ r ≤ 1048576 := by rcases hl with hl | hl <;> omega
  have ta := toGroupS_ev a (smallG hz.1)
  have ia := fitIG_of fa
  have hL : ∀ x ∈ a.map toG, x.f2.length ≤ 1048576 := fun x hx => by
    obtain ⟨y, hy, rfl⟩ := List.mem_map.1 hx
    simp only [toG, List.length_map]
    exact (smallG hz.1).2 y hy
  have es := spec_WidthOf_ev _ ia hL
  have ei := impl_WidthOf_ev _ ia hL
  generalize widthR (a.map toG) = R at *
  refine ev_bind ta (ev_bind es (ev_bind ta (ev_bind ei (ev_pos rfl ?_))))
  rw [bne_self_eq_false]
  refine Ev.step (fun k => laws_FnExactWidthOf.j0.eq_2 ..) (ev_neg (by simp) ?_)
  exact ev_bind ta (ev_bind (eqGroupS_ev _ _ ia) (ev_pos (by simp) (ev_some rfl)))
end Go.Proofs.Ytcefenlblnediaa.Pure

/- The Go function loop.example/g00825/laws.FnExactWidthOf returns true for every input, and each argument reads afterwards as it read before. No condition. -/
namespace Go.Proofs.Ytcefenlblnediaa.fnExactWidthOf
open Go.ChangeShapes Go.WideShapes Go.ChangeAt Go.RowKit Go.Joins Go.Proofs.Ytcefenlblnediaa.Opens Go.Proofs.Ytcefenlblnediaa.My
open Go.ChangeMaps (open_string shut_string)
set_option linter.unusedVariables false
set_option linter.unusedSimpArgs false
theorem own : ownKnob Try.prog.godebug = none := by kernel_rfl
theorem laidOut : laidOutB Try.prog = true := by kernel_rfl
set_option maxRecDepth 100000 in
theorem lifted (os : Os) (started : os.Started) (H : Type) (enc : TypeId × Value → H) :
    ReturnsInHanded {} Try.checked os 4 .any (Rows.fnExactWidthOfSpec.pre6 enc Try.prog Try.f4 Rows.fnExactWidthOfRow.domain false) (Rows.fnExactWidthOfSpec.post enc Try.prog Try.f4 false true false false) := by
  refine returnsInHanded_of_change_sized (C := Try.checked) own started (by kernel_rfl) Try.func4
    (ChangeSpec.witness6 (enc := enc) (C := Try.checked) false ⟨#[], #[.slice none 0 0], []⟩ 8 (by kernel_rfl) (by kernel_rfl) (by kernel_rfl) (by kernel_rfl)) ?_
  intro W base args ds gs before hval0 hW hcnd hsz0 _
  have hval : ∀ (j : Nat) t v, Try.f4.params[j]? = some t → args[j]? = some v → Value.okWide Try.prog W .any base t v := hval0
  have hW' := hW
  obtain ⟨p, q, hA0, hV, rfl, hfz, hnd⟩ := hW
  have hA : DataW.TrodAll enc Try.prog W 0 (fun _ => true) true Try.f4.params.toList args.toList ds p := hA0
  rw [Try.params4] at hA hval
  obtain ⟨v0, vs0, d0, ds0, p0, q0, hargs, rfl, rfl, h0, r0⟩ := trodAll_cons hA
  obtain ⟨rfl, rfl, rfl⟩ := trodAll_nil r0
  obtain rfl : args = #[v0] := by cases args; simp_all
  obtain ⟨rfl, rfl⟩ := trodVars_none hV
  obtain ⟨A0, n0, c0, rfl⟩ := okWide_slice Try.underlying29 (hval 0 29 v0 rfl rfl)
  have k0 := h0
  have lt0 : ∀ x ∈ p0, x.block < W.heap.size := by obtain ⟨m, hm⟩ := k0; exact DataW.trod_lt m _ _ _ hm
  obtain ⟨l0, rfl, hc0, hr0, q0_⟩ := Opens.row (opens_slice Try.underlying29 (by kernel_rfl) opens83) h0
  clear hA0 hval0 hsz0
  obtain ⟨kr, hk⟩ := Pure.FnExactWidthOf l0 q0_
  refine (laws_FnExactWidthOf.calls kr _ _ l0 true W hr0 hc0 hk).mono fun e W' hh => ?_
  obtain ⟨rfl, hd⟩ := hh
  have bel : Below W.heap.size W W' := hd
  exact ⟨_, rfl, _, _, _, [], _, [], hW', trodAll_mk1 (shut_bool Try.underlying4 _), (trodAll_cons_mk (Below.trod laidOut (by kernel_rfl) (of_decide_eq_true (by kernel_rfl)) k0 bel lt0) trodAll_mk0), rfl, bel.frame _, fun h => by cases h⟩
theorem over : Rows.fnExactWidthOfRow.holds Try.pinned (OpenSpec.ofChange Rows.fnExactWidthOfSpec) :=
  OpenClaim.holds_of_wide 4 Try.f4 rfl rfl rfl rfl rfl rfl rfl ⟨rfl, rfl, rfl, rfl, rfl⟩ rfl rfl rfl rfl rfl (by kernel_rfl) Try.func4 (by kernel_rfl)
    (of_decide_eq_true (by kernel_rfl)) (by unfold Func.isWrapper; first | (rw [if_pos (by decide +kernel)]; kernel_rfl) | (rw [if_neg (by decide +kernel)]; exact ⟨rfl, rfl⟩))
    (fun os started H enc _ => lifted os started H enc)
theorem proved : Rows.FnExactWidthOfSaid := over
#print axioms proved
end Go.Proofs.Ytcefenlblnediaa.fnExactWidthOf
namespace Go.Proofs.Ytcefenlblnediaa
/-- The row, under a short name, for the claim. -/
theorem fnExactWidthOf_holds : Rows.FnExactWidthOfSaid := fnExactWidthOf.proved
end Go.Proofs.Ytcefenlblnediaa
