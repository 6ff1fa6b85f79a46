/- Part 5 of 5 of a proof of this sentence: The Go function loop.example/g00825/laws.FnLines returns true for every input, and each argument reads afterwards as it read before. No condition. -/
import Derived.Test.YtmcldkobejhaeaaDoorRows
import Derived.Test.YtmcldkobejhaeaaDoorCards
import Derived.Test.YtmcldkobejhaeaaDoorTie
import Derived.LaidMore
import Derived.LaidLaws
import Derived.Stop.LaidErr
import Derived.Stop.Joined
import Derived.SevenTiedAt
import Derived.Lib.LaidTab
import Derived.Lay
import Derived.WalkKit
import Derived.ProofKit
import Derived.OpenShut
import Derived.ShutString
import Derived.ChangeOld
import Derived.Below
import Derived.SizedLaws
import Derived.Lib.SmallJoins
import Derived.Test.YtmcldkobejhaeaaDoorCFnLines4
/- FnLines, in plain Lean: a text is made of its lines again, and what is the same ahead and behind is, and no more. No condition. -/
namespace Go.Proofs.YtmcldkobejhaeaaDoor.Pure
open Go.RowKit Go.Proofs.YtmcldkobejhaeaaDoor.My Go.Proofs.YtmcldkobejhaeaaDoor.Pl Go.Proofs.YtmcldkobejhaeaaDoorW.PrintWords Go.Proofs.YtmcldkobejhaeaaDoorW.PrintLast
set_option linter.unusedVariables false
set_option linter.unusedSimpArgs false
theorem fitT {l : List ByteArray} (h : SmT l) : FitS l := ⟨by have := h.1; omega, fun s hs => by have := h.2.1 s hs; omega⟩
theorem partLen {l : List ByteArray} (h : l.length ≤ 100) (a b : Int) : (PartOf' l a b).1.length ≤ 100 := by
  unfold PartOf'
  split
  · split
    · rw [List.length_drop, List.length_take]; omega
    · simp
  · simp
theorem j3_ev (c : List Int) (hc : Bytes8 c) : Ev (fun k => laws_FnLines.j3 k c) true := by
  obtain ⟨t, et, ht⟩ := drawText_some c hc
  obtain ⟨p, a, b, ep, hp⟩ := drawPart_some c hc
  obtain ⟨s, es, hs⟩ := drawPlain_some c hc
  have ft := fitT ht
  have fp := fitT hp
  have hpl := hp.1
  have pl := partLen (l := p) (by omega) a b
  refine Ev.step (fun k => laws_FnLines.j3.eq_2 ..) (ev_bind et (ev_bind (impl_TextOf_ev t ft) (ev_bind (spec_TextOf_ev t ft) (ev_bind (impl_IsWhole_ev t ft) (ev_bind (spec_IsWhole_ev t ft) (ev_bind ep (ev_bind (impl_PartOf_ev p a b fp (by omega)) (ev_bind (spec_PartOf_ev p a b fp (by omega)) (ev_bind (ev_const es) (ev_bind (impl_PlainOf_ev s (by omega)) (ev_bind (spec_PlainOf_ev s (by omega)) ?_)))))))))))
  exact ev_pos (by simp) (ev_pos rfl (ev_pos (by simp) (ev_pos (by simp) (ev_pos (by simp) (ev_bind (sameTexts_self _ (by omega)) (ev_pos rfl (ev_pos (by simp) (ev_pos rfl (ev_bind (impl_GoodLines_ev t ft) (ev_bind (spec_GoodLines_ev t ft) (ev_some (by simp))))))))))))
theorem j2_ev (c : List Int) (hc : Bytes8 c) (a b : List ByteArray) (ha : Sm9 a) (hb : Sm9 b) : Ev (fun k => laws_FnLines.j2 k c a b (both a b (0 : Int) ((Pl.ahead a b : Nat) : Int)).1 (both a b (0 : Int) ((Pl.ahead a b : Nat) : Int)).2 (both a b (0 : Int) ((behind a b : Nat) : Int)).1 false) true := by
  have k1 := ha.1
  have k2 := hb.1
  refine Ev.step (fun k => laws_FnLines.j2.eq_2 ..) (ev_neg (by simp) ?_)
  by_cases ga : good a = true
  · by_cases gb : good b = true
    · have e1 : both a b (0 : Int) ((Pl.ahead a b : Nat) : Int) = (((Pl.ahead a b : Nat) : Int), true) := by unfold both; rw [if_pos ga, if_pos gb]
      have e2 : both a b (0 : Int) ((behind a b : Nat) : Int) = (((behind a b : Nat) : Int), true) := by unfold both; rw [if_pos ga, if_pos gb]
      rw [e1, e2]
      have hle := behind_le a b
      have ht := ahead_take a b
      have p1 := impl_PartOf_ev a 0 ((Pl.ahead a b : Nat) : Int) (fitS_sm9 ha) (by omega)
      have p2 := impl_PartOf_ev b 0 ((Pl.ahead a b : Nat) : Int) (fitS_sm9 hb) (by omega)
      rw [show PartOf' a 0 ((Pl.ahead a b : Nat) : Int) = (a.take (Pl.ahead a b), true) from by unfold PartOf'; rw [if_pos ga, if_pos ⟨by omega, by omega, by omega⟩, Int.toNat_natCast]; rfl] at p1
      rw [show PartOf' b 0 ((Pl.ahead a b : Nat) : Int) = (b.take (Pl.ahead a b), true) from by unfold PartOf'; rw [if_pos gb, if_pos ⟨by omega, by omega, by omega⟩, Int.toNat_natCast]; rfl, ← ht] at p2
      refine ev_pos rfl (ev_bind p1 (ev_bind p2 (ev_pos rfl (ev_pos rfl (ev_bind (sameTexts_self _ (by rw [List.length_take]; omega)) (ev_pos rfl ?_))))))
      dsimp only
      rw [wrap64_id (by omega) (by omega)]
      exact ev_neg (by omega) (ev_neg (by omega) (j3_ev c hc))
    · have e1 : both a b (0 : Int) ((Pl.ahead a b : Nat) : Int) = (0, false) := by unfold both; rw [if_pos ga, if_neg gb]
      rw [e1]
      exact ev_neg (by simp) (j3_ev c hc)
  · have e1 : both a b (0 : Int) ((Pl.ahead a b : Nat) : Int) = (0, false) := by unfold both; rw [if_neg ga]
    rw [e1]
    exact ev_neg (by simp) (j3_ev c hc)
theorem j1_ev (c : List Int) (hc : Bytes8 c) : Ev (fun k => laws_FnLines.j1 k c) true := by
  obtain ⟨a, b, e, ha, hb⟩ := drawSame_some c hc
  have fa := fitS_sm9 ha
  have fb := fitS_sm9 hb
  have k1 := ha.1
  have k2 := hb.1
  refine Ev.step (fun k => laws_FnLines.j1.eq_2 ..) (ev_bind e (ev_bind (impl_SameAhead_ev a b fa fb (by omega) (by omega)) (ev_bind (spec_SameAhead_ev a b fa fb (by omega) (by omega)) (ev_bind (impl_SameBehind_ev a b fa fb (by omega) (by omega)) (ev_bind (spec_SameBehind_ev a b fa fb (by omega) (by omega)) (ev_neg (by simp) (ev_pos rfl (ev_neg (by simp) ?_))))))))
  rw [show ((both a b (0 : Int) ((behind a b : Nat) : Int)).1 != (both a b (0 : Int) ((behind a b : Nat) : Int)).1) = false from by simp]
  exact j2_ev c hc a b ha hb
theorem FnLines : laws_FnLines.Pure := by
  intro l0 l1 w0 w1
  have b0 := bytes8_of w0
  have b1 := bytes8_of w1
  have key : Ev (fun k => laws_FnLines.f k l0 l1) true := by
    simp only [laws_FnLines.f]
    refine ev_bind (ev_const (big_eq l0 l1 b0 b1)) (ev_ite (fun _ => ev_some rfl) (fun _ => ?_))
    obtain ⟨s, e, hs⟩ := drawLines_some l0 b0
    have hp := LinesOf_len s hs
    refine ev_bind e (ev_bind (impl_LinesOf_ev s (by omega)) (ev_bind (spec_LinesOf_ev s (by omega)) (ev_neg (by simp) (ev_bind (sameTexts_self _ (by omega)) ?_))))
    refine Ev.step (fun k => laws_FnLines.j0.eq_2 ..) (ev_neg (by simp) (ev_ite (fun c => ?_) (fun c => j1_ev l1 b1)))
    have g : good (linesB s) = true := by
      unfold LinesOf' at c
      split at c
      · assumption
      · cases c
    have e0 : LinesOf' s = (linesB s, true) := by unfold LinesOf'; rw [if_pos g]
    have fl := fitS_lines s (by omega)
    have et : textR (linesB s) = (s, true) := by unfold textR; rw [if_pos g, catV_lines]
    have ew : IsWhole' (linesB s) = (whole (linesB s), true) := by unfold IsWhole'; rw [if_pos g]
    have t1 := impl_TextOf_ev (linesB s) fl
    have t2 := impl_IsWhole_ev (linesB s) fl
    rw [et] at t1
    rw [ew] at t2
    rw [e0]
    refine ev_bind t1 (ev_bind t2 (ev_bind (impl_GoodLines_ev (linesB s) fl) (ev_pos g (ev_pos rfl (ev_pos rfl (ev_pos rfl (ev_ite (fun c0 => ?_) (fun c0 => ?_))))))))
    · have h0 : s.data.toList = [] := by rw [← Lib.toList_data]; exact c0
      exact ev_neg (by rw [whole_none s h0]; simp) (j1_ev l1 b1)
    · have h0 : s.data.toList ≠ [] := fun e => c0 (by rw [Lib.toList_data]; exact e)
      have hz : 0 < s.size := by
        rcases Nat.eq_zero_or_pos s.size with z | z
        · exact absurd (List.eq_nil_of_length_eq_zero (by rw [data_length]; exact z)) h0
        · exact z
      rw [wrap_pred s.size hz (by omega), last_byte s hz, whole_lines s h0]
      exact ev_pos (by omega) (ev_pos (by omega) (ev_neg (by simp) (j1_ev l1 b1)))
  obtain ⟨n, hn⟩ := key
  exact ⟨n, hn n (Nat.le_refl _)⟩
end Go.Proofs.YtmcldkobejhaeaaDoor.Pure
/- The Go function loop.example/g00825/laws.FnLines returns true for every input, and each argument reads afterwards as it read before. No condition. -/
namespace Go.Proofs.YtmcldkobejhaeaaDoor.fnLines
open Go.ChangeShapes Go.WideShapes Go.ChangeAt Go.RowKit Go.Joins Go.Proofs.YtmcldkobejhaeaaDoor.Opens Go.Proofs.YtmcldkobejhaeaaDoor.My
open Go.ChangeMaps (open_string shut_string)
set_option linter.unusedVariables false
set_option linter.unusedSimpArgs false
theorem own : ownKnob Tryd.prog.godebug = none := by kernel_rfl
theorem laidOut : laidOutB Tryd.prog = true := by kernel_rfl
set_option maxRecDepth 100000 in
theorem lifted (os : Os) (started : os.Started) (H : Type) (enc : TypeId × Value → H) :
    ReturnsInHanded {} Tryd.checked os 4 .any (fun w args => (Rows.fnLinesSpec.pre enc Tryd.prog Tryd.f4 [] false w args ∧ laidMetH Tryd.prog Rows.fnLinesRow.laid w) ∧ sizedMet enc Tryd.prog Tryd.f4 (OpenSpec.ofChange Rows.fnLinesSpec) false w args) (Rows.fnLinesSpec.post enc Tryd.prog Tryd.f4 false true false false) := by
  refine returnsInHanded_of_change_and (C := Tryd.checked) (X := fun w _ => laidMetH Tryd.prog Rows.fnLinesRow.laid w) (fun _ _ _ hh h => h.of_heap hh) own started (by kernel_rfl) Tryd.func4
    (ChangeSpec.witness_shaped (enc := enc) (C := Tryd.checked) (os := os) (X := fun w _ => laidMetH Tryd.prog Rows.fnLinesRow.laid w) false (World.laidAll Tryd.prog os Rows.fnLinesRow.laid) #[.slice none 0 0, .slice none 0 0] 8 (World.laidAll_os _ _ _) (World.shaped_of_ZipB (by kernel_rfl) (by kernel_rfl)) (by kernel_rfl) (by kernel_rfl) (by kernel_rfl) (by rw [MakeChecks.laidMetH_plain _ _ _ (by kernel_rfl)]; exact laidMet_laidAll _ (by kernel_rfl) (by kernel_rfl))) ?_
  intro W base args ds gs before hval0 hW hcnd hsz0 hL _
  have hval : ∀ (j : Nat) t v, Tryd.f4.params[j]? = some t → args[j]? = some v → Value.okWide Tryd.prog W .any base t v := hval0
  have hW' := hW
  obtain ⟨p, q, hA0, hV, rfl, hfz, hnd⟩ := hW
  have hA : DataW.TrodAll enc Tryd.prog W 0 (fun _ => true) true Tryd.f4.params.toList args.toList ds p := hA0
  rw [Tryd.params4] at hA hval
  obtain ⟨v0, vs0, d0, ds0, p0, q0, hargs, rfl, rfl, h0, r0⟩ := trodAll_cons hA
  obtain ⟨v1, vs1, d1, ds1, p1, q1, rfl, rfl, rfl, h1, r1⟩ := trodAll_cons r0
  obtain ⟨rfl, rfl, rfl⟩ := trodAll_nil r1
  obtain rfl : args = #[v0, v1] := by cases args; simp_all
  obtain ⟨rfl, rfl⟩ := trodVars_none hV
  obtain ⟨A0, n0, c0, rfl⟩ := okWide_slice Tryd.underlying28 (hval 0 28 v0 rfl rfl)
  have k0 := h0
  have lt0 : ∀ x ∈ p0, x.block < W.heap.size := by obtain ⟨m, hm⟩ := k0; exact DataW.trod_lt m _ _ _ hm
  obtain ⟨l0, rfl, hc0, hr0, q0_⟩ := Opens.row (opens_slice Tryd.underlying28 (by kernel_rfl) (opens_int .u8 Tryd.underlying5)) h0
  obtain ⟨A1, n1, c1, rfl⟩ := okWide_slice Tryd.underlying28 (hval 1 28 v1 rfl rfl)
  have k1 := h1
  have lt1 : ∀ x ∈ p1, x.block < W.heap.size := by obtain ⟨m, hm⟩ := k1; exact DataW.trod_lt m _ _ _ hm
  obtain ⟨l1, rfl, hc1, hr1, q1_⟩ := Opens.row (opens_slice Tryd.underlying28 (by kernel_rfl) (opens_int .u8 Tryd.underlying5)) h1
  clear hA0 hval0 hsz0
  obtain ⟨kr, hk⟩ := Pure.FnLines l0 l1 q0_ q1_
  refine (laws_FnLines.calls kr _ _ l0 _ _ l1 true W hr0 hc0 hr1 hc1 hk rfl).mono fun e W' hh => ?_
  obtain ⟨rfl, hd⟩ := hh
  have bel : Below W.heap.size W W' := hd
  exact ⟨_, rfl, _, _, _, [], _, [], hW', trodAll_mk1 (shut_bool Tryd.underlying4 _), (trodAll_cons_mk (Below.trod laidOut (by kernel_rfl) (of_decide_eq_true (by kernel_rfl)) k0 bel lt0) (trodAll_cons_mk (Below.trod laidOut (by kernel_rfl) (of_decide_eq_true (by kernel_rfl)) k1 bel lt1) trodAll_mk0)), rfl, bel.frame _, fun h => by cases h⟩
theorem over : Rows.fnLinesRow.holds Tryd.pinned (OpenSpec.ofChange Rows.fnLinesSpec) :=
  OpenClaim.holds_of_wide 4 Tryd.f4 rfl rfl rfl rfl rfl rfl rfl ⟨rfl, rfl, rfl, rfl, rfl⟩ rfl rfl rfl rfl rfl (by kernel_rfl) Tryd.func4 (by kernel_rfl)
    (of_decide_eq_true (by kernel_rfl)) (by unfold Func.isWrapper; first | (rw [if_pos (by decide +kernel)]; kernel_rfl) | (rw [if_neg (by decide +kernel)]; exact ⟨rfl, rfl⟩))
    (fun os started H enc _ => lifted os started H enc)
theorem plain (f : FuncId) (fn : Func) (hf : Tryd.pinned.checked.prog.funcNamed "loop.example/g00825/laws.FnLines" = some f) (hfn : Tryd.pinned.checked.prog.funcs[f]? = some fn) :
    false = Tryd.pinned.checked.prog.looks [] ∧ ∀ (j : Nat) t, fn.params[j]? = some t → Tryd.pinned.checked.prog.wantsStandIn t = false := by
  obtain rfl : f = 4 := Option.some.inj ((show Tryd.prog.funcNamed "loop.example/g00825/laws.FnLines" = some 4 by kernel_rfl).symm.trans hf) |>.symm
  obtain rfl : fn = Tryd.f4 := (Option.some.inj (Tryd.func4.symm.trans hfn)).symm
  refine ⟨by kernel_rfl, fun j t ht => ?_⟩
  have hall : (Tryd.f4.params.all fun u => !Tryd.prog.wantsStandIn u) = true := by kernel_rfl
  have hm := (Array.all_eq_true_iff_forall_mem.1 hall) t (Array.mem_of_getElem? ht)
  exact (show Tryd.prog.wantsStandIn t = false by simpa using hm)
theorem proved : Rows.FnLinesCardSaid :=
  Claim7.holds_tied_plain_at .later [] _ _ _ _ over (fun _ h => by cases h) (by kernel_rfl) (fun _ h => by cases h) fnLines_row_tie rfl ⟨rfl, rfl⟩ (by kernel_rfl) rfl plain (by kernel_rfl)
#print axioms proved
end Go.Proofs.YtmcldkobejhaeaaDoor.fnLines
namespace Go.Proofs.YtmcldkobejhaeaaDoor
/-- The row, under a short name, for the claim. -/
theorem fnLines_holds : Rows.FnLinesCardSaid := fnLines.proved
end Go.Proofs.YtmcldkobejhaeaaDoor
