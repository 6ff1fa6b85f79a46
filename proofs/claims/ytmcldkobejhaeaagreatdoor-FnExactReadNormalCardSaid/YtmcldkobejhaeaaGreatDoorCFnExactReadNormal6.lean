/- Part 6 of 6 of a proof of this sentence: The Go function loop.example/g00825/laws.FnExactReadNormal returns true for every input, and each argument reads afterwards as it read before. No condition. -/
import Derived.Lib.Strings
import Derived.Lib.Bytealg
import Derived.Lib.ItoaLen
import Derived.Lib.ItoaMem
import Derived.Lib.Join
import Derived.Lib.AtoiTie
import Derived.Test.YtmcldkobejhaeaaGreatDoorRows
import Derived.Test.YtmcldkobejhaeaaGreatDoorCards
import Derived.Test.YtmcldkobejhaeaaGreatDoorTie
import Derived.LaidMore
import Derived.LaidLaws
import Derived.Stop.LaidErr
import Derived.Stop.Joined
import Derived.SevenTiedAt
import Derived.Lib.LaidTab
import Derived.Lay
import Derived.WalkKit
import Derived.ProofKit
import Derived.OpenShut
import Derived.ShutString
import Derived.ChangeOld
import Derived.Below
import Derived.SizedLaws
import Derived.Lib.SmallJoins
import Derived.Test.YtmcldkobejhaeaaGreatDoorCFnExactReadNormal5
namespace Go.Proofs.YtmcldkobejhaeaaGreatDoor.My
open Go.RowKit Go.Proofs.YtmcldkobejhaeaaGreatDoorW.PrintWords Go.Proofs.YtmcldkobejhaeaaGreatDoorW.PrintLast Go.Proofs.YtmcldkobejhaeaaGreatDoorW.PrintMore
attribute [local go_sem] max2_int min2_int max_two min_two max_three min_three max_four min_four
set_option linter.unusedVariables false
set_option linter.unusedSimpArgs false
def laws_markStringS.l0 : Nat → List ByteArray → Int → Int → Option (Int × List ByteArray)
 | 0, _, _, _ => none
 | k + 1, x0, x1, x5 => if x5 < (x0.length : Int) then ((laws_markText.f k x1).bind fun t495 => (if 0 ≤ x5 then (laws_markStringS.l0 k (x0.set (x5 : Int).toNat t495) (wrap64 (x1 + 1)) (wrap64 (x5 + 1))) else (none))) else (some (x1, x0))
def laws_markStringS.f (k : Nat) (l0 : List ByteArray) (a1 : Int) : Option (Int × List ByteArray) := laws_markStringS.l0 k l0 a1 0
set_option maxHeartbeats 8000000 in
set_option maxRecDepth 100000 in
theorem laws_markStringS.calls (k : Nat) (P0_ : Nat → Prop) (u9000_ : Value) (l0 : List ByteArray) (a1 : Int) (r1 : Int) (r2 : List ByteArray) (w0 w : World) (hB : Below w0.heap.size w0 w) (ho0 : Kd.R Kd.string 9 w w0.heap.size P0_ u9000_ l0) (h : laws_markStringS.f k l0 a1 = some (r1, r2)) :
  Calls Tryz.prog 53 #[u9000_, .int .i64 a1] w fun e w' => e = .returned (.int .i64 r1) ∧ Kd.R Kd.string 9 w' w0.heap.size (fun k_ => (P0_ k_ ∨ w.heap.size ≤ k_)) u9000_ r2 ∧ Below w0.heap.size w0 w' ∧ Kept w w' (fun k_ => P0_ k_) := by
 have HO0 := am (show Kd.R Kd.string 9 w w0.heap.size (fun k_ => (P0_ k_ ∨ w.heap.size ≤ k_)) u9000_ l0 from Kd.R_mono ho0 (fun k_ hk => (.inl hk)))
 have HK := am (Kept.refl w (fun k_ => P0_ k_))
 have HW0 := am hB.size
 have HB := am hB
 clear hB
 have H : (laws_markStringS.l0 k l0 a1 0) = some (r1, r2) := h
 clear h
 have H' := am H
 clear H
 go_enter Tryz.func53, Tryz.ntmps53
 go_wp2
 go_loopg [1, 5] k (fun kq v1 v5 w' => ∃ (x0_1 : List ByteArray) (x1_1 : Int) (x5_1 : Int), v1 = .int .i64 x1_1 ∧ v5 = .int .i64 x5_1 ∧ Aside0 (laws_markStringS.l0 kq x0_1 x1_1 x5_1 = some (r1, r2)) ∧ Aside0 (kq ≤ k) ∧ Aside0 (Kd.R Kd.string 9 w' w0.heap.size (fun k_ => (P0_ k_ ∨ w.heap.size ≤ k_)) u9000_ x0_1) ∧ Aside0 (Kept w w' (fun k_ => P0_ k_)) ∧ Aside0 (Below w0.heap.size w0 w'))
 case atStart => exact ⟨(l0), (a1), (0), zf, zf, H', ⟨Nat.le_refl _⟩, ⟨zr HO0.out⟩, ⟨by repeat (first | (with_reducible first | exact HK.out | apply Kept.alloc | apply Kept.drewN | apply Kept.drew) | exact HK.out)⟩, ⟨zb⟩⟩
 case round =>
  clear H'
  try clear p2
  obtain ⟨x0_1, x1_1, x5_1, rfl, rfl, HA, HK1, HO_0, HK, HB⟩ := hrel
  cases gk with
  | zero => exact absurd HA.out (by simp [laws_markStringS.l0])
  | succ k1 =>
   have H := HA.out
   clear HA
   simp only [laws_markStringS.l0] at H
   by_cases c3 : x5_1 < (x0_1.length : Int)
   ·rw [if_pos c3] at H
    have c3b0 : decide (x5_1 < (x0_1.length : Int)) = true := decide_eq_true c3
    clear c3
    replace H := Option.bind_eq_some_iff.mp H
    obtain ⟨t495, A40, H⟩ := H
    replace H : (if 0 ≤ x5_1 then (laws_markStringS.l0 k1 (x0_1.set (x5_1 : Int).toNat t495) (wrap64 (x1_1 + 1)) (wrap64 (x5_1 + 1))) else (none)) = some (r1, r2) := H
    have A4 := am A40
    clear A40
    by_cases c5 : 0 ≤ x5_1
    ·rw [if_pos c5] at H
     have c5b0 : decide (0 ≤ x5_1) = true := decide_eq_true c5
     clear c5
     obtain ⟨y496, hy496⟩ : ∃ y_ : List ByteArray, y_ = (x0_1.set (x5_1 : Int).toNat t495) := ⟨_, rfl⟩
     replace H : (laws_markStringS.l0 k1 y496 (wrap64 (x1_1 + 1)) (wrap64 (x5_1 + 1))) = some (r1, r2) := by first | (rw [hy496]; with_reducible exact H) | (have H2_ := (Option.bind_some _ _).symm.trans H; rw [hy496]; with_reducible exact H2_) | (have H2_ := (Option.bind_some _ _).symm.trans H; with_reducible exact H2_) | with_reducible exact H | (rw [hy496]; exact H) | exact H
     have Ny496 := am hy496
     clear hy496
     have H' := am H
     clear H
     obtain ⟨Ao7, co7, eo7⟩ := Kd.R_slice HO_0.out
     subst eo7
     go_wp2_with (first | ((with_reducible refine gateC (f := 86) rfl ?_); refine goesL_ (some 15) rfl rfl Tryz.func86 (by kernel_rfl) rfl #[.int .i64 x1_1] rfl zm ?_; (with_reducible refine (laws_markText.calls k1 x1_1 t495 _ A4.out).mono ?_); rintro e w8 ⟨rfl, hb⟩; refine ⟨_, rfl, ?_⟩; have n0_ := am (Kd.R_below (zr HO_0.out) hb); have n1_ := am (Kept.below (S := (fun k_ => P0_ k_)) (by repeat (first | (with_reducible first | exact HK.out | apply Kept.alloc | apply Kept.drewN | apply Kept.drew) | exact HK.out)) hb); have n2_ := am (below_step zb hb); clear HO_0; clear HK; clear HB; have HO_0 := n0_; have HK := n1_; have HB := n2_; clear n0_ n1_ n2_; (try clear hb); have p6 : 0 ≤ (x5_1 : Int) := oa; have q6 : (x5_1 : Int) < ((x0_1.length : Int) : Int) := oa; obtain ⟨go6, co6, eo6, gb6, gl6, cl6, HG6⟩ := Kd.R_form HO_0.out (by omega); (first | cases eo6 | (injection eo6 with ea_ en_ ec_; (first | subst ea_ | (injection ea_ with ea_; subst ea_)); subst ec_; clear en_)); have GB6 := am gb6; have GG6 := am HG6; clear gb6 gl6 HG6; have HMgo6 := am (show (P0_ go6 ∨ w.heap.size ≤ go6) from (HO_0.out.1 _ rfl)); obtain ⟨hx6_0, hf6_0⟩ := Kd.R_celln (⟨#[]⟩ : ByteArray) HO_0.out (x5_1 : Int) p6 q6; replace p6 := eq_true p6; replace q6 := eq_true q6; obtain ⟨hy9_, hz9_⟩ := Kd.R_celln (⟨#[]⟩ : ByteArray) HO_0.out (x5_1 : Int) oa oa; have HP9 := Kd.R_putg HO_0.out (x5_1 : Int) t495) | ((with_reducible refine gate_store (t := 9) (p := 16) rfl ?_); refine store_event (t := 9) (p := 16) (v := ?vo_w10) (w1 := (w8.setCell ⟨go6, (x5_1 : Int).toNat, none⟩ (.string t495))) ?hg ?ho ?hn ?hr ?_; (case ho => rfl); (case hg => rfl); (case hn => rfl); (case hr => first | (go_simp; done) | (go_simp; rfl)); intro w10 hw; have hg : w8.grownBy w10 (some go6) := (by rw [hw]; exact HP9.2); have hp_ : Kd.R Kd.string 9 w10 w0.heap.size (fun k_ => (P0_ k_ ∨ w.heap.size ≤ k_)) (.slice (some ⟨go6, 0, none⟩) x0_1.length co7) y496 := (by rw [hw, Ny496.out]; exact HP9.1); clear HP9; have n0_ := am (hp_); have n1_ := am ((by rw [hw]; exact below_set (HB.out) GB6.out : Below w0.heap.size w0 w10)); have n2_ := am (Kept.of_grown (S := (fun k_ => P0_ k_)) hg (by repeat (first | (with_reducible first | exact HK.out | apply Kept.alloc | apply Kept.drewN | apply Kept.drew) | exact HK.out)) (fun k_ e_ => (HO_0.out.1 k_ e_))); clear HO_0; clear HB; clear HK; have HO_0 := n0_; have HB := n1_; have HK := n2_; clear n0_ n1_ n2_; clear hg hw hp_))
     go_roundg k1
     case measure => have := HK1.out; omega
     case rel => exact ⟨(y496), (wrap64 (x1_1 + 1)), (wrap64 (x5_1 + 1)), zf, zf, H', ⟨by have := HK1.out; omega⟩, ⟨zr HO_0.out⟩, ⟨by repeat (first | (with_reducible first | exact HK.out | apply Kept.alloc | apply Kept.drewN | apply Kept.drew) | exact HK.out)⟩, ⟨zb⟩⟩
    ·rw [if_neg c5] at H
     exact absurd H (by simp)
   ·rw [if_neg c3] at H
    have c3b0 : decide (x5_1 < (x0_1.length : Int)) = false := decide_eq_false c3
    clear c3
    simp only [Option.some.injEq, Prod.mk.injEq] at H
    obtain ⟨rfl, rfl⟩ := H
    obtain ⟨Ao11, co11, eo11⟩ := Kd.R_slice HO_0.out
    subst eo11
    go_wp2
    go_ret
    exact ⟨by first | rfl | (simp [errW_none, errW_some] <;> rfl) | (simp [*, errW_none, errW_some] <;> rfl), zr HO_0.out, zb, by repeat (first | (with_reducible first | exact HK.out | apply Kept.alloc | apply Kept.drewN | apply Kept.drew) | exact HK.out)⟩
end Go.Proofs.YtmcldkobejhaeaaGreatDoor.My
namespace Go.Proofs.YtmcldkobejhaeaaGreatDoor.Pl
open Go.RowKit Go.Proofs.YtmcldkobejhaeaaGreatDoorW.PrintWords Go.Proofs.YtmcldkobejhaeaaGreatDoorW.PrintLast
set_option linter.unusedVariables false
set_option linter.unusedSimpArgs false
section
variable {α β : Type}
theorem ev_pos {c : Prop} [Decidable c] {g g' : Nat → Option α} {r : α} (hc : c) (h : Ev g r) : Ev (fun k => if c then g k else g' k) r :=
  Ev.congr (fun _ => if_pos hc) h
theorem ev_neg {c : Prop} [Decidable c] {g g' : Nat → Option α} {r : α} (hc : ¬ c) (h : Ev g' r) : Ev (fun k => if c then g k else g' k) r :=
  Ev.congr (fun _ => if_neg hc) h
theorem ev_ite {c : Prop} [Decidable c] {g g' : Nat → Option α} {r : α} (h : c → Ev g r) (h' : ¬ c → Ev g' r) : Ev (fun k => if c then g k else g' k) r := by
  by_cases hc : c
  · exact ev_pos hc (h hc)
  · exact ev_neg hc (h' hc)
theorem ev_some {r r' : α} (h : r = r') : Ev (fun _ => some r) r' := h ▸ Ev.now r
theorem ev_const {o : Option α} {r : α} (h : o = some r) : Ev (fun _ => o) r := ⟨0, fun _ _ => h⟩
theorem ev_to {g : Nat → Option α} {r r' : α} (h : Ev g r) (e : r = r') : Ev g r' := e ▸ h
theorem ev_bind {g : Nat → Option α} {f : Nat → α → Option β} {a : α} {r : β} (h : Ev g a) (k : Ev (fun n => f n a) r) : Ev (fun n => (g n).bind fun t => f n t) r := Ev.bind h k
end
theorem wrap64_id {x : Int} (h : -9223372036854775808 ≤ x) (h' : x ≤ 9223372036854775807) : wrap64 x = x := by
  unfold wrap64
  omega
theorem wrap_succ (i : Nat) (h : i < 9223372036854775807) : wrap64 ((i : Int) + 1) = ((i + 1 : Nat) : Int) := by
  rw [wrap64_id (by omega) (by omega)]
  omega
theorem wrap_pred (n : Nat) (h0 : 0 < n) (h : n ≤ 9223372036854775807) : wrap64 ((n : Int) - 1) = ((n - 1 : Nat) : Int) := by
  rw [wrap64_id (by omega) (by omega)]
  omega
theorem wrap_add (n m : Nat) (h : n + m ≤ 9223372036854775807) : wrap64 ((n : Int) + (m : Int)) = ((n + m : Nat) : Int) := by
  rw [wrap64_id (by omega) (by omega)]
  omega
theorem getD_lt {α : Type} (xs : List α) (d : α) (i : Nat) (h : i < xs.length) : xs.getD i d = xs[i] := by
  simp [List.getD_eq_getElem?_getD, List.getElem?_eq_getElem h]
theorem rdOf_lt {α : Type} (d : α) (xs : List α) (i : Nat) (h : i < xs.length) : rdOf d xs (i : Int) = xs[i] := getD_lt xs d i h
theorem ba_ext {a b : ByteArray} (h : a.toList = b.toList) : a = b := by
  rw [Lib.toList_data, Lib.toList_data] at h
  cases a with | mk a => cases b with | mk b =>
  cases a with | mk a => cases b with | mk b =>
  simp_all
theorem ba_iff {a b : ByteArray} : a.toList = b.toList ↔ a = b := ⟨ba_ext, fun h => by rw [h]⟩
theorem drop_cons {α : Type} (xs : List α) (i : Nat) (h : i < xs.length) : xs.drop i = xs[i] :: xs.drop (i + 1) := List.drop_eq_getElem_cons h
theorem bt_nat (s : ByteArray) (i : Nat) (h : i < s.size) : bt s (i : Int) = ((s.data.toList[i]'(by rw [data_length]; exact h)).toNat : Int) := by
  unfold bt
  rw [dif_pos (by simpa using h)]
  simp [ByteArray.getElem_eq_getElem_data]
theorem u8_eq {b c : UInt8} (h : (b.toNat : Int) = (c.toNat : Int)) : b = c := UInt8.toNat_inj.1 (by omega)
theorem u8_ne {b c : UInt8} (h : ¬ (b.toNat : Int) = (c.toNat : Int)) : ¬ c = b := fun e => h (by rw [e])
end Go.Proofs.YtmcldkobejhaeaaGreatDoor.Pl
namespace Go.Proofs.YtmcldkobejhaeaaGreatDoor.Pl
open Go.RowKit Go.Proofs.YtmcldkobejhaeaaGreatDoorW.PrintWords Go.Proofs.YtmcldkobejhaeaaGreatDoorW.PrintLast
set_option linter.unusedVariables false
set_option linter.unusedSimpArgs false
def FitS (l : List ByteArray) : Prop := l.length ≤ 9223372036854775807 ∧ ∀ s ∈ l, s.size ≤ 9223372036854775807
end Go.Proofs.YtmcldkobejhaeaaGreatDoor.Pl
namespace Go.Proofs.YtmcldkobejhaeaaGreatDoor.Pl
open Go.RowKit Go.Proofs.YtmcldkobejhaeaaGreatDoorW.PrintWords Go.Proofs.YtmcldkobejhaeaaGreatDoorW.PrintLast Go.Proofs.YtmcldkobejhaeaaGreatDoor.My
set_option linter.unusedVariables false
set_option linter.unusedSimpArgs false
theorem eqStringS_l0 (a b : List ByteArray) (hab : a.length = b.length) (hL : a.length ≤ 9223372036854775807) : ∀ d i, i + d = a.length → Ev (fun k => laws_eqStringS.l0 k a b (i : Int)) (decide (a.drop i = b.drop i)) := by
  intro d
  induction d with
  | zero =>
    intro i hi
    refine Ev.step (fun k => laws_eqStringS.l0.eq_2 ..) (ev_neg (by omega) (ev_some ?_))
    rw [List.drop_of_length_le (by omega), List.drop_of_length_le (by omega)]
    simp
  | succ d ih =>
    intro i hi
    have h1 : i < a.length := by omega
    have h2 : i < b.length := by omega
    refine Ev.step (fun k => laws_eqStringS.l0.eq_2 ..) (ev_pos (by omega) (ev_pos (by omega) (ev_pos (by omega) ?_)))
    rw [rdOf_lt _ _ _ h1, rdOf_lt _ _ _ h2, drop_cons a i h1, drop_cons b i h2]
    refine ev_ite (fun h => ?_) (fun h => ev_some ?_)
    · rw [wrap_succ i (by omega)]
      refine ev_to (ih (i + 1) (by omega)) ?_
      rw [ba_ext h]
      simp only [List.cons.injEq, true_and]
    · have : ¬ a[i] = b[i] := fun e => h (by rw [e])
      simp only [List.cons.injEq, this, false_and, decide_false]
theorem eqStringS_ev (a b : List ByteArray) (hL : a.length ≤ 9223372036854775807) : Ev (fun k => laws_eqStringS.f k a b) (decide (a = b)) := by
  simp only [laws_eqStringS.f]
  refine ev_ite (fun h => ?_) (fun h => ev_some ?_)
  · exact eqStringS_l0 a b (by omega) hL a.length 0 (by omega)
  · have : ¬ a = b := fun e => h (by rw [e])
    simp [this]

theorem strOfNums_size (l : List Int) : (strOfNums l).size = l.length := by
  unfold strOfNums
  rw [← data_length]
  simp
theorem tdiv10 (n : Int) (h : 0 ≤ n) : Int.tdiv n 10 = n / 10 := by
  rw [Int.tdiv_eq_ediv_of_nonneg h]
theorem markText_l0 : ∀ (d : Nat) (n : Int) (t : ByteArray), 0 ≤ n → n.toNat ≤ d → n ≤ 4611686018427387904 → t.size + n.toNat ≤ 4611686018427387905 → ∃ r, Ev (fun k => laws_markText.l0 k n t) r := by
  intro d
  induction d with
  | zero =>
    intro n t h0 hd h1 h2
    exact ⟨_, Ev.step (fun k => laws_markText.l0.eq_2 ..) (ev_neg (by omega) (ev_pos (by omega) (ev_some rfl)))⟩
  | succ d ih =>
    intro n t h0 hd h1 h2
    by_cases h : 0 < n
    · have e : wrap64 (Int.tdiv n 10) = n / 10 := by rw [tdiv10 n h0, wrap64_id (by omega) (by omega)]
      obtain ⟨r, hr⟩ := ih (n / 10) (strOfNums [(wrap64 (48 + (Int.tmod n 10))) % 256] ++ t) (by omega) (by omega) (by omega) (by
        rw [ByteArray.size_append, strOfNums_size, List.length_singleton]
        omega)
      refine ⟨r, Ev.step (fun k => laws_markText.l0.eq_2 ..) (ev_pos h ?_)⟩
      simp only [Option.bind_some]
      refine ev_pos ?_ ?_
      · rw [strOfNums_size, List.length_singleton]
        omega
      · rw [e]
        exact hr
    · exact ⟨_, Ev.step (fun k => laws_markText.l0.eq_2 ..) (ev_neg (by omega) (ev_pos (by omega) (ev_some rfl)))⟩
theorem markText_some (n : Int) (h0 : 0 ≤ n) (h1 : n ≤ 4611686018427387904) : ∃ r, Ev (fun k => laws_markText.f k n) r := by
  simp only [laws_markText.f]
  by_cases h : n ≤ 0
  · exact ⟨_, ev_pos h (ev_some rfl)⟩
  · obtain ⟨r, hr⟩ := markText_l0 n.toNat n ⟨#[]⟩ h0 (Nat.le_refl _) h1 (by
      show (0 : Nat) + n.toNat ≤ _
      omega)
    exact ⟨r, ev_neg h hr⟩
noncomputable def mark (n : Nat) : ByteArray := open Classical in if h : ∃ r, Ev (fun k => laws_markText.f k (n : Int)) r then h.choose else ⟨#[]⟩
theorem mark_ev (n : Nat) (h : n ≤ 4611686018427387904) : Ev (fun k => laws_markText.f k (n : Int)) (mark n) := by
  have hs := markText_some (n : Int) (by omega) (by omega)
  unfold mark
  rw [dif_pos hs]
  exact hs.choose_spec
noncomputable def marks (m n : Nat) : List ByteArray := (List.range n).map fun i => mark (m + i)
theorem marks_length (m n : Nat) : (marks m n).length = n := by simp [marks]
theorem marks_get (m n i : Nat) (h : i < n) : (marks m n)[i]'(by rw [marks_length]; exact h) = mark (m + i) := by simp [marks]
theorem markStringS_l0 (n m : Nat) (hn : n ≤ 1099511627776) (hm : m ≤ 1099511627776) : ∀ d i (o : List ByteArray), i + d = n → o.length = n → o.take i = (marks m n).take i →
    Ev (fun k => laws_markStringS.l0 k o ((m + i : Nat) : Int) (i : Int)) (((m + n : Nat) : Int), marks m n) := by
  intro d
  induction d with
  | zero =>
    intro i o hi hl ht
    refine Ev.step (fun k => laws_markStringS.l0.eq_2 ..) (ev_neg (by omega) (ev_some ?_))
    rw [List.take_of_length_le (by omega), List.take_of_length_le (by rw [marks_length]; omega)] at ht
    rw [ht, show i = n from by omega]
  | succ d ih =>
    intro i o hi hl ht
    refine Ev.step (fun k => laws_markStringS.l0.eq_2 ..) (ev_pos (by omega) (ev_bind (mark_ev (m + i) (by omega)) (ev_pos (by omega) ?_)))
    rw [wrap_succ i (by omega), wrap_succ (m + i) (by omega), Int.toNat_natCast]
    refine ih (i + 1) _ (by omega) (by rw [List.length_set]; exact hl) ?_
    rw [List.take_succ_eq_append_getElem (by rw [List.length_set]; omega), List.take_succ_eq_append_getElem (by rw [marks_length]; omega), List.getElem_set_self, List.take_set_of_le (Nat.le_refl i), ht, marks_get m n i (by omega)]
theorem markStringS_ev (l : List ByteArray) (m : Nat) (hn : l.length ≤ 1099511627776) (hm : m ≤ 1099511627776) : Ev (fun k => laws_markStringS.f k l (m : Int)) (((m + l.length : Nat) : Int), marks m l.length) := by
  simp only [laws_markStringS.f]
  exact markStringS_l0 l.length m hn hm l.length 0 l (by omega) rfl rfl

abbrev IT := S52
theorem rdIT (l : List IT) (i : Nat) (h : i < l.length) : rd_T52 l (i : Int) = l[i] := getD_lt l _ i h
theorem it_ext {x y : IT} (h0 : x.f0 = y.f0) (h1 : x.f1 = y.f1) (h2 : x.f2 = y.f2) (h3 : x.f3 = y.f3) (h4 : x.f4 = y.f4) (h5 : x.f5 = y.f5) : x = y := by
  cases x; cases y; simp_all
instance : DecidableEq IT := fun x y => decidable_of_iff (x.f0 = y.f0 ∧ x.f1 = y.f1 ∧ x.f2 = y.f2 ∧ x.f3 = y.f3 ∧ x.f4 = y.f4 ∧ x.f5 = y.f5) ⟨fun ⟨a, b, c, d, e, f⟩ => it_ext a b c d e f, fun h => by rw [h]; exact ⟨rfl, rfl, rfl, rfl, rfl, rfl⟩⟩
def FitIT (l : List IT) : Prop := l.length ≤ 9223372036854775807 ∧ ∀ x ∈ l, FitS x.f2 ∧ FitS x.f5
theorem eqStep_ev (x y : IT) (h : FitS x.f2 ∧ FitS x.f5) : Ev (fun k => laws_eqStep.f k x.f0 x.f1 x.f2 x.f3 x.f4 x.f5 y.f0 y.f1 y.f2 y.f3 y.f4 y.f5) (decide (x = y)) := by
  simp only [laws_eqStep.f]
  have no : ¬ x = y → Ev (fun _ => some false) (decide (x = y)) := fun hn => ev_some (by rw [decide_eq_false hn])
  refine ev_ite (fun h0 => ev_ite (fun h1 => ev_bind (eqStringS_ev _ _ h.1.1) (ev_ite (fun h2 => ev_ite (fun h3 => ev_ite (fun h4 => ev_bind (eqStringS_ev _ _ h.2.1) (ev_ite (fun h5 => ev_some ?_) (fun h5 => no ?_))) (fun h4 => no ?_)) (fun h3 => no ?_)) (fun h2 => no ?_))) (fun h1 => no ?_)) (fun h0 => no ?_)
  · rw [decide_eq_true (it_ext h0 h1 (of_decide_eq_true h2) h3 h4 (of_decide_eq_true h5))]
  · exact fun e => h5 (by rw [e]; simp)
  · exact fun e => h4 (by rw [e])
  · exact fun e => h3 (by rw [e])
  · exact fun e => h2 (by rw [e]; simp)
  · exact fun e => h1 (by rw [e])
  · exact fun e => h0 (by rw [e])
theorem eqStepS_l0 (a b : List IT) (hab : a.length = b.length) (hf : FitIT a) : ∀ d i, i + d = a.length → Ev (fun k => laws_eqStepS.l0 k a b (i : Int)) (decide (a.drop i = b.drop i)) := by
  intro d
  have hL := hf.1
  induction d with
  | zero =>
    intro i hi
    refine Ev.step (fun k => laws_eqStepS.l0.eq_2 ..) (ev_neg (by omega) (ev_some ?_))
    rw [List.drop_of_length_le (by omega), List.drop_of_length_le (by omega)]
    simp
  | succ d ih =>
    intro i hi
    have h1 : i < a.length := by omega
    have h2 : i < b.length := by omega
    refine Ev.step (fun k => laws_eqStepS.l0.eq_2 ..) (ev_pos (by omega) (ev_pos (by omega) (ev_pos (by omega) ?_)))
    simp only [rdIT _ _ h1, rdIT _ _ h2, drop_cons a i h1, drop_cons b i h2]
    refine ev_bind (eqStep_ev _ _ (hf.2 _ (List.getElem_mem h1))) (ev_ite (fun h => ?_) (fun h => ev_some ?_))
    · rw [wrap_succ i (by omega)]
      refine ev_to (ih (i + 1) (by omega)) ?_
      rw [of_decide_eq_true h]
      simp only [List.cons.injEq, true_and]
    · have : ¬ a[i] = b[i] := fun e => h (decide_eq_true e)
      simp only [List.cons.injEq, this, false_and, decide_false]
theorem eqStepS_ev (a b : List IT) (hf : FitIT a) : Ev (fun k => laws_eqStepS.f k a b) (decide (a = b)) := by
  simp only [laws_eqStepS.f]
  refine ev_ite (fun h => ?_) (fun h => ev_some ?_)
  · exact eqStepS_l0 a b (by omega) hf a.length 0 (by omega)
  · have : ¬ a = b := fun e => h (by rw [e])
    simp [this]
end Go.Proofs.YtmcldkobejhaeaaGreatDoor.Pl
namespace Go.Proofs.YtmcldkobejhaeaaGreatDoor.My
open Go.RowKit Go.Proofs.YtmcldkobejhaeaaGreatDoorW.PrintWords Go.Proofs.YtmcldkobejhaeaaGreatDoorW.PrintLast Go.Proofs.YtmcldkobejhaeaaGreatDoorW.PrintMore Go.Proofs.YtmcldkobejhaeaaGreatDoor.Pl
set_option linter.unusedVariables false
set_option linter.unusedSimpArgs false
noncomputable def mkT (x : IT) (m : Nat) : IT := ⟨(m : Int), wrap64 ((m : Int) + 1), marks (m + 2) x.f2.length, ((m + 2 + x.f2.length : Nat) : Int), wrap64 (((m + 2 + x.f2.length : Nat) : Int) + 1), marks (m + 2 + x.f2.length + 2) x.f5.length⟩
noncomputable def mkTs : List IT → Nat → List IT
  | [], _ => []
  | x :: t, m => mkT x m :: mkTs t (m + 2 + x.f2.length + 2 + x.f5.length)
def endT : List IT → Nat → Nat
  | [], m => m
  | x :: t, m => endT t (m + 2 + x.f2.length + 2 + x.f5.length)
theorem endT_ge : ∀ (l : List IT) (m : Nat), m ≤ endT l m
  | [], _ => Nat.le_refl _
  | x :: t, m => by have := endT_ge t (m + 2 + x.f2.length + 2 + x.f5.length); simp only [endT]; omega
theorem mkT_step {l xs : List IT} {m mm i : Nat} (h : i < xs.length) (h1 : endT (xs.drop i) mm = endT l m) (h2 : xs.take i ++ mkTs (xs.drop i) mm = mkTs l m) :
    mm + 2 + xs[i].f2.length + 2 + xs[i].f5.length ≤ endT l m ∧ endT ((xs.set i (mkT xs[i] mm)).drop (i + 1)) (mm + 2 + xs[i].f2.length + 2 + xs[i].f5.length) = endT l m ∧ (xs.set i (mkT xs[i] mm)).take (i + 1) ++ mkTs ((xs.set i (mkT xs[i] mm)).drop (i + 1)) (mm + 2 + xs[i].f2.length + 2 + xs[i].f5.length) = mkTs l m := by
  rw [List.drop_eq_getElem_cons h] at h1 h2
  simp only [endT, mkTs] at h1 h2
  have := endT_ge (xs.drop (i + 1)) (mm + 2 + xs[i].f2.length + 2 + xs[i].f5.length)
  rw [List.drop_set_of_lt (by omega), List.take_succ_eq_append_getElem (by rw [List.length_set]; exact h), List.getElem_set_self, List.take_set_of_le (Nat.le_refl i), List.append_assoc]
  exact ⟨by omega, h1, h2⟩
def MkTInv (l : List IT) (m : Nat) (xs : List IT) (x5 : Int) (mm kq : Nat) : Prop := 0 ≤ x5 ∧ x5.toNat + kq = l.length ∧ xs.length = l.length ∧ endT (xs.drop x5.toNat) mm = endT l m ∧ xs.take x5.toNat ++ mkTs (xs.drop x5.toNat) mm = mkTs l m
theorem MkTInv.start (l : List IT) (m : Nat) : MkTInv l m l 0 m l.length := ⟨by omega, by simp, rfl, rfl, rfl⟩
theorem wrT (mm n E : Nat) (h : mm + 2 + n ≤ E) (hE : E ≤ 1099511627776) : wrap64 (wrap64 ((mm : Int) + 1) + 1) = ((mm + 2 : Nat) : Int) := by rw [wrap_succ mm (by omega), wrap_succ (mm + 1) (by omega)]
theorem leT_a (mm n2 n5 E : Nat) (h : mm + 2 + n2 + 2 + n5 ≤ E) (hE : E ≤ 1099511627776) : n2 ≤ 1099511627776 ∧ mm + 2 ≤ 1099511627776 ∧ n5 ≤ 1099511627776 ∧ mm + 2 + n2 + 2 ≤ 1099511627776 ∧ mm + 2 + n2 ≤ E ∧ mm + 2 + n2 + 2 + n5 ≤ E := by omega
theorem MkTInv.step {l xs : List IT} {m mm kq : Nat} {x5 : Int} (h : MkTInv l m xs x5 mm kq) (hm : endT l m ≤ 1099511627776) (hL : l.length ≤ 1099511627776) (hi : x5 < (l.length : Int)) :
    ∃ k1, kq = k1 + 1 ∧ ∃ kk mm2 mm3, laws_markStringS.f kk (xs.getD x5.toNat z52).f2 (wrap64 (wrap64 ((mm : Int) + 1) + 1)) = some (((mm2 : Nat) : Int), marks (mm + 2) (xs.getD x5.toNat z52).f2.length) ∧
      laws_markStringS.f kk (xs.getD x5.toNat z52).f5 (wrap64 (wrap64 ((mm2 : Int) + 1) + 1)) = some (((mm3 : Nat) : Int), marks (mm2 + 2) (xs.getD x5.toNat z52).f5.length) ∧ mm2 = mm + 2 + (xs.getD x5.toNat z52).f2.length ∧
      MkTInv l m (xs.set x5.toNat (mkT (xs.getD x5.toNat z52) mm)) (wrap64 (x5 + 1)) mm3 k1 := by
  obtain ⟨h0, h1, h2, h3, h4⟩ := h
  have hxi : x5.toNat < xs.length := by omega
  have hgx : xs.getD x5.toNat z52 = xs[x5.toNat] := by rw [List.getD_eq_getElem?_getD, List.getElem?_eq_getElem hxi]; rfl
  obtain ⟨q1, q2, q3⟩ := mkT_step hxi h3 h4
  obtain ⟨b1, b2, b3, b4, b5, b6⟩ := leT_a _ _ _ _ q1 hm
  have ew := wrT mm _ _ b5 hm
  have ew2 := wrT (mm + 2 + xs[x5.toNat].f2.length) _ _ b6 hm
  obtain ⟨kk, hkk⟩ := markStringS_ev xs[x5.toNat].f2 (mm + 2) b1 b2
  obtain ⟨kk2, hkk2⟩ := markStringS_ev xs[x5.toNat].f5 (mm + 2 + xs[x5.toNat].f2.length + 2) b3 b4
  rw [hgx, ew]
  refine ⟨kq - 1, by omega, kk + kk2, mm + 2 + xs[x5.toNat].f2.length, mm + 2 + xs[x5.toNat].f2.length + 2 + xs[x5.toNat].f5.length, hkk _ (Nat.le_add_right _ _), ?_, rfl, ?_⟩
  · rw [ew2]
    exact hkk2 _ (Nat.le_add_left _ _)
  have e5 : wrap64 (x5 + 1) = x5 + 1 := wrap64_id (by omega) (by omega)
  have e6 : (x5 + 1).toNat = x5.toNat + 1 := by omega
  rw [e5]
  refine ⟨by omega, by omega, by rw [List.length_set]; exact h2, ?_, ?_⟩
  · rw [e6]; exact q2
  · rw [e6]; exact q3
theorem MkTInv.last {l xs : List IT} {m mm kq : Nat} {x5 : Int} (h : MkTInv l m xs x5 mm kq) (hi : ¬ x5 < (l.length : Int)) : mm = endT l m ∧ xs = mkTs l m := by
  obtain ⟨h0, h1, h2, h3, h4⟩ := h
  rw [List.drop_of_length_le (by omega)] at h3 h4
  rw [List.take_of_length_le (by omega)] at h4
  simp only [mkTs, endT, List.append_nil] at h3 h4
  exact ⟨h3, h4⟩
theorem MkTInv.len {l xs : List IT} {m mm kq : Nat} {x5 : Int} (h : MkTInv l m xs x5 mm kq) : 0 ≤ x5 ∧ xs.length = l.length := ⟨h.1, h.2.2.1⟩
set_option maxHeartbeats 16000000 in
set_option maxRecDepth 100000 in
theorem laws_markStepS_made (P : Nat → Prop) (u : Value) (l : List IT) (m : Nat) (w0 w : World) (hm : endT l m ≤ 1099511627776) (hL : l.length ≤ 1099511627776) (hB : Below w0.heap.size w0 w) (ho : Kd.S k52 52 w w0.heap.size P u l) :
    Calls Tryz.prog 24 #[u, .int .i64 (m : Int)] w fun e w' => e = .returned (.int .i64 ((endT l m : Nat) : Int)) ∧ Kd.S k52 52 w' w0.heap.size P u (mkTs l m) ∧ Below w0.heap.size w0 w' ∧ Kept w w' P := by
  obtain ⟨A, c, rfl⟩ := Kd.S_slice ho
  have HM := am hm
  have HL := am hL
  have HO := am ho
  have HB := am hB
  clear hm hL ho hB
  go_enter Tryz.func24, Tryz.ntmps24
  go_wp2
  go_loopg [1, 5] l.length (fun kq v1 v5 w' => ∃ (xs : List IT) (x5 : Int) (mm : Nat), v1 = .int .i64 (mm : Int) ∧ v5 = .int .i64 x5 ∧ Aside0 (MkTInv l m xs x5 mm kq) ∧ Aside0 (Kd.S k52 52 w' w0.heap.size P (.slice A l.length c) xs) ∧ Aside0 (Kept w w' P) ∧ Aside0 (Below w0.heap.size w0 w'))
  case atStart => exact ⟨l, 0, m, rfl, rfl, ⟨MkTInv.start l m⟩, HO, ⟨Kept.refl _ _⟩, HB⟩
  case round =>
    clear HO HB
    obtain ⟨xs, x5, mm, rfl, rfl, HF, HO, HK, HB⟩ := hrel
    by_cases hi : x5 < (l.length : Int)
    · obtain ⟨k1, rfl, kk, mm2, mm3, hkk, hkk2, hmm2, hnext⟩ := HF.out.step HM.out HL.out hi
      have HN := am hnext
      have HMM := am hmm2
      have hlen := HF.out.len
      clear HF hnext hmm2
      have hc : decide (x5 < (l.length : Int)) = true := decide_eq_true hi
      have hp := hlen.1
      have hxp : 0 < xs.length := by omega
      obtain ⟨g, cap, eg, hgb, hgl, hgc⟩ := Kd.S_form HO.out hxp
      injection eg with ea en ec
      clear en
      subst ea
      subst ec
      obtain ⟨oki, ce, hcl, hM, hcc, hfr, hoki, hH⟩ := Kd.S_elem HO.out z52 x5 hp hi
      obtain ⟨v2, v5, rfl, ge2, ge5, hsep⟩ := k52_openMS hM
      have hx0 := hcc 0 _ rfl
      have hx1 := hcc 1 _ rfl
      have hx2 := hcc 2 _ rfl
      have hf0 := hfr 0
      have hf1 := hfr 1
      simp only [show (k52).sz = 6 from rfl, Nat.add_zero] at hx0 hx1 hx2 hf0 hf1
      have hsg := am (Kd.H_seg hH hp hi (seg := [.int .i64 (mm : Int), .int .i64 (wrap64 ((mm : Int) + 1))]) (j := 0) (show 2 ≤ 6 from by decide) (by intro q hq; simp only [List.mem_cons, List.not_mem_nil, or_false] at hq; rcases hq with rfl | rfl <;> rfl)).1
      have hR2 := am (Kd.R_tight rfl (Kd.R_far (p := ⟨g, x5.toNat * 6 + 1, none⟩) (Kd.R_far (p := ⟨g, x5.toNat * 6, none⟩) ge2 (fun k hk => (hoki k hk).2) (.int .i64 (mm : Int))) (fun k hk => (hoki k hk).2) (.int .i64 (wrap64 ((mm : Int) + 1)))))
      have hR5 := am (Kd.R_tight rfl (Kd.R_far (p := ⟨g, x5.toNat * 6 + 1, none⟩) (Kd.R_far (p := ⟨g, x5.toNat * 6, none⟩) ge5 (fun k hk => (hoki k hk).2) (.int .i64 (mm : Int))) (fun k hk => (hoki k hk).2) (.int .i64 (wrap64 ((mm : Int) + 1)))))
      have hin2 := am (fun k (hk : some k = v2.ownBlock) => ge2.1 k hk.symm)
      have hin5 := am (fun k (hk : some k = v5.ownBlock) => ge5.1 k hk.symm)
      have hPg : P g := (Kd.S_R HO.out).1 g (by simp [Value.ownBlock])
      have HPG := am hPg
      have HGB := am hgb
      have hK2 := am (Kept.setCell (Kept.setCell HK.out (p := ⟨g, x5.toNat * 6, none⟩) (.inl hPg) (.int .i64 (mm : Int))) (p := ⟨g, x5.toNat * 6 + 1, none⟩) (.inl hPg) (.int .i64 (wrap64 ((mm : Int) + 1))))
      have hB2 := am (show Below w0.heap.size w0 ((wr.setCell ⟨g, x5.toNat * 6, none⟩ (.int .i64 (mm : Int))).setCell ⟨g, x5.toNat * 6 + 1, none⟩ (.int .i64 (wrap64 ((mm : Int) + 1)))) from below_set (below_set HB.out hgb) hgb)
      have hOK := am hoki
      have HSEP := am hsep
      have HKK := am hkk
      have HKK2 := am hkk2
      have HP := am hp
      have HI := am hi
      clear hcl hcc hfr hH hM ge2 ge5 hoki hkk hkk2 hlen hgc hPg hsep
      replace hp := eq_true hp
      replace hi := eq_true hi
      go_wp2_with fail
      refine (laws_markStringS.calls kk (fun k => some k = v2.ownBlock) v2 (xs.getD x5.toNat z52).f2 _ _ _ w0 _ hB2.out hR2.out HKK.out).mono ?_
      rintro e w4 ⟨rfl, hR4, hB4, hK4⟩
      have HS4 := am (Kd.H_step hsg.out (fun k hk hn hlt => hK4.2 k hlt (fun h2 => hn (hin2.out k h2))))
      have hR54 := am (Kd.R_kept hR5.out hK4 (fun k hk h2 => HSEP.out k hk.symm h2.symm))
      have HK4 := am (Kept.then_ hK2.out hK4 (fun k hk => .inl (hOK.out k (hin2.out k hk)).1))
      have HB4 := am hB4
      have HR4 := am (Kd.R_tight rfl hR4)
      obtain ⟨hc4, hfr4⟩ := Kd.H_at HS4.out HP.out HI.out
      have hx3 := hc4 3 _ rfl
      have hx4 := hc4 4 _ rfl
      have hx5 := hc4 5 _ rfl
      have hf3 := hfr4 3
      have hf4 := hfr4 4
      simp only [show (k52).sz = 6 from rfl] at hx3 hx4 hx5 hf3 hf4
      have hsg5 := am (Kd.H_seg HS4.out HP.out HI.out (seg := [.int .i64 (mm2 : Int), .int .i64 (wrap64 ((mm2 : Int) + 1))]) (j := 3) (show 3 + 2 ≤ 6 from by decide) (by intro q hq; simp only [List.mem_cons, List.not_mem_nil, or_false] at hq; rcases hq with rfl | rfl <;> rfl)).1
      have hR24 := am (Kd.R_far (p := ⟨g, x5.toNat * 6 + 4, none⟩) (Kd.R_far (p := ⟨g, x5.toNat * 6 + 3, none⟩) HR4.out (fun k hk => (hOK.out k (hin2.out k hk)).2) (.int .i64 (mm2 : Int))) (fun k hk => (hOK.out k (hin2.out k hk)).2) (.int .i64 (wrap64 ((mm2 : Int) + 1))))
      have hR55 := am (Kd.R_far (p := ⟨g, x5.toNat * 6 + 4, none⟩) (Kd.R_far (p := ⟨g, x5.toNat * 6 + 3, none⟩) hR54.out (fun k hk => (hOK.out k (hin5.out k hk)).2) (.int .i64 (mm2 : Int))) (fun k hk => (hOK.out k (hin5.out k hk)).2) (.int .i64 (wrap64 ((mm2 : Int) + 1))))
      have hK5 := am (Kept.setCell (Kept.setCell HK4.out (p := ⟨g, x5.toNat * 6 + 3, none⟩) (.inl HPG.out) (.int .i64 (mm2 : Int))) (p := ⟨g, x5.toNat * 6 + 4, none⟩) (.inl HPG.out) (.int .i64 (wrap64 ((mm2 : Int) + 1))))
      have hB5 := am (show Below w0.heap.size w0 ((w4.setCell ⟨g, x5.toNat * 6 + 3, none⟩ (.int .i64 (mm2 : Int))).setCell ⟨g, x5.toNat * 6 + 4, none⟩ (.int .i64 (wrap64 ((mm2 : Int) + 1)))) from below_set (below_set HB4.out HGB.out) HGB.out)
      clear hx0 hx1 hx2 hf0 hf1 hc4 hfr4 hR4 hB4 hK4 hsg hR2 hR5 hK2 hB2 HR4 hR54 HB4 HK4 HB HK
      go_wp2_with fail
      refine (laws_markStringS.calls kk (fun k => some k = v5.ownBlock) v5 (xs.getD x5.toNat z52).f5 _ _ _ w0 _ hB5.out hR55.out HKK2.out).mono ?_
      rintro e w6 ⟨rfl, hR6, hB6, hK6⟩
      have HS6 := am (show Kd.S k52 52 w6 w0.heap.size P (.slice (some ⟨g, 0, none⟩) l.length c) (xs.set x5.toNat (mkT (xs.getD x5.toNat z52) mm)) from
        Kd.H_back (okp := oki) (Kd.H_step hsg5.out (fun k hk hn hlt => hK6.2 k hlt (fun h2 => hn (hin5.out k h2)))) (by
          have e2 := HMM.out
          rw [e2] at hR6 ⊢
          exact k52_mkM HSEP.out w6 w0.heap.size oki (mkT (xs.getD x5.toNat z52) mm) (Kd.R_mono (Kd.R_kept hR24.out hK6 (fun k hk h2 => HSEP.out k h2.symm hk.symm)) hin2.out) (Kd.R_mono (Kd.R_tight rfl hR6) hin5.out)) (fun _ h => h))
      have HK6 := am (Kept.then_ hK5.out hK6 (fun k hk => .inl (hOK.out k (hin5.out k hk)).1))
      have HB6 := am hB6
      clear hR6 hB6 hK6 hsg5 hR24 hR55 hK5 hB5 HS4 HO hx3 hx4 hx5 hf3 hf4 HMM
      go_wp2
      go_roundg k1
      case measure => omega
      case rel => exact ⟨_, _, mm3, rfl, rfl, HN, HS6, HK6, HB6⟩
    · have hc : decide (x5 < (l.length : Int)) = false := decide_eq_false hi
      obtain ⟨rfl, rfl⟩ := HF.out.last hi
      go_wp2
      go_ret
      exact ⟨rfl, HO.out, HB.out, HK.out⟩

set_option maxHeartbeats 4000000 in
set_option maxRecDepth 100000 in
theorem laws_FnExactReadNormal_long (a0 : ByteArray) (w : World) (ht : Door true w) (hk : 1048576 < (a0.size : Int)) :
    Calls Tryz.prog 4 #[.string a0] w fun e w' => e = .returned (.bool true) ∧ Below w.heap.size w w' := by
 have n0 : decide (1048576 < (a0.size : Int)) = true := decide_eq_true hk
 clear hk
 have HB := am (Below.refl w.heap.size w)
 have HT := am ht
 clear ht
 go_enter Tryz.func4, Tryz.ntmps4
 go_wp2
 go_ret
 exact ⟨rfl, HB.out⟩
set_option maxHeartbeats 16000000 in
set_option maxRecDepth 100000 in
theorem laws_FnExactReadNormal_true (k : Nat) (a0 : ByteArray) (w : World) (ht : Door true w)
    (hk0 : ¬ 1048576 < (a0.size : Int))
    (v : List IT) (r0 : Int) (r1 : Bool) (esp : spec_ReadNormal.f k a0 = some (v, r0, r1)) (eim : impl_ReadNormal.f k a0 = some (v, r0, r1)) (eev : laws_eqStepS.f k v v = some true)
    (hmv : (endT v 1) ≤ 1099511627776) (hLv : v.length ≤ 1099511627776) (ehv : laws_heldStepS.f k (mkTs v 1) 1 = some (((endT v 1) : Nat) : Int)) :
    Calls Tryz.prog 4 #[.string a0] w fun e w' => e = .returned (.bool true) ∧ Below w.heap.size w w' := by
 have n0 : decide (1048576 < (a0.size : Int)) = false := decide_eq_false hk0
 clear hk0
 have esp_ := am esp
 clear esp
 have esp := esp_
 clear esp_
 have eim_ := am eim
 clear eim
 have eim := eim_
 clear eim_
 have eev_ := am eev
 clear eev
 have eev := eev_
 clear eev_
 have ehv_ := am ehv
 clear ehv
 have ehv := ehv_
 clear ehv_
 have hmv_ := am hmv
 clear hmv
 have hmv := hmv_
 clear hmv_
 have hLv_ := am hLv
 clear hLv
 have hLv := hLv_
 clear hLv_
 have nv : decide (((((endT v 1) : Nat) : Int)) < 0) = false := decide_eq_false (Int.not_lt.2 (Int.natCast_nonneg _))
 have HB := am (Below.refl w.heap.size w)
 have HT := am ht
 clear ht
 go_enter Tryz.func4, Tryz.ntmps4
 go_wp2_with fail
 refine (spec_ReadNormal.calls k a0 v r0 r1 _  esp.out).mono ?_
 rintro e w1 ⟨vv, rfl, ho, hb⟩
 obtain ⟨AVW, cVW, rfl⟩ := Kd.S_slice ho
 have VW := am (Kd.S_mono (ok' := fun k_ => w.heap.size ≤ k_ ∧ k_ < w1.heap.size) (Kd.S_lower (Kd.S_bound ho) HB.out.size) (fun k_ h_ => ⟨h_.2.1, h_.2.2.1⟩))
 clear ho
 have HB_ := am (below_step HB.out hb)
 have Zw1 := am hb.size
 clear HB hb
 have HB := HB_
 clear HB_
 go_wp2_with fail
 refine (impl_ReadNormal.calls k a0 v r0 r1 _ (HT.out.below HB.out)  eim.out).mono ?_
 rintro e w2 ⟨vv, rfl, ho, hb⟩
 obtain ⟨AVG, cVG, rfl⟩ := Kd.S_slice ho
 have VW_ := am (Kd.S_below VW.out hb)
 clear VW
 have VW := VW_
 clear VW_
 have VG := am (Kd.S_mono (ok' := fun k_ => w1.heap.size ≤ k_ ∧ k_ < w2.heap.size) (Kd.S_lower (Kd.S_bound ho) HB.out.size) (fun k_ h_ => ⟨h_.2.1, h_.2.2.1⟩))
 clear ho
 have HB_ := am (below_step HB.out hb)
 have Zw2 := am hb.size
 clear HB hb
 have HB := HB_
 clear HB_
 go_wp2_with fail
 refine (laws_eqStepS.calls k AVG cVG v AVW cVW v true _ (Kd.S_reads' VG.out).2.2 (Kd.S_reads' VG.out).2.1 (Kd.S_reads' VW.out).2.2 (Kd.S_reads' VW.out).2.1 eev.out).mono ?_
 rintro e w3 ⟨rfl, hb0⟩
 have hb : Below w2.heap.size w2 w3 := by first | exact hb0 | (obtain ⟨nd_, e_⟩ := hb0; rw [e_]; exact pw_below_drewN (Below.refl _ _) nd_)
 clear hb0
 have VW_ := am (Kd.S_below VW.out hb)
 clear VW
 have VW := VW_
 clear VW_
 have VG_ := am (Kd.S_below VG.out hb)
 clear VG
 have VG := VG_
 clear VG_
 have HB_ := am (below_step HB.out hb)
 have Zw3 := am hb.size
 clear HB hb
 have HB := HB_
 clear HB_
 go_wp2_with fail
 refine (laws_markStepS_made (fun k_ => w1.heap.size ≤ k_ ∧ k_ < w2.heap.size) _ v 1 w _ hmv.out hLv.out HB.out VG.out).mono ?_
 rintro e w4 ⟨rfl, hR, hb, hk⟩
 have VW_ := am (Kd.S_kept VW.out hk (fun k_ h1_ h2_ => Nat.lt_irrefl k_ (Nat.lt_of_lt_of_le h1_.2 (Nat.le_trans (Nat.le_refl _) h2_.1))))
 clear VW
 have VW := VW_
 clear VW_
 have VG_ := am hR
 clear VG hR
 have VG := VG_
 clear VG_
 have Zw4 := am hk.1
 clear hk HB
 have HB := am hb
 clear hb
 go_wp2_with fail
 have eLen := (Kd.S_reads' VG.out).1
 refine calls_of_args (args' := #[.slice AVG ((mkTs v 1) : List IT).length cVG, .int .i64 1]) (by rw [← eLen]) ?_
 refine (laws_heldStepS.calls k AVG cVG (mkTs v 1) 1 _ _ (Kd.S_reads' VG.out).2.2 (by rw [← eLen]; exact (Kd.S_reads' VG.out).2.1) ehv.out).mono ?_
 rintro e w5 ⟨rfl, hb0⟩
 clear eLen
 have hb : Below w4.heap.size w4 w5 := by first | exact hb0 | (obtain ⟨nd_, e_⟩ := hb0; rw [e_]; exact pw_below_drewN (Below.refl _ _) nd_)
 clear hb0
 have VW_ := am (Kd.S_below VW.out hb)
 clear VW
 have VW := VW_
 clear VW_
 have VG_ := am (Kd.S_below VG.out hb)
 clear VG
 have VG := VG_
 clear VG_
 have HB_ := am (below_step HB.out hb)
 have Zw5 := am hb.size
 clear HB hb
 have HB := HB_
 clear HB_
 go_wp2_with fail
 refine (impl_ReadNormal.calls k a0 v r0 r1 _ (HT.out.below HB.out)  eim.out).mono ?_
 rintro e w6 ⟨vv, rfl, ho, hb⟩
 obtain ⟨AVH, cVH, rfl⟩ := Kd.S_slice ho
 have VW_ := am (Kd.S_below VW.out hb)
 clear VW
 have VW := VW_
 clear VW_
 have VG_ := am (Kd.S_below VG.out hb)
 clear VG
 have VG := VG_
 clear VG_
 have VH := am (Kd.S_mono (ok' := fun k_ => w5.heap.size ≤ k_ ∧ k_ < w6.heap.size) (Kd.S_lower (Kd.S_bound ho) HB.out.size) (fun k_ h_ => ⟨h_.2.1, h_.2.2.1⟩))
 clear ho
 have HB_ := am (below_step HB.out hb)
 have Zw6 := am hb.size
 clear HB hb
 have HB := HB_
 clear HB_
 go_wp2_with fail
 refine (laws_eqStepS.calls k AVH cVH v AVW cVW v true _ (Kd.S_reads' VH.out).2.2 (Kd.S_reads' VH.out).2.1 (Kd.S_reads' VW.out).2.2 (Kd.S_reads' VW.out).2.1 eev.out).mono ?_
 rintro e w7 ⟨rfl, hb0⟩
 have hb : Below w6.heap.size w6 w7 := by first | exact hb0 | (obtain ⟨nd_, e_⟩ := hb0; rw [e_]; exact pw_below_drewN (Below.refl _ _) nd_)
 clear hb0
 have VW_ := am (Kd.S_below VW.out hb)
 clear VW
 have VW := VW_
 clear VW_
 have VG_ := am (Kd.S_below VG.out hb)
 clear VG
 have VG := VG_
 clear VG_
 have VH_ := am (Kd.S_below VH.out hb)
 clear VH
 have VH := VH_
 clear VH_
 have HB_ := am (below_step HB.out hb)
 have Zw7 := am hb.size
 clear HB hb
 have HB := HB_
 clear HB_
 clear VH VW
 go_wp2_with fail
 have eLen := (Kd.S_reads' VG.out).1
 refine calls_of_args (args' := #[.slice AVG ((mkTs v 1) : List IT).length cVG, .int .i64 1]) (by rw [← eLen]) ?_
 refine (laws_heldStepS.calls k AVG cVG (mkTs v 1) 1 _ _ (Kd.S_reads' VG.out).2.2 (by rw [← eLen]; exact (Kd.S_reads' VG.out).2.1) ehv.out).mono ?_
 rintro e w8 ⟨rfl, hb0⟩
 clear eLen
 have hb : Below w7.heap.size w7 w8 := by first | exact hb0 | (obtain ⟨nd_, e_⟩ := hb0; rw [e_]; exact pw_below_drewN (Below.refl _ _) nd_)
 clear hb0
 have VG_ := am (Kd.S_below VG.out hb)
 clear VG
 have VG := VG_
 clear VG_
 have HB_ := am (below_step HB.out hb)
 have Zw8 := am hb.size
 clear HB hb
 have HB := HB_
 clear HB_
 go_wp2
 go_ret
 exact ⟨rfl, HB.out⟩
end Go.Proofs.YtmcldkobejhaeaaGreatDoor.My
namespace Go.Proofs.YtmcldkobejhaeaaGreatDoor.Pl
open Go.RowKit Go.Proofs.YtmcldkobejhaeaaGreatDoorW.PrintWords Go.Proofs.YtmcldkobejhaeaaGreatDoorW.PrintLast Go.Proofs.YtmcldkobejhaeaaGreatDoor.My
set_option linter.unusedVariables false
set_option linter.unusedSimpArgs false
def inB (n lo hi : Int) : Bool := decide (lo ≤ n) && decide (n ≤ hi)
theorem inB_iff (a b c : Int) : inB a b c = true ↔ b ≤ a ∧ a ≤ c := by
  unfold inB
  rw [Bool.and_eq_true, decide_eq_true_eq, decide_eq_true_eq]
theorem impl_in_eq (a b c : Int) : impl_in.f a b c = some (inB a b c) := by
  unfold impl_in.f inB
  by_cases h : b ≤ a
  · rw [if_pos h]; simp [h]
  · rw [if_neg (by omega)]; simp [h]
theorem spec_l1In_eq (a b c : Int) : spec_l1In.f a b c = some (inB a b c) := by
  unfold spec_l1In.f inB
  by_cases h : b ≤ a
  · rw [if_pos h]; simp [h]
  · rw [if_neg (by omega)]; simp [h]
end Go.Proofs.YtmcldkobejhaeaaGreatDoor.Pl
namespace Go.Proofs.YtmcldkobejhaeaaGreatDoor.My
open Go.RowKit Go.Proofs.YtmcldkobejhaeaaGreatDoorW.PrintWords Go.Proofs.YtmcldkobejhaeaaGreatDoorW.PrintLast Go.Proofs.YtmcldkobejhaeaaGreatDoorW.PrintMore
attribute [local go_sem] max2_int min2_int max_two min_two max_three min_three max_four min_four
set_option linter.unusedVariables false
set_option linter.unusedSimpArgs false
def spec_l1Good.l0 : Nat → List ByteArray → List ByteArray → Int → Int → Option (Bool)
 | 0, _, _, _, _ => none
 | k + 1, x0, x5, x6, x7 => if x7 < x6 then (if 0 ≤ x7 then (if x7 < (x5.length : Int) then ((spec_l1Line.f k (rdOf ByteArray.empty x5 x7)).bind fun t735 => (if t735 = true then (if x7 < (wrap64 ((x0.length : Int) - 1)) then ((spec_l1Ends.f (rdOf ByteArray.empty x5 x7)).bind fun t736 => (if t736 = true then (spec_l1Good.l0 k x0 x5 x6 (wrap64 (x7 + 1))) else (some false))) else (spec_l1Good.l0 k x0 x5 x6 (wrap64 (x7 + 1)))) else (some false))) else (none)) else (none)) else (some (decide ((x0.length : Int) ≤ 40)))
def spec_l1Good.f (k : Nat) (l0 : List ByteArray) : Option (Bool) := spec_l1Good.l0 k l0 l0 (l0.length : Int) 0
set_option maxHeartbeats 8000000 in
set_option maxRecDepth 100000 in
theorem spec_l1Good.calls (k : Nat) (A0 : Option Addr) (c0 : Nat) (l0 : List ByteArray) (r : Bool) (w : World) (hr0 : Kd.C Kd.string w A0 l0.length l0) (hc0 : l0.length ≤ c0) (h : spec_l1Good.f k l0 = some r) :
  Calls Tryz.prog 41 #[.slice A0 l0.length c0] w fun e w' => e = .returned (.bool r) ∧ Drawn0 w w' := by
 have HR0 := am hr0
 have HC0 := am hc0
 clear hr0 hc0
 have H : (spec_l1Good.l0 k l0 l0 (l0.length : Int) 0) = some r := h
 clear h
 have H' := am H
 clear H
 go_enter Tryz.func41, Tryz.ntmps41
 go_wp2
 go_loopg [7] k (fun kq v7 w' => ∃ (x7_1 : Int), v7 = .int .i64 x7_1 ∧ Aside0 (spec_l1Good.l0 kq l0 l0 (l0.length : Int) x7_1 = some r) ∧ Aside0 (kq ≤ k) ∧ Drawn0 w w')
 case atStart => exact ⟨(0), zf, H', ⟨Nat.le_refl _⟩, by repeat (first | exact Drawn0.refl _ | apply Drawn0.step)⟩
 case round =>
  clear H'
  obtain ⟨x7_1, rfl, HA, HK1, ⟨m1, rfl⟩⟩ := hrel
  cases gk with
  | zero => exact absurd HA.out (by simp [spec_l1Good.l0])
  | succ k1 =>
   have H := HA.out
   clear HA
   simp only [spec_l1Good.l0] at H
   by_cases c2 : x7_1 < (l0.length : Int)
   ·rw [if_pos c2] at H
    have c2b0 : decide (x7_1 < (l0.length : Int)) = true := decide_eq_true c2
    clear c2
    by_cases c3 : 0 ≤ x7_1
    ·rw [if_pos c3] at H
     have c3b0 : decide (0 ≤ x7_1) = true := decide_eq_true c3
     clear c3
     by_cases c4 : x7_1 < (l0.length : Int)
     ·rw [if_pos c4] at H
      have c4b0 : decide (x7_1 < (l0.length : Int)) = true := decide_eq_true c4
      clear c4
      replace H := Option.bind_eq_some_iff.mp H
      obtain ⟨t735, A50, H⟩ := H
      replace H : (if t735 = true then (if x7_1 < (wrap64 ((l0.length : Int) - 1)) then ((spec_l1Ends.f (rdOf ByteArray.empty l0 x7_1)).bind fun t736 => (if t736 = true then (spec_l1Good.l0 k1 l0 l0 (l0.length : Int) (wrap64 (x7_1 + 1))) else (some false))) else (spec_l1Good.l0 k1 l0 l0 (l0.length : Int) (wrap64 (x7_1 + 1)))) else (some false)) = some r := H
      have A5 := am A50
      clear A50
      by_cases c6 : t735 = true
      ·subst c6
       have H1 : (if x7_1 < (wrap64 ((l0.length : Int) - 1)) then ((spec_l1Ends.f (rdOf ByteArray.empty l0 x7_1)).bind fun t736 => (if t736 = true then (spec_l1Good.l0 k1 l0 l0 (l0.length : Int) (wrap64 (x7_1 + 1))) else (some false))) else (spec_l1Good.l0 k1 l0 l0 (l0.length : Int) (wrap64 (x7_1 + 1)))) = some r := by rw [if_pos rfl] at H; exact H
       clear H
       have H := H1
       clear H1
       by_cases c7 : x7_1 < (wrap64 ((l0.length : Int) - 1))
       ·rw [if_pos c7] at H
        have c7b0 : decide (x7_1 < (wrap64 ((l0.length : Int) - 1))) = true := decide_eq_true c7
        clear c7
        replace H := Option.bind_eq_some_iff.mp H
        obtain ⟨t736, A80, H⟩ := H
        replace H : (if t736 = true then (spec_l1Good.l0 k1 l0 l0 (l0.length : Int) (wrap64 (x7_1 + 1))) else (some false)) = some r := H
        have A8 := am A80
        clear A80
        by_cases c9 : t736 = true
        ·subst c9
         have H1 : (spec_l1Good.l0 k1 l0 l0 (l0.length : Int) (wrap64 (x7_1 + 1))) = some r := by rw [if_pos rfl] at H; exact H
         clear H
         have H := H1
         clear H1
         have H' := am H
         clear H
         have p734 : 0 ≤ (x7_1 : Int) := oa
         have q734 : x7_1 < (l0.length : Int) := oa
         obtain ⟨ad734, e734, hx734_0⟩ := Kd.at_string HR0.out x7_1 p734 q734
         cases e734
         replace p734 := eq_true p734
         replace q734 := eq_true q734
         go_wp2_with (first | ((with_reducible refine gateC (f := 71) rfl ?_); refine goesL_ (some 13) rfl rfl Tryz.func71 (by kernel_rfl) rfl #[.string (rdOf ByteArray.empty l0 x7_1)] rfl zm ?_; (with_reducible refine (spec_l1Line.calls k1 (rdOf ByteArray.empty l0 x7_1) true _ A5.out).mono ?_); rintro e w' ⟨rfl, ⟨nd, rfl⟩⟩; refine ⟨_, rfl, ?_⟩) | (go_at_call 72; (with_reducible refine (spec_l1Ends.calls (rdOf ByteArray.empty l0 x7_1) true _ A8.out).mono ?_); rintro e w' ⟨rfl, ⟨nd, rfl⟩⟩))
         go_roundg k1
         case measure => have := HK1.out; omega
         case rel => exact ⟨(wrap64 (x7_1 + 1)), zf, H', ⟨by have := HK1.out; omega⟩, by repeat (first | exact Drawn0.refl _ | apply Drawn0.step)⟩
        ·replace c9 := Bool.eq_false_iff.mpr c9
         subst c9
         have H1 : (some false) = some r := by rw [if_neg (show ¬ (false = true) by decide)] at H; exact H
         clear H
         have H := H1
         clear H1
         obtain rfl := Option.some.inj H
         have p734 : 0 ≤ (x7_1 : Int) := oa
         have q734 : x7_1 < (l0.length : Int) := oa
         obtain ⟨ad734, e734, hx734_0⟩ := Kd.at_string HR0.out x7_1 p734 q734
         cases e734
         replace p734 := eq_true p734
         replace q734 := eq_true q734
         go_wp2_with (first | ((with_reducible refine gateC (f := 71) rfl ?_); refine goesL_ (some 13) rfl rfl Tryz.func71 (by kernel_rfl) rfl #[.string (rdOf ByteArray.empty l0 x7_1)] rfl zm ?_; (with_reducible refine (spec_l1Line.calls k1 (rdOf ByteArray.empty l0 x7_1) true _ A5.out).mono ?_); rintro e w' ⟨rfl, ⟨nd, rfl⟩⟩; refine ⟨_, rfl, ?_⟩) | (go_at_call 72; (with_reducible refine (spec_l1Ends.calls (rdOf ByteArray.empty l0 x7_1) false _ A8.out).mono ?_); rintro e w' ⟨rfl, ⟨nd, rfl⟩⟩))
         go_ret
         exact ⟨by first | rfl | (simp; done) | (simp [*]; done), by repeat (first | exact Drawn0.refl _ | apply Drawn0.step)⟩
       ·rw [if_neg c7] at H
        have c7b0 : decide (x7_1 < (wrap64 ((l0.length : Int) - 1))) = false := decide_eq_false c7
        clear c7
        have H' := am H
        clear H
        have p734 : 0 ≤ (x7_1 : Int) := oa
        have q734 : x7_1 < (l0.length : Int) := oa
        obtain ⟨ad734, e734, hx734_0⟩ := Kd.at_string HR0.out x7_1 p734 q734
        cases e734
        replace p734 := eq_true p734
        replace q734 := eq_true q734
        go_wp2_with (first | ((with_reducible refine gateC (f := 71) rfl ?_); refine goesL_ (some 13) rfl rfl Tryz.func71 (by kernel_rfl) rfl #[.string (rdOf ByteArray.empty l0 x7_1)] rfl zm ?_; (with_reducible refine (spec_l1Line.calls k1 (rdOf ByteArray.empty l0 x7_1) true _ A5.out).mono ?_); rintro e w' ⟨rfl, ⟨nd, rfl⟩⟩; refine ⟨_, rfl, ?_⟩))
        go_roundg k1
        case measure => have := HK1.out; omega
        case rel => exact ⟨(wrap64 (x7_1 + 1)), zf, H', ⟨by have := HK1.out; omega⟩, by repeat (first | exact Drawn0.refl _ | apply Drawn0.step)⟩
      ·replace c6 := Bool.eq_false_iff.mpr c6
       subst c6
       have H1 : (some false) = some r := by rw [if_neg (show ¬ (false = true) by decide)] at H; exact H
       clear H
       have H := H1
       clear H1
       obtain rfl := Option.some.inj H
       have p734 : 0 ≤ (x7_1 : Int) := oa
       have q734 : x7_1 < (l0.length : Int) := oa
       obtain ⟨ad734, e734, hx734_0⟩ := Kd.at_string HR0.out x7_1 p734 q734
       cases e734
       replace p734 := eq_true p734
       replace q734 := eq_true q734
       go_wp2_with (first | ((with_reducible refine gateC (f := 71) rfl ?_); refine goesL_ (some 13) rfl rfl Tryz.func71 (by kernel_rfl) rfl #[.string (rdOf ByteArray.empty l0 x7_1)] rfl zm ?_; (with_reducible refine (spec_l1Line.calls k1 (rdOf ByteArray.empty l0 x7_1) false _ A5.out).mono ?_); rintro e w' ⟨rfl, ⟨nd, rfl⟩⟩; refine ⟨_, rfl, ?_⟩))
       go_ret
       exact ⟨by first | rfl | (simp; done) | (simp [*]; done), by repeat (first | exact Drawn0.refl _ | apply Drawn0.step)⟩
     ·rw [if_neg c4] at H
      exact absurd H (by simp)
    ·rw [if_neg c3] at H
     exact absurd H (by simp)
   ·rw [if_neg c2] at H
    have c2b0 : decide (x7_1 < (l0.length : Int)) = false := decide_eq_false c2
    clear c2
    obtain rfl := Option.some.inj H
    go_wp2
    go_ret
    exact ⟨by first | rfl | (simp; done) | (simp [*]; done), by repeat (first | exact Drawn0.refl _ | apply Drawn0.step)⟩
end Go.Proofs.YtmcldkobejhaeaaGreatDoor.My
namespace Go.Proofs.YtmcldkobejhaeaaGreatDoor.Pl
open Go.RowKit Go.Proofs.YtmcldkobejhaeaaGreatDoorW.PrintWords Go.Proofs.YtmcldkobejhaeaaGreatDoorW.PrintLast Go.Proofs.YtmcldkobejhaeaaGreatDoor.My
set_option linter.unusedVariables false
set_option linter.unusedSimpArgs false
def isLn (s : ByteArray) : Bool := !(s.data.toList.dropLast.contains 10) && inB s.size 1 30
def ends (s : ByteArray) : Bool := s.data.toList.getLast? == some 10
def good (l : List ByteArray) : Bool := decide (l.length ≤ 40) && (l.all isLn && l.dropLast.all ends)
theorem toList_one (c : UInt8) : (⟨#[c]⟩ : ByteArray).toList = [c] := by rw [Lib.toList_data]
theorem size_one (c : UInt8) : (⟨#[c]⟩ : ByteArray).size = 1 := rfl
theorem bt_one (c : UInt8) : bt ⟨#[c]⟩ 0 = (c.toNat : Int) := rfl
theorem index_ev (s : ByteArray) (c : UInt8) : Ev (fun k => strings_Index.f k s ⟨#[c]⟩) (Lib.indexByte s.data.toList c) := by
  have hj : ∀ b : Bool, (b = true → Lib.indexByte s.data.toList c = 0) → Ev (fun k => stringslite_Index.j0 k s ⟨#[c]⟩ 1 b) (Lib.indexByte s.data.toList c) := by
    intro b hb
    refine Ev.step (fun k => stringslite_Index.j0.eq_2 ..) ?_
    refine ev_ite (fun h => ev_some (hb h).symm) (fun _ => ?_)
    refine ev_pos rfl (ev_pos (by rw [size_one]; decide) ?_)
    refine ev_const ?_
    rw [bt_one]
    simp [stringslite_IndexByte.f]
  have h2 : Ev (fun k => stringslite_Index.f k s ⟨#[c]⟩) (Lib.indexByte s.data.toList c) := by
    simp only [stringslite_Index.f]
    refine ev_neg (by rw [size_one]; decide) ?_
    refine hj _ (fun h => ?_)
    have e : s.data.toList = [c] := by
      have := beq_iff_eq.1 h
      rw [toList_one, Lib.toList_data] at this
      exact this.symm
    rw [e]
    simp [Lib.indexByte]
  simp only [strings_Index.f]
  exact ev_bind h2 (ev_some rfl)
theorem indexByte_nonneg (l : List UInt8) (c : UInt8) : decide (Lib.indexByte l c ≥ 0) = l.contains c := by
  induction l with
  | nil => simp [Lib.indexByte]
  | cons b l ih =>
    have hge := Lib.indexByte_ge l c
    unfold Lib.indexByte
    by_cases h : (b == c) = true
    · have : b = c := beq_iff_eq.1 h
      simp [this]
    · have hb : (b == c) = false := by simpa using h
      have hne : ¬ c = b := fun e => h (by simp [e])
      rw [List.contains_cons, ← ih]
      simp only [hb]
      by_cases h2 : Lib.indexByte l c = -1
      · simp [h2, hne]
      · have h3 : (Lib.indexByte l c == -1) = false := by simpa using h2
        simp only [h3]
        have : Lib.indexByte l c ≥ 0 := by omega
        simp [hne, this]
        omega
theorem contains_ev (s : ByteArray) (c : UInt8) : Ev (fun k => strings_Contains.f k s ⟨#[c]⟩) (s.data.toList.contains c) := by
  simp only [strings_Contains.f]
  exact ev_bind (index_ev s c) (ev_some (indexByte_nonneg _ _))
theorem extract_data (s : ByteArray) (a b : Nat) : (s.extract a b).data.toList = (s.data.toList.take b).drop a := by
  rw [ByteArray.data_extract, Array.toList_extract, List.extract_eq_take_drop, ← List.drop_take]
theorem isLine_ev (s : ByteArray) (hs : s.size ≤ 9223372036854775807) : Ev (fun k => impl_isLine.f k s) (isLn s) := by
  simp only [impl_isLine.f, impl_in_eq, Option.bind_some]
  refine ev_ite (fun h => ?_) (fun h => ev_some (by unfold isLn; simp at h; simp [h]))
  have h1 : 1 ≤ s.size ∧ s.size ≤ 30 := by
    simp [inB] at h
    omega
  rw [wrap_pred s.size (by omega) hs]
  refine ev_pos (by omega) (ev_pos (by omega) ?_)
  refine ev_bind (contains_ev _ 10) (ev_some ?_)
  rw [Int.toNat_natCast, extract_data, List.drop_zero, ← data_length, ← List.dropLast_eq_take]
  unfold isLn
  rw [h]
  simp
theorem l1Line_l0 (s : ByteArray) (hs : s.size ≤ 9223372036854775807) : ∀ d i, i + d = s.size - 1 → Ev (fun k => spec_l1Line.l0 k s (i : Int)) (!((s.data.toList.dropLast.drop i).contains 10) && inB s.size 1 30) := by
  intro d
  have hl : s.data.toList.length = s.size := data_length s
  induction d with
  | zero =>
    intro i hi
    refine Ev.step (fun k => spec_l1Line.l0.eq_2 ..) ?_
    refine ev_neg (by rw [wrap64_id (by omega) (by omega)]; omega) ?_
    refine ev_const ?_
    rw [spec_l1In_eq, List.drop_of_length_le (by rw [List.length_dropLast]; omega)]
    rfl
  | succ d ih =>
    intro i hi
    refine Ev.step (fun k => spec_l1Line.l0.eq_2 ..) ?_
    refine ev_pos (by rw [wrap64_id (by omega) (by omega)]; omega) (ev_pos (by omega) (ev_pos (by omega) ?_))
    have hd : s.data.toList.dropLast.drop i = s.data.toList[i] :: s.data.toList.dropLast.drop (i + 1) := by
      rw [List.drop_eq_getElem_cons (by rw [List.length_dropLast]; omega), List.getElem_dropLast]
    rw [hd, List.contains_cons, bt_nat s i (by omega)]
    refine ev_ite (fun h => ev_some ?_) (fun h => ?_)
    · have : s.data.toList[i] = 10 := u8_eq h
      rw [this]
      simp
    · rw [wrap_succ i (by omega)]
      refine ev_to (ih (i + 1) (by omega)) ?_
      have : ((10 : UInt8) == s.data.toList[i]) = false := by
        rw [beq_eq_false_iff_ne]
        exact u8_ne h
      rw [this, Bool.false_or]
theorem l1Line_ev (s : ByteArray) (hs : s.size ≤ 9223372036854775807) : Ev (fun k => spec_l1Line.f k s) (isLn s) := by
  simp only [spec_l1Line.f]
  exact l1Line_l0 s hs (s.size - 1) 0 (by omega)
theorem isLn_size {s : ByteArray} (h : isLn s = true) : 1 ≤ s.size ∧ s.size ≤ 30 := by
  simp [isLn, inB] at h
  omega
theorem ends_last {s : ByteArray} (h : 1 ≤ s.size) : ends s = (bt s ((s.size - 1 : Nat) : Int) == 10) := by
  have hl : s.data.toList.length = s.size := data_length s
  have hq : s.data.toList.getLast? = some (s.data.toList[s.size - 1]'(by omega)) := by
    rw [List.getLast?_eq_getElem?, List.getElem?_eq_getElem (by omega)]
    simp only [hl]
  unfold ends
  rw [bt_nat s _ (by omega), hq]
  rw [Bool.eq_iff_iff]
  simp only [beq_iff_eq, Option.some.injEq]
  constructor
  · intro e; rw [e]; rfl
  · intro e; exact u8_eq e
theorem l1Ends_eq (s : ByteArray) (h : 1 ≤ s.size) (hs : s.size ≤ 9223372036854775807) : spec_l1Ends.f s = some (ends s) := by
  unfold spec_l1Ends.f
  rw [wrap_pred s.size (by omega) hs, if_pos (by omega), if_pos (by omega), ends_last h]
theorem hasSuffix_eq (s : ByteArray) (c : UInt8) (hs : s.size ≤ 9223372036854775807) : strings_HasSuffix.f s ⟨#[c]⟩ = some (s.data.toList.getLast? == some c) := by
  have hl : s.data.toList.length = s.size := data_length s
  unfold strings_HasSuffix.f stringslite_HasSuffix.f
  rw [size_one]
  by_cases h : 1 ≤ s.size
  · rw [if_pos (by omega), show ((1 : Nat) : Int) = 1 from rfl, wrap_pred s.size (by omega) hs, if_pos (by omega), if_pos (by omega), Option.bind_some, toList_one, Lib.toList_data, Int.toNat_natCast, extract_data, ← hl, List.take_length]
    have e : s.data.toList.drop (s.data.toList.length - 1) = [s.data.toList[s.data.toList.length - 1]'(by omega)] := by
      rw [List.drop_eq_getElem_cons (by omega), List.drop_of_length_le (by omega)]
    rw [e, List.getLast?_eq_getElem?, List.getElem?_eq_getElem (by omega)]
    congr 1
    rw [Bool.eq_iff_iff]
    simp
  · rw [if_neg (by omega), Option.bind_some]
    have : s.data.toList = [] := List.eq_nil_of_length_eq_zero (by omega)
    simp [this]
theorem isEnded_eq (s : ByteArray) (hs : s.size ≤ 9223372036854775807) : impl_isEnded.f s = some (ends s) := by
  unfold impl_isEnded.f
  rw [hasSuffix_eq s 10 hs]
  rfl
theorem areLines_l0 (l : List ByteArray) (hf : FitS l) : ∀ d i, i + d = l.length → ∃ j : Int, Ev (fun k => slices_IndexFunc_string_string__impl_areLines_1.l0 k l (l.length : Int) (i : Int)) j ∧ decide (j ≥ 0) = !((l.drop i).all isLn) := by
  intro d
  induction d with
  | zero =>
    intro i hi
    refine ⟨-1, Ev.step (fun k => slices_IndexFunc_string_string__impl_areLines_1.l0.eq_2 ..) (ev_neg (by omega) (ev_some rfl)), ?_⟩
    rw [List.drop_of_length_le (by omega)]
    rfl
  | succ d ih =>
    intro i hi
    have hlt : i < l.length := by omega
    have hev : Ev (fun k => impl_areLines_1.f k (rdOf ByteArray.empty l (i : Int))) (!isLn l[i]) := by
      rw [rdOf_lt _ _ _ hlt]
      simp only [impl_areLines_1.f]
      exact ev_bind (isLine_ev _ (hf.2 _ (List.getElem_mem _))) (ev_some rfl)
    obtain ⟨j, hj, hjj⟩ := ih (i + 1) (by omega)
    rw [drop_cons l i hlt, List.all_cons]
    by_cases h : isLn l[i] = true
    · refine ⟨j, Ev.step (fun k => slices_IndexFunc_string_string__impl_areLines_1.l0.eq_2 ..) (ev_pos (by omega) (ev_pos (by omega) (ev_pos (by omega) (ev_bind hev (ev_neg (by simp [h]) ?_))))), by rw [hjj, h]; simp⟩
      rw [wrap_succ i (by have := hf.1; omega)]
      exact hj
    · refine ⟨(i : Int), Ev.step (fun k => slices_IndexFunc_string_string__impl_areLines_1.l0.eq_2 ..) (ev_pos (by omega) (ev_pos (by omega) (ev_pos (by omega) (ev_bind hev (ev_pos (by simp [h]) (ev_some rfl)))))), ?_⟩
      simp [h]
theorem areLines_ev (l : List ByteArray) (hf : FitS l) : Ev (fun k => impl_areLines.f k l) (decide (l.length ≤ 40) && l.all isLn) := by
  simp only [impl_areLines.f]
  refine ev_ite (fun h => ?_) (fun h => ev_some ?_)
  · obtain ⟨j, hj, hjj⟩ := areLines_l0 l hf l.length 0 (by omega)
    simp only [slices_ContainsFunc_string_string__impl_areLines_1.f, slices_IndexFunc_string_string__impl_areLines_1.f]
    refine ev_bind (ev_bind hj (ev_some rfl)) (ev_some ?_)
    have : l.length ≤ 40 := by omega
    rw [hjj]
    simp [this]
  · have : ¬ l.length ≤ 40 := by omega
    simp [this]
theorem goodLines_l0 (l : List ByteArray) (hf : FitS l) : ∀ d i, i + d = l.length → Ev (fun k => impl_goodLines.l0 k l l (l.length : Int) (i : Int)) ((l.dropLast.drop i).all ends) := by
  intro d
  have hL := hf.1
  induction d with
  | zero =>
    intro i hi
    refine Ev.step (fun k => impl_goodLines.l0.eq_2 ..) (ev_neg (by omega) (ev_some ?_))
    rw [List.drop_of_length_le (by rw [List.length_dropLast]; omega)]
    rfl
  | succ d ih =>
    intro i hi
    have hlt : i < l.length := by omega
    refine Ev.step (fun k => impl_goodLines.l0.eq_2 ..) (ev_pos (by omega) (ev_pos (by omega) (ev_pos (by omega) ?_)))
    rw [wrap_pred l.length (by omega) hL, rdOf_lt _ _ _ hlt, isEnded_eq _ (hf.2 _ (List.getElem_mem _)), wrap_succ i (by omega)]
    simp only [Option.bind_some]
    refine ev_ite (fun h => ?_) (fun h => ?_)
    · have hd : l.dropLast.drop i = l[i] :: l.dropLast.drop (i + 1) := by
        rw [List.drop_eq_getElem_cons (by rw [List.length_dropLast]; omega), List.getElem_dropLast]
      rw [hd, List.all_cons]
      refine ev_ite (fun h => ?_) (fun h => ev_some (by simp [h]))
      rw [h, Bool.true_and]
      exact ih (i + 1) (by omega)
    · have e1 : l.dropLast.drop i = [] := List.drop_of_length_le (by rw [List.length_dropLast]; omega)
      have e2 : l.dropLast.drop (i + 1) = [] := List.drop_of_length_le (by rw [List.length_dropLast]; omega)
      have := ih (i + 1) (by omega)
      rw [e2] at this
      rw [e1]
      exact this
theorem goodLines_ev (l : List ByteArray) (hf : FitS l) : Ev (fun k => impl_goodLines.f k l) (good l) := by
  simp only [impl_goodLines.f]
  refine ev_bind (areLines_ev l hf) (ev_ite (fun h => ?_) (fun h => ev_some ?_))
  · refine ev_to (goodLines_l0 l hf l.length 0 (by omega)) ?_
    rw [List.drop_zero]
    unfold good
    rw [← Bool.and_assoc, h, Bool.true_and]
  · unfold good
    rw [← Bool.and_assoc]
    simp at h
    simp
    intro h1 h2
    exact absurd (h h1) (by simpa using h2)

theorem good_len {l : List ByteArray} (h : good l = true) : l.length ≤ 40 := by
  unfold good at h
  rw [Bool.and_eq_true] at h
  exact of_decide_eq_true h.1

theorem l5Lines_l0 (l : List ByteArray) (hf : FitS l) : ∀ d i, i + d = l.length → Ev (fun k => spec_l5Lines.l0 k l l (l.length : Int) (i : Int)) ((l.drop i).all isLn && (l.dropLast.drop i).all ends && decide (l.length ≤ 40)) := by
  intro d
  have hL := hf.1
  induction d with
  | zero =>
    intro i hi
    refine Ev.step (fun k => spec_l5Lines.l0.eq_2 ..) (ev_neg (by omega) (ev_some ?_))
    rw [List.drop_of_length_le (by omega), List.drop_of_length_le (by rw [List.length_dropLast]; omega)]
    simp
    omega
  | succ d ih =>
    intro i hi
    have hlt : i < l.length := by omega
    refine Ev.step (fun k => spec_l5Lines.l0.eq_2 ..) (ev_pos (by omega) (ev_pos (by omega) (ev_pos (by omega) ?_)))
    simp only [rdOf_lt _ _ _ hlt]
    rw [wrap_pred l.length (by omega) hL, wrap_succ i (by omega), drop_cons l i hlt, List.all_cons]
    refine ev_bind (l1Line_ev _ (hf.2 _ (List.getElem_mem _))) (ev_ite (fun h => ?_) (fun h => ev_some (by simp [h])))
    rw [h, Bool.true_and, l1Ends_eq _ (isLn_size h).1 (hf.2 _ (List.getElem_mem _))]
    simp only [Option.bind_some]
    refine ev_ite (fun h => ?_) (fun h => ?_)
    · have hd : l.dropLast.drop i = l[i] :: l.dropLast.drop (i + 1) := by
        rw [List.drop_eq_getElem_cons (by rw [List.length_dropLast]; omega), List.getElem_dropLast]
      rw [hd, List.all_cons]
      refine ev_ite (fun h => ?_) (fun h => ev_some (by simp [h]))
      rw [h, Bool.true_and]
      exact ih (i + 1) (by omega)
    · have e1 : l.dropLast.drop i = [] := List.drop_of_length_le (by rw [List.length_dropLast]; omega)
      have e2 : l.dropLast.drop (i + 1) = [] := List.drop_of_length_le (by rw [List.length_dropLast]; omega)
      have := ih (i + 1) (by omega)
      rw [e2] at this
      rw [e1]
      exact this
theorem l5Lines_ev (l : List ByteArray) (hf : FitS l) : Ev (fun k => spec_l5Lines.f k l) (good l) := by
  simp only [spec_l5Lines.f]
  refine ev_to (l5Lines_l0 l hf l.length 0 (by omega)) ?_
  rw [List.drop_zero, List.drop_zero]
  unfold good
  rw [Bool.and_comm]

def tellB (f t : Int) (l : List ByteArray) : Bool := if (l.length : Int) = 0 then f == t else if f ≥ 1 then wrap64 (wrap64 (t - f) + 1) == (l.length : Int) else false
def toldB (f t : Int) (l : List ByteArray) : Bool := inB f 0 1000 && (inB t 0 1000 && (good l && tellB f t l))
theorem isTold_ev (f t : Int) (l : List ByteArray) (hf : FitS l) : Ev (fun k => impl_isTold.f k f t l) (toldB f t l) := by
  simp only [impl_isTold.f, impl_in_eq, Option.bind_some]
  unfold toldB
  have fin : ∀ b, b = false → Ev (fun k => impl_isTold.j0 k f t l true) b := fun b hb => Ev.step (fun k => impl_isTold.j0.eq_2 ..) (ev_pos rfl (ev_some hb.symm))
  refine ev_ite (fun c => ?_) (fun c => fin _ (by rw [Bool.not_eq_true] at c; rw [c]; rfl))
  rw [c, Bool.true_and]
  refine ev_ite (fun c => ?_) (fun c => fin _ (by rw [Bool.not_eq_true] at c; rw [c]; rfl))
  rw [c, Bool.true_and]
  refine ev_bind (goodLines_ev l hf) (Ev.step (fun k => impl_isTold.j0.eq_2 ..) ?_)
  cases good l with
  | false => exact ev_pos rfl (ev_some rfl)
  | true =>
    rw [Bool.true_and]
    unfold tellB
    refine ev_neg (by simp) (ev_ite (fun e => ev_some (by rw [if_pos e])) (fun e => ?_))
    rw [if_neg e]
    exact ev_ite (fun e => ev_some (by rw [if_pos e])) (fun e => ev_some (by rw [if_neg e]))
theorem l5Side_ev (f t : Int) (l : List ByteArray) (hf : FitS l) : Ev (fun k => spec_l5Side.f k f t l) (toldB f t l) := by
  simp only [spec_l5Side.f, spec_l1In_eq, Option.bind_some]
  unfold toldB
  have fin : ∀ b, b = false → Ev (fun k => spec_l5Side.j0 k f t l true) b := fun b hb => Ev.step (fun k => spec_l5Side.j0.eq_2 ..) (ev_pos rfl (ev_some hb.symm))
  refine ev_ite (fun c => ?_) (fun c => fin _ (by rw [Bool.not_eq_true] at c; rw [c]; rfl))
  rw [c, Bool.true_and]
  refine ev_ite (fun c => ?_) (fun c => fin _ (by rw [Bool.not_eq_true] at c; rw [c]; rfl))
  rw [c, Bool.true_and]
  refine ev_bind (l5Lines_ev l hf) (Ev.step (fun k => spec_l5Side.j0.eq_2 ..) ?_)
  cases good l with
  | false => exact ev_pos rfl (ev_some rfl)
  | true =>
    rw [Bool.true_and]
    unfold tellB
    refine ev_neg (by simp) (ev_ite (fun e => ev_some (by rw [if_pos e, Bool.beq_comm])) (fun e => ?_))
    rw [if_neg e]
    exact ev_ite (fun e => ev_some (by rw [if_pos e])) (fun e => ev_some (by rw [if_neg e]))
theorem told_len {f t : Int} {l : List ByteArray} (h : toldB f t l = true) : l.length ≤ 40 := by
  unfold toldB at h
  rw [Bool.and_eq_true, Bool.and_eq_true, Bool.and_eq_true] at h
  exact good_len h.2.2.1
def stepB (x : IT) : Bool := toldB x.f0 x.f1 x.f2 && (toldB x.f3 x.f4 x.f5 && decide (0 < x.f2.length + x.f5.length))
theorem badStep_ev (x : IT) (hf : FitS x.f2 ∧ FitS x.f5) : Ev (fun k => impl_goodSteps_1.f k x.f0 x.f1 x.f2 x.f3 x.f4 x.f5) (!stepB x) := by
  simp only [impl_goodSteps_1.f]
  unfold stepB
  refine ev_bind (isTold_ev _ _ _ hf.1) (ev_ite (fun c => ?_) (fun c => ev_some (by rw [Bool.not_eq_true] at c; rw [c]; rfl)))
  refine ev_bind (isTold_ev _ _ _ hf.2) (ev_ite (fun c' => ev_some ?_) (fun c' => ev_some (by rw [Bool.not_eq_true] at c'; rw [c', c]; rfl)))
  have h1 := told_len c
  have h2 := told_len c'
  rw [c, c', wrap_add _ _ (by omega), Bool.true_and, Bool.true_and]
  by_cases e : 0 < x.f2.length + x.f5.length
  · rw [decide_eq_true e]
    simp only [Bool.not_true, beq_eq_false_iff_ne, ne_eq]
    omega
  · rw [decide_eq_false e, show x.f2.length + x.f5.length = 0 from by omega]
    rfl
theorem l5Step_ev (x : IT) (hf : FitS x.f2 ∧ FitS x.f5) : Ev (fun k => spec_l5Step.f k x.f0 x.f1 x.f2 x.f3 x.f4 x.f5) (stepB x) := by
  simp only [spec_l5Step.f]
  unfold stepB
  refine ev_bind (l5Side_ev _ _ _ hf.1) (ev_ite (fun c => ?_) (fun c => ev_some (by rw [Bool.not_eq_true] at c; rw [c]; rfl)))
  refine ev_bind (l5Side_ev _ _ _ hf.2) (ev_ite (fun c' => ev_some ?_) (fun c' => ev_some (by rw [Bool.not_eq_true] at c'; rw [c', c]; rfl)))
  have h1 := told_len c
  have h2 := told_len c'
  rw [c, c', wrap_add _ _ (by omega), Bool.true_and, Bool.true_and]
  by_cases e : 0 < x.f2.length + x.f5.length
  · rw [decide_eq_true e, decide_eq_true (by omega)]
  · rw [decide_eq_false e, decide_eq_false (by omega)]
def goodT (l : List IT) : Bool := decide (l.length ≤ 20) && l.all stepB
theorem goodSteps_l0 (l : List IT) (hf : FitIT l) : ∀ d i, i + d = l.length → ∃ j : Int, Ev (fun k => slices_IndexFunc_impl_Step_impl_Step__impl_goodSteps_1.l0 k l (l.length : Int) (i : Int)) j ∧ decide (j ≥ 0) = !((l.drop i).all stepB) := by
  intro d
  induction d with
  | zero =>
    intro i hi
    refine ⟨-1, Ev.step (fun k => slices_IndexFunc_impl_Step_impl_Step__impl_goodSteps_1.l0.eq_2 ..) (ev_neg (by omega) (ev_some rfl)), ?_⟩
    rw [List.drop_of_length_le (by omega)]
    rfl
  | succ d ih =>
    intro i hi
    have hlt : i < l.length := by omega
    have hev : Ev (fun k => impl_goodSteps_1.f k (rd_T52 l (i : Int)).f0 (rd_T52 l (i : Int)).f1 (rd_T52 l (i : Int)).f2 (rd_T52 l (i : Int)).f3 (rd_T52 l (i : Int)).f4 (rd_T52 l (i : Int)).f5) (!stepB l[i]) := by
      rw [rdIT l i hlt]
      exact badStep_ev _ (hf.2 _ (List.getElem_mem hlt))
    obtain ⟨j, hj, hjj⟩ := ih (i + 1) (by omega)
    rw [List.drop_eq_getElem_cons hlt, List.all_cons]
    by_cases h : stepB l[i] = true
    · refine ⟨j, Ev.step (fun k => slices_IndexFunc_impl_Step_impl_Step__impl_goodSteps_1.l0.eq_2 ..) (ev_pos (by omega) (ev_pos (by omega) (ev_pos (by omega) (ev_bind hev (ev_neg (by simp [h]) ?_))))), by rw [hjj, h]; simp⟩
      rw [wrap_succ i (by have := hf.1; omega)]
      exact hj
    · refine ⟨(i : Int), Ev.step (fun k => slices_IndexFunc_impl_Step_impl_Step__impl_goodSteps_1.l0.eq_2 ..) (ev_pos (by omega) (ev_pos (by omega) (ev_pos (by omega) (ev_bind hev (ev_pos (by simp [h]) (ev_some rfl)))))), ?_⟩
      simp [h]
theorem goodSteps_ev (l : List IT) (hf : FitIT l) : Ev (fun k => impl_goodSteps.f k l) (goodT l) := by
  simp only [impl_goodSteps.f]
  unfold goodT
  refine ev_ite (fun h => ?_) (fun h => ev_some ?_)
  · obtain ⟨j, hj, hjj⟩ := goodSteps_l0 l hf l.length 0 (by omega)
    simp only [slices_ContainsFunc_impl_Step_impl_Step__impl_goodSteps_1.f, slices_IndexFunc_impl_Step_impl_Step__impl_goodSteps_1.f]
    refine ev_bind (ev_bind hj (ev_some rfl)) (ev_some ?_)
    have : l.length ≤ 20 := by omega
    rw [hjj]
    simp [this]
  · have : ¬ l.length ≤ 20 := by omega
    simp [this]
theorem specGoodSteps_l0 (l : List IT) (hf : FitIT l) : ∀ d i, i + d = l.length → Ev (fun k => spec_GoodSteps.l0 k l l (l.length : Int) (i : Int)) ((l.drop i).all stepB && decide (l.length ≤ 20)) := by
  intro d
  have hL := hf.1
  induction d with
  | zero =>
    intro i hi
    refine Ev.step (fun k => spec_GoodSteps.l0.eq_2 ..) (ev_neg (by omega) (ev_some ?_))
    rw [List.drop_of_length_le (by omega)]
    simp
    omega
  | succ d ih =>
    intro i hi
    have hlt : i < l.length := by omega
    refine Ev.step (fun k => spec_GoodSteps.l0.eq_2 ..) (ev_pos (by omega) (ev_pos (by omega) (ev_pos (by omega) ?_)))
    simp only [rdIT _ _ hlt]
    rw [wrap_succ i (by omega), List.drop_eq_getElem_cons hlt, List.all_cons]
    refine ev_bind (l5Step_ev _ (hf.2 _ (List.getElem_mem _))) (ev_ite (fun h => ?_) (fun h => ev_some (by simp [h])))
    rw [h, Bool.true_and]
    exact ih (i + 1) (by omega)
theorem spec_GoodSteps_ev (l : List IT) (hf : FitIT l) : Ev (fun k => spec_GoodSteps.f k l) (goodT l) := by
  simp only [spec_GoodSteps.f]
  refine ev_to (specGoodSteps_l0 l hf l.length 0 (by omega)) ?_
  unfold goodT
  rw [List.drop_zero, Bool.and_comm]

def num (n : Nat) : ByteArray := ⟨(Lib.decDigits n).toArray⟩
theorem num_data (n : Nat) : (num n).data.toList = Lib.decDigits n := rfl
theorem num_size (n : Nat) (h : n < 18446744073709551616) : (num n).size ≤ 20 := by
  have h1 : (num n).size = (Lib.decDigits n).length := by rw [← data_length, num_data]
  rw [h1, Lib.decDigits_length]
  exact Lib.nDigits_le20 n h
theorem itoa_eq (n : Nat) (h : n ≤ 9223372036854775807) : strconv_Itoa_115.f (n : Int) = some (num n) := by
  unfold strconv_Itoa_115.f
  rw [if_pos (by omega), Lib.itoa_nonneg]
  rfl
theorem digit_eq (d : Nat) (h : d < 10) : strOfNums [(wrap64 (48 + (d : Int))) % 256] = ⟨#[UInt8.ofNat (48 + d)]⟩ := by
  rw [wrap64_id (by omega) (by omega)]
  have e : ((48 + (d : Int)) % 256) = ((48 + d : Nat) : Int) := by omega
  rw [e]
  unfold strOfNums
  rw [List.map_cons, List.map_nil, Int.toNat_natCast]
theorem l1Num_ev : ∀ (n : Nat), n ≤ 4611686018427387904 → Ev (fun k => spec_l1Num.f k (n : Int)) (num n) := by
  intro n
  induction n using Nat.strongRecOn with
  | _ n ih =>
    intro hn
    refine Ev.step (fun k => spec_l1Num.f.eq_2 ..) ?_
    by_cases h : n < 10
    · refine ev_pos (by omega) (ev_some ?_)
      rw [digit_eq n h]
      unfold num
      rw [Lib.decDigits_one h]
    · have e1 : wrap64 (Int.tdiv (n : Int) 10) = ((n / 10 : Nat) : Int) := by
        rw [Int.tdiv_eq_ediv_of_nonneg (by omega), wrap64_id (by omega) (by omega)]
        omega
      have e2 : Int.tmod (n : Int) 10 = ((n % 10 : Nat) : Int) := by
        rw [Int.tmod_eq_emod_of_nonneg (by omega)]
        omega
      rw [e1, e2]
      refine ev_neg (by omega) (ev_bind (ih (n / 10) (by omega) (by omega)) ?_)
      simp only [Option.bind_some]
      rw [digit_eq (n % 10) (by omega)]
      refine ev_pos ?_ (ev_some ?_)
      · have := num_size (n / 10) (by omega)
        have e3 : (⟨#[UInt8.ofNat (48 + n % 10)]⟩ : ByteArray).size = 1 := rfl
        omega
      · refine ba_ext ?_
        rw [Lib.toList_data, Lib.toList_data, num_data, Lib.decDigits.eq_def n, dif_neg h]
        simp [num, ByteArray.toList_data_append]

def comma : ByteArray := ⟨#[44]⟩
def pairV (f l : Nat) : ByteArray := if f = l then num f else num f ++ comma ++ num l
theorem num_size' (n : Nat) (h : n ≤ 100000) : (num n).size ≤ 20 := num_size n (by omega)
theorem pairOf_eq (f l : Nat) (hf : f ≤ 100000) (hl : l ≤ 100000) : impl_pairOf.f (f : Int) (l : Int) = some (pairV f l) := by
  unfold impl_pairOf.f pairV
  have h1 := num_size' f hf
  have h2 := num_size' l hl
  by_cases h : f = l
  · rw [if_pos (by omega), if_pos h, itoa_eq f (by omega)]; rfl
  · rw [if_neg (by omega), if_neg h, itoa_eq f (by omega), Option.bind_some, if_pos (by omega), itoa_eq l (by omega), Option.bind_some, if_pos (by
      rw [ByteArray.size_append, show (⟨#[44]⟩ : ByteArray).size = 1 from rfl]; omega)]
    rfl
end Go.Proofs.YtmcldkobejhaeaaGreatDoor.Pl
namespace Go.Proofs.YtmcldkobejhaeaaGreatDoor.My
open Go.RowKit Go.Proofs.YtmcldkobejhaeaaGreatDoorW.PrintWords Go.Proofs.YtmcldkobejhaeaaGreatDoorW.PrintLast Go.Proofs.YtmcldkobejhaeaaGreatDoorW.PrintMore
attribute [local go_sem] max2_int min2_int max_two min_two max_three min_three max_four min_four
set_option linter.unusedVariables false
set_option linter.unusedSimpArgs false
def spec_StepsText.f (k : Nat) (l0 : List (S52)) : Option (ByteArray × Bool) := (spec_GoodSteps.f k l0).bind fun t792 => (if t792 = true then ((spec_l5Text.f k l0).bind fun t793 => (if (t793.size : Int) > 3000 then (some ((⟨#[]⟩ : ByteArray), false)) else ((spec_l5Text.f k l0).bind fun t794 => (some (t794, true))))) else (some ((⟨#[]⟩ : ByteArray), false)))
set_option maxHeartbeats 8000000 in
set_option maxRecDepth 100000 in
theorem spec_StepsText.calls (k : Nat) (A0 : Option Addr) (c0 : Nat) (l0 : List (S52)) (r1 : ByteArray) (r2 : Bool) (w : World) (hr0 : Kd.C k52 w A0 l0.length l0) (hc0 : l0.length ≤ c0) (h : spec_StepsText.f k l0 = some (r1, r2)) :
  Calls Tryz.prog 31 #[.slice A0 l0.length c0] w fun e w' => e = .returned (.tuple #[.string r1, .bool r2]) ∧ Below w.heap.size w w' := by
 have HR0 := am hr0
 have HC0 := am hc0
 clear hr0 hc0
 have HB := am (Below.refl w.heap.size w)
 have H : ((spec_GoodSteps.f k l0).bind fun t792 => (if t792 = true then ((spec_l5Text.f k l0).bind fun t793 => (if (t793.size : Int) > 3000 then (some ((⟨#[]⟩ : ByteArray), false)) else ((spec_l5Text.f k l0).bind fun t794 => (some (t794, true))))) else (some ((⟨#[]⟩ : ByteArray), false)))) = some (r1, r2) := h
 clear h
 replace H := Option.bind_eq_some_iff.mp H
 obtain ⟨t792, A20, H⟩ := H
 replace H : (if t792 = true then ((spec_l5Text.f k l0).bind fun t793 => (if (t793.size : Int) > 3000 then (some ((⟨#[]⟩ : ByteArray), false)) else ((spec_l5Text.f k l0).bind fun t794 => (some (t794, true))))) else (some ((⟨#[]⟩ : ByteArray), false))) = some (r1, r2) := H
 have A2 := am A20
 clear A20
 by_cases c3 : t792 = true
 ·subst c3
  have H1 : ((spec_l5Text.f k l0).bind fun t793 => (if (t793.size : Int) > 3000 then (some ((⟨#[]⟩ : ByteArray), false)) else ((spec_l5Text.f k l0).bind fun t794 => (some (t794, true))))) = some (r1, r2) := by rw [if_pos rfl] at H; exact H
  clear H
  have H := H1
  clear H1
  replace H := Option.bind_eq_some_iff.mp H
  obtain ⟨t793, A40, H⟩ := H
  replace H : (if (t793.size : Int) > 3000 then (some ((⟨#[]⟩ : ByteArray), false)) else ((spec_l5Text.f k l0).bind fun t794 => (some (t794, true)))) = some (r1, r2) := H
  have A4 := am A40
  clear A40
  by_cases c5 : (t793.size : Int) > 3000
  ·rw [if_pos c5] at H
   have c5b0 : decide (3000 < (t793.size : Int)) = true := decide_eq_true c5
   have c5b1 : decide (3000 < t793.size) = true := decide_eq_true (by omega)
   clear c5
   simp only [Option.some.injEq, Prod.mk.injEq] at H
   obtain ⟨rfl, rfl⟩ := H
   go_enter Tryz.func31, Tryz.ntmps31
   go_wp2_with (first | ((with_reducible refine gateC (f := 42) rfl ?_); refine goesL_ (some 5) rfl rfl Tryz.func42 (by kernel_rfl) rfl #[.slice A0 l0.length c0] rfl zm ?_; (with_reducible refine (spec_GoodSteps.calls k _ _ l0 true _ ?side1 ?side2 A2.out).mono ?_); (case side1 => exact zq HR0.out); (case side2 => exact HC0.out); rintro e w6 ⟨rfl, hb⟩; refine ⟨_, rfl, ?_⟩; have n0_ := am (below_step zb hb); clear HB; have HB := n0_; clear n0_; (try clear hb)) | (go_at_call 49; (with_reducible refine (spec_l5Text.calls k _ _ l0 t793 _ ?side1 ?side2 A4.out).mono ?_); (case side1 => exact zq (Kd.C_below HR0.out HB.out)); (case side2 => exact HC0.out); rintro e w7 ⟨rfl, hb⟩; have n0_ := am (below_step zb hb); clear HB; have HB := n0_; clear n0_; (try clear hb)))
   go_ret2
   exact ⟨by first | rfl | (simp [errW_none, errW_some] <;> rfl) | (simp [*, errW_none, errW_some] <;> rfl), zb⟩
  ·rw [if_neg c5] at H
   have c5b0 : decide (3000 < (t793.size : Int)) = false := decide_eq_false c5
   have c5b1 : decide (3000 < t793.size) = false := decide_eq_false (by omega)
   clear c5
   replace H := Option.bind_eq_some_iff.mp H
   obtain ⟨t794, A80, H⟩ := H
   replace H : (some (t794, true)) = some (r1, r2) := H
   have A8 := am A80
   clear A80
   simp only [Option.some.injEq, Prod.mk.injEq] at H
   obtain ⟨rfl, rfl⟩ := H
   go_enter Tryz.func31, Tryz.ntmps31
   go_wp2_with (first | ((with_reducible refine gateC (f := 42) rfl ?_); refine goesL_ (some 5) rfl rfl Tryz.func42 (by kernel_rfl) rfl #[.slice A0 l0.length c0] rfl zm ?_; (with_reducible refine (spec_GoodSteps.calls k _ _ l0 true _ ?side1 ?side2 A2.out).mono ?_); (case side1 => exact zq HR0.out); (case side2 => exact HC0.out); rintro e w9 ⟨rfl, hb⟩; refine ⟨_, rfl, ?_⟩; have n0_ := am (below_step zb hb); clear HB; have HB := n0_; clear n0_; (try clear hb)) | (go_at_call 49; (with_reducible refine (spec_l5Text.calls k _ _ l0 t793 _ ?side1 ?side2 A4.out).mono ?_); (case side1 => exact zq (Kd.C_below HR0.out HB.out)); (case side2 => exact HC0.out); rintro e w10 ⟨rfl, hb⟩; have n0_ := am (below_step zb hb); clear HB; have HB := n0_; clear n0_; (try clear hb)) | ((with_reducible refine gateC (f := 49) rfl ?_); refine goesL_ (some 14) rfl rfl Tryz.func49 (by kernel_rfl) rfl #[.slice A0 l0.length c0] rfl zm ?_; (with_reducible refine (spec_l5Text.calls k _ _ l0 t794 _ ?side1 ?side2 A8.out).mono ?_); (case side1 => exact zq (Kd.C_below HR0.out HB.out)); (case side2 => exact HC0.out); rintro e w11 ⟨rfl, hb⟩; refine ⟨_, rfl, ?_⟩; have n0_ := am (below_step zb hb); clear HB; have HB := n0_; clear n0_; (try clear hb)))
   go_ret2
   exact ⟨by first | rfl | (simp [errW_none, errW_some] <;> rfl) | (simp [*, errW_none, errW_some] <;> rfl), zb⟩
 ·replace c3 := Bool.eq_false_iff.mpr c3
  subst c3
  have H1 : (some ((⟨#[]⟩ : ByteArray), false)) = some (r1, r2) := by rw [if_neg (show ¬ (false = true) by decide)] at H; exact H
  clear H
  have H := H1
  clear H1
  simp only [Option.some.injEq, Prod.mk.injEq] at H
  obtain ⟨rfl, rfl⟩ := H
  go_enter Tryz.func31, Tryz.ntmps31
  go_wp2_with (first | ((with_reducible refine gateC (f := 42) rfl ?_); refine goesL_ (some 5) rfl rfl Tryz.func42 (by kernel_rfl) rfl #[.slice A0 l0.length c0] rfl zm ?_; (with_reducible refine (spec_GoodSteps.calls k _ _ l0 false _ ?side1 ?side2 A2.out).mono ?_); (case side1 => exact zq HR0.out); (case side2 => exact HC0.out); rintro e w12 ⟨rfl, hb⟩; refine ⟨_, rfl, ?_⟩; have n0_ := am (below_step zb hb); clear HB; have HB := n0_; clear n0_; (try clear hb)))
  go_ret2
  exact ⟨by first | rfl | (simp [errW_none, errW_some] <;> rfl) | (simp [*, errW_none, errW_some] <;> rfl), zb⟩
end Go.Proofs.YtmcldkobejhaeaaGreatDoor.My
namespace Go.Proofs.YtmcldkobejhaeaaGreatDoor.Pl
open Go.RowKit Go.Proofs.YtmcldkobejhaeaaGreatDoorW.PrintWords Go.Proofs.YtmcldkobejhaeaaGreatDoorW.PrintLast Go.Proofs.YtmcldkobejhaeaaGreatDoor.My
set_option linter.unusedVariables false
set_option linter.unusedSimpArgs false
def nl : ByteArray := ⟨#[10]⟩
def noneT : ByteArray := ⟨#[10, 92, 32, 110, 111, 110, 101, 10]⟩
def shownV (g s : ByteArray) : ByteArray := if ends s = true then g ++ s else (g ++ s) ++ noneT
def allV (g : ByteArray) : List ByteArray → ByteArray
  | [] => ⟨#[]⟩
  | s :: t => shownV g s ++ allV g t
theorem shown_size (g s : ByteArray) (h : isLn s = true) : (shownV g s).size ≤ g.size + 38 := by
  have h1 := (isLn_size h).2
  unfold shownV
  split
  · rw [ByteArray.size_append]; omega
  · rw [ByteArray.size_append, ByteArray.size_append, show noneT.size = 8 from rfl]; omega
theorem allV_size (g : ByteArray) (hg : g.size ≤ 2) : ∀ (l : List ByteArray), (∀ s ∈ l, isLn s = true) → (allV g l).size ≤ 40 * l.length
  | [], _ => by simp [allV]; rfl
  | s :: t, h => by
    have h1 := shown_size g s (h s (List.mem_cons_self ..))
    have h2 := allV_size g hg t (fun x hx => h x (List.mem_cons_of_mem _ hx))
    simp only [allV, ByteArray.size_append, List.length_cons]
    omega
theorem append_empty (a : ByteArray) : a ++ (⟨#[]⟩ : ByteArray) = a := ba_ext (by simp [Lib.toList_data])
theorem empty_append (a : ByteArray) : (⟨#[]⟩ : ByteArray) ++ a = a := ba_ext (by simp [Lib.toList_data])
theorem shown_eq (g s : ByteArray) (hg : g.size ≤ 2) (h : isLn s = true) : impl_shown.f g s = some (shownV g s) := by
  have h1 := isLn_size h
  unfold impl_shown.f shownV
  rw [isEnded_eq s (by omega), Option.bind_some]
  by_cases he : ends s = true
  · rw [if_pos he, if_pos he, if_pos (by omega)]
  · rw [if_neg he, if_neg he, if_pos (by omega), if_pos (by rw [ByteArray.size_append]; omega), if_pos (by rw [ByteArray.size_append, ByteArray.size_append, show (⟨#[10]⟩ : ByteArray).size = 1 from rfl]; omega), ByteArray.append_assoc (a := g ++ s)]
    rfl
theorem l5Shown_eq (g s : ByteArray) (hg : g.size ≤ 2) (h : isLn s = true) : spec_l5Shown.f g s = some (shownV g s) := by
  have h1 := isLn_size h
  unfold spec_l5Shown.f shownV
  rw [l1Ends_eq s (by omega) (by omega), Option.bind_some]
  by_cases he : ends s = true
  · rw [if_pos he, if_pos he, if_pos (by omega)]
  · rw [if_neg he, if_neg he, if_pos (by omega), if_pos (by rw [ByteArray.size_append]; omega)]
    rfl
theorem allShown_l0 (g : ByteArray) (hg : g.size ≤ 2) (l : List ByteArray) (hl : l.length ≤ 40) (h : ∀ s ∈ l, isLn s = true) : ∀ d i (acc : ByteArray), i + d = l.length → acc.size ≤ 40 * i →
    Ev (fun k => impl_allShown.l0 k g acc l (l.length : Int) (i : Int)) (acc ++ allV g (l.drop i)) := by
  intro d
  induction d with
  | zero =>
    intro i acc hi ha
    refine Ev.step (fun k => impl_allShown.l0.eq_2 ..) (ev_neg (by omega) (ev_some ?_))
    rw [List.drop_of_length_le (by omega)]
    simp only [allV, append_empty]
  | succ d ih =>
    intro i acc hi ha
    have hlt : i < l.length := by omega
    have hm := h _ (List.getElem_mem hlt)
    have hs := shown_size g _ hm
    refine Ev.step (fun k => impl_allShown.l0.eq_2 ..) (ev_pos (by omega) (ev_pos (by omega) (ev_pos (by omega) ?_)))
    rw [rdOf_lt _ l i hlt, wrap_succ i (by omega)]
    refine ev_bind (ev_const (shown_eq g _ hg hm)) (ev_pos (by omega) (ev_to (ih (i + 1) _ (by omega) (by rw [ByteArray.size_append]; omega)) ?_))
    rw [List.drop_eq_getElem_cons hlt]
    simp only [allV, ByteArray.append_assoc]
theorem allShown_ev (g : ByteArray) (hg : g.size ≤ 2) (l : List ByteArray) (hl : l.length ≤ 40) (h : ∀ s ∈ l, isLn s = true) : Ev (fun k => impl_allShown.f k g l) (allV g l) := by
  simp only [impl_allShown.f]
  exact ev_to (allShown_l0 g hg l hl h l.length 0 _ (by omega) (by show (0 : Nat) ≤ _; omega)) (by rw [List.drop_zero, empty_append])
def kindV (x : IT) : ByteArray := if x.f2.length = 0 then ⟨#[97]⟩ else if x.f5.length = 0 then ⟨#[100]⟩ else ⟨#[99]⟩
def midV (x : IT) : ByteArray := if x.f2.length = 0 then ⟨#[]⟩ else if x.f5.length = 0 then ⟨#[]⟩ else ⟨#[45, 45, 45, 10]⟩
def lt_ : ByteArray := ⟨#[60, 32]⟩
def gt_ : ByteArray := ⟨#[62, 32]⟩
def headV (x : IT) (kd : ByteArray) : ByteArray := ((pairV x.f0.toNat x.f1.toNat ++ kd) ++ pairV x.f3.toNat x.f4.toNat) ++ nl
def textOne (x : IT) : ByteArray := ((headV x (kindV x) ++ allV lt_ x.f2) ++ midV x) ++ allV gt_ x.f5
def textFrom : ByteArray → List IT → ByteArray
  | acc, [] => acc
  | acc, x :: t => textFrom (acc ++ textOne x) t
structure StepOK (x : IT) : Prop where
  a0 : 0 ≤ x.f0 ∧ x.f0 ≤ 1000
  a1 : 0 ≤ x.f1 ∧ x.f1 ≤ 1000
  a3 : 0 ≤ x.f3 ∧ x.f3 ≤ 1000
  a4 : 0 ≤ x.f4 ∧ x.f4 ≤ 1000
  l2 : x.f2.length ≤ 40
  l5 : x.f5.length ≤ 40
  i2 : ∀ s ∈ x.f2, isLn s = true
  i5 : ∀ s ∈ x.f5, isLn s = true
theorem good_ln {l : List ByteArray} (h : good l = true) : ∀ s ∈ l, isLn s = true := by
  unfold good at h
  rw [Bool.and_eq_true, Bool.and_eq_true] at h
  exact fun s hs => List.all_eq_true.1 h.2.1 s hs
theorem stepOK_of {x : IT} (h : stepB x = true) : StepOK x := by
  unfold stepB at h
  rw [Bool.and_eq_true, Bool.and_eq_true] at h
  obtain ⟨h1, h2, _⟩ := h
  have e1 := told_len h1
  have e2 := told_len h2
  unfold toldB at h1 h2
  rw [Bool.and_eq_true, Bool.and_eq_true, Bool.and_eq_true, inB_iff, inB_iff] at h1 h2
  exact ⟨h1.1, h1.2.1, h2.1, h2.2.1, e1, e2, good_ln h1.2.2.1, good_ln h2.2.2.1⟩
theorem pairV_size (a b : Nat) (ha : a ≤ 100000) (hb : b ≤ 100000) : (pairV a b).size ≤ 41 := by
  have h1 := num_size' a ha
  have h2 := num_size' b hb
  unfold pairV
  split
  · omega
  · rw [ByteArray.size_append, ByteArray.size_append, show comma.size = 1 from rfl]; omega
theorem kindV_size (x : IT) : (kindV x).size = 1 := by
  unfold kindV
  split
  · rfl
  · split <;> rfl
theorem midV_size (x : IT) : (midV x).size ≤ 4 := by
  unfold midV
  split
  · exact Nat.zero_le _
  · split
    · exact Nat.zero_le _
    · exact Nat.le_refl 4
structure Sizes (x : IT) : Prop where
  p : (pairV x.f0.toNat x.f1.toNat).size ≤ 41
  q : (pairV x.f3.toNat x.f4.toNat).size ≤ 41
  s : (allV lt_ x.f2).size ≤ 1600
  t : (allV gt_ x.f5).size ≤ 1600
  m : (midV x).size ≤ 4
  k : (kindV x).size = 1
theorem sizes_of {x : IT} (h : StepOK x) : Sizes x := by
  have h2 := h.l2
  have h5 := h.l5
  have e1 := allV_size lt_ (Nat.le_refl 2) x.f2 h.i2
  have e2 := allV_size gt_ (Nat.le_refl 2) x.f5 h.i5
  have := h.a0; have := h.a1; have := h.a3; have := h.a4
  exact ⟨pairV_size _ _ (by omega) (by omega), pairV_size _ _ (by omega) (by omega), by omega, by omega, midV_size x, kindV_size x⟩
theorem headV_size {x : IT} (h : Sizes x) (kd : ByteArray) (hk : kd.size = 1) : (headV x kd).size ≤ 84 := by
  have := h.p; have := h.q
  unfold headV
  rw [ByteArray.size_append, ByteArray.size_append, ByteArray.size_append, show nl.size = 1 from rfl]
  omega
theorem textOne_size {x : IT} (h : Sizes x) : (textOne x).size ≤ 4000 := by
  have := headV_size h _ h.k
  have := h.s; have := h.t; have := h.m
  unfold textOne
  rw [ByteArray.size_append, ByteArray.size_append, ByteArray.size_append]
  omega
theorem pairOf_eq' {a b : Int} (ha : 0 ≤ a ∧ a ≤ 1000) (hb : 0 ≤ b ∧ b ≤ 1000) : impl_pairOf.f a b = some (pairV a.toNat b.toNat) := by
  have := pairOf_eq a.toNat b.toNat (by omega) (by omega)
  rw [Int.toNat_of_nonneg ha.1, Int.toNat_of_nonneg hb.1] at this
  exact this
theorem stepText_j0 (x : IT) (h : StepOK x) (kd md : ByteArray) (hk : kd.size = 1) (hm : md.size ≤ 4) : Ev (fun k => impl_stepText.j0 k kd md x.f0 x.f1 x.f2 x.f3 x.f4 x.f5) (((headV x kd ++ allV lt_ x.f2) ++ md) ++ allV gt_ x.f5) := by
  have z := sizes_of h
  have := z.p; have := z.q; have := z.s; have := z.t
  have e1 : (⟨#[10]⟩ : ByteArray).size = 1 := rfl
  refine Ev.step (fun k => impl_stepText.j0.eq_2 ..) ?_
  refine ev_bind (ev_const (pairOf_eq' h.a0 h.a1)) (ev_pos (by omega) ?_)
  refine ev_bind (ev_const (pairOf_eq' h.a3 h.a4)) (ev_pos (by simp only [ByteArray.size_append]; omega) (ev_pos (by simp only [ByteArray.size_append]; omega) ?_))
  refine ev_bind (allShown_ev lt_ (Nat.le_refl 2) x.f2 h.l2 h.i2) (ev_pos (by simp only [ByteArray.size_append, e1]; omega) (ev_pos (by simp only [ByteArray.size_append, e1]; omega) ?_))
  exact ev_bind (allShown_ev gt_ (Nat.le_refl 2) x.f5 h.l5 h.i5) (ev_pos (by simp only [ByteArray.size_append, e1]; omega) (ev_some rfl))
theorem stepText_ev (x : IT) (h : StepOK x) : Ev (fun k => impl_stepText.f k x.f0 x.f1 x.f2 x.f3 x.f4 x.f5) (textOne x) := by
  simp only [impl_stepText.f]
  unfold textOne kindV midV
  refine ev_ite (fun c => ?_) (fun c => ev_ite (fun c2 => ?_) (fun c2 => ?_))
  · have c' : x.f2.length = 0 := by omega
    simp only [if_pos c']
    exact stepText_j0 x h _ _ rfl (Nat.zero_le _)
  · have c' : ¬ x.f2.length = 0 := by omega
    have c2' : x.f5.length = 0 := by omega
    simp only [if_neg c', if_pos c2']
    exact stepText_j0 x h _ _ rfl (Nat.zero_le _)
  · have c' : ¬ x.f2.length = 0 := by omega
    have c2' : ¬ x.f5.length = 0 := by omega
    simp only [if_neg c', if_neg c2']
    exact stepText_j0 x h _ _ rfl (Nat.le_refl 4)
def shortV (s : ByteArray) : ByteArray × Bool := if s.size > 3000 then (⟨#[]⟩, false) else (s, true)
theorem short_eq (s : ByteArray) : impl_short.f s = some (shortV s) := by
  unfold impl_short.f shortV
  by_cases h : s.size > 3000
  · rw [if_pos (by omega), if_pos h]
  · rw [if_neg (by omega), if_neg h]
theorem stepsText_l0 (l : List IT) (hl : l.length ≤ 20) (h : ∀ x ∈ l, StepOK x) : ∀ d i (acc : ByteArray), i + d = l.length → acc.size ≤ 4000 * i →
    Ev (fun k => impl_StepsText.l0 k acc l (l.length : Int) (i : Int)) (shortV (textFrom acc (l.drop i))) := by
  intro d
  induction d with
  | zero =>
    intro i acc hi ha
    refine Ev.step (fun k => impl_StepsText.l0.eq_2 ..) (ev_neg (by omega) (ev_bind (ev_const (short_eq acc)) (ev_some ?_)))
    rw [List.drop_of_length_le (by omega)]
    rfl
  | succ d ih =>
    intro i acc hi ha
    have hlt : i < l.length := by omega
    have hx := h _ (List.getElem_mem hlt)
    have hz := textOne_size (sizes_of hx)
    refine Ev.step (fun k => impl_StepsText.l0.eq_2 ..) (ev_pos (by omega) (ev_pos (by omega) (ev_pos (by omega) ?_)))
    rw [rdIT l i hlt, wrap_succ i (by omega), List.drop_eq_getElem_cons hlt]
    exact ev_bind (stepText_ev _ hx) (ev_pos (by omega) (ih (i + 1) _ (by omega) (by rw [ByteArray.size_append]; omega)))
def stepsTextR (l : List IT) : ByteArray × Bool := if goodT l = true then shortV (textFrom ⟨#[]⟩ l) else (⟨#[]⟩, false)
theorem goodT_ok {l : List IT} (h : goodT l = true) : l.length ≤ 20 ∧ ∀ x ∈ l, StepOK x := by
  unfold goodT at h
  rw [Bool.and_eq_true, decide_eq_true_eq] at h
  exact ⟨h.1, fun x hx => stepOK_of (List.all_eq_true.1 h.2 x hx)⟩
theorem impl_StepsText_ev (l : List IT) (hf : FitIT l) : Ev (fun k => impl_StepsText.f k l) (stepsTextR l) := by
  simp only [impl_StepsText.f]
  unfold stepsTextR
  refine ev_bind (goodSteps_ev l hf) (ev_ite (fun c => ?_) (fun c => ev_some ?_))
  · rw [if_pos c]
    obtain ⟨h1, h2⟩ := goodT_ok c
    exact stepsText_l0 l h1 h2 l.length 0 _ (by omega) (by show (0 : Nat) ≤ _; omega)
  · rw [if_neg c]
theorem l5Numbers_ev {a b : Int} (ha : 0 ≤ a ∧ a ≤ 1000) (hb : 0 ≤ b ∧ b ≤ 1000) : Ev (fun k => spec_l5Numbers.f k a b) (pairV a.toNat b.toNat) := by
  simp only [spec_l5Numbers.f]
  unfold pairV
  have h1 := num_size' a.toNat (by omega)
  have h2 := num_size' b.toNat (by omega)
  have na : Ev (fun k => spec_l1Num.f k a) (num a.toNat) := by
    have := l1Num_ev a.toNat (by omega)
    rw [Int.toNat_of_nonneg ha.1] at this
    exact this
  have nb : Ev (fun k => spec_l1Num.f k b) (num b.toNat) := by
    have := l1Num_ev b.toNat (by omega)
    rw [Int.toNat_of_nonneg hb.1] at this
    exact this
  refine ev_ite (fun c => ev_bind na (ev_some ?_)) (fun c => ev_bind na (ev_pos (by omega) (ev_bind nb (ev_pos ?_ (ev_some ?_)))))
  · rw [if_pos (by omega)]
  · rw [ByteArray.size_append, show (⟨#[44]⟩ : ByteArray).size = 1 from rfl]; omega
  · rw [if_neg (by omega)]
    rfl
section
variable (L : List IT) (n i : Int) (R : ByteArray)
theorem l5_l2 (l : List ByteArray) (hl : l.length ≤ 40) (h : ∀ s ∈ l, isLn s = true) : ∀ d j (acc : ByteArray), j + d = l.length → acc.size + 40 * d ≤ 1000000 → Ev (fun k => spec_l5Text.l0 k (acc ++ allV gt_ (l.drop j)) L n (wrap64 (i + 1))) R →
    Ev (fun k => spec_l5Text.l2 k acc L n i l (l.length : Int) (j : Int)) R := by
  intro d
  induction d with
  | zero =>
    intro j acc hj ha hk
    rw [List.drop_of_length_le (by omega)] at hk
    simp only [allV, append_empty] at hk
    exact Ev.step (fun k => spec_l5Text.l2.eq_2 ..) (ev_neg (by omega) hk)
  | succ d ih =>
    intro j acc hj ha hk
    have hlt : j < l.length := by omega
    have hm := h _ (List.getElem_mem hlt)
    have hs := shown_size gt_ _ hm
    have h2 : gt_.size = 2 := rfl
    rw [List.drop_eq_getElem_cons hlt] at hk
    simp only [allV, ← ByteArray.append_assoc] at hk
    refine Ev.step (fun k => spec_l5Text.l2.eq_2 ..) (ev_pos (by omega) (ev_pos (by omega) (ev_pos (by omega) ?_)))
    rw [rdOf_lt _ l j hlt, wrap_succ j (by omega)]
    exact ev_bind (ev_const (l5Shown_eq gt_ _ (Nat.le_refl 2) hm)) (ev_pos (by omega) (ih (j + 1) _ (by omega) (by rw [ByteArray.size_append]; omega) hk))
theorem l5_l1 (x : IT) (kd : ByteArray) (h5 : x.f5.length ≤ 40) (i5 : ∀ s ∈ x.f5, isLn s = true) (l : List ByteArray) (hl : l.length ≤ 40) (h : ∀ s ∈ l, isLn s = true) : ∀ d j (acc : ByteArray), j + d = l.length → acc.size + 40 * d ≤ 900000 →
    Ev (fun k => spec_l5Text.l0 k (((acc ++ allV lt_ (l.drop j)) ++ (if kd.toList = [99] then (⟨#[45, 45, 45, 10]⟩ : ByteArray) else ⟨#[]⟩)) ++ allV gt_ x.f5) L n (wrap64 (i + 1))) R →
    Ev (fun k => spec_l5Text.l1 k acc kd L n i l (l.length : Int) (j : Int) x.f0 x.f1 x.f2 x.f3 x.f4 x.f5) R := by
  intro d
  induction d with
  | zero =>
    intro j acc hj ha hk
    rw [List.drop_of_length_le (by omega)] at hk
    simp only [allV, append_empty] at hk
    have e4 : (⟨#[45, 45, 45, 10]⟩ : ByteArray).size = 4 := rfl
    refine Ev.step (fun k => spec_l5Text.l1.eq_2 ..) (ev_neg (by omega) (ev_ite (fun c => ev_pos (by omega) ?_) (fun c => ?_)))
    · rw [if_pos c] at hk
      exact Ev.step (fun k => spec_l5Text.j3.eq_2 ..) (l5_l2 L n i R x.f5 h5 i5 x.f5.length 0 _ (by omega) (by rw [ByteArray.size_append, e4]; omega) (by rw [List.drop_zero]; exact hk))
    · rw [if_neg c, append_empty] at hk
      exact Ev.step (fun k => spec_l5Text.j3.eq_2 ..) (l5_l2 L n i R x.f5 h5 i5 x.f5.length 0 _ (by omega) (by omega) (by rw [List.drop_zero]; exact hk))
  | succ d ih =>
    intro j acc hj ha hk
    have hlt : j < l.length := by omega
    have hm := h _ (List.getElem_mem hlt)
    have hs := shown_size lt_ _ hm
    have h2 : lt_.size = 2 := rfl
    rw [List.drop_eq_getElem_cons hlt] at hk
    simp only [allV, ← ByteArray.append_assoc] at hk
    refine Ev.step (fun k => spec_l5Text.l1.eq_2 ..) (ev_pos (by omega) (ev_pos (by omega) (ev_pos (by omega) ?_)))
    rw [rdOf_lt _ l j hlt, wrap_succ j (by omega)]
    refine ev_bind (ev_const (l5Shown_eq lt_ _ (Nat.le_refl 2) hm)) (ev_pos (by omega) (ih (j + 1) _ (by omega) (by rw [ByteArray.size_append]; omega) ?_))
    exact hk
theorem l5_j1 (x : IT) (hx : StepOK x) (kd : ByteArray) (hk1 : kd.size = 1) (acc : ByteArray) (ha : acc.size ≤ 800000)
    (hk : Ev (fun k => spec_l5Text.l0 k (acc ++ (((headV x kd ++ allV lt_ x.f2) ++ (if kd.toList = [99] then (⟨#[45, 45, 45, 10]⟩ : ByteArray) else ⟨#[]⟩)) ++ allV gt_ x.f5)) L n (wrap64 (i + 1))) R) :
    Ev (fun k => spec_l5Text.j1 k acc kd L n i x.f0 x.f1 x.f2 x.f3 x.f4 x.f5) R := by
  have z := sizes_of hx
  have := z.p; have := z.q
  have e1 : (⟨#[10]⟩ : ByteArray).size = 1 := rfl
  have hh := headV_size z kd hk1
  have l2 := hx.l2
  refine Ev.step (fun k => spec_l5Text.j1.eq_2 ..) (ev_bind (l5Numbers_ev hx.a0 hx.a1) (ev_pos (by omega) (ev_bind (l5Numbers_ev hx.a3 hx.a4) (ev_pos (by simp only [ByteArray.size_append]; omega) (ev_pos (by simp only [ByteArray.size_append]; omega) (ev_pos (by simp only [ByteArray.size_append, e1]; omega) ?_))))))
  refine l5_l1 L n i R x kd hx.l5 hx.i5 x.f2 hx.l2 hx.i2 x.f2.length 0 _ (by omega) ?_ ?_
  · rw [ByteArray.size_append]
    have : (((pairV x.f0.toNat x.f1.toNat ++ kd) ++ pairV x.f3.toNat x.f4.toNat) ++ (⟨#[10]⟩ : ByteArray)).size ≤ 84 := hh
    omega
  · rw [List.drop_zero]
    simp only [← ByteArray.append_assoc] at hk
    simp only [← ByteArray.append_assoc]
    unfold headV at hk
    simp only [← ByteArray.append_assoc] at hk
    exact hk
end
theorem l5Text_l0 (l : List IT) (hl : l.length ≤ 20) (h : ∀ x ∈ l, StepOK x) : ∀ d i (acc : ByteArray), i + d = l.length → acc.size ≤ 4000 * i →
    Ev (fun k => spec_l5Text.l0 k acc l (l.length : Int) (i : Int)) (textFrom acc (l.drop i)) := by
  intro d
  induction d with
  | zero =>
    intro i acc hi ha
    refine Ev.step (fun k => spec_l5Text.l0.eq_2 ..) (ev_neg (by omega) (ev_some ?_))
    rw [List.drop_of_length_le (by omega)]
    rfl
  | succ d ih =>
    intro i acc hi ha
    have hlt : i < l.length := by omega
    have hx := h _ (List.getElem_mem hlt)
    have hz := textOne_size (sizes_of hx)
    have nx := ih (i + 1) (acc ++ textOne l[i]) (by omega) (by rw [ByteArray.size_append]; omega)
    rw [← wrap_succ i (by omega)] at nx
    rw [List.drop_eq_getElem_cons hlt]
    simp only [textFrom]
    refine Ev.step (fun k => spec_l5Text.l0.eq_2 ..) (ev_pos (by omega) (ev_pos (by omega) (ev_pos (by omega) ?_)))
    rw [rdIT l i hlt]
    unfold textOne kindV midV at nx
    unfold textOne kindV midV
    refine ev_ite (fun c => ?_) (fun c => ev_ite (fun c2 => ?_) (fun c2 => ?_))
    · have c' : l[i].f2.length = 0 := by omega
      simp only [if_pos c'] at nx ⊢
      exact l5_j1 _ _ _ _ l[i] hx ⟨#[97]⟩ rfl acc (by omega) (by rw [if_neg (by rw [Lib.toList_data]; decide)]; exact nx)
    · have c' : ¬ l[i].f2.length = 0 := by omega
      have c2' : l[i].f5.length = 0 := by omega
      simp only [if_neg c', if_pos c2'] at nx ⊢
      exact l5_j1 _ _ _ _ l[i] hx ⟨#[100]⟩ rfl acc (by omega) (by rw [if_neg (by rw [Lib.toList_data]; decide)]; exact nx)
    · have c' : ¬ l[i].f2.length = 0 := by omega
      have c2' : ¬ l[i].f5.length = 0 := by omega
      simp only [if_neg c', if_neg c2'] at nx ⊢
      exact l5_j1 _ _ _ _ l[i] hx ⟨#[99]⟩ rfl acc (by omega) (by rw [if_pos (by rw [Lib.toList_data])]; exact nx)
end Go.Proofs.YtmcldkobejhaeaaGreatDoor.Pl
namespace Go.Proofs.YtmcldkobejhaeaaGreatDoor.Pl
open Go.RowKit Go.Proofs.YtmcldkobejhaeaaGreatDoorW.PrintWords Go.Proofs.YtmcldkobejhaeaaGreatDoorW.PrintLast Go.Proofs.YtmcldkobejhaeaaGreatDoorW.PrintMore Go.Proofs.YtmcldkobejhaeaaGreatDoor.My
set_option linter.unusedVariables false
set_option linter.unusedSimpArgs false
theorem mn_nat (a b : Nat) : mn (a : Int) (b : Int) = ((min a b : Nat) : Int) := by
  unfold mn
  split <;> omega
end Go.Proofs.YtmcldkobejhaeaaGreatDoor.Pl
namespace Go.Proofs.YtmcldkobejhaeaaGreatDoor.Pl
open Go.RowKit Go.Proofs.YtmcldkobejhaeaaGreatDoorW.PrintWords Go.Proofs.YtmcldkobejhaeaaGreatDoorW.PrintLast Go.Proofs.YtmcldkobejhaeaaGreatDoor.My
set_option linter.unusedVariables false
set_option linter.unusedSimpArgs false
def cutS : List UInt8 → List UInt8 → List (List UInt8)
  | acc, [] => if acc = [] then [] else [acc]
  | acc, b :: t => if b = 10 then (acc ++ [b]) :: cutS [] t else cutS (acc ++ [b]) t
def splS : List UInt8 → List UInt8 → List (List UInt8)
  | acc, [] => [acc]
  | acc, b :: t => if b = 10 then (acc ++ [b]) :: splS [] t else splS (acc ++ [b]) t
theorem splS_ne : ∀ (l acc : List UInt8), splS acc l ≠ []
  | [], acc => by simp [splS]
  | b :: t, acc => by
    simp only [splS]
    split
    · simp
    · exact splS_ne t _
theorem cutS_spl : ∀ (l acc : List UInt8), cutS acc l = if (splS acc l).getLast? = some [] then (splS acc l).dropLast else splS acc l
  | [], acc => by
    simp only [cutS, splS]
    by_cases h : acc = []
    · simp [h]
    · simp [h]
  | b :: t, acc => by
    simp only [cutS, splS]
    split
    · rw [cutS_spl t []]
      have hn := splS_ne t []
      generalize splS [] t = r at *
      cases r with
      | nil => exact absurd rfl hn
      | cons y r => 
        simp only [List.getLast?_cons_cons, List.dropLast_cons_cons]
        split <;> rfl
    · exact cutS_spl t _
theorem cutS_len : ∀ (l acc : List UInt8), (cutS acc l).length ≤ l.length + 1
  | [], acc => by simp only [cutS]; split <;> simp
  | b :: t, acc => by
    simp only [cutS, List.length_cons]
    split
    · have := cutS_len t []; simp only [List.length_cons]; omega
    · have := cutS_len t (acc ++ [b]); omega
theorem cutS_size : ∀ (l acc : List UInt8), ∀ x ∈ cutS acc l, x.length ≤ acc.length + l.length
  | [], acc, x, hx => by
    simp only [cutS] at hx
    split at hx
    · cases hx
    · rw [List.mem_singleton.1 hx]; simp
  | b :: t, acc, x, hx => by
    simp only [cutS] at hx
    split at hx
    · rcases List.mem_cons.1 hx with rfl | hx
      · simp only [List.length_append, List.length_singleton, List.length_cons, List.length_nil]; omega
      · have := cutS_size t [] x hx; simp only [List.length_nil, List.length_cons] at this ⊢; omega
    · have := cutS_size t _ x hx; simp only [List.length_append, List.length_singleton, List.length_cons, List.length_nil] at this ⊢; omega
theorem idx_split : ∀ (l acc : List UInt8), l.count 10 > 0 → ∃ m : Nat, Lib.indexByte l 10 = (m : Int) ∧ m < l.length ∧ splS acc l = (acc ++ l.take (m + 1)) :: splS [] (l.drop (m + 1)) ∧ (l.drop (m + 1)).count 10 + 1 = l.count 10
  | [], acc, h => by simp at h
  | b :: t, acc, h => by
    by_cases e : b = 10
    · subst e
      refine ⟨0, by simp [Lib.indexByte], by simp, by simp [splS], by simp⟩
    · have hb : (b == 10) = false := by simpa using e
      have hc : t.count 10 > 0 := by rw [List.count_cons, hb] at h; simpa using h
      obtain ⟨m, h1, h2, h3, h4⟩ := idx_split t (acc ++ [b]) hc
      refine ⟨m + 1, ?_, by simp only [List.length_cons]; omega, ?_, ?_⟩
      · unfold Lib.indexByte
        rw [hb, h1]
        have : ((m : Int) == -1) = false := by rw [beq_eq_false_iff_ne]; omega
        rw [this]
        simp
      · simp only [splS, if_neg e, List.take_succ_cons, List.drop_succ_cons]
        rw [h3]
        simp
      · rw [List.drop_succ_cons, h4, List.count_cons, hb]
        simp
theorem splS_none : ∀ (l acc : List UInt8), l.count 10 = 0 → splS acc l = [acc ++ l]
  | [], acc, _ => by simp [splS]
  | b :: t, acc, h => by
    have e : b ≠ 10 := by rintro rfl; simp at h
    have hb : (b == 10) = false := by simpa using e
    have hc : t.count 10 = 0 := by rw [List.count_cons, hb] at h; simpa using h
    simp only [splS, if_neg e]
    rw [splS_none t _ hc]
    simp
theorem splS_len : ∀ (l acc : List UInt8), (splS acc l).length = l.count 10 + 1
  | [], acc => by simp [splS]
  | b :: t, acc => by
    simp only [splS]
    split
    · rename_i e; subst e; rw [List.length_cons, splS_len t []]; simp
    · rename_i e
      have hb : (b == 10) = false := by simpa using e
      rw [splS_len t _, List.count_cons, hb]; simp
def mkB (l : List UInt8) : ByteArray := ⟨l.toArray⟩
theorem mkB_list (l : List UInt8) : (mkB l).data.toList = l := rfl
theorem mkB_size (l : List UInt8) : (mkB l).size = l.length := by rw [← data_length]; rfl
theorem mkB_of (s : ByteArray) : mkB s.data.toList = s := ba_ext (by rw [Lib.toList_data, Lib.toList_data]; rfl)
theorem mkB_nil {l : List UInt8} : (mkB l).toList = [] ↔ l = [] := by rw [Lib.toList_data]; exact Iff.rfl
theorem extract_mk (s : ByteArray) (a b : Nat) : s.extract a b = mkB ((s.data.toList.take b).drop a) := by
  refine ba_ext ?_
  rw [Lib.toList_data, Lib.toList_data, ByteArray.data_extract, Array.toList_extract, List.extract_eq_take_drop, ← List.drop_take]
  rfl
def linesB (s : ByteArray) : List ByteArray := (cutS [] s.data.toList).map mkB
theorem linesB_len (s : ByteArray) : (linesB s).length ≤ s.size + 1 := by
  unfold linesB
  rw [List.length_map]
  have := cutS_len s.data.toList []
  rwa [data_length] at this
theorem linesB_size (s : ByteArray) : ∀ x ∈ linesB s, x.size ≤ s.size := fun x hx => by
  obtain ⟨y, hy, rfl⟩ := List.mem_map.1 hx
  have := cutS_size s.data.toList [] y hy
  rw [mkB_size]
  rw [data_length] at this
  simpa using this
theorem l1Cut_l0 (s : ByteArray) (hs : s.size ≤ 1099511627776) : ∀ d (from_ i : Nat) (acc : List ByteArray), i + d = s.size → from_ ≤ i → acc.length ≤ i →
    Ev (fun k => spec_l1Cut.l0 k s acc (from_ : Int) (i : Int)) (acc ++ (cutS ((s.data.toList.take i).drop from_) (s.data.toList.drop i)).map mkB) := by
  intro d
  induction d with
  | zero =>
    intro from_ i acc hi hf ha
    have hd : s.data.toList.drop i = [] := List.drop_of_length_le (by rw [data_length]; omega)
    have ht : s.data.toList.take i = s.data.toList := List.take_of_length_le (by rw [data_length]; omega)
    rw [hd, ht]
    simp only [cutS]
    by_cases c : from_ < s.size
    · have hne : ¬ s.data.toList.drop from_ = [] := fun e => by
        have := congrArg List.length e
        rw [List.length_drop, data_length, List.length_nil] at this
        omega
      rw [if_neg hne]
      refine Ev.step (fun k => spec_l1Cut.l0.eq_2 ..) (ev_neg (by omega) (ev_pos (by omega) (ev_pos (by omega) (ev_pos (by omega) (ev_pos (by omega) (ev_some ?_))))))
      rw [extract_mk, Int.toNat_natCast, List.take_of_length_le (by rw [data_length]; exact Nat.le_refl _)]
      rfl
    · have he : s.data.toList.drop from_ = [] := List.drop_of_length_le (by rw [data_length]; omega)
      rw [he, if_pos rfl]
      exact Ev.step (fun k => spec_l1Cut.l0.eq_2 ..) (ev_neg (by omega) (ev_neg (by omega) (ev_some (by simp))))
  | succ d ih =>
    intro from_ i acc hi hf ha
    have hlt : i < s.size := by omega
    have hl : i < s.data.toList.length := by rw [data_length]; exact hlt
    have hb := bt_nat s i hlt
    have hsp : s.data.toList.take (i + 1) = s.data.toList.take i ++ [s.data.toList[i]] := (List.take_succ_eq_append_getElem hl)
    have hdr : (s.data.toList.take (i + 1)).drop from_ = (s.data.toList.take i).drop from_ ++ [s.data.toList[i]] := by
      rw [hsp, List.drop_append_of_le_length (by rw [List.length_take, data_length]; omega)]
    refine Ev.step (fun k => spec_l1Cut.l0.eq_2 ..) (ev_pos (by omega) (ev_pos (by omega) ?_))
    rw [hb, wrap_succ i (by omega), List.drop_eq_getElem_cons hl]
    simp only [cutS]
    by_cases c : s.data.toList[i] = 10
    · rw [if_pos c, ← hdr]
      refine ev_pos (by rw [c]; rfl) (ev_pos (by omega) (ev_pos (by omega) (ev_pos (by omega) (ev_pos (by omega) ?_))))
      refine ev_to (ih (i + 1) (i + 1) _ (by omega) (Nat.le_refl _) (by rw [List.length_append, List.length_singleton]; omega)) ?_
      rw [extract_mk, Int.toNat_natCast, Int.toNat_natCast, List.append_assoc, List.map_cons, List.singleton_append]
      rw [show (s.data.toList.take (i + 1)).drop (i + 1) = [] from List.drop_of_length_le (by rw [List.length_take]; omega)]
    · rw [if_neg c, ← hdr]
      refine ev_neg (fun e => c (u8_eq (by rw [e]; rfl))) ?_
      exact ih from_ (i + 1) acc (by omega) (by omega) (by omega)
theorem l1Cut_ev (s : ByteArray) (hs : s.size ≤ 1099511627776) : Ev (fun k => spec_l1Cut.f k s) (linesB s) := by
  simp only [spec_l1Cut.f]
  exact ev_to (l1Cut_l0 s hs s.size 0 0 [] (by omega) (Nat.le_refl _) (Nat.zero_le _)) (by simp [linesB])
theorem set_take {α : Type} {xs : List α} {i : Nat} (v : α) (h : i < xs.length) : (xs.set i v).take (i + 1) = xs.take i ++ [v] := by
  rw [List.take_succ_eq_append_getElem (by rw [List.length_set]; exact h), List.getElem_set_self, List.take_set_of_le (Nat.le_refl i)]
theorem genSplit_l0 (N : Nat) (hN : N ≤ 1099511627776) : ∀ c (l : List UInt8) (i : Nat) (x : List ByteArray), l.count 10 = c → i + c + 1 = x.length → x.length = N + 1 → l.length ≤ 1099511627776 →
    Ev (fun k => strings_genSplit.l0 k (mkB l) ⟨#[10]⟩ 1 (N : Int) x (i : Int)) (x.take i ++ (splS [] l).map mkB) := by
  intro c
  induction c with
  | zero =>
    intro l i x hc hi hx hl
    rw [splS_none l [] hc, List.nil_append, List.map_cons, List.map_nil]
    refine Ev.step (fun k => strings_genSplit.l0.eq_2 ..) (ev_neg (by omega) (ev_pos (by omega) (ev_pos (by omega) ?_)))
    rw [wrap_succ i (by omega)]
    refine ev_pos (by omega) (ev_pos (by omega) (ev_some ?_))
    rw [Int.toNat_natCast, Int.toNat_natCast, set_take _ (by omega)]
  | succ c ih =>
    intro l i x hc hi hx hl
    obtain ⟨m, h1, h2, h3, h4⟩ := idx_split l [] (by omega)
    have hix := index_ev (mkB l) 10
    rw [mkB_list, h1] at hix
    have e1 : wrap64 ((m : Int) + 1) = ((m + 1 : Nat) : Int) := wrap_succ m (by omega)
    refine Ev.step (fun k => strings_genSplit.l0.eq_2 ..) (ev_pos (by omega) (ev_bind hix (ev_neg (by omega) ?_)))
    rw [show (((⟨#[10]⟩ : ByteArray).size : Nat) : Int) = 1 from rfl, e1, wrap_succ i (by omega), mkB_size]
    refine ev_pos (by omega) (ev_pos (by omega) (ev_pos (by omega) (ev_pos (by omega) (ev_pos (by omega) (ev_pos (by omega) ?_)))))
    rw [extract_mk, extract_mk, mkB_list, Int.toNat_natCast, Int.toNat_natCast, List.take_of_length_le (l := l) (Nat.le_refl _), List.drop_zero]
    refine ev_to (ih (l.drop (m + 1)) (i + 1) _ (by omega) (by rw [List.length_set]; omega) (by rw [List.length_set]; exact hx) (by rw [List.length_drop]; omega)) ?_
    rw [set_take _ (by omega), h3, List.nil_append, List.map_cons, List.append_assoc]
    rfl
theorem splitAfter_ev (s : ByteArray) (hs : s.size ≤ 1099511627776) : Ev (fun k => strings_SplitAfter.f k s ⟨#[10]⟩) ((splS [] s.data.toList).map mkB) := by
  simp only [strings_SplitAfter.f, strings_genSplit.f]
  refine ev_bind (ev_neg (by decide) (ev_neg (by rw [toList_one]; simp) (ev_pos (by decide) ?_))) (ev_some rfl)
  have hct : strings_Count.f s ⟨#[10]⟩ = some ((s.data.toList.count 10 : Nat) : Int) := by
    unfold strings_Count.f
    rw [if_pos (show (⟨#[10]⟩ : ByteArray).size = 1 from rfl)]
    rfl
  have hle : s.data.toList.count 10 ≤ s.size := by
    have := List.count_le_length (a := (10 : UInt8)) (l := s.data.toList)
    rwa [data_length] at this
  refine ev_bind (ev_const hct) (Ev.step (fun k => strings_genSplit.j0.eq_2 ..) ?_)
  rw [wrap_succ _ (by omega), wrap_succ s.size (by omega), mn_nat, Nat.min_eq_left (by omega)]
  refine ev_pos (by omega) (ev_pos (by rw [Int.toNat_natCast]; omega) ?_)
  rw [Int.toNat_natCast, wrap64_id (by omega) (by omega), show (((s.data.toList.count 10 + 1 : Nat) : Int) - 1) = ((s.data.toList.count 10 : Nat) : Int) from by omega]
  have h := genSplit_l0 (s.data.toList.count 10) (by omega) (s.data.toList.count 10) s.data.toList 0 (List.replicate (s.data.toList.count 10 + 1) (⟨#[]⟩ : ByteArray)) rfl (by rw [List.length_replicate]; omega) (by rw [List.length_replicate]) (by rw [data_length]; exact hs)
  rw [mkB_of] at h
  exact ev_to h (by simp)
theorem linesOf_ev (s : ByteArray) (hs : s.size ≤ 1099511627776) : Ev (fun k => impl_linesOf.f k s) (linesB s) := by
  simp only [impl_linesOf.f]
  have hz := cutS_spl s.data.toList []
  unfold linesB
  rw [hz]
  by_cases h0 : s.toList = ([] : List UInt8)
  · have e : s.data.toList = [] := by rw [← Lib.toList_data]; exact h0
    rw [e]
    exact ev_pos h0 (ev_some (by simp [splS]))
  · refine ev_neg h0 (ev_bind (splitAfter_ev s hs) ?_)
    have hn := splS_ne s.data.toList []
    have hlen := splS_len s.data.toList []
    have hle : s.data.toList.count 10 ≤ s.size := by
      have := List.count_le_length (a := (10 : UInt8)) (l := s.data.toList)
      rwa [data_length] at this
    generalize splS [] s.data.toList = r at *
    have hr : 0 < r.length := List.length_pos_iff.mpr hn
    rw [List.length_map, wrap_pred r.length hr (by omega)]
    have hrd : rdOf ByteArray.empty (r.map mkB) ((r.length - 1 : Nat) : Int) = mkB (r[r.length - 1]'(by omega)) := by
      rw [rdOf_lt _ _ _ (by rw [List.length_map]; omega), List.getElem_map]
    have hlast : r.getLast? = some (r[r.length - 1]'(by omega)) := by rw [List.getLast?_eq_getElem?, List.getElem?_eq_getElem (by omega)]
    rw [hrd, hlast]
    refine ev_pos (by omega) (ev_pos (by omega) (ev_ite (fun c => ev_pos (by omega) (ev_some ?_)) (fun c => ev_some ?_)))
    · rw [if_pos (by rw [mkB_nil.1 c]), Int.toNat_natCast, List.dropLast_eq_take, List.map_take]
    · rw [if_neg (fun e => c (mkB_nil.2 (Option.some.inj e)))]

def catV : List ByteArray → ByteArray
  | [] => ⟨#[]⟩
  | s :: t => s ++ catV t


theorem digitVal_of (d : Nat) (h : d < 10) : Lib.digitVal (UInt8.ofNat (48 + d)) = some d := by
  unfold Lib.digitVal
  have e : (UInt8.ofNat (48 + d)).toNat = 48 + d := by
    rw [UInt8.toNat_ofNat']
    omega
  rw [e, if_pos (by omega)]
  congr 1
  omega
theorem digitVal_some {b : UInt8} {d : Nat} (h : Lib.digitVal b = some d) : d < 10 ∧ b = UInt8.ofNat (48 + d) := by
  unfold Lib.digitVal at h
  split at h
  · rename_i c
    injection h with h
    refine ⟨by omega, UInt8.toNat_inj.1 ?_⟩
    rw [UInt8.toNat_ofNat']
    omega
  · cases h
theorem decFrom_append : ∀ (l r : List UInt8) (a : Nat), Lib.decFrom a (l ++ r) = (Lib.decFrom a l).bind fun b => Lib.decFrom b r
  | [], r, a => rfl
  | c :: t, r, a => by
    simp only [List.cons_append, Lib.decFrom]
    cases Lib.digitVal c with
    | none => rfl
    | some d => exact decFrom_append t r _
theorem decFrom_one (a : Nat) (b : UInt8) : Lib.decFrom a [b] = (Lib.digitVal b).map fun d => a * 10 + d := by
  simp only [Lib.decFrom]
  cases Lib.digitVal b <;> rfl
theorem decDigits_ne (n : Nat) : Lib.decDigits n ≠ [] := by
  rw [Lib.decDigits.eq_def]
  split
  · simp
  · simp
theorem decFrom_digits : ∀ (n : Nat), Lib.decFrom 0 (Lib.decDigits n) = some n := by
  intro n
  induction n using Nat.strongRecOn with
  | _ n ih =>
    by_cases h : n < 10
    · rw [Lib.decDigits_one h, decFrom_one, digitVal_of n h]
      simp
    · rw [Lib.decDigits.eq_def, dif_neg h, decFrom_append, ih (n / 10) (by omega), Option.bind_some, decFrom_one, digitVal_of _ (by omega)]
      simp only [Option.map_some, Option.some.injEq]
      omega
theorem head_digits : ∀ (n : Nat), 0 < n → (Lib.decDigits n).head? ≠ some 48 := by
  intro n
  induction n using Nat.strongRecOn with
  | _ n ih =>
    intro hn
    by_cases h : n < 10
    · rw [Lib.decDigits_one h]
      intro e
      simp only [List.head?_cons, Option.some.injEq] at e
      have e2 := congrArg UInt8.toNat e
      rw [UInt8.toNat_ofNat'] at e2
      have e3 : (48 : UInt8).toNat = 48 := rfl
      omega
    · rw [Lib.decDigits.eq_def, dif_neg h]
      have h1 := ih (n / 10) (by omega) (by omega)
      have h2 := decDigits_ne (n / 10)
      cases hd : Lib.decDigits (n / 10) with
      | nil => exact absurd hd h2
      | cons c t =>
        rw [hd] at h1
        simpa using h1
theorem digits_of_dec : ∀ (k : Nat) (l : List UInt8) (n : Nat), l.length = k → l ≠ [] → l.head? ≠ some 48 → Lib.decFrom 0 l = some n → Lib.decDigits n = l ∧ 0 < n := by
  intro k
  induction k with
  | zero => intro l n hl hne _ _; exact absurd (List.eq_nil_of_length_eq_zero hl) hne
  | succ k ih =>
    intro l n hl hne hh hd
    obtain ⟨l', b, rfl⟩ : ∃ l' b, l = l' ++ [b] := ⟨l.dropLast, l.getLast hne, (List.dropLast_concat_getLast hne).symm⟩
    rw [List.length_append, List.length_singleton] at hl
    rw [decFrom_append] at hd
    obtain ⟨a, ha, hb⟩ := Option.bind_eq_some_iff.1 hd
    rw [decFrom_one] at hb
    obtain ⟨d, hd', rfl⟩ := Option.map_eq_some_iff.1 hb
    obtain ⟨d1, rfl⟩ := digitVal_some hd'
    cases hl' : l' with
    | nil =>
      subst hl'
      simp only [Lib.decFrom, Option.some.injEq] at ha
      subst ha
      have d0 : d ≠ 0 := fun e => hh (by subst e; rfl)
      refine ⟨?_, by omega⟩
      rw [Lib.decDigits_one (by omega)]
      simp
    | cons c t =>
      rw [← hl']
      have hne' : l' ≠ [] := by rw [hl']; simp
      have hh' : l'.head? ≠ some 48 := by rw [hl'] at hh ⊢; simpa using hh
      obtain ⟨e, p⟩ := ih l' a (by omega) hne' hh' ha
      refine ⟨?_, by omega⟩
      rw [Lib.decDigits.eq_def, dif_neg (by omega), show (a * 10 + d) / 10 = a from by omega, e, show (a * 10 + d) % 10 = d from by omega]
def rd4 (l : List UInt8) : Option Nat := if l.length ≤ 4 ∧ (l.length ≤ 1 ∨ l.head? ≠ some 48) then Lib.decNat l else none
theorem rd4_some {l : List UInt8} {n : Nat} (h : rd4 l = some n) : Lib.decDigits n = l ∧ l.length ≤ 4 ∧ Lib.decNat l = some n := by
  unfold rd4 at h
  split at h
  · rename_i c
    refine ⟨?_, c.1, h⟩
    unfold Lib.decNat at h
    split at h
    · cases h
    · rename_i hne
      have hne : l ≠ [] := by simpa using hne
      by_cases hh : l.head? = some 48
      · have h1 : l.length ≤ 1 := by rcases c.2 with c | c; exact c; exact absurd hh c
        obtain ⟨b, rfl⟩ : ∃ b, l = [b] := by
          cases l with
          | nil => exact absurd rfl hne
          | cons b t => cases t with
            | nil => exact ⟨b, rfl⟩
            | cons _ _ => simp at h1
        simp only [List.head?_cons, Option.some.injEq] at hh
        subst hh
        have e : Lib.decFrom 0 [48] = some 0 := rfl
        rw [e] at h
        injection h with h
        subst h
        exact Lib.decDigits_one (by decide)
      · exact (digits_of_dec l.length l n rfl hne hh h).1
  · cases h
theorem rd4_digits {n : Nat} (h : (Lib.decDigits n).length ≤ 4) : rd4 (Lib.decDigits n) = some n := by
  unfold rd4
  rw [if_pos]
  · unfold Lib.decNat
    rw [if_neg (by simpa using decDigits_ne n)]
    exact decFrom_digits n
  · refine ⟨h, ?_⟩
    by_cases h0 : n = 0
    · subst h0
      rw [Lib.decDigits_one (by decide)]
      exact .inl (Nat.le_refl 1)
    · exact .inr (head_digits n (by omega))
theorem rd4_lt {l : List UInt8} {n : Nat} (h : rd4 l = some n) : n < 10000 := by
  obtain ⟨h1, h2, _⟩ := rd4_some h
  have h3 := Lib.lt_pow_nDigits n
  rw [← Lib.decDigits_length, h1] at h3
  have h4 : 10 ^ l.length ≤ 10 ^ 4 := Nat.pow_le_pow_right (by decide) h2
  omega
theorem size_len (s : ByteArray) : s.data.toList.length = s.size := data_length s
theorem readNumber_some {s : ByteArray} {n : Nat} (h : rd4 s.data.toList = some n) : impl_readNumber.v s = ((n : Int), true) := by
  obtain ⟨h1, h2, h3⟩ := rd4_some h
  have hA : Lib.atoiAll s.data.toList = .ok (n : Int) := by
    cases hl : s.data.toList with
    | nil => rw [hl] at h3; cases h3
    | cons c r =>
      rw [hl] at h2 h3
      have hc : ∃ d, Lib.digitVal c = some d := by
        unfold Lib.decNat at h3
        rw [if_neg (by simp)] at h3
        exact Lib.digit_of_decFrom _ _ _ h3 0 c rfl
      obtain ⟨d, hd⟩ := hc
      obtain ⟨d1, hc⟩ := digitVal_some hd
      have e2 := congrArg UInt8.toNat hc
      rw [UInt8.toNat_ofNat'] at e2
      rw [Lib.atoiAll_plain c r (by omega) (by omega), Lib.signless_short (by omega), h3]
      rfl
  unfold impl_readNumber.v
  rw [hA]
  simp only
  rw [Lib.itoa_nonneg, h1]
  have h4 : s.size ≤ 4 := by rw [← size_len]; exact h2
  have e0 : (s.data.toList == s.toList) = true := by rw [Lib.toList_data]; exact beq_self_eq_true _
  rw [e0, decide_eq_true h4, decide_eq_true (show (0 : Int) ≤ (n : Int) by omega)]
  rfl
theorem readNumber_none {s : ByteArray} (h : rd4 s.data.toList = none) : (impl_readNumber.v s).2 = false := by
  cases hb : (impl_readNumber.v s).2 with
  | false => rfl
  | true =>
    exfalso
    unfold impl_readNumber.v at hb
    rcases hA : Lib.atoiAll s.data.toList with v | _ | _
    · rw [hA] at hb
      simp only [Bool.and_eq_true, decide_eq_true_eq, beq_iff_eq] at hb
      obtain ⟨⟨h0, h4⟩, he⟩ := hb
      obtain ⟨n, rfl⟩ : ∃ n : Nat, v = (n : Int) := ⟨v.toNat, by omega⟩
      rw [Lib.itoa_nonneg, Lib.toList_data] at he
      have := rd4_digits (n := n) (by rw [he, size_len]; exact h4)
      rw [he, h] at this
      cases this
    · rw [hA] at hb; cases hb
    · rw [hA] at hb; cases hb
theorem readNumber_eq (s : ByteArray) (hs : s.size ≤ 1048576) : impl_readNumber.f s = some (impl_readNumber.v s) := by
  unfold impl_readNumber.f
  rw [if_pos (by omega)]
def numR (s : ByteArray) : Int × Bool := match rd4 s.data.toList with
  | some n => ((n : Int), true)
  | none => (0, false)
theorem bt_drop (s : ByteArray) (i : Nat) (h : i < s.size) : ∃ c, s.data.toList.drop i = c :: s.data.toList.drop (i + 1) ∧ bt s (i : Int) = (c.toNat : Int) := by
  have hl : i < s.data.toList.length := by rw [size_len]; exact h
  exact ⟨s.data.toList[i], List.drop_eq_getElem_cons hl, bt_nat s i h⟩
theorem l1Read_l0 (s : ByteArray) (hs : s.size ≤ 6) : ∀ d i (acc : Nat), i + d = s.size → acc < 10 ^ i → Ev (fun k => spec_l1Read.l0 k s (acc : Int) (i : Int)) (match Lib.decFrom acc (s.data.toList.drop i) with | some n => (n : Int) | none => -1) := by
  intro d
  induction d with
  | zero =>
    intro i acc hi ha
    refine Ev.step (fun k => spec_l1Read.l0.eq_2 ..) (ev_neg (by omega) (ev_some ?_))
    rw [List.drop_eq_nil_of_le (by rw [size_len]; omega)]
    rfl
  | succ d ih =>
    intro i acc hi ha
    obtain ⟨c, hc, hb⟩ := bt_drop s i (by omega)
    have h6 : 10 ^ i ≤ 10 ^ 6 := Nat.pow_le_pow_right (by decide) (by omega)
    have e6 : (10 : Nat) ^ 6 = 1000000 := by decide
    have hc8 := c.toNat_lt
    refine Ev.step (fun k => spec_l1Read.l0.eq_2 ..) (ev_pos (by omega) (ev_pos (by omega) ?_))
    rw [hb, hc]
    simp only [Lib.decFrom, Lib.digitVal]
    by_cases h : 48 ≤ c.toNat ∧ c.toNat ≤ 57
    · rw [if_pos h]
      refine ev_neg (by omega) (ev_neg (by omega) ?_)
      have e1 : wrap64 ((wrap64 (10 * (acc : Int))) + (((c.toNat : Int) - 48) % 256)) = ((acc * 10 + (c.toNat - 48) : Nat) : Int) := by
        rw [wrap64_id (x := 10 * (acc : Int)) (by omega) (by omega), wrap64_id (by omega) (by omega)]
        omega
      rw [e1, wrap_succ i (by omega)]
      exact ih (i + 1) _ (by omega) (by rw [Nat.pow_succ]; omega)
    · rw [if_neg h]
      by_cases h1 : (c.toNat : Int) < 48
      · exact ev_pos h1 (ev_some rfl)
      · exact ev_neg h1 (ev_pos (by omega) (ev_some rfl))
theorem spec_ReadNumber_ev (s : ByteArray) (hs : s.size ≤ 1048576) : Ev (fun k => spec_ReadNumber.f k s) (numR s) := by
  simp only [spec_ReadNumber.f, spec_l1Read.f]
  have hl := size_len s
  by_cases hin : inB (s.size : Int) 1 6 = true
  · have hb := (inB_iff _ _ _).1 hin
    obtain ⟨c, hc, hbt⟩ := bt_drop s 0 (by omega)
    rw [List.drop_zero] at hc
    have go : ∀ b : Bool, b = decide (s.data.toList.head? = some 48 ∧ 1 < s.size) → Ev (fun k => (spec_l1Read.j0 k s b).bind fun t162 => (if (s.size : Int) > 4 then (some ((0 : Int), false)) else (if t162 < 0 then (some (0, false)) else (some (t162, true))))) (numR s) := by
      intro b hbb
      by_cases hd : s.data.toList.head? = some 48 ∧ 1 < s.size
      · rw [decide_eq_true hd] at hbb
        subst hbb
        have eR : numR s = (0, false) := by
          unfold numR rd4
          rw [if_neg (by rintro ⟨_, h | h⟩; omega; exact h hd.1)]
        rw [eR]
        exact ev_bind (a := (-1 : Int)) (Ev.step (fun k => spec_l1Read.j0.eq_2 ..) (ev_pos rfl (ev_some rfl))) (ev_ite (fun _ => ev_some rfl) (fun _ => ev_pos (by decide) (ev_some rfl)))
      · rw [decide_eq_false hd] at hbb
        subst hbb
        refine ev_bind (a := (match Lib.decFrom 0 s.data.toList with | some n => (n : Int) | none => -1)) (Ev.step (fun k => spec_l1Read.j0.eq_2 ..) (ev_neg (by simp) (l1Read_l0 s (by omega) s.size 0 0 (by omega) (by decide)))) ?_
        by_cases h4 : (s.size : Int) > 4
        · have eR : numR s = (0, false) := by
            unfold numR rd4
            rw [if_neg (by omega)]
          rw [eR]
          exact ev_pos h4 (ev_some rfl)
        · have eR : numR s = (match Lib.decFrom 0 s.data.toList with | some n => ((n : Int), true) | none => (0, false)) := by
            have hc2 : s.data.toList.length ≤ 4 ∧ (s.data.toList.length ≤ 1 ∨ s.data.toList.head? ≠ some 48) := by
              refine ⟨by omega, ?_⟩
              by_cases h1 : 1 < s.size
              · exact .inr (fun e => hd ⟨e, h1⟩)
              · exact .inl (by omega)
            unfold numR rd4
            rw [if_pos hc2]
            unfold Lib.decNat
            rw [if_neg (by rw [hc]; simp)]
          rw [eR]
          refine ev_neg h4 ?_
          cases hx : Lib.decFrom 0 s.data.toList with
          | none => exact ev_pos (show (-1 : Int) < 0 by decide) (ev_some rfl)
          | some n => exact ev_neg (show ¬ ((n : Int) < 0) by omega) (ev_some rfl)
    refine Ev.congr (fun k => ?_) (go _ rfl)
    rw [spec_l1In_eq, Option.bind_some, if_pos hin, if_pos (by omega)]
    by_cases h48 : bt s 0 = 48
    · rw [if_pos h48]
      have e : s.data.toList.head? = some 48 := by
        rw [hc]
        simp only [List.head?_cons, Option.some.injEq]
        refine UInt8.toNat_inj.1 ?_
        have := hbt.symm.trans h48
        have e3 : (48 : UInt8).toNat = 48 := rfl
        omega
      have e2 : decide ((s.size : Int) > 1) = decide (s.data.toList.head? = some 48 ∧ 1 < s.size) := by
        rw [e]
        exact decide_eq_decide.2 (by simp; omega)
      rw [e2]
    · rw [if_neg h48]
      have e : ¬ (s.data.toList.head? = some 48 ∧ 1 < s.size) := by
        rintro ⟨e, _⟩
        rw [hc] at e
        simp only [List.head?_cons, Option.some.injEq] at e
        subst e
        exact h48 hbt
      rw [decide_eq_false e]
  · have hq : ∀ k, ((spec_l1In.f (s.size : Int) 1 6).bind fun t161 => (if t161 = true then (if 0 < (s.size : Int) then (if (bt s 0) = 48 then (spec_l1Read.j0 k s (decide ((s.size : Int) > 1))) else (spec_l1Read.j0 k s false)) else (none)) else (spec_l1Read.j0 k s true))) = spec_l1Read.j0 k s true := fun k => by rw [spec_l1In_eq, Option.bind_some, if_neg hin]
    refine Ev.congr (fun k => by rw [hq k]) ?_
    refine ev_bind (a := (-1 : Int)) (Ev.step (fun k => spec_l1Read.j0.eq_2 ..) (ev_pos rfl (ev_some rfl))) ?_
    have e : numR s = (0, false) := by
      unfold numR rd4
      rw [inB_iff] at hin
      by_cases h0 : s.size = 0
      · have hn : s.data.toList = [] := List.eq_nil_of_length_eq_zero (by omega)
        rw [hn]
        rfl
      · rw [if_neg (by omega)]
    rw [e]
    exact ev_ite (fun _ => ev_some rfl) (fun _ => ev_pos (by decide) (ev_some rfl))

def markB : ByteArray := ⟨#[92, 32, 110, 111, 110, 101, 10]⟩
def NlEnd (s : ByteArray) : Prop := ∃ u : List UInt8, s.data.toList = u ++ [10] ∧ 10 ∉ u
def NoNl (s : ByteArray) : Prop := 10 ∉ s.data.toList
theorem app_list (a b : ByteArray) : (a ++ b).data.toList = a.data.toList ++ b.data.toList := by rw [ByteArray.data_append, Array.toList_append]
theorem cutS_line : ∀ (u acc t : List UInt8), 10 ∉ u → cutS acc (u ++ 10 :: t) = (acc ++ u ++ [10]) :: cutS [] t
  | [], acc, t, _ => by simp [cutS]
  | b :: u, acc, t, h => by
    have hb : ¬ b = 10 := fun e => h (by simp [e])
    rw [List.cons_append, cutS, if_neg hb, cutS_line u _ t (fun h' => h (List.mem_cons_of_mem _ h'))]
    simp
theorem cutS_cat : ∀ (ls : List (List UInt8)), (∀ x ∈ ls, ∃ u : List UInt8, x = u ++ [10] ∧ 10 ∉ u) → cutS [] ls.flatten = ls
  | [], _ => rfl
  | x :: ls, h => by
    obtain ⟨u, rfl, hu⟩ := h x (List.mem_cons_self ..)
    rw [List.flatten_cons, List.append_assoc, List.singleton_append, cutS_line u [] _ hu, cutS_cat ls (fun y hy => h y (List.mem_cons_of_mem _ hy))]
    rfl
theorem catV_flat : ∀ (l : List ByteArray), (catV l).data.toList = (l.map (·.data.toList)).flatten
  | [] => rfl
  | s :: t => by
    show (s ++ catV t).data.toList = _
    rw [app_list, catV_flat t, List.map_cons, List.flatten_cons]
theorem linesB_cat (l : List ByteArray) (h : ∀ s ∈ l, NlEnd s) : linesB (catV l) = l := by
  unfold linesB
  rw [catV_flat, cutS_cat _ (fun x hx => by
    obtain ⟨s, hs, rfl⟩ := List.mem_map.1 hx
    exact h s hs), List.map_map]
  exact (List.map_congr_left (fun s _ => mkB_of s)).trans (List.map_id _)
theorem catV_app : ∀ (a b : List ByteArray), catV (a ++ b) = catV a ++ catV b
  | [], b => (empty_append _).symm
  | s :: t, b => by
    show s ++ catV (t ++ b) = (s ++ catV t) ++ catV b
    rw [catV_app t b, ByteArray.append_assoc]
theorem catV_one (s : ByteArray) : catV [s] = s := append_empty s
def showL (g : ByteArray) : List ByteArray → List ByteArray
  | [] => []
  | s :: t => if ends s = true then (g ++ s) :: showL g t else ((g ++ s) ++ nl) :: markB :: showL g t
theorem noneT_eq : noneT = nl ++ markB := ba_ext (by rw [Lib.toList_data, Lib.toList_data, app_list]; rfl)
theorem showL_cat (g : ByteArray) : ∀ l : List ByteArray, catV (showL g l) = allV g l
  | [] => rfl
  | s :: t => by
    have ih := showL_cat g t
    simp only [showL, allV, shownV]
    split
    · show (g ++ s) ++ catV (showL g t) = _
      rw [ih]
    · show ((g ++ s) ++ nl) ++ (markB ++ catV (showL g t)) = _
      rw [ih, noneT_eq, ← ByteArray.append_assoc, ← ByteArray.append_assoc]
def midL (x : IT) : List ByteArray := if x.f2.length = 0 then [] else if x.f5.length = 0 then [] else [⟨#[45, 45, 45, 10]⟩]
theorem midL_cat (x : IT) : catV (midL x) = midV x := by
  unfold midL midV
  split
  · rfl
  · split
    · rfl
    · exact catV_one _
def headL (x : IT) : ByteArray := headV x (kindV x)
def linesOne (x : IT) : List ByteArray := headL x :: (showL lt_ x.f2 ++ (midL x ++ showL gt_ x.f5))
def linesT : List IT → List ByteArray
  | [] => []
  | x :: t => linesOne x ++ linesT t
theorem linesOne_cat (x : IT) : catV (linesOne x) = textOne x := by
  show headL x ++ catV (showL lt_ x.f2 ++ (midL x ++ showL gt_ x.f5)) = _
  rw [catV_app, catV_app, showL_cat, showL_cat, midL_cat]
  unfold textOne headL
  rw [← ByteArray.append_assoc, ← ByteArray.append_assoc]
theorem linesT_cat : ∀ (p : List IT) (acc : ByteArray), textFrom acc p = acc ++ catV (linesT p)
  | [], acc => (append_empty acc).symm
  | x :: t, acc => by
    simp only [textFrom, linesT]
    rw [linesT_cat t, catV_app, linesOne_cat, ByteArray.append_assoc]
theorem noNl_app {a b : ByteArray} (ha : NoNl a) (hb : NoNl b) : NoNl (a ++ b) := by
  unfold NoNl
  rw [app_list, List.mem_append]
  exact fun h => h.elim ha hb
theorem nlEnd_app {a b : ByteArray} (ha : NoNl a) (hb : NlEnd b) : NlEnd (a ++ b) := by
  obtain ⟨u, hu, hn⟩ := hb
  exact ⟨a.data.toList ++ u, by rw [app_list, hu, List.append_assoc], fun h => (List.mem_append.1 h).elim ha hn⟩
theorem nlEnd_nl : NlEnd nl := ⟨[], rfl, by simp⟩
theorem nlEnd_mark : NlEnd markB := ⟨[92, 32, 110, 111, 110, 101], rfl, by decide⟩
theorem nlEnd_dash : NlEnd ⟨#[45, 45, 45, 10]⟩ := ⟨[45, 45, 45], rfl, by decide⟩
theorem decFrom_all : ∀ (l : List UInt8) (a n : Nat), Lib.decFrom a l = some n → ∀ b ∈ l, 48 ≤ b.toNat ∧ b.toNat ≤ 57
  | [], _, _, _, b, hb => by cases hb
  | c :: l, a, n, h, b, hb => by
    simp only [Lib.decFrom, Lib.digitVal] at h
    split at h
    · rename_i d hd
      split at hd
      · rename_i hc
        rcases List.mem_cons.1 hb with rfl | hb
        · exact hc
        · exact decFrom_all l _ n h b hb
      · cases hd
    · cases h
theorem num_digits (n : Nat) : ∀ b ∈ (num n).data.toList, 48 ≤ b.toNat ∧ b.toNat ≤ 57 := by
  rw [num_data]
  exact decFrom_all _ 0 n (decFrom_digits n)
def DigC (s : ByteArray) : Prop := ∀ b ∈ s.data.toList, 44 ≤ b.toNat ∧ b.toNat ≤ 57
theorem pairV_digc (a b : Nat) : DigC (pairV a b) := by
  have h1 := num_digits a
  have h2 := num_digits b
  unfold pairV DigC
  split
  · exact fun c hc => ⟨by have := h1 c hc; omega, (h1 c hc).2⟩
  · intro c hc
    rw [app_list, app_list, List.mem_append, List.mem_append] at hc
    rcases hc with (hc | hc) | hc
    · exact ⟨by have := h1 c hc; omega, (h1 c hc).2⟩
    · have hc : c ∈ ([44] : List UInt8) := hc
      rw [List.mem_singleton.1 hc]
      decide
    · exact ⟨by have := h2 c hc; omega, (h2 c hc).2⟩
theorem digc_noNl {s : ByteArray} (h : DigC s) : NoNl s := fun hm => by
  have := (h 10 hm).1
  exact absurd this (by decide)
theorem kindV_noNl (x : IT) : NoNl (kindV x) := by
  unfold kindV NoNl
  split
  · decide
  · split <;> decide
theorem headL_nl (x : IT) : NlEnd (headL x) := by
  unfold headL headV
  exact nlEnd_app (noNl_app (noNl_app (digc_noNl (pairV_digc _ _)) (kindV_noNl x)) (digc_noNl (pairV_digc _ _))) nlEnd_nl
theorem isLn_parts {s : ByteArray} (h : isLn s = true) : 1 ≤ s.size ∧ s.size ≤ 30 ∧ 10 ∉ s.data.toList.dropLast := by
  unfold isLn at h
  rw [Bool.and_eq_true, inB_iff, Bool.not_eq_true', List.contains_eq_mem] at h
  exact ⟨by omega, by omega, by simpa using h.1⟩
theorem ln_ends {s : ByteArray} (h : isLn s = true) (he : ends s = true) : NlEnd s := by
  obtain ⟨h1, h2, h3⟩ := isLn_parts h
  unfold ends at he
  have hl := beq_iff_eq.1 he
  have hne : s.data.toList ≠ [] := fun e => by rw [e] at hl; cases hl
  refine ⟨s.data.toList.dropLast, ?_, h3⟩
  have e := List.dropLast_concat_getLast hne
  rw [List.getLast?_eq_some_getLast hne] at hl
  injection hl with hl
  rw [hl] at e
  exact e.symm
theorem ln_not {s : ByteArray} (h : isLn s = true) (he : ¬ ends s = true) : NoNl s := fun hm => by
  obtain ⟨h1, h2, h3⟩ := isLn_parts h
  have hne : s.data.toList ≠ [] := fun e => by rw [e] at hm; cases hm
  have e := List.dropLast_concat_getLast hne
  rw [← e] at hm
  rcases List.mem_append.1 hm with hm | hm
  · exact h3 hm
  · refine he ?_
    unfold ends
    rw [List.getLast?_eq_some_getLast hne, List.mem_singleton.1 hm]
    simp
theorem showL_nl {g : ByteArray} (hg : NoNl g) : ∀ (l : List ByteArray), (∀ s ∈ l, isLn s = true) → ∀ y ∈ showL g l, NlEnd y
  | [], _, y, hy => by cases hy
  | s :: t, h, y, hy => by
    have hs := h s (List.mem_cons_self ..)
    have ih := showL_nl hg t (fun z hz => h z (List.mem_cons_of_mem _ hz))
    simp only [showL] at hy
    split at hy
    · rename_i he
      rcases List.mem_cons.1 hy with rfl | hy
      · exact nlEnd_app hg (ln_ends hs he)
      · exact ih y hy
    · rename_i he
      rcases List.mem_cons.1 hy with rfl | hy
      · exact nlEnd_app (noNl_app hg (ln_not hs he)) nlEnd_nl
      · rcases List.mem_cons.1 hy with rfl | hy
        · exact nlEnd_mark
        · exact ih y hy
theorem lt_noNl : NoNl lt_ := by unfold NoNl lt_; decide
theorem gt_noNl : NoNl gt_ := by unfold NoNl gt_; decide
theorem linesT_nl : ∀ (p : List IT), (∀ x ∈ p, StepOK x) → ∀ y ∈ linesT p, NlEnd y
  | [], _, y, hy => by cases hy
  | x :: t, h, y, hy => by
    have hx := h x (List.mem_cons_self ..)
    rcases List.mem_append.1 hy with hy | hy
    · rcases List.mem_cons.1 hy with rfl | hy
      · exact headL_nl x
      · rcases List.mem_append.1 hy with hy | hy
        · exact showL_nl lt_noNl _ hx.i2 y hy
        · rcases List.mem_append.1 hy with hy | hy
          · unfold midL at hy
            split at hy
            · cases hy
            · split at hy
              · cases hy
              · rw [List.mem_singleton.1 hy]
                exact nlEnd_dash
          · exact showL_nl gt_noNl _ hx.i5 y hy
    · exact linesT_nl t (fun z hz => h z (List.mem_cons_of_mem _ hz)) y hy
theorem lines_text (p : List IT) (h : ∀ x ∈ p, StepOK x) : linesB (textFrom ⟨#[]⟩ p) = linesT p := by
  rw [linesT_cat, empty_append]
  exact linesB_cat _ (linesT_nl p h)

def plainB (s : ByteArray) : ByteArray := if ends s = true then s.extract 0 (s.size - 1) else s
theorem plain_eq (s : ByteArray) (hs : s.size ≤ 9223372036854775807) : impl_plain.f s = some (plainB s) := by
  unfold impl_plain.f strings_TrimSuffix.f stringslite_TrimSuffix.f
  have h1 : stringslite_HasSuffix.f s ⟨#[10]⟩ = some (ends s) := by
    have := hasSuffix_eq s 10 hs
    unfold strings_HasSuffix.f at this
    obtain ⟨b, hb, e⟩ := Option.bind_eq_some_iff.1 this
    rw [hb, e]
    rfl
  rw [h1, Option.bind_some]
  unfold plainB
  by_cases h : ends s = true
  · have hz : 1 ≤ s.size := by
      rcases Nat.eq_zero_or_pos s.size with h0 | h0
      · have : s.data.toList = [] := List.eq_nil_of_length_eq_zero (by rw [data_length]; exact h0)
        simp [ends, this] at h
      · exact h0
    rw [if_pos h, if_pos h, size_one, show ((1 : Nat) : Int) = 1 from rfl, wrap_pred s.size (by omega) hs, if_pos (by omega), if_pos (by omega)]
    rfl
  · rw [if_neg h, if_neg h]
    rfl
theorem l1Plain_eq (s : ByteArray) (h : 1 ≤ s.size) (hs : s.size ≤ 9223372036854775807) : spec_l1Plain.f s = some (plainB s) := by
  unfold spec_l1Plain.f plainB
  rw [l1Ends_eq s h hs, Option.bind_some]
  by_cases h1 : ends s = true
  · rw [if_pos h1, if_pos h1, wrap_pred s.size (by omega) hs, if_pos (by omega), if_pos (by omega)]
    rfl
  · rw [if_neg h1, if_neg h1]

def cutC : List UInt8 → List UInt8 × Option (List UInt8)
  | [] => ([], none)
  | c :: r => if c = 44 then ([], some r) else (c :: (cutC r).1, (cutC r).2)
def splitP : List UInt8 → List UInt8 → List (List UInt8)
  | pre, [] => [pre]
  | pre, c :: r => if c = 44 then pre :: splitP [] r else splitP (pre ++ [c]) r
theorem split_cut : ∀ (l pre : List UInt8), splitP pre l = match cutC l with
    | (a, none) => [pre ++ a]
    | (a, some b) => (pre ++ a) :: splitP [] b
  | [], pre => by simp [splitP, cutC]
  | c :: r, pre => by
    simp only [splitP, cutC]
    by_cases h : c = 44
    · rw [if_pos h, if_pos h]
      simp
    · rw [if_neg h, if_neg h, split_cut r (pre ++ [c])]
      cases h2 : cutC r with
      | mk a o => cases o with
        | none => simp
        | some b => simp
theorem cut_index : ∀ (l : List UInt8), match cutC l with
    | (a, none) => Lib.indexByte l 44 = -1 ∧ a = l
    | (a, some b) => Lib.indexByte l 44 = (a.length : Int) ∧ l = a ++ 44 :: b
  | [] => by simp [cutC, Lib.indexByte]
  | c :: r => by
    have ih := cut_index r
    simp only [cutC]
    by_cases h : c = 44
    · rw [if_pos h]
      subst h
      simp [Lib.indexByte]
    · rw [if_neg h]
      have hb : (c == 44) = false := by simpa using h
      cases h2 : cutC r with
      | mk a o =>
        rw [h2] at ih
        cases o with
        | none =>
          simp only at ih ⊢
          obtain ⟨i1, i2⟩ := ih
          subst i2
          unfold Lib.indexByte
          simp [hb, i1]
        | some b =>
          simp only at ih ⊢
          obtain ⟨i1, i2⟩ := ih
          refine ⟨?_, by rw [i2, List.cons_append]⟩
          unfold Lib.indexByte
          simp only [hb]
          rw [i1]
          have e : ((a.length : Int) == -1) = false := by
            have h9 : ¬ ((a.length : Int) = -1) := by omega
            exact beq_eq_false_iff_ne.2 h9
          simp only [e, List.length_cons]
          simp
theorem rd4_comma {a b : List UInt8} : rd4 (a ++ 44 :: b) = none := by
  cases h : rd4 (a ++ 44 :: b) with
  | none => rfl
  | some n =>
    exfalso
    obtain ⟨_, _, h3⟩ := rd4_some h
    unfold Lib.decNat at h3
    rw [if_neg (by simp)] at h3
    obtain ⟨d, hd⟩ := Lib.digit_of_decFrom _ _ _ h3 a.length 44 (by simp)
    cases hd
def cutR (l : List UInt8) : Option (Nat × Option Nat) := match cutC l with
  | (a, none) => (rd4 a).map fun n => (n, none)
  | (a, some b) => (rd4 a).bind fun n => (rd4 b).map fun m => (n, some m)
def BA (l : List UInt8) : ByteArray := ⟨l.toArray⟩
theorem BA_data (l : List UInt8) : (BA l).data.toList = l := rfl
theorem ba_of {s : ByteArray} {l : List UInt8} (h : s.data.toList = l) : s = BA l := ba_ext (by rw [Lib.toList_data, Lib.toList_data, h, BA_data])
theorem BA_size (l : List UInt8) : (BA l).size = l.length := by rw [← size_len, BA_data]
theorem numR_BA (l : List UInt8) : numR (BA l) = match rd4 l with
  | some n => ((n : Int), true)
  | none => (0, false) := rfl
theorem extract_BA (s : ByteArray) (a b : Nat) : s.extract a b = BA ((s.data.toList.take b).drop a) := ba_of (by rw [ByteArray.data_extract, Array.toList_extract, List.extract_eq_take_drop, ← List.drop_take])
theorem l1Split_l0 (s : ByteArray) (hs : s.size ≤ 1048576) : ∀ d i f (out : List ByteArray), i + d = s.size → f ≤ i → out.length ≤ i →
    Ev (fun k => spec_l1Split.l0 k s 44 out (f : Int) (i : Int)) (out ++ (splitP ((s.data.toList.take i).drop f) (s.data.toList.drop i)).map BA) := by
  intro d
  induction d with
  | zero =>
    intro i f out hi hf ho
    refine Ev.step (fun k => spec_l1Split.l0.eq_2 ..) (ev_neg (by omega) (ev_pos (by omega) (ev_pos (by omega) (ev_pos (by omega) (ev_some ?_)))))
    have e0 : s.data.toList.drop i = [] := List.drop_eq_nil_of_le (by rw [size_len]; omega)
    rw [e0, Int.toNat_natCast, extract_BA]
    simp only [splitP, List.map_cons, List.map_nil]
    rw [show i = s.size from by omega]
  | succ d ih =>
    intro i f out hi hf ho
    obtain ⟨c, hc, hb⟩ := bt_drop s i (by omega)
    rw [hc]
    simp only [splitP]
    refine Ev.step (fun k => spec_l1Split.l0.eq_2 ..) (ev_pos (by omega) (ev_pos (by omega) ?_))
    rw [hb, wrap_succ i (by omega), Int.toNat_natCast, Int.toNat_natCast]
    have e44 : (44 : UInt8).toNat = 44 := rfl
    by_cases h : c = 44
    · subst h
      rw [if_pos rfl]
      refine ev_pos (by omega) (ev_pos (by omega) (ev_pos (by omega) (ev_pos (by omega) (ev_pos (by omega) ?_))))
      refine ev_to (ih (i + 1) (i + 1) _ (by omega) (Nat.le_refl _) (by rw [List.length_append, List.length_singleton]; omega)) ?_
      have e0 : (s.data.toList.take (i + 1)).drop (i + 1) = [] := List.drop_eq_nil_of_le (by rw [List.length_take]; omega)
      rw [e0, extract_BA]
      simp
    · rw [if_neg h]
      refine ev_neg (fun e => h (UInt8.toNat_inj.1 (by omega))) (ev_to (ih (i + 1) f out (by omega) (by omega) (by omega)) ?_)
      have hl : i < s.data.toList.length := by rw [size_len]; omega
      have hcc : s.data.toList[i] = c := by
        have h2 := List.drop_eq_getElem_cons hl
        rw [hc] at h2
        exact (List.cons.inj h2).1.symm
      rw [List.take_succ_eq_append_getElem hl, hcc, List.drop_append_of_le_length (by rw [List.length_take]; omega)]
theorem l1Split_ev (s : ByteArray) (hs : s.size ≤ 1048576) : Ev (fun k => spec_l1Split.f k s 44) ((splitP [] s.data.toList).map BA) := by
  simp only [spec_l1Split.f]
  exact ev_to (l1Split_l0 s hs s.size 0 0 [] (by omega) (Nat.le_refl _) (Nat.le_refl _)) (by simp)
theorem index2_ev (s : ByteArray) (c : UInt8) : Ev (fun k => stringslite_Index.f k s ⟨#[c]⟩) (Lib.indexByte s.data.toList c) := by
  have hj : ∀ b : Bool, (b = true → Lib.indexByte s.data.toList c = 0) → Ev (fun k => stringslite_Index.j0 k s ⟨#[c]⟩ 1 b) (Lib.indexByte s.data.toList c) := by
    intro b hb
    refine Ev.step (fun k => stringslite_Index.j0.eq_2 ..) ?_
    refine ev_ite (fun h => ev_some (hb h).symm) (fun _ => ?_)
    refine ev_pos rfl (ev_pos (by show (0 : Int) < ((1 : Nat) : Int); decide) ?_)
    refine ev_const ?_
    rw [show bt ⟨#[c]⟩ 0 = (c.toNat : Int) from rfl]
    simp [stringslite_IndexByte.f]
  simp only [stringslite_Index.f]
  refine ev_neg (by show ¬ (((1 : Nat) : Int) = 0); decide) ?_
  refine hj _ (fun h => ?_)
  have e : s.data.toList = [c] := by
    have := beq_iff_eq.1 h
    rw [Lib.toList_data, Lib.toList_data] at this
    exact this.symm
  rw [e]
  simp [Lib.indexByte]
theorem cut_ev (s : ByteArray) (hs : s.size ≤ 1048576) : Ev (fun k => strings_Cut.f k s ⟨#[44]⟩) (match cutC s.data.toList with
    | (a, none) => (BA a, BA [], false)
    | (a, some b) => (BA a, BA b, true)) := by
  have hl := size_len s
  have hci := cut_index s.data.toList
  simp only [strings_Cut.f, stringslite_Cut.f]
  refine ev_bind (ev_bind (index2_ev s 44) ?_) (ev_some rfl)
  cases h2 : cutC s.data.toList with
  | mk a o =>
    rw [h2] at hci
    cases o with
    | none =>
      simp only at hci ⊢
      rw [hci.1, hci.2]
      refine ev_neg (by decide) (ev_some ?_)
      rw [← ba_of rfl]
      rfl
    | some b =>
      simp only at hci ⊢
      have hlen := congrArg List.length hci.2
      rw [List.length_append, List.length_cons, hl] at hlen
      have e1 : wrap64 ((a.length : Int) + ((⟨#[44]⟩ : ByteArray).size : Int)) = ((a.length + 1 : Nat) : Int) := wrap_succ a.length (by omega)
      rw [hci.1, e1, Int.toNat_natCast, Int.toNat_natCast, extract_BA, extract_BA]
      refine ev_pos (by omega) (ev_pos (by omega) (ev_pos (by omega) (ev_pos (by omega) (ev_pos (by omega) (ev_some ?_)))))
      have e5 : (a ++ 44 :: b).drop (a.length + 1) = b := by
        rw [List.drop_append, List.drop_eq_nil_of_le (by omega), List.nil_append, show a.length + 1 - a.length = 1 from by omega]
        rfl
      rw [List.take_of_length_le (i := s.size) (by omega), hci.2, List.drop_zero, List.take_left' rfl, e5]
theorem readTwo_ev (s : ByteArray) (hs : s.size ≤ 1048576) : ∃ r, Ev (fun k => impl_readTwo.f k s) r ∧ (match cutR s.data.toList with
    | some (n, none) => r = ((n : Int), (n : Int), false, true)
    | some (n, some m) => r = ((n : Int), (m : Int), true, true)
    | none => r.2.2.2 = false) := by
  have hl := size_len s
  have hci := cut_index s.data.toList
  have hcut := cut_ev s hs
  simp only [impl_readTwo.f]
  unfold cutR
  cases h2 : cutC s.data.toList with
  | mk a o =>
    rw [h2] at hci hcut
    cases o with
    | none =>
      simp only at hci hcut ⊢
      have hlen := congrArg List.length hci.2
      refine ⟨((impl_readNumber.v (BA a)).1, (impl_readNumber.v (BA a)).1, false, (impl_readNumber.v (BA a)).2), ev_bind hcut (ev_bind (ev_const (readNumber_eq (BA a) (by rw [BA_size]; omega))) (ev_neg (by simp) (ev_some rfl))), ?_⟩
      cases h3 : rd4 a with
      | none => exact readNumber_none h3
      | some n =>
        rw [readNumber_some (s := BA a) h3]
        rfl
    | some b =>
      simp only at hci hcut ⊢
      have hlen := congrArg List.length hci.2
      rw [List.length_append, List.length_cons, hl] at hlen
      have ra := readNumber_eq (BA a) (by rw [BA_size]; omega)
      have rb := readNumber_eq (BA b) (by rw [BA_size]; omega)
      cases h3 : (impl_readNumber.v (BA a)).2 with
      | false =>
        refine ⟨((impl_readNumber.v (BA a)).1, (impl_readNumber.v (BA b)).1, true, false), ev_bind hcut (ev_bind (ev_const ra) (ev_pos rfl (ev_bind (ev_const rb) (ev_neg (by rw [h3]; simp) (ev_some rfl))))), ?_⟩
        have h4 : rd4 a = none := by
          cases h5 : rd4 a with
          | none => rfl
          | some n => rw [readNumber_some (s := BA a) h5] at h3; cases h3
        rw [h4]
        rfl
      | true =>
        refine ⟨((impl_readNumber.v (BA a)).1, (impl_readNumber.v (BA b)).1, true, (impl_readNumber.v (BA b)).2), ev_bind hcut (ev_bind (ev_const ra) (ev_pos rfl (ev_bind (ev_const rb) (ev_pos h3 (ev_some rfl))))), ?_⟩
        cases h4 : rd4 a with
        | none => rw [readNumber_none (s := BA a) h4] at h3; cases h3
        | some n =>
          rw [readNumber_some (s := BA a) h4]
          cases h5 : rd4 b with
          | none => exact readNumber_none (s := BA b) h5
          | some m => rw [readNumber_some (s := BA b) h5]; rfl
def endsR (less : Nat) (l : List UInt8) : Int × Int × Bool := match cutR l with
  | none => (0, 0, false)
  | some (n, o) => if n ≤ 1000 ∧ o.getD n ≤ 1000 ∧ n ≤ o.getD n + less then ((n : Int), ((o.getD n : Nat) : Int), true) else (0, 0, false)
def twoR (l : List UInt8) : Int × Int × Bool := match cutR l with
  | none => (0, 0, false)
  | some (n, o) => if n ≤ 1000 ∧ o.getD n ≤ 1000 then ((n : Int), ((o.getD n : Nat) : Int), true) else (0, 0, false)
theorem l4Two_ev (s : ByteArray) (hs : s.size ≤ 1048576) : Ev (fun k => spec_l4Two.f k s) (twoR s.data.toList) := by
  have hl := size_len s
  have hci := cut_index s.data.toList
  have hsp := l1Split_ev s hs
  rw [split_cut] at hsp
  simp only [spec_l4Two.f]
  unfold twoR cutR
  have fls : ∀ (p : List ByteArray) (x : Int), Ev (fun k => spec_l4Two.j0 k p x true) ((0 : Int), (0 : Int), false) := fun p x => Ev.step (fun k => spec_l4Two.j0.eq_2 ..) (ev_pos (by simp) (ev_some rfl))
  cases h2 : cutC s.data.toList with
  | mk a o =>
    rw [h2] at hci hsp
    cases o with
    | none =>
      simp only [List.nil_append, List.map_cons, List.map_nil] at hci hsp ⊢
      have hlen := congrArg List.length hci.2
      refine ev_bind hsp (ev_pos (by simp) (ev_bind (a := numR (BA a)) (spec_ReadNumber_ev (BA a) (by rw [BA_size]; omega)) ?_))
      rw [numR_BA]
      cases h3 : rd4 a with
      | none => exact ev_neg (by simp) (fls _ _)
      | some n =>
        have hb := rd4_lt h3
        refine ev_pos (by simp) (ev_neg (by simp) ?_)
        simp only [Option.map_some, Option.getD_none]
        by_cases c : (n : Int) > 1000
        · rw [decide_eq_true c, if_neg (by omega)]
          exact fls _ _
        · rw [decide_eq_false c, if_pos (by omega)]
          exact Ev.step (fun k => spec_l4Two.j0.eq_2 ..) (ev_neg (by simp) (ev_pos (by simp) (ev_some rfl)))
    | some b =>
      simp only [List.nil_append, List.map_cons] at hci hsp ⊢
      have hlen := congrArg List.length hci.2
      rw [List.length_append, List.length_cons, hl] at hlen
      rw [split_cut] at hsp
      have hcb := cut_index b
      refine ev_bind hsp (ev_pos (by simp) (ev_bind (a := numR (BA a)) (spec_ReadNumber_ev (BA a) (by rw [BA_size]; omega)) ?_))
      rw [numR_BA]
      cases h3 : rd4 a with
      | none => exact ev_neg (by simp) (fls _ _)
      | some n =>
        have hb := rd4_lt h3
        simp only [Option.bind_some]
        refine ev_pos (by simp) ?_
        cases h4 : cutC b with
        | mk a2 o2 =>
          rw [h4] at hcb
          cases o2 with
          | some b2 =>
            simp only at hcb
            rw [hcb.2, rd4_comma]
            refine ev_pos ?_ (fls _ _)
            show ((BA a :: (BA ([] ++ a2) :: (splitP [] b2).map BA)).length : Int) > 2
            rw [split_cut]
            cases cutC b2 with
            | mk a3 o3 => cases o3 <;> simp <;> omega
          | none =>
            simp only [List.nil_append, List.map_cons, List.map_nil] at hcb ⊢
            rw [hcb.2]
            refine ev_neg (by simp) ?_
            by_cases c : (n : Int) > 1000
            · rw [decide_eq_true c]
              refine ev_to (fls _ _) ?_
              cases rd4 b with
              | none => rfl
              | some m => simp only [Option.map_some, Option.getD_some]; rw [if_neg (by omega)]
            · rw [decide_eq_false c]
              refine Ev.step (fun k => spec_l4Two.j0.eq_2 ..) (ev_neg (by simp) (ev_neg (by simp) (ev_pos (by simp) (ev_bind (a := numR (BA b)) (spec_ReadNumber_ev (BA b) (by rw [BA_size]; omega)) ?_))))
              rw [numR_BA]
              cases h5 : rd4 b with
              | none => exact ev_neg (by simp) (ev_some rfl)
              | some m =>
                simp only [Option.map_some, Option.getD_some]
                refine ev_pos (by simp) (ev_ite (fun c2 => ev_some ?_) (fun c2 => ev_some ?_))
                · rw [if_neg (by omega)]
                · rw [if_pos (by omega)]
theorem two_ends (less : Nat) (l : List UInt8) : endsR less l = if (twoR l).2.2 = true ∧ (twoR l).1 ≤ (twoR l).2.1 + (less : Int) then twoR l else (0, 0, false) := by
  unfold endsR twoR
  cases cutR l with
  | none => simp
  | some p =>
    obtain ⟨n, o⟩ := p
    simp only
    by_cases c : n ≤ 1000 ∧ o.getD n ≤ 1000
    · rw [if_pos c]
      by_cases c2 : n ≤ o.getD n + less
      · rw [if_pos ⟨c.1, c.2, c2⟩, if_pos ⟨rfl, by show (n : Int) ≤ ((o.getD n : Nat) : Int) + (less : Int); omega⟩]
      · rw [if_neg (fun e => c2 e.2.2), if_neg (fun e => c2 (by have := e.2; simp only at this; omega))]
    · rw [if_neg c, if_neg (fun e => c ⟨e.1, e.2.1⟩)]
      simp
theorem spec_ReadPair_ev (s : ByteArray) (hs : s.size ≤ 1048576) : Ev (fun k => spec_ReadPair.f k s) (endsR 0 s.data.toList) := by
  simp only [spec_ReadPair.f]
  rw [two_ends]
  refine ev_bind (l4Two_ev s hs) (ev_ite (fun c => ev_ite (fun c2 => ev_some ?_) (fun c2 => ev_some ?_)) (fun c => ev_some ?_))
  · rw [if_neg (by omega)]
  · rw [if_pos ⟨c, by omega⟩, ← c]
  · rw [if_neg (fun e => c e.1)]

def LnB (l : List ByteArray) : Prop := ∀ s ∈ l, 1 ≤ s.size ∧ s.size ≤ 3000
def RowB (l : List ByteArray) : Prop := l.length ≤ 4000 ∧ ∀ s ∈ l, s.size ≤ 3000
theorem lnB_tail {x : ByteArray} {l : List ByteArray} (h : LnB (x :: l)) : LnB l := fun s hs => h s (List.mem_cons_of_mem _ hs)
theorem lnB_drop {l : List ByteArray} (h : LnB l) (n : Nat) : LnB (l.drop n) := fun s hs => h s (List.mem_of_mem_drop hs)
def preB (s g : ByteArray) : Bool := decide (g.size ≤ s.size) && ((s.extract 0 g.size).toList == g.toList)
theorem prefix_eq (s g : ByteArray) : strings_HasPrefix.f s g = some (preB s g) := by
  unfold strings_HasPrefix.f stringslite_HasPrefix.f preB
  by_cases h : g.size ≤ s.size
  · rw [if_pos (by omega), if_pos (by omega), if_pos (by omega), decide_eq_true h, Bool.true_and, Option.bind_some]
    simp
  · rw [if_neg (by omega), decide_eq_false h]
    rfl
theorem trim_eq (s g : ByteArray) (h : preB s g = true) : strings_TrimPrefix.f s g = some (s.extract g.size s.size) := by
  have hp := prefix_eq s g
  unfold strings_HasPrefix.f at hp
  obtain ⟨b, hb, e⟩ := Option.bind_eq_some_iff.1 hp
  injection e with e
  have hz : g.size ≤ s.size := by
    unfold preB at h
    rw [Bool.and_eq_true, decide_eq_true_eq] at h
    exact h.1
  unfold strings_TrimPrefix.f stringslite_TrimPrefix.f
  rw [hb, Option.bind_some, e, h, if_pos rfl, if_pos (by omega), if_pos (by omega)]
  simp
theorem extract_front (g s : ByteArray) : (g ++ s).extract 0 g.size = g := ba_ext (by
  rw [Lib.toList_data, Lib.toList_data, ByteArray.data_extract, Array.toList_extract, List.extract_eq_take_drop, app_list, List.drop_zero, Nat.sub_zero, List.take_append_of_le_length (by rw [data_length]; exact Nat.le_refl _), List.take_of_length_le (by rw [data_length]; exact Nat.le_refl _)])
theorem extract_back (g s : ByteArray) : (g ++ s).extract g.size (g ++ s).size = s := ba_ext (by
  have e : (g ++ s).size - g.size = s.size := by rw [ByteArray.size_append]; omega
  rw [Lib.toList_data, Lib.toList_data, ByteArray.data_extract, Array.toList_extract, List.extract_eq_take_drop, app_list, List.drop_append_of_le_length (by rw [data_length]; exact Nat.le_refl _), List.drop_of_length_le (by rw [data_length]; exact Nat.le_refl _), List.nil_append, e, List.take_of_length_le (by rw [data_length]; exact Nat.le_refl _)])
theorem preB_app (g s : ByteArray) : preB (g ++ s) g = true := by
  unfold preB
  rw [extract_front, decide_eq_true (by rw [ByteArray.size_append]; omega), Bool.true_and]
  simp
def Stop (g : ByteArray) : List ByteArray → Prop
  | [] => True
  | y :: _ => preB y g = false ∧ y ≠ markB
def headNot (l : List ByteArray) : Prop := ∀ y, l.head? = some y → y ≠ markB
theorem app_ne_mark {g : ByteArray} (hg : g.data.toList.head? ≠ some 92) (hz : 0 < g.size) (s : ByteArray) : g ++ s ≠ markB := fun e => by
  have h := congrArg (fun b => b.data.toList.head?) e
  simp only [app_list] at h
  cases hl : g.data.toList with
  | nil => rw [← data_length, hl] at hz; simp at hz
  | cons c t =>
    rw [hl] at h hg
    simp only [List.cons_append, List.head?_cons] at h hg
    exact hg (h.trans rfl)
theorem showL_head {g : ByteArray} (hg : g.data.toList.head? ≠ some 92) (hz : 0 < g.size) (l rest : List ByteArray) (hr : Stop g rest) : headNot (showL g l ++ rest) := by
  intro y hy
  cases l with
  | nil =>
    cases rest with
    | nil => cases hy
    | cons z t =>
      injection hy with hy
      rw [← hy]
      exact hr.2
  | cons s t =>
    simp only [showL] at hy
    split at hy
    · injection hy with hy
      rw [← hy]
      exact app_ne_mark hg hz s
    · injection hy with hy
      rw [← hy, ByteArray.append_assoc]
      exact app_ne_mark hg hz _
theorem plainB_nl (s : ByteArray) : plainB (s ++ nl) = s := by
  unfold plainB
  have he : ends (s ++ nl) = true := by
    unfold ends
    rw [app_list]
    simp [nl]
  rw [if_pos he, ByteArray.size_append, show nl.size = 1 from rfl, Nat.add_sub_cancel]
  exact extract_front s nl
theorem mark_iff (y : ByteArray) : y.toList = ([92, 32, 110, 111, 110, 101, 10] : List UInt8) ↔ y = markB := by
  rw [show ([92, 32, 110, 111, 110, 101, 10] : List UInt8) = markB.toList by rw [Lib.toList_data]; rfl]
  exact ba_iff
theorem take_stop (g : ByteArray) (rest acc : List ByteArray) (hr : Stop g rest) : Ev (fun k => impl_takeShown.l0 k rest g acc) (acc, rest) := by
  cases rest with
  | nil => exact Ev.step (fun k => impl_takeShown.l0.eq_2 ..) (ev_neg (by simp) (Ev.step (fun k => impl_takeShown.j1.eq_2 ..) (ev_neg (by simp) (ev_some rfl))))
  | cons y t =>
    refine Ev.step (fun k => impl_takeShown.l0.eq_2 ..) (ev_pos (by simp only [List.length_cons]; omega) (ev_pos (by simp only [List.length_cons]; omega) ?_))
    refine ev_bind (ev_const (prefix_eq _ _)) ?_
    rw [show rdOf ByteArray.empty (y :: t) 0 = y from rfl, hr.1]
    exact Ev.step (fun k => impl_takeShown.j1.eq_2 ..) (ev_neg (by simp) (ev_some rfl))
theorem take_good (g : ByteArray) (hg : g.data.toList.head? ≠ some 92) (hz : 0 < g.size) (hz2 : g.size ≤ 2) (rest : List ByteArray) (hr : Stop g rest) : ∀ (l acc : List ByteArray), (∀ s ∈ l, isLn s = true) → acc.length + l.length ≤ 4000 →
    Ev (fun k => impl_takeShown.l0 k (showL g l ++ rest) g acc) (acc ++ l, rest)
  | [], acc, _, _ => by rw [List.append_nil]; exact take_stop g rest acc hr
  | s :: l, acc, h, hl => by
    have ih := take_good g hg hz hz2 rest hr l (acc ++ [s]) (fun z hz => h z (List.mem_cons_of_mem _ hz)) (by rw [List.length_append, List.length_singleton]; simp only [List.length_cons] at hl; omega)
    rw [List.append_assoc, List.singleton_append] at ih
    have hs := isLn_parts (h s (List.mem_cons_self ..))
    have hh := showL_head hg hz l rest hr
    simp only [List.length_cons] at hl
    simp only [showL]
    by_cases he : ends s = true
    · rw [if_pos he, List.cons_append]
      generalize showL g l ++ rest = L at ih hh
      refine Ev.step (fun k => impl_takeShown.l0.eq_2 ..) (ev_pos (by simp only [List.length_cons]; omega) (ev_pos (by simp only [List.length_cons]; omega) ?_))
      refine ev_bind (ev_const (prefix_eq _ _)) ?_
      rw [show rdOf ByteArray.empty ((g ++ s) :: L) 0 = g ++ s from rfl, preB_app]
      refine Ev.step (fun k => impl_takeShown.j1.eq_2 ..) (ev_pos rfl (ev_pos (by simp only [List.length_cons]; omega) ?_))
      rw [show rdOf ByteArray.empty ((g ++ s) :: L) 0 = g ++ s from rfl]
      refine ev_bind (ev_const (trim_eq _ _ (preB_app g s))) (ev_pos (by simp only [List.length_cons]; omega) (ev_bind (ev_const rfl) ?_))
      rw [extract_back, show ((g ++ s) :: L).drop 1 = L from rfl]
      cases L with
      | nil => exact ev_neg (by simp) (ev_pos (by omega) ih)
      | cons y t =>
        have hy := hh y rfl
        refine ev_pos (by simp only [List.length_cons]; omega) (ev_pos (by simp only [List.length_cons]; omega) ?_)
        rw [show rdOf ByteArray.empty (y :: t) 0 = y from rfl]
        exact ev_neg (fun e => hy ((mark_iff y).1 e)) (ev_pos (by omega) ih)
    · rw [if_neg he, List.cons_append, List.cons_append]
      generalize showL g l ++ rest = L at ih hh
      have eg : (g ++ s) ++ nl = g ++ (s ++ nl) := ByteArray.append_assoc
      rw [eg]
      refine Ev.step (fun k => impl_takeShown.l0.eq_2 ..) (ev_pos (by simp only [List.length_cons]; omega) (ev_pos (by simp only [List.length_cons]; omega) ?_))
      refine ev_bind (ev_const (prefix_eq _ _)) ?_
      rw [show rdOf ByteArray.empty ((g ++ (s ++ nl)) :: markB :: L) 0 = g ++ (s ++ nl) from rfl, preB_app]
      refine Ev.step (fun k => impl_takeShown.j1.eq_2 ..) (ev_pos rfl (ev_pos (by simp only [List.length_cons]; omega) ?_))
      rw [show rdOf ByteArray.empty ((g ++ (s ++ nl)) :: markB :: L) 0 = g ++ (s ++ nl) from rfl]
      refine ev_bind (ev_const (trim_eq _ _ (preB_app g (s ++ nl)))) (ev_pos (by simp only [List.length_cons]; omega) (ev_bind (ev_const rfl) ?_))
      rw [extract_back, show ((g ++ (s ++ nl)) :: markB :: L).drop 1 = markB :: L from rfl]
      refine ev_pos (by simp only [List.length_cons]; omega) (ev_pos (by simp only [List.length_cons]; omega) ?_)
      rw [show rdOf ByteArray.empty (markB :: L) 0 = markB from rfl]
      refine ev_pos ((mark_iff markB).2 rfl) (ev_bind (ev_const (plain_eq (s ++ nl) (by rw [ByteArray.size_append, show nl.size = 1 from rfl]; omega))) (ev_pos (by simp only [List.length_cons]; omega) (ev_pos (by omega) ?_)))
      rw [plainB_nl, show (markB :: L).drop 1 = L from rfl]
      exact ih
theorem take_some (g : ByteArray) : ∀ (n : Nat) (l acc : List ByteArray), l.length ≤ n → n + acc.length ≤ 4000 → LnB l → RowB acc →
    ∃ r, Ev (fun k => impl_takeShown.l0 k l g acc) r ∧ RowB r.1 ∧ r.2.length ≤ l.length ∧ LnB r.2
  | n, [], acc, _, _, hL, hR => ⟨_, Ev.step (fun k => impl_takeShown.l0.eq_2 ..) (ev_neg (by simp) (Ev.step (fun k => impl_takeShown.j1.eq_2 ..) (ev_neg (by simp) (ev_some rfl)))), hR, Nat.le_refl _, hL⟩
  | 0, x :: l, acc, h, _, _, _ => absurd h (by simp)
  | n + 1, x :: l, acc, h, hn, hL, hR => by
    simp only [List.length_cons] at h
    have hx := hL x (List.mem_cons_self ..)
    have hl := lnB_tail hL
    have row : ∀ s : ByteArray, s.size ≤ 3000 → RowB (acc ++ [s]) := fun s hs => ⟨by rw [List.length_append, List.length_singleton]; omega, fun z hz => by
      rcases List.mem_append.1 hz with hz | hz
      · exact hR.2 z hz
      · rw [List.mem_singleton.1 hz]; exact hs⟩
    cases hp : preB x g with
    | false => exact ⟨(acc, x :: l), by
        refine Ev.step (fun k => impl_takeShown.l0.eq_2 ..) (ev_pos (by simp only [List.length_cons]; omega) (ev_pos (by simp only [List.length_cons]; omega) (ev_bind (ev_const (prefix_eq _ _)) ?_)))
        rw [show rdOf ByteArray.empty (x :: l) 0 = x from rfl, hp]
        exact Ev.step (fun k => impl_takeShown.j1.eq_2 ..) (ev_neg (by simp) (ev_some rfl)), hR, Nat.le_refl _, hL⟩
    | true =>
      have hz : (x.extract g.size x.size).size ≤ 3000 := by rw [ByteArray.size_extract]; omega
      have top : ∀ r, Ev (fun k => (if (l.length : Int) > 0 then (if 0 < (l.length : Int) then (if (rdOf ByteArray.empty l 0).toList = ([92, 32, 110, 111, 110, 101, 10] : List UInt8) then ((impl_plain.f (x.extract g.size x.size)).bind fun t375 => (if 1 ≤ (l.length : Int) then (if acc.length < 8796093022208 then (impl_takeShown.l0 k (l.drop 1) g (acc ++ [t375])) else (none)) else (none))) else (if acc.length < 8796093022208 then (impl_takeShown.l0 k l g (acc ++ [x.extract g.size x.size])) else (none))) else (none)) else (if acc.length < 8796093022208 then (impl_takeShown.l0 k l g (acc ++ [x.extract g.size x.size])) else (none)))) r → Ev (fun k => impl_takeShown.l0 k (x :: l) g acc) r := by
        intro r hr
        refine Ev.step (fun k => impl_takeShown.l0.eq_2 ..) (ev_pos (by simp only [List.length_cons]; omega) (ev_pos (by simp only [List.length_cons]; omega) (ev_bind (ev_const (prefix_eq _ _)) ?_)))
        rw [show rdOf ByteArray.empty (x :: l) 0 = x from rfl, hp]
        refine Ev.step (fun k => impl_takeShown.j1.eq_2 ..) (ev_pos rfl (ev_pos (by simp only [List.length_cons]; omega) ?_))
        rw [show rdOf ByteArray.empty (x :: l) 0 = x from rfl]
        exact ev_bind (ev_const (trim_eq _ _ hp)) (ev_pos (by simp only [List.length_cons]; omega) (ev_bind (ev_const rfl) hr))
      obtain ⟨r, er, h1, h2, h3⟩ := take_some g n l (acc ++ [x.extract g.size x.size]) (by omega) (by rw [List.length_append, List.length_singleton]; omega) hl (row _ hz)
      cases l with
      | nil => exact ⟨r, top r (ev_neg (by simp) (ev_pos (by omega) er)), h1, by simp only [List.length_cons] at h2 ⊢; omega, h3⟩
      | cons y t =>
        by_cases hy : y = markB
        · simp only [List.length_cons] at h
          obtain ⟨q, eq, g1, g2, g3⟩ := take_some g n t (acc ++ [plainB (x.extract g.size x.size)]) (by omega) (by rw [List.length_append, List.length_singleton]; omega) (lnB_tail hl) (row _ (by
            unfold plainB
            split
            · rw [ByteArray.size_extract]; omega
            · exact hz))
          refine ⟨q, top q (ev_pos (by simp only [List.length_cons]; omega) (ev_pos (by simp only [List.length_cons]; omega) ?_)), g1, by simp only [List.length_cons]; omega, g3⟩
          rw [show rdOf ByteArray.empty (y :: t) 0 = y from rfl]
          exact ev_pos ((mark_iff y).2 hy) (ev_bind (ev_const (plain_eq _ (by omega))) (ev_pos (by simp only [List.length_cons]; omega) (ev_pos (by omega) eq)))
        · refine ⟨r, top r (ev_pos (by simp only [List.length_cons]; omega) (ev_pos (by simp only [List.length_cons]; omega) ?_)), h1, by simp only [List.length_cons] at h2 ⊢; omega, h3⟩
          rw [show rdOf ByteArray.empty (y :: t) 0 = y from rfl]
          exact ev_neg (fun e => hy ((mark_iff y).1 e)) (ev_pos (by omega) er)

theorem no_comma (n : Nat) : ∀ b ∈ Lib.decDigits n, b ≠ 44 := by
  intro b hb e
  obtain ⟨k, hk, e2⟩ := List.getElem_of_mem hb
  obtain ⟨d, hd⟩ := Lib.digit_of_decFrom _ _ _ (decFrom_digits n) k b (by rw [List.getElem?_eq_getElem hk, e2])
  rw [e] at hd
  cases hd
theorem cutC_none : ∀ (l : List UInt8), (∀ b ∈ l, b ≠ 44) → cutC l = (l, none)
  | [], _ => rfl
  | c :: r, h => by
    simp only [cutC]
    rw [if_neg (h c (List.mem_cons_self ..)), cutC_none r (fun b hb => h b (List.mem_cons_of_mem _ hb))]
theorem cutC_at : ∀ (l r : List UInt8), (∀ b ∈ l, b ≠ 44) → cutC (l ++ 44 :: r) = (l, some r)
  | [], r, _ => by simp [cutC]
  | c :: t, r, h => by
    simp only [List.cons_append, cutC]
    rw [if_neg (h c (List.mem_cons_self ..)), cutC_at t r (fun b hb => h b (List.mem_cons_of_mem _ hb))]
theorem short_digits {n : Nat} (h : n ≤ 9999) : (Lib.decDigits n).length ≤ 4 := by
  rw [Lib.decDigits_length]
  have key : ∀ k : Nat, n < 10 ^ k → 1 ≤ k → Lib.nDigits n ≤ k := by
    intro k
    induction k generalizing n with
    | zero => intro _ h1; omega
    | succ k ih =>
      intro hk _
      by_cases h10 : n < 10
      · rw [Lib.nDigits_small h10]; omega
      · rw [Lib.nDigits_big h10]
        have hk1 : 1 ≤ k := by
          rcases Nat.eq_zero_or_pos k with h0 | h0
          · subst h0; simp at hk; omega
          · exact h0
        rw [Nat.pow_succ] at hk
        have := ih (n := n / 10) (by omega) (by omega) hk1
        omega
  exact key 4 (by omega) (by decide)
theorem rd4_num {n : Nat} (h : n ≤ 9999) : rd4 (Lib.decDigits n) = some n := rd4_digits (short_digits h)
theorem cutR_pair (a b : Nat) (ha : a ≤ 1000) (hb : b ≤ 1000) : cutR (pairV a b).data.toList = some (a, if a = b then none else some b) := by
  unfold pairV cutR
  by_cases h : a = b
  · rw [if_pos h, if_pos h, num_data, cutC_none _ (no_comma a)]
    simp only
    rw [rd4_num (by omega)]
    rfl
  · rw [if_neg h, if_neg h, app_list, app_list, num_data, num_data]
    show (match cutC ((Lib.decDigits a ++ [44]) ++ Lib.decDigits b) with
      | (a, none) => (rd4 a).map fun n => (n, none)
      | (a, some b) => (rd4 a).bind fun n => (rd4 b).map fun m => (n, some m)) = _
    rw [List.append_assoc, List.singleton_append, cutC_at _ _ (no_comma a)]
    simp only
    rw [rd4_num (by omega), rd4_num (by omega)]
    rfl
theorem pair_size (a b : Nat) (ha : a ≤ 1000) (hb : b ≤ 1000) : (pairV a b).size ≤ 41 := pairV_size a b (by omega) (by omega)
theorem readTwo_pair (a b : Nat) (ha : a ≤ 1000) (hb : b ≤ 1000) : ∃ c, Ev (fun k => impl_readTwo.f k (pairV a b)) ((a : Int), (b : Int), c, true) := by
  obtain ⟨r, er, hr⟩ := readTwo_ev (pairV a b) (by have := pair_size a b ha hb; omega)
  rw [cutR_pair a b ha hb] at hr
  by_cases h : a = b
  · rw [if_pos h] at hr
    simp only at hr
    exact ⟨false, ev_to er (by rw [hr, h])⟩
  · rw [if_neg h] at hr
    simp only at hr
    exact ⟨true, ev_to er hr⟩
theorem ReadPair_pair (a b : Nat) (ha : a ≤ 1000) (hb : b ≤ 1000) (hab : a ≤ b) : Ev (fun k => spec_ReadPair.f k (pairV a b)) ((a : Int), (b : Int), true) := by
  refine ev_to (spec_ReadPair_ev _ (by have := pair_size a b ha hb; omega)) ?_
  unfold endsR
  rw [cutR_pair a b ha hb]
  by_cases h : a = b
  · rw [if_pos h]
    simp only [Option.getD_none]
    rw [if_pos (by omega), h]
  · rw [if_neg h]
    simp only [Option.getD_some]
    rw [if_pos (by omega)]
def kc (x : IT) : UInt8 := if x.f2.length = 0 then 97 else if x.f5.length = 0 then 100 else 99
theorem kindV_kc (x : IT) : kindV x = ⟨#[kc x]⟩ := by
  unfold kindV kc
  split
  · rfl
  · split <;> rfl
theorem kc_abc (x : IT) : kc x = 97 ∨ kc x = 99 ∨ kc x = 100 := by
  unfold kc
  split
  · exact .inl rfl
  · split
    · exact .inr (.inr rfl)
    · exact .inr (.inl rfl)
def headP (P Q : ByteArray) (c : UInt8) : ByteArray := (P ++ ⟨#[c]⟩) ++ Q
theorem headL_eq (x : IT) : headL x = headP (pairV x.f0.toNat x.f1.toNat) (pairV x.f3.toNat x.f4.toNat) (kc x) ++ nl := by
  unfold headL headV headP
  rw [kindV_kc]
theorem headP_size (P Q : ByteArray) (c : UInt8) : (headP P Q c).size = P.size + 1 + Q.size := by
  unfold headP
  rw [ByteArray.size_append, ByteArray.size_append]
  rfl
theorem headP_front (P Q : ByteArray) (c : UInt8) : (headP P Q c).extract 0 P.size = P := by
  unfold headP
  rw [ByteArray.append_assoc]
  exact extract_front P _
theorem headP_back (P Q : ByteArray) (c : UInt8) : (headP P Q c).extract (P.size + 1) (headP P Q c).size = Q := by
  have h := extract_back (P ++ ⟨#[c]⟩) Q
  rw [show (P ++ (⟨#[c]⟩ : ByteArray)).size = P.size + 1 by rw [ByteArray.size_append]; rfl] at h
  exact h
theorem headP_data (P Q : ByteArray) (c : UInt8) : (headP P Q c).data.toList = P.data.toList ++ c :: Q.data.toList := by
  unfold headP
  rw [app_list, app_list, List.append_assoc]
  rfl
theorem headP_get (P Q : ByteArray) (c : UInt8) : (headP P Q c).data.toList[P.size]? = some c := by
  rw [headP_data, List.getElem?_append_right (by rw [data_length]; exact Nat.le_refl _), data_length, Nat.sub_self]
  rfl
theorem bt_of {s : ByteArray} {i : Nat} {c : UInt8} (h : s.data.toList[i]? = some c) : i < s.size ∧ bt s (i : Int) = (c.toNat : Int) := by
  obtain ⟨hi, e⟩ := List.getElem?_eq_some_iff.1 h
  rw [data_length] at hi
  exact ⟨hi, by rw [bt_nat s i hi, e]⟩
theorem headP_low (P Q : ByteArray) (c : UInt8) (hP : DigC P) (j : Nat) (hj : j < P.size) : ∃ b, (headP P Q c).data.toList[j]? = some b ∧ b.toNat ≤ 57 := by
  rw [headP_data, List.getElem?_append_left (by rw [data_length]; exact hj)]
  have hl : j < P.data.toList.length := by rw [data_length]; exact hj
  exact ⟨_, List.getElem?_eq_getElem hl, (hP _ (List.getElem_mem hl)).2⟩
theorem acd_no {b : UInt8} (h : b.toNat ≤ 57) : ([97, 99, 100] : List UInt8).contains b = false := by
  cases hc : ([97, 99, 100] : List UInt8).contains b with
  | false => rfl
  | true =>
    exfalso
    have hm := List.contains_iff_mem.1 hc
    simp only [List.mem_cons, List.not_mem_nil, or_false] at hm
    rcases hm with rfl | rfl | rfl <;> exact absurd h (by decide)
theorem acd_yes {c : UInt8} (h : c = 97 ∨ c = 99 ∨ c = 100) : ([97, 99, 100] : List UInt8).contains c = true := by
  rcases h with rfl | rfl | rfl <;> decide
theorem index_head (P Q : ByteArray) (c : UInt8) (hP : DigC P) (hc : c = 97 ∨ c = 99 ∨ c = 100) : Lib.indexAny (headP P Q c).data.toList [97, 99, 100] = (P.size : Int) := by
  refine Lib.indexAny_hit (fun j b hj hb => ?_) (headP_get P Q c) (acd_yes hc)
  obtain ⟨b', h1, h2⟩ := headP_low P Q c hP j hj
  rw [h1] at hb
  injection hb with hb
  rw [← hb]
  exact acd_no h2
theorem indexAny_lt (chars : List UInt8) : ∀ l : List UInt8, Lib.indexAny l chars < (l.length : Int)
  | [] => by simp [Lib.indexAny]
  | b :: l => by
    have ih := indexAny_lt chars l
    unfold Lib.indexAny
    simp only [List.length_cons]
    split
    · omega
    · split <;> omega
theorem IndexAny_eq (s : ByteArray) (hs : s.size ≤ 1000000) : strings_IndexAny.f s ⟨#[97, 99, 100]⟩ = some (Lib.indexAny s.data.toList [97, 99, 100]) := by
  unfold strings_IndexAny.f
  rw [if_pos ⟨rfl, hs⟩]
abbrev HT := Int × Int × List ByteArray × Int × Int × List ByteArray × Int × Bool
theorem head_j1 (s : ByteArray) (hs : s.size ≤ 3000) (i : Nat) (hi : i ≤ s.size) : ∃ (a b c d e : Int) (o : Bool), Ev (fun k => spec_l5Head.j1 k s (i : Int)) ((a, b, ([] : List ByteArray), c, d, ([] : List ByteArray), e, o) : HT) := by
  by_cases h : i = s.size
  · exact ⟨0, 0, 0, 0, 0, false, Ev.step (fun k => spec_l5Head.j1.eq_2 ..) (ev_pos (by omega) (ev_some rfl))⟩
  · have z : ∀ u v, (s.extract u v).size ≤ 1048576 := fun u v => by rw [ByteArray.size_extract]; omega
    have e1 := spec_ReadPair_ev (s.extract 0 i) (z _ _)
    have e2 := spec_ReadPair_ev (s.extract (i + 1) s.size) (z _ _)
    generalize endsR 0 (s.extract 0 i).data.toList = r1 at e1
    generalize endsR 0 (s.extract (i + 1) s.size).data.toList = r2 at e2
    have top : ∀ r : HT, Ev (fun k => (if r1.2.2 = true then (if r2.2.2 = true then (if (i : Int) < (s.size : Int) then (some ((r1.1, r1.2.1, ([] : List ByteArray), r2.1, r2.2.1, ([] : List ByteArray), bt s (i : Int), true) : HT)) else (none)) else (some (0, 0, ([] : List ByteArray), 0, 0, ([] : List ByteArray), 0, false))) else (some (0, 0, ([] : List ByteArray), 0, 0, ([] : List ByteArray), 0, false)))) r → Ev (fun k => spec_l5Head.j1 k s (i : Int)) r := by
      intro r hr
      refine Ev.step (fun k => spec_l5Head.j1.eq_2 ..) (ev_neg (by omega) (ev_pos (by omega) (ev_pos (by omega) ?_)))
      rw [Int.toNat_natCast, wrap_succ i (by omega), Int.toNat_natCast]
      exact ev_bind e1 (ev_pos (by omega) (ev_pos (by omega) (ev_bind e2 hr)))
    by_cases h1 : r1.2.2 = true
    · by_cases h2 : r2.2.2 = true
      · exact ⟨_, _, _, _, _, _, top _ (ev_pos h1 (ev_pos h2 (ev_pos (by omega) (ev_some rfl))))⟩
      · exact ⟨_, _, _, _, _, _, top _ (ev_pos h1 (ev_neg h2 (ev_some rfl)))⟩
    · exact ⟨_, _, _, _, _, _, top _ (ev_neg h1 (ev_some rfl))⟩
theorem head_some (s : ByteArray) (hs : s.size ≤ 3000) : ∀ d i, i + d = s.size → ∃ (a b c d e : Int) (o : Bool), Ev (fun k => spec_l5Head.l0 k s (i : Int)) ((a, b, ([] : List ByteArray), c, d, ([] : List ByteArray), e, o) : HT) := by
  intro d
  induction d with
  | zero =>
    intro i hi
    obtain ⟨a, b, c, d, e, o, h⟩ := head_j1 s hs i (by omega)
    exact ⟨a, b, c, d, e, o, Ev.step (fun k => spec_l5Head.l0.eq_2 ..) (ev_neg (by omega) h)⟩
  | succ d ih =>
    intro i hi
    obtain ⟨a, b, c, d', e, o, h⟩ := head_j1 s hs i (by omega)
    obtain ⟨a2, b2, c2, d2, e2, o2, h2⟩ := ih (i + 1) (by omega)
    rw [← wrap_succ i (by omega)] at h2
    by_cases x1 : bt s (i : Int) = 97
    · exact ⟨a, b, c, d', e, o, Ev.step (fun k => spec_l5Head.l0.eq_2 ..) (ev_pos (by omega) (ev_pos (by omega) (ev_pos x1 h)))⟩
    · by_cases x2 : bt s (i : Int) = 99
      · exact ⟨a, b, c, d', e, o, Ev.step (fun k => spec_l5Head.l0.eq_2 ..) (ev_pos (by omega) (ev_pos (by omega) (ev_neg x1 (ev_pos x2 h))))⟩
      · by_cases x3 : bt s (i : Int) = 100
        · exact ⟨a, b, c, d', e, o, Ev.step (fun k => spec_l5Head.l0.eq_2 ..) (ev_pos (by omega) (ev_pos (by omega) (ev_neg x1 (ev_neg x2 (ev_pos x3 h)))))⟩
        · exact ⟨a2, b2, c2, d2, e2, o2, Ev.step (fun k => spec_l5Head.l0.eq_2 ..) (ev_pos (by omega) (ev_pos (by omega) (ev_neg x1 (ev_neg x2 (ev_neg x3 h2)))))⟩
theorem head_good (a b c d : Nat) (kd : UInt8) (hk : kd = 97 ∨ kd = 99 ∨ kd = 100) (ha : a ≤ 1000) (hb : b ≤ 1000) (hc : c ≤ 1000) (hd : d ≤ 1000) (hab : a ≤ b) (hcd : c ≤ d) :
    Ev (fun k => spec_l5Head.f k (headP (pairV a b) (pairV c d) kd)) (((a : Int), (b : Int), ([] : List ByteArray), (c : Int), (d : Int), ([] : List ByteArray), (kd.toNat : Int), true) : HT) := by
  have hP := pairV_digc a b
  have z1 := pair_size a b ha hb
  have z2 := pair_size c d hc hd
  have r1 := ReadPair_pair a b ha hb hab
  have r2 := ReadPair_pair c d hc hd hcd
  generalize pairV a b = P at *
  generalize pairV c d = Q at *
  have hsz := headP_size P Q kd
  have hf := headP_front P Q kd
  have hbk := headP_back P Q kd
  have hg := bt_of (headP_get P Q kd)
  have hlow := headP_low P Q kd hP
  generalize headP P Q kd = s at *
  have last : Ev (fun k => spec_l5Head.j1 k s (P.size : Int)) (((a : Int), (b : Int), ([] : List ByteArray), (c : Int), (d : Int), ([] : List ByteArray), (kd.toNat : Int), true) : HT) := by
    refine Ev.step (fun k => spec_l5Head.j1.eq_2 ..) (ev_neg (by omega) (ev_pos (by omega) (ev_pos (by omega) ?_)))
    rw [Int.toNat_natCast, wrap_succ _ (by omega), Int.toNat_natCast, hf, hbk]
    exact ev_bind r1 (ev_pos (by omega) (ev_pos (by omega) (ev_bind r2 (ev_pos rfl (ev_pos rfl (ev_pos (by omega) (ev_some (by rw [hg.2]))))))))
  have scan : ∀ e i, i + e = P.size → Ev (fun k => spec_l5Head.l0 k s (i : Int)) (((a : Int), (b : Int), ([] : List ByteArray), (c : Int), (d : Int), ([] : List ByteArray), (kd.toNat : Int), true) : HT) := by
    intro e
    induction e with
    | zero =>
      intro i hi
      obtain rfl : i = P.size := by omega
      refine Ev.step (fun k => spec_l5Head.l0.eq_2 ..) (ev_pos (by omega) (ev_pos (by omega) ?_))
      rw [hg.2]
      rcases hk with rfl | rfl | rfl
      · exact ev_pos (by decide) last
      · exact ev_neg (by decide) (ev_pos (by decide) last)
      · exact ev_neg (by decide) (ev_neg (by decide) (ev_pos (by decide) last))
    | succ e ih =>
      intro i hi
      obtain ⟨b', h1, h2⟩ := hlow i (by omega)
      have hb' := (bt_of h1).2
      have nx := ih (i + 1) (by omega)
      rw [← wrap_succ i (by omega)] at nx
      refine Ev.step (fun k => spec_l5Head.l0.eq_2 ..) (ev_pos (by omega) (ev_pos (by omega) ?_))
      rw [hb']
      exact ev_neg (by omega) (ev_neg (by omega) (ev_neg (by omega) nx))
  simp only [spec_l5Head.f]
  exact scan P.size 0 (by omega)

structure StepG (x : IT) : Prop where
  ok : StepOK x
  ab : x.f0 ≤ x.f1
  cd : x.f3 ≤ x.f4
  ne : 0 < x.f2.length + x.f5.length
theorem told_le {f t : Int} {l : List ByteArray} (h : toldB f t l = true) : f ≤ t := by
  have hl := told_len h
  unfold toldB at h
  rw [Bool.and_eq_true, Bool.and_eq_true, Bool.and_eq_true, inB_iff, inB_iff] at h
  obtain ⟨h1, h2, _, h4⟩ := h
  unfold tellB at h4
  split at h4
  · exact Int.le_of_eq (beq_iff_eq.1 h4)
  · split at h4
    · rw [beq_iff_eq, wrap64_id (x := t - f) (by omega) (by omega), wrap64_id (by omega) (by omega)] at h4
      omega
    · cases h4
theorem stepG_of {x : IT} (h : stepB x = true) : StepG x := by
  refine ⟨stepOK_of h, ?_, ?_, ?_⟩
  all_goals
    unfold stepB at h
    rw [Bool.and_eq_true, Bool.and_eq_true, decide_eq_true_eq] at h
  · exact told_le h.1
  · exact told_le h.2.1
  · exact h.2.2
theorem goodT_g {p : List IT} (h : goodT p = true) : p.length ≤ 20 ∧ ∀ x ∈ p, StepG x := by
  unfold goodT at h
  rw [Bool.and_eq_true, decide_eq_true_eq] at h
  exact ⟨h.1, fun x hx => stepG_of (List.all_eq_true.1 h.2 x hx)⟩
theorem preB_head {s g : ByteArray} (h : preB s g = true) (hz : 0 < g.size) : s.data.toList.head? = g.data.toList.head? := by
  unfold preB at h
  rw [Bool.and_eq_true, decide_eq_true_eq, beq_iff_eq, Lib.toList_data, Lib.toList_data, ByteArray.data_extract, Array.toList_extract, List.extract_eq_take_drop, List.drop_zero, Nat.sub_zero] at h
  rw [← h.2]
  have hz' := hz
  cases hs : s.data.toList with
  | nil => rw [List.take_nil]
  | cons b t =>
    obtain ⟨m, hm⟩ : ∃ m, g.size = m + 1 := ⟨g.size - 1, by omega⟩
    rw [hm]
    rfl
theorem headL_first (x : IT) : ∃ b, (headL x).data.toList.head? = some b ∧ 48 ≤ b.toNat ∧ b.toNat ≤ 57 := by
  have hn := decDigits_ne x.f0.toNat
  have hd := num_digits x.f0.toNat
  rw [num_data] at hd
  cases hl : Lib.decDigits x.f0.toNat with
  | nil => exact absurd hl hn
  | cons b t =>
    refine ⟨b, ?_, hd b (by rw [hl]; exact List.mem_cons_self ..)⟩
    unfold headL headV pairV
    split
    · simp only [app_list, num_data, hl, List.cons_append, List.head?_cons]
    · simp only [app_list, num_data, hl, List.cons_append, List.head?_cons]
theorem stop_of {g y : ByteArray} {t : List ByteArray} {b c : UInt8} (hz : 0 < g.size) (hy : y.data.toList.head? = some b) (hg : g.data.toList.head? = some c) (h1 : b ≠ c) (h2 : b ≠ 92) : Stop g (y :: t) := by
  constructor
  · cases hp : preB y g with
    | false => rfl
    | true =>
      have := preB_head hp hz
      rw [hy, hg] at this
      injection this with this
      exact absurd this h1
  · intro e
    rw [e] at hy
    exact h2 (by injection hy with hy; exact hy.symm)
theorem stop_lines (g : ByteArray) (c : UInt8) (hz : 0 < g.size) (hg : g.data.toList.head? = some c) (hc : 57 < c.toNat) : ∀ p : List IT, Stop g (linesT p)
  | [] => trivial
  | x :: t => by
    obtain ⟨b, h1, h2, h3⟩ := headL_first x
    exact stop_of hz h1 hg (fun e => by rw [e] at h3; omega) (fun e => by rw [e] at h3; exact absurd h3 (by decide))
theorem lt_head : lt_.data.toList.head? = some 60 := rfl
theorem gt_head : gt_.data.toList.head? = some 62 := rfl
def dash : ByteArray := ⟨#[45, 45, 45, 10]⟩
theorem stop_dash (t : List ByteArray) : Stop lt_ (dash :: t) := stop_of (b := 45) (by decide) rfl lt_head (by decide) (by decide)
theorem takeShown_good (g : ByteArray) (c : UInt8) (hg : g.data.toList.head? = some c) (hc : c ≠ 92) (hz : 0 < g.size) (hz2 : g.size ≤ 2) (rest l : List ByteArray) (hr : Stop g rest) (h : ∀ s ∈ l, isLn s = true) (hl : l.length ≤ 40) : Ev (fun k => impl_takeShown.f k (showL g l ++ rest) g) (l, rest) := by
  have := take_good g (by rw [hg]; intro e; injection e with e; exact hc e) hz hz2 rest hr l [] h (by simp only [List.length_nil]; omega)
  rw [List.nil_append] at this
  simp only [impl_takeShown.f]
  exact this
def StB (p : List IT) : Prop := ∀ x ∈ p, RowB x.f2 ∧ RowB x.f5
theorem rowB_nil : RowB [] := ⟨Nat.zero_le _, fun s hs => by cases hs⟩
theorem stB_nil : StB [] := fun x hx => by cases hx
theorem stB_app {p : List IT} (hp : StB p) {x : IT} (h2 : RowB x.f2) (h5 : RowB x.f5) : StB (p ++ [x]) := fun y hy => by
  rcases List.mem_append.1 hy with hy | hy
  · exact hp y hy
  · rw [List.mem_singleton.1 hy]; exact ⟨h2, h5⟩
theorem takeShown_some (g : ByteArray) (l : List ByteArray) (h : l.length ≤ 4000) (hL : LnB l) : ∃ r, Ev (fun k => impl_takeShown.f k l g) r ∧ RowB r.1 ∧ r.2.length ≤ l.length ∧ LnB r.2 := by
  simp only [impl_takeShown.f]
  exact take_some g l.length l [] (Nat.le_refl _) (by simpa using h) hL rowB_nil
def Ans (f : Nat → Option (List IT × Bool)) : Prop := ∃ r, Ev f r ∧ r.1.length ≤ 4000 ∧ StB r.1
theorem ans_bad : Ans (fun _ => some (([] : List IT), false)) := ⟨_, ev_some rfl, Nat.zero_le _, stB_nil⟩
theorem rs_some : ∀ (n : Nat) (l : List ByteArray) (acc : List IT), l.length ≤ n → n + acc.length ≤ 4000 → LnB l → StB acc → Ans (fun k => impl_readSteps.l0 k l acc) := by
  intro n
  induction n with
  | zero =>
    intro l acc hl hn hL hS
    have : l = [] := List.eq_nil_of_length_eq_zero (by omega)
    subst this
    exact ⟨_, Ev.step (fun k => impl_readSteps.l0.eq_2 ..) (ev_neg (by simp) (ev_some rfl)), by show acc.length ≤ 4000; omega, hS⟩
  | succ n ih =>
    intro l acc hl hn hL hS
    cases l with
    | nil => exact ⟨_, Ev.step (fun k => impl_readSteps.l0.eq_2 ..) (ev_neg (by simp) (ev_some rfl)), by show acc.length ≤ 4000; omega, hS⟩
    | cons x l =>
    simp only [List.length_cons] at hl
    have hx := hL x (List.mem_cons_self ..)
    have hLl := lnB_tail hL
    have cont : ∀ (l' : List ByteArray) (y : IT), l'.length ≤ n → LnB l' → RowB y.f2 → RowB y.f5 → Ans (fun k => impl_readSteps.l0 k l' (acc ++ [y])) := fun l' y h1 h2 h3 h4 =>
      ih l' (acc ++ [y]) h1 (by rw [List.length_append, List.length_singleton]; omega) h2 (stB_app hS h3 h4)
    have j4 : ∀ (x0 : List ByteArray) (h : ByteArray) (i : Nat) (b : Bool) (a1 a2 a3 a4 : Int) (old : List ByteArray), x0.length ≤ n → LnB x0 → i < h.size → (b = false → 1 ≤ x0.length) → RowB old → Ans (fun k => impl_readSteps.j4 k x0 acc h (i : Int) b a1 a2 old a3 a4) := by
      intro x0 h i b a1 a2 a3 a4 old h1 h2 h3 h4 h5
      cases b with
      | true =>
        obtain ⟨r, er, hr⟩ := ans_bad
        exact ⟨r, Ev.step (fun k => impl_readSteps.j4.eq_2 ..) (ev_pos rfl er), hr⟩
      | false =>
        have h4 := h4 rfl
        have hd : (x0.drop 1).length ≤ n := by rw [List.length_drop]; omega
        have hdB := lnB_drop h2 1
        by_cases hb : bt h (i : Int) = 100
        · obtain ⟨r, er, hr⟩ := cont (x0.drop 1) ⟨a1, a2, old, a3, a4, []⟩ hd hdB h5 rowB_nil
          exact ⟨r, Ev.step (fun k => impl_readSteps.j4.eq_2 ..) (ev_neg (by simp) (ev_pos (by omega) (ev_bind (ev_const rfl) (ev_pos (by omega) (ev_pos (by omega) (ev_pos hb (ev_pos (by omega) er))))))), hr⟩
        · obtain ⟨q, eq, q1, q2, q3⟩ := takeShown_some ⟨#[62, 32]⟩ (x0.drop 1) (by omega) hdB
          obtain ⟨r, er, hr⟩ := cont q.2 ⟨a1, a2, old, a3, a4, q.1⟩ (by omega) q3 h5 q1
          exact ⟨r, Ev.step (fun k => impl_readSteps.j4.eq_2 ..) (ev_neg (by simp) (ev_pos (by omega) (ev_bind (ev_const rfl) (ev_pos (by omega) (ev_pos (by omega) (ev_neg hb (ev_bind eq (ev_pos (by omega) er)))))))), hr⟩
    have j3 : ∀ (x0 : List ByteArray) (h : ByteArray) (i : Nat) (a1 a2 a3 a4 : Int) (old : List ByteArray), x0.length ≤ n → LnB x0 → i < h.size → RowB old → Ans (fun k => impl_readSteps.j3 k x0 acc h (i : Int) a1 a2 old a3 a4) := by
      intro x0 h i a1 a2 a3 a4 old h1 h2 h3 h5
      by_cases hb : bt h (i : Int) = 99
      · by_cases h0 : (x0.length : Int) = 0
        · obtain ⟨r, er, hr⟩ := j4 x0 h i true a1 a2 a3 a4 old h1 h2 h3 (fun e => by cases e) h5
          exact ⟨r, Ev.step (fun k => impl_readSteps.j3.eq_2 ..) (ev_pos (by omega) (ev_pos (by omega) (ev_pos hb (ev_pos h0 er)))), hr⟩
        · obtain ⟨r, er, hr⟩ := j4 x0 h i ((rdOf ByteArray.empty x0 0).toList != ([45, 45, 45, 10] : List UInt8)) a1 a2 a3 a4 old h1 h2 h3 (fun e => by omega) h5
          exact ⟨r, Ev.step (fun k => impl_readSteps.j3.eq_2 ..) (ev_pos (by omega) (ev_pos (by omega) (ev_pos hb (ev_neg h0 (ev_pos (by omega) er))))), hr⟩
      · by_cases hb2 : bt h (i : Int) = 100
        · obtain ⟨r, er, hr⟩ := cont x0 ⟨a1, a2, old, a3, a4, []⟩ h1 h2 h5 rowB_nil
          exact ⟨r, Ev.step (fun k => impl_readSteps.j3.eq_2 ..) (ev_pos (by omega) (ev_pos (by omega) (ev_neg hb (ev_pos hb2 (ev_pos (by omega) er))))), hr⟩
        · obtain ⟨q, eq, q1, q2, q3⟩ := takeShown_some ⟨#[62, 32]⟩ x0 (by omega) h2
          obtain ⟨r, er, hr⟩ := cont q.2 ⟨a1, a2, old, a3, a4, q.1⟩ (by omega) q3 h5 q1
          exact ⟨r, Ev.step (fun k => impl_readSteps.j3.eq_2 ..) (ev_pos (by omega) (ev_pos (by omega) (ev_neg hb (ev_neg hb2 (ev_bind eq (ev_pos (by omega) er)))))), hr⟩
    have j2 : ∀ (h : ByteArray) (i : Nat) (b : Bool) (a1 a2 a3 a4 : Int), i < h.size → Ans (fun k => impl_readSteps.j2 k (x :: l) acc h (i : Int) b a1 a2 a3 a4) := by
      intro h i b a1 a2 a3 a4 h3
      cases b with
      | true =>
        obtain ⟨r, er, hr⟩ := ans_bad
        exact ⟨r, Ev.step (fun k => impl_readSteps.j2.eq_2 ..) (ev_pos rfl er), hr⟩
      | false =>
        by_cases hb : bt h (i : Int) = 97
        · obtain ⟨r, er, hr⟩ := j3 l h i a1 a2 a3 a4 [] (by omega) hLl h3 rowB_nil
          exact ⟨r, Ev.step (fun k => impl_readSteps.j2.eq_2 ..) (ev_neg (by simp) (ev_pos (by simp only [List.length_cons]; omega) (ev_bind (ev_const rfl) (ev_pos (by omega) (ev_pos (by omega) (ev_pos hb er)))))), hr⟩
        · obtain ⟨q, eq, q1, q2, q3⟩ := takeShown_some ⟨#[60, 32]⟩ l (by omega) hLl
          obtain ⟨r, er, hr⟩ := j3 q.2 h i a1 a2 a3 a4 q.1 (by omega) q3 h3 q1
          exact ⟨r, Ev.step (fun k => impl_readSteps.j2.eq_2 ..) (ev_neg (by simp) (ev_pos (by simp only [List.length_cons]; omega) (ev_bind (ev_const rfl) (ev_pos (by omega) (ev_pos (by omega) (ev_neg hb (ev_bind eq er))))))), hr⟩
    have hpz : (plainB x).size ≤ 3000 := by
      unfold plainB
      split
      · rw [ByteArray.size_extract]; omega
      · omega
    have j1 : ∀ (h : ByteArray) (v : Int) (b : Bool), h.size ≤ 3000 → v < (h.size : Int) → (b = false → 0 ≤ v) → Ans (fun k => impl_readSteps.j1 k (x :: l) acc h v b) := by
      intro h v b hz hv hb
      cases b with
      | true =>
        obtain ⟨r, er, hr⟩ := ans_bad
        exact ⟨r, Ev.step (fun k => impl_readSteps.j1.eq_2 ..) (ev_pos rfl er), hr⟩
      | false =>
        have h0 := hb rfl
        obtain ⟨i, rfl⟩ : ∃ i : Nat, v = (i : Int) := ⟨v.toNat, by omega⟩
        have z : ∀ u w, (h.extract u w).size ≤ 1048576 := fun u w => by rw [ByteArray.size_extract]; omega
        obtain ⟨r1, e1, _⟩ := readTwo_ev (h.extract 0 i) (z _ _)
        obtain ⟨r2, e2, _⟩ := readTwo_ev (h.extract (i + 1) h.size) (z _ _)
        have top : ∀ r, Ev (fun k => (if r1.2.2.2 = true then (impl_readSteps.j2 k (x :: l) acc h (i : Int) (!r2.2.2.2) r1.1 r1.2.1 r2.1 r2.2.1) else (impl_readSteps.j2 k (x :: l) acc h (i : Int) true r1.1 r1.2.1 r2.1 r2.2.1))) r → Ev (fun k => impl_readSteps.j1 k (x :: l) acc h (i : Int) false) r := by
          intro r hr
          refine Ev.step (fun k => impl_readSteps.j1.eq_2 ..) (ev_neg (by simp) (ev_pos (by omega) (ev_pos (by omega) ?_)))
          rw [Int.toNat_natCast, wrap_succ i (by omega), Int.toNat_natCast]
          exact ev_bind e1 (ev_pos (by omega) (ev_pos (by omega) (ev_bind e2 hr)))
        by_cases ho : r1.2.2.2 = true
        · obtain ⟨r, er, hr⟩ := j2 h i (!r2.2.2.2) r1.1 r1.2.1 r2.1 r2.2.1 (by omega)
          exact ⟨r, top r (ev_pos ho er), hr⟩
        · obtain ⟨r, er, hr⟩ := j2 h i true r1.1 r1.2.1 r2.1 r2.2.1 (by omega)
          exact ⟨r, top r (ev_neg ho er), hr⟩
    have hlt := indexAny_lt [97, 99, 100] (plainB x).data.toList
    rw [data_length] at hlt
    have top : ∀ r, Ev (fun k => (if Lib.indexAny (plainB x).data.toList [97, 99, 100] < 0 then (impl_readSteps.j1 k (x :: l) acc (plainB x) (Lib.indexAny (plainB x).data.toList [97, 99, 100]) true) else (impl_readSteps.j1 k (x :: l) acc (plainB x) (Lib.indexAny (plainB x).data.toList [97, 99, 100]) ((acc.length : Int) == 20)))) r → Ev (fun k => impl_readSteps.l0 k (x :: l) acc) r := by
      intro r hr
      refine Ev.step (fun k => impl_readSteps.l0.eq_2 ..) (ev_pos (by simp only [List.length_cons]; omega) (ev_pos (by simp only [List.length_cons]; omega) ?_))
      rw [show rdOf ByteArray.empty (x :: l) 0 = x from rfl]
      exact ev_bind (ev_const (plain_eq x (by omega))) (ev_bind (ev_const (IndexAny_eq _ (by omega))) hr)
    by_cases hneg : Lib.indexAny (plainB x).data.toList [97, 99, 100] < 0
    · obtain ⟨r, er, hr⟩ := j1 (plainB x) _ true hpz hlt (fun e => by cases e)
      exact ⟨r, top r (ev_pos hneg er), hr⟩
    · obtain ⟨r, er, hr⟩ := j1 (plainB x) _ ((acc.length : Int) == 20) hpz hlt (fun _ => by omega)
      exact ⟨r, top r (ev_neg hneg er), hr⟩
theorem it_eta (x : IT) (h : StepOK x) : (⟨((x.f0.toNat : Nat) : Int), ((x.f1.toNat : Nat) : Int), x.f2, ((x.f3.toNat : Nat) : Int), ((x.f4.toNat : Nat) : Int), x.f5⟩ : IT) = x := by
  have h0 := h.a0; have h1 := h.a1; have h3 := h.a3; have h4 := h.a4
  exact it_ext (Int.toNat_of_nonneg h0.1) (Int.toNat_of_nonneg h1.1) rfl (Int.toNat_of_nonneg h3.1) (Int.toNat_of_nonneg h4.1) rfl
theorem rs_good : ∀ (p acc : List IT), (∀ x ∈ p, StepG x) → acc.length + p.length ≤ 20 → Ev (fun k => impl_readSteps.l0 k (linesT p) acc) (acc ++ p, true)
  | [], acc, _, _ => by
    rw [List.append_nil]
    exact Ev.step (fun k => impl_readSteps.l0.eq_2 ..) (ev_neg (by simp [linesT]) (ev_some rfl))
  | x :: p, acc, h, hl => by
    simp only [List.length_cons] at hl
    have hx := h x (List.mem_cons_self ..)
    have hk := hx.ok
    have ih := rs_good p (acc ++ [x]) (fun y hy => h y (List.mem_cons_of_mem _ hy)) (by rw [List.length_append, List.length_singleton]; omega)
    rw [List.append_assoc, List.singleton_append] at ih
    have eta := it_eta x hk
    have a0 := hk.a0; have a1 := hk.a1; have a3 := hk.a3; have a4 := hk.a4
    have hlines : linesT (x :: p) = headL x :: ((showL lt_ x.f2 ++ (midL x ++ showL gt_ x.f5)) ++ linesT p) := rfl
    have hP := pairV_digc x.f0.toNat x.f1.toNat
    obtain ⟨c1, t1⟩ := readTwo_pair x.f0.toNat x.f1.toNat (by omega) (by omega)
    obtain ⟨c2, t2⟩ := readTwo_pair x.f3.toNat x.f4.toNat (by omega) (by omega)
    have z1 := pair_size x.f0.toNat x.f1.toNat (by omega) (by omega)
    have z2 := pair_size x.f3.toNat x.f4.toNat (by omega) (by omega)
    have hH := headL_eq x
    have hin := index_head (pairV x.f0.toNat x.f1.toNat) (pairV x.f3.toNat x.f4.toNat) (kc x) hP (kc_abc x)
    have hf := headP_front (pairV x.f0.toNat x.f1.toNat) (pairV x.f3.toNat x.f4.toNat) (kc x)
    have hb := headP_back (pairV x.f0.toNat x.f1.toNat) (pairV x.f3.toNat x.f4.toNat) (kc x)
    have hsz := headP_size (pairV x.f0.toNat x.f1.toNat) (pairV x.f3.toNat x.f4.toNat) (kc x)
    have hg := bt_of (headP_get (pairV x.f0.toNat x.f1.toNat) (pairV x.f3.toNat x.f4.toNat) (kc x))
    generalize headP (pairV x.f0.toNat x.f1.toNat) (pairV x.f3.toNat x.f4.toNat) (kc x) = H at *
    generalize pairV x.f0.toNat x.f1.toNat = P at *
    generalize pairV x.f3.toNat x.f4.toNat = Q at *
    rw [hlines]
    generalize hT : (showL lt_ x.f2 ++ (midL x ++ showL gt_ x.f5)) ++ linesT p = T
    have hgt : ∀ l : List ByteArray, l = x.f5 → Ev (fun k => impl_takeShown.f k (showL gt_ l ++ linesT p) gt_) (l, linesT p) := fun l e =>
      takeShown_good gt_ 62 gt_head (by decide) (by decide) (by decide) (linesT p) l (stop_lines gt_ 62 (by decide) gt_head (by decide) p) (by rw [e]; exact hk.i5) (by rw [e]; exact hk.l5)
    have main : Ev (fun k => impl_readSteps.j2 k (headL x :: T) acc H (P.size : Int) false (x.f0.toNat : Int) (x.f1.toNat : Int) (x.f3.toNat : Int) (x.f4.toNat : Int)) (acc ++ x :: p, true) := by
      refine Ev.step (fun k => impl_readSteps.j2.eq_2 ..) (ev_neg (by simp) (ev_pos (by simp only [List.length_cons]; omega) (ev_bind (ev_const rfl) (ev_pos (by omega) (ev_pos (by omega) ?_)))))
      rw [hg.2, show (headL x :: T).drop 1 = T from rfl]
      by_cases e2 : x.f2.length = 0
      · have k97 : kc x = 97 := by unfold kc; rw [if_pos e2]
        have f2 : x.f2 = [] := List.eq_nil_of_length_eq_zero e2
        have hT2 : T = showL gt_ x.f5 ++ linesT p := by
          rw [← hT, f2]
          unfold midL
          rw [if_pos e2]
          rfl
        rw [k97]
        refine ev_pos (by decide) (Ev.step (fun k => impl_readSteps.j3.eq_2 ..) (ev_pos (by omega) (ev_pos (by omega) ?_)))
        rw [hg.2, k97, hT2]
        refine ev_neg (by decide) (ev_neg (by decide) (ev_bind (hgt _ rfl) (ev_pos (by omega) ?_)))
        rw [f2] at eta
        rw [eta]
        exact ih
      · have tk : ∀ rest, Stop lt_ rest → Ev (fun k => impl_takeShown.f k (showL lt_ x.f2 ++ rest) lt_) (x.f2, rest) := fun rest hr => takeShown_good lt_ 60 lt_head (by decide) (by decide) (by decide) rest x.f2 hr hk.i2 hk.l2
        by_cases e5 : x.f5.length = 0
        · have k100 : kc x = 100 := by unfold kc; rw [if_neg e2, if_pos e5]
          have f5 : x.f5 = [] := List.eq_nil_of_length_eq_zero e5
          have hT2 : T = showL lt_ x.f2 ++ linesT p := by
            rw [← hT, f5]
            unfold midL
            rw [if_neg e2, if_pos e5]
            simp [showL]
          rw [k100, hT2]
          refine ev_neg (by decide) (ev_bind (tk _ (stop_lines lt_ 60 (by decide) lt_head (by decide) p)) (Ev.step (fun k => impl_readSteps.j3.eq_2 ..) (ev_pos (by omega) (ev_pos (by omega) ?_))))
          rw [hg.2, k100]
          refine ev_neg (by decide) (ev_pos (by decide) (ev_pos (by omega) ?_))
          rw [f5] at eta
          rw [eta]
          exact ih
        · have k99 : kc x = 99 := by unfold kc; rw [if_neg e2, if_neg e5]
          have hT2 : T = showL lt_ x.f2 ++ (dash :: (showL gt_ x.f5 ++ linesT p)) := by
            rw [← hT]
            unfold midL
            rw [if_neg e2, if_neg e5, List.append_assoc]
            rfl
          rw [k99, hT2]
          refine ev_neg (by decide) (ev_bind (tk _ (stop_dash _)) (Ev.step (fun k => impl_readSteps.j3.eq_2 ..) (ev_pos (by omega) (ev_pos (by omega) ?_))))
          rw [hg.2, k99]
          refine ev_pos (by decide) (ev_neg (by simp only [List.length_cons]; omega) (ev_pos (by simp only [List.length_cons]; omega) ?_))
          have hd : ((rdOf ByteArray.empty (dash :: (showL gt_ x.f5 ++ linesT p)) 0).toList != ([45, 45, 45, 10] : List UInt8)) = false := by
            rw [show rdOf ByteArray.empty (dash :: (showL gt_ x.f5 ++ linesT p)) 0 = dash from rfl, Lib.toList_data]
            decide
          rw [hd]
          refine Ev.step (fun k => impl_readSteps.j4.eq_2 ..) (ev_neg (by simp) (ev_pos (by simp only [List.length_cons]; omega) (ev_bind (ev_const rfl) (ev_pos (by omega) (ev_pos (by omega) ?_)))))
          rw [hg.2, k99]
          refine ev_neg (by decide) (ev_bind (hgt _ rfl) (ev_pos (by omega) ?_))
          rw [eta]
          exact ih
    refine Ev.step (fun k => impl_readSteps.l0.eq_2 ..) (ev_pos (by simp only [List.length_cons]; omega) (ev_pos (by simp only [List.length_cons]; omega) ?_))
    rw [show rdOf ByteArray.empty (headL x :: T) 0 = headL x from rfl]
    have hz : (headL x).size = H.size + 1 := by rw [hH, ByteArray.size_append]; rfl
    refine ev_bind (ev_const (plain_eq _ (by omega))) ?_
    rw [hH, plainB_nl]
    refine ev_bind (ev_const (IndexAny_eq H (by omega))) ?_
    rw [hin]
    rw [hH] at main
    refine ev_neg (by omega) ?_
    have h20 : ((acc.length : Int) == 20) = false := beq_eq_false_iff_ne.2 (by omega)
    rw [h20]
    refine Ev.step (fun k => impl_readSteps.j1.eq_2 ..) (ev_neg (by simp) (ev_pos (by omega) (ev_pos (by omega) ?_)))
    rw [Int.toNat_natCast, wrap_succ _ (by omega), Int.toNat_natCast, hf, hb]
    exact ev_bind t1 (ev_pos (by omega) (ev_pos (by omega) (ev_bind t2 (ev_pos rfl main))))

theorem at_drop {L : List ByteArray} {i : Nat} {x : ByteArray} {t : List ByteArray} (h : L.drop i = x :: t) : i < L.length ∧ rdOf ByteArray.empty L (i : Int) = x ∧ L.drop (i + 1) = t := by
  have hi : i < L.length := by
    rcases Nat.lt_or_ge i L.length with c | c
    · exact c
    · rw [List.drop_of_length_le c] at h; cases h
  rw [List.drop_eq_getElem_cons hi] at h
  injection h with h1 h2
  exact ⟨hi, by rw [rdOf_lt _ _ _ hi, h1], h2⟩
theorem drop_nil_ge {L : List ByteArray} {i : Nat} (h : L.drop i = []) : L.length ≤ i := List.drop_eq_nil_iff.1 h
theorem takeS_stop (g : ByteArray) (L : List ByteArray) (i : Nat) (acc rest : List ByteArray) (hL : L.length ≤ 4000) (hd : L.drop i = rest) (hr : Stop g rest) : Ev (fun k => spec_l5Take.l0 k L g acc (i : Int)) (acc, (i : Int)) := by
  cases rest with
  | nil =>
    have := drop_nil_ge hd
    exact Ev.step (fun k => spec_l5Take.l0.eq_2 ..) (ev_neg (by omega) (ev_some rfl))
  | cons y t =>
    obtain ⟨h1, h2, h3⟩ := at_drop hd
    refine Ev.step (fun k => spec_l5Take.l0.eq_2 ..) (ev_pos (by omega) (ev_pos (by omega) ?_))
    rw [h2]
    have stop : ∀ b : Bool, b = true → Ev (fun k => spec_l5Take.j1 k L g acc (i : Int) y b) (acc, (i : Int)) := fun b hb => Ev.step (fun k => spec_l5Take.j1.eq_2 ..) (ev_pos hb (ev_some rfl))
    refine ev_ite (fun c => stop true rfl) (fun c => ev_pos (by omega) (ev_pos (by omega) (stop _ ?_)))
    have hp := hr.1
    unfold preB at hp
    rw [decide_eq_true (by omega), Bool.true_and] at hp
    simpa using hp
theorem takeS_step (g : ByteArray) (L : List ByteArray) (i : Nat) (acc : List ByteArray) (x : ByteArray) (t : List ByteArray) (hL : L.length ≤ 4000) (hd : L.drop i = x :: t) (hp : preB x g = true) (hz : g.size < x.size) {R : List ByteArray × Int}
    (h : Ev (fun k => spec_l5Take.j1 k L g acc (i : Int) x false) R) : Ev (fun k => spec_l5Take.l0 k L g acc (i : Int)) R := by
  obtain ⟨h1, h2, h3⟩ := at_drop hd
  refine Ev.step (fun k => spec_l5Take.l0.eq_2 ..) (ev_pos (by omega) (ev_pos (by omega) ?_))
  rw [h2]
  refine ev_neg (by omega) (ev_pos (by omega) (ev_pos (by omega) ?_))
  unfold preB at hp
  rw [Bool.and_eq_true, beq_iff_eq] at hp
  have e : ((x.extract 0 ((g.size : Int) : Int).toNat).toList != g.toList) = false := by
    rw [Int.toNat_natCast, hp.2]; simp
  rw [e]
  exact h
theorem takeS_plain (g : ByteArray) (L : List ByteArray) (i : Nat) (acc : List ByteArray) (x : ByteArray) (t : List ByteArray) (hL : L.length ≤ 4000) (hd : L.drop i = x :: t) (hz : g.size ≤ x.size) (ha : acc.length ≤ 4000) (hm : headNot t) {R : List ByteArray × Int}
    (h : Ev (fun k => spec_l5Take.l0 k L g (acc ++ [x.extract g.size x.size]) ((i + 1 : Nat) : Int)) R) : Ev (fun k => spec_l5Take.j1 k L g acc (i : Int) x false) R := by
  obtain ⟨h1, h2, h3⟩ := at_drop hd
  refine Ev.step (fun k => spec_l5Take.j1.eq_2 ..) (ev_neg (by simp) (ev_pos (by omega) (ev_pos (by omega) ?_)))
  rw [wrap_succ i (by omega), Int.toNat_natCast]
  cases t with
  | nil =>
    have := drop_nil_ge h3
    exact ev_neg (by omega) (ev_pos (by omega) h)
  | cons y t =>
    obtain ⟨g1, g2, g3⟩ := at_drop h3
    refine ev_pos (by omega) (ev_pos (by omega) ?_)
    rw [g2]
    exact ev_neg (fun e => hm y rfl ((mark_iff y).1 e)) (ev_pos (by omega) h)
theorem takeS_mark (g : ByteArray) (L : List ByteArray) (i : Nat) (acc : List ByteArray) (x : ByteArray) (t : List ByteArray) (hL : L.length ≤ 4000) (hd : L.drop i = x :: markB :: t) (hz : g.size < x.size) (hx : x.size ≤ 100000) (ha : acc.length ≤ 4000) {R : List ByteArray × Int}
    (h : Ev (fun k => spec_l5Take.l0 k L g (acc ++ [(x.extract g.size x.size).extract 0 (x.size - g.size - 1)]) ((i + 2 : Nat) : Int)) R) : Ev (fun k => spec_l5Take.j1 k L g acc (i : Int) x false) R := by
  obtain ⟨h1, h2, h3⟩ := at_drop hd
  obtain ⟨g1, g2, g3⟩ := at_drop h3
  have hs : (x.extract g.size x.size).size = x.size - g.size := by rw [ByteArray.size_extract]; omega
  refine Ev.step (fun k => spec_l5Take.j1.eq_2 ..) (ev_neg (by simp) (ev_pos (by omega) (ev_pos (by omega) ?_)))
  rw [wrap_succ i (by omega), Int.toNat_natCast, wrap_succ (i + 1) (by omega), hs, wrap_pred _ (by omega) (by omega), Int.toNat_natCast]
  refine ev_pos (by omega) (ev_pos (by omega) ?_)
  rw [g2]
  exact ev_pos ((mark_iff markB).2 rfl) (ev_pos (by omega) (ev_pos (by omega) (ev_pos (by omega) h)))
theorem takeS_good (g : ByteArray) (hg : g.data.toList.head? ≠ some 92) (hz : 0 < g.size) (hz2 : g.size ≤ 2) (L rest : List ByteArray) (hL : L.length ≤ 4000) (hr : Stop g rest) : ∀ (l acc : List ByteArray) (i : Nat), (∀ s ∈ l, isLn s = true) → acc.length + l.length ≤ 4000 → L.drop i = showL g l ++ rest →
    Ev (fun k => spec_l5Take.l0 k L g acc (i : Int)) (acc ++ l, ((i + (showL g l).length : Nat) : Int))
  | [], acc, i, _, _, hd => by rw [List.append_nil]; exact takeS_stop g L i acc rest hL hd hr
  | s :: l, acc, i, h, hl, hd => by
    have hs := isLn_parts (h s (List.mem_cons_self ..))
    have hh := showL_head hg hz l rest hr
    simp only [List.length_cons] at hl
    have hk := fun z (hz : z ∈ l) => h z (List.mem_cons_of_mem _ hz)
    simp only [showL] at hd ⊢
    by_cases he : ends s = true
    · rw [if_pos he, List.cons_append] at hd
      rw [if_pos he]
      have ih := takeS_good g hg hz hz2 L rest hL hr l (acc ++ [s]) (i + 1) hk (by rw [List.length_append, List.length_singleton]; omega) (at_drop hd).2.2
      rw [List.append_assoc, List.singleton_append] at ih
      refine takeS_step g L i acc _ _ hL hd (preB_app g s) (by rw [ByteArray.size_append]; omega) (takeS_plain g L i acc _ _ hL hd (by rw [ByteArray.size_append]; omega) (by omega) hh ?_)
      rw [extract_back]
      exact ev_to ih (by simp only [List.length_cons]; rw [show i + 1 + (showL g l).length = i + ((showL g l).length + 1) by omega])
    · rw [if_neg he, List.cons_append, List.cons_append, ByteArray.append_assoc] at hd
      rw [if_neg he]
      have ih := takeS_good g hg hz hz2 L rest hL hr l (acc ++ [s]) (i + 2) hk (by rw [List.length_append, List.length_singleton]; omega) (at_drop (at_drop hd).2.2).2.2
      rw [List.append_assoc, List.singleton_append] at ih
      have hsz : (g ++ (s ++ nl)).size = g.size + (s.size + 1) := by rw [ByteArray.size_append, ByteArray.size_append]; rfl
      refine takeS_step g L i acc _ _ hL hd (preB_app g (s ++ nl)) (by omega) (takeS_mark g L i acc _ _ hL hd (by omega) (by omega) (by omega) ?_)
      have e1 : (g ++ (s ++ nl)).size - g.size - 1 = s.size := by omega
      rw [extract_back, e1, extract_front]
      exact ev_to ih (by simp only [List.length_cons]; rw [show i + 2 + (showL g l).length = i + ((showL g l).length + 1 + 1) by omega])
theorem takeS_some (g : ByteArray) (L : List ByteArray) (hL : L.length ≤ 4000) (hB : LnB L) : ∀ (n i : Nat) (acc : List ByteArray), L.length - i ≤ n → i ≤ L.length → acc.length ≤ i → RowB acc →
    ∃ r m, Ev (fun k => spec_l5Take.l0 k L g acc (i : Int)) (r, ((m : Nat) : Int)) ∧ RowB r ∧ i ≤ m ∧ m ≤ L.length := by
  intro n
  induction n using Nat.strongRecOn with
  | ind n ih =>
  intro i acc hn hi ha hR
  cases hd : L.drop i with
  | nil => exact ⟨acc, i, takeS_stop g L i acc [] hL hd trivial, hR, Nat.le_refl _, hi⟩
  | cons x t =>
    obtain ⟨h1, h2, h3⟩ := at_drop hd
    have hxm : x ∈ L := List.mem_of_mem_drop (by rw [hd]; exact List.mem_cons_self ..)
    have hx := hB x hxm
    by_cases hq : preB x g = true ∧ g.size < x.size
    · obtain ⟨hp, hz⟩ := hq
      have row : ∀ s : ByteArray, s.size ≤ 3000 → RowB (acc ++ [s]) := fun s hs => ⟨by rw [List.length_append, List.length_singleton]; omega, fun z hz => by
        rcases List.mem_append.1 hz with hz | hz
        · exact hR.2 z hz
        · rw [List.mem_singleton.1 hz]; exact hs⟩
      by_cases hm : headNot t
      · obtain ⟨r, m, er, g1, g2, g3⟩ := ih (n - 1) (by omega) (i + 1) (acc ++ [x.extract g.size x.size]) (by omega) (by omega) (by rw [List.length_append, List.length_singleton]; omega) (row _ (by rw [ByteArray.size_extract]; omega))
        exact ⟨r, m, takeS_step g L i acc x t hL hd hp hz (takeS_plain g L i acc x t hL hd (by omega) (by omega) hm er), g1, by omega, g3⟩
      · cases t with
        | nil => exact absurd (fun y hy => by cases hy) hm
        | cons y t =>
          by_cases hy : y = markB
          · subst hy
            obtain ⟨k1, k2, k3⟩ := at_drop h3
            obtain ⟨r, m, er, g1, g2, g3⟩ := ih (n - 2) (by omega) (i + 2) (acc ++ [(x.extract g.size x.size).extract 0 (x.size - g.size - 1)]) (by omega) (by omega) (by rw [List.length_append, List.length_singleton]; omega) (row _ (by rw [ByteArray.size_extract, ByteArray.size_extract]; omega))
            exact ⟨r, m, takeS_step g L i acc x _ hL hd hp hz (takeS_mark g L i acc x t hL hd hz (by omega) (by omega) er), g1, by omega, g3⟩
          · refine absurd (fun z hz => ?_) hm
            injection hz with hz
            rw [← hz]
            exact hy
    · refine ⟨acc, i, ?_, hR, Nat.le_refl _, hi⟩
      refine Ev.step (fun k => spec_l5Take.l0.eq_2 ..) (ev_pos (by omega) (ev_pos (by omega) ?_))
      rw [h2]
      have stop : ∀ b : Bool, b = true → Ev (fun k => spec_l5Take.j1 k L g acc (i : Int) x b) (acc, (i : Int)) := fun b hb => Ev.step (fun k => spec_l5Take.j1.eq_2 ..) (ev_pos hb (ev_some rfl))
      refine ev_ite (fun c => stop true rfl) (fun c => ev_pos (by omega) (ev_pos (by omega) (stop _ ?_)))
      have hpf : preB x g = false := by
        cases hp : preB x g with
        | false => rfl
        | true => exact absurd ⟨hp, by omega⟩ hq
      unfold preB at hpf
      rw [decide_eq_true (by omega), Bool.true_and] at hpf
      simpa using hpf

abbrev RT := List IT × Int × Bool
def Fin3 (s : ByteArray) (r : RT) : Prop := r = ([], 1, false) ∨ ∃ p, r = (p, 0, true) ∧ goodT p = true ∧ textFrom ⟨#[]⟩ p = s
def Ans3 (s : ByteArray) (f : Nat → Option RT) : Prop := ∃ r, Ev f r ∧ Fin3 s r
theorem ans3_bad (s : ByteArray) : Ans3 s (fun _ => some (([] : List IT), (1 : Int), false)) := ⟨_, ev_some rfl, .inl rfl⟩
theorem ownT_eq (l : List ByteArray) (h : l.length ≤ 4000) : spec_l1OwnT.f l = some l := by
  unfold spec_l1OwnT.f
  rw [Option.bind_some, if_pos (by simp only [List.length_nil]; omega), List.nil_append]
theorem fitIT_st {p : List IT} (h : StB p) (hl : p.length ≤ 4000) : FitIT p := by
  refine ⟨by omega, fun x hx => ?_⟩
  obtain ⟨h2, h5⟩ := h x hx
  exact ⟨⟨by have := h2.1; omega, fun s hs => by have := h2.2 s hs; omega⟩, ⟨by have := h5.1; omega, fun s hs => by have := h5.2 s hs; omega⟩⟩
theorem l2_some (s : ByteArray) (acc : List IT) (i : Nat) (row : List ByteArray) (hr : row.length ≤ 100000) (next : Ans3 s (fun k => spec_ReadNormal.l1 k s acc acc (acc.length : Int) (wrap64 ((i : Int) + 1)))) : ∀ d j, j + d = row.length → Ans3 s (fun k => spec_ReadNormal.l2 k s acc acc (acc.length : Int) (i : Int) row (row.length : Int) (j : Int)) := by
  intro d
  induction d with
  | zero =>
    intro j hj
    obtain ⟨r, er, hr⟩ := next
    exact ⟨r, Ev.step (fun k => spec_ReadNormal.l2.eq_2 ..) (ev_neg (by omega) er), hr⟩
  | succ d ih =>
    intro j hj
    obtain ⟨r, er, hr2⟩ := ih (j + 1) (by omega)
    rw [← wrap_succ j (by omega)] at er
    by_cases h : (rdOf ByteArray.empty row (j : Int)).toList = ([] : List UInt8)
    · obtain ⟨q, eq, hq⟩ := ans3_bad s
      exact ⟨q, Ev.step (fun k => spec_ReadNormal.l2.eq_2 ..) (ev_pos (by omega) (ev_pos (by omega) (ev_pos (by omega) (ev_pos h eq)))), hq⟩
    · exact ⟨r, Ev.step (fun k => spec_ReadNormal.l2.eq_2 ..) (ev_pos (by omega) (ev_pos (by omega) (ev_pos (by omega) (ev_neg h er)))), hr2⟩
theorem l2_good (s : ByteArray) (acc : List IT) (i : Nat) (row : List ByteArray) (hr : row.length ≤ 100000) (hne : ∀ x ∈ row, 1 ≤ x.size) {R : RT} (next : Ev (fun k => spec_ReadNormal.l1 k s acc acc (acc.length : Int) (wrap64 ((i : Int) + 1))) R) : ∀ d j, j + d = row.length → Ev (fun k => spec_ReadNormal.l2 k s acc acc (acc.length : Int) (i : Int) row (row.length : Int) (j : Int)) R := by
  intro d
  induction d with
  | zero =>
    intro j hj
    exact Ev.step (fun k => spec_ReadNormal.l2.eq_2 ..) (ev_neg (by omega) next)
  | succ d ih =>
    intro j hj
    have er := ih (j + 1) (by omega)
    rw [← wrap_succ j (by omega)] at er
    refine Ev.step (fun k => spec_ReadNormal.l2.eq_2 ..) (ev_pos (by omega) (ev_pos (by omega) (ev_pos (by omega) (ev_neg ?_ er))))
    have hj' : j < row.length := by omega
    rw [rdOf_lt _ _ _ hj', Lib.toList_data]
    intro e
    have h1 := hne _ (List.getElem_mem hj')
    rw [← data_length, e] at h1
    simp at h1
theorem l1_top (s : ByteArray) (acc : List IT) (hS : StB acc) (hl : acc.length ≤ 4000) (i : Nat) (hi : i < acc.length) {R : RT}
    (h : Ev (fun k => spec_ReadNormal.l2 k s acc acc (acc.length : Int) (i : Int) (acc[i].f2 ++ acc[i].f5) ((acc[i].f2 ++ acc[i].f5).length : Int) 0) R) : Ev (fun k => spec_ReadNormal.l1 k s acc acc (acc.length : Int) (i : Int)) R := by
  obtain ⟨h2, h5⟩ := hS _ (List.getElem_mem hi)
  refine Ev.step (fun k => spec_ReadNormal.l1.eq_2 ..) (ev_pos (by omega) (ev_pos (by omega) (ev_pos (by omega) ?_)))
  rw [rdIT acc i hi]
  have b2 := h2.1
  have b5 := h5.1
  exact ev_bind (ev_const (ownT_eq _ b2)) (ev_pos (by omega) (ev_bind (ev_const rfl) h))
theorem l1_end (s : ByteArray) (acc : List IT) (hS : StB acc) (hl : acc.length ≤ 4000) : Ans3 s (fun k => spec_ReadNormal.l1 k s acc acc (acc.length : Int) (acc.length : Int)) := by
  have hg := spec_GoodSteps_ev acc (fitIT_st hS hl)
  cases hc : goodT acc with
  | false =>
    rw [hc] at hg
    exact ⟨_, Ev.step (fun k => spec_ReadNormal.l1.eq_2 ..) (ev_neg (by omega) (ev_bind hg (ev_neg (by simp) (ev_some rfl)))), .inl rfl⟩
  | true =>
    rw [hc] at hg
    obtain ⟨h1, h2⟩ := goodT_ok hc
    have ht : Ev (fun k => spec_l5Text.f k acc) (textFrom ⟨#[]⟩ acc) := by
      simp only [spec_l5Text.f]
      exact l5Text_l0 acc h1 h2 acc.length 0 _ (by omega) (by show (0 : Nat) ≤ _; omega)
    by_cases he : textFrom ⟨#[]⟩ acc = s
    · exact ⟨_, Ev.step (fun k => spec_ReadNormal.l1.eq_2 ..) (ev_neg (by omega) (ev_bind hg (ev_pos rfl (ev_bind ht (ev_pos (by rw [he]) (ev_some rfl)))))), .inr ⟨acc, rfl, hc, he⟩⟩
    · exact ⟨_, Ev.step (fun k => spec_ReadNormal.l1.eq_2 ..) (ev_neg (by omega) (ev_bind hg (ev_pos rfl (ev_bind ht (ev_neg (fun e => he (ba_ext e)) (ev_some rfl)))))), .inl rfl⟩
theorem l1_some (s : ByteArray) (acc : List IT) (hS : StB acc) (hl : acc.length ≤ 4000) : ∀ d i, i + d = acc.length → Ans3 s (fun k => spec_ReadNormal.l1 k s acc acc (acc.length : Int) (i : Int)) := by
  intro d
  induction d with
  | zero =>
    intro i hi
    obtain rfl : i = acc.length := by omega
    exact l1_end s acc hS hl
  | succ d ih =>
    intro i hi
    have hlt : i < acc.length := by omega
    have nx := ih (i + 1) (by omega)
    rw [← wrap_succ i (by omega)] at nx
    obtain ⟨h2, h5⟩ := hS _ (List.getElem_mem hlt)
    have b2 := h2.1
    have b5 := h5.1
    obtain ⟨r, er, hr⟩ := l2_some s acc i (acc[i].f2 ++ acc[i].f5) (by rw [List.length_append]; omega) nx (acc[i].f2 ++ acc[i].f5).length 0 (by omega)
    exact ⟨r, l1_top s acc hS hl i hlt er, hr⟩
theorem rowB_ln {l : List ByteArray} (hl : l.length ≤ 40) (h : ∀ s ∈ l, isLn s = true) : RowB l := ⟨by omega, fun s hs => by have := (isLn_parts (h s hs)).2.1; omega⟩
theorem stB_good {p : List IT} (h : ∀ x ∈ p, StepOK x) : StB p := fun x hx => ⟨rowB_ln (h x hx).l2 (h x hx).i2, rowB_ln (h x hx).l5 (h x hx).i5⟩
theorem l1_good (s : ByteArray) (p : List IT) (hp : goodT p = true) (ht : textFrom ⟨#[]⟩ p = s) : ∀ d i, i + d = p.length → Ev (fun k => spec_ReadNormal.l1 k s p p (p.length : Int) (i : Int)) (p, 0, true) := by
  obtain ⟨h1, h2⟩ := goodT_ok hp
  have hS := stB_good h2
  have hl : p.length ≤ 4000 := by omega
  intro d
  induction d with
  | zero =>
    intro i hi
    obtain rfl : i = p.length := by omega
    have hg := spec_GoodSteps_ev p (fitIT_st hS hl)
    rw [hp] at hg
    have hx : Ev (fun k => spec_l5Text.f k p) (textFrom ⟨#[]⟩ p) := by
      simp only [spec_l5Text.f]
      exact l5Text_l0 p h1 h2 p.length 0 _ (by omega) (by show (0 : Nat) ≤ _; omega)
    exact Ev.step (fun k => spec_ReadNormal.l1.eq_2 ..) (ev_neg (by omega) (ev_bind hg (ev_pos rfl (ev_bind hx (ev_pos (by rw [ht]) (ev_some rfl))))))
  | succ d ih =>
    intro i hi
    have hlt : i < p.length := by omega
    have nx := ih (i + 1) (by omega)
    rw [← wrap_succ i (by omega)] at nx
    have ho := h2 _ (List.getElem_mem hlt)
    have b2 := ho.l2
    have b5 := ho.l5
    refine l1_top s p hS hl i hlt (l2_good s p i (p[i].f2 ++ p[i].f5) (by rw [List.length_append]; omega) (fun x hx => ?_) nx (p[i].f2 ++ p[i].f5).length 0 (by omega))
    rcases List.mem_append.1 hx with hx | hx
    · exact (isLn_parts (ho.i2 x hx)).1
    · exact (isLn_parts (ho.i5 x hx)).1
theorem take5_some (g : ByteArray) (l : List ByteArray) (h : l.length ≤ 4000) (hL : LnB l) : ∃ r m, Ev (fun k => spec_l5Take.f k l g) (r, ((m : Nat) : Int)) ∧ RowB r ∧ m ≤ l.length := by
  simp only [spec_l5Take.f]
  obtain ⟨r, m, er, h1, _, h3⟩ := takeS_some g l h hL l.length 0 [] (by omega) (Nat.zero_le _) (Nat.le_refl _) rowB_nil
  exact ⟨r, m, er, h1, h3⟩
theorem take5_good (g : ByteArray) (c : UInt8) (hg : g.data.toList.head? = some c) (hc : c ≠ 92) (hz : 0 < g.size) (hz2 : g.size ≤ 2) (rest l : List ByteArray) (hL : (showL g l ++ rest).length ≤ 4000) (hr : Stop g rest) (h : ∀ s ∈ l, isLn s = true) (hl : l.length ≤ 40) : Ev (fun k => spec_l5Take.f k (showL g l ++ rest) g) (l, (((showL g l).length : Nat) : Int)) := by
  have := takeS_good g (by rw [hg]; intro e; injection e with e; exact hc e) hz hz2 (showL g l ++ rest) rest hL hr l [] 0 h (by simp only [List.length_nil]; omega) rfl
  rw [List.nil_append, Nat.zero_add] at this
  simp only [spec_l5Take.f]
  exact this
theorem rsS_some (s : ByteArray) : ∀ (n : Nat) (l : List ByteArray) (acc : List IT), l.length ≤ n → n + acc.length ≤ 4000 → LnB l → StB acc → Ans3 s (fun k => spec_ReadNormal.l0 k s l acc) := by
  intro n
  induction n with
  | zero =>
    intro l acc hl hn hL hS
    have : l = [] := List.eq_nil_of_length_eq_zero (by omega)
    subst this
    obtain ⟨r, er, hr⟩ := l1_some s acc hS (by omega) acc.length 0 (by omega)
    exact ⟨r, Ev.step (fun k => spec_ReadNormal.l0.eq_2 ..) (ev_neg (by simp) er), hr⟩
  | succ n ih =>
    intro l acc hl hn hL hS
    cases l with
    | nil =>
      obtain ⟨r, er, hr⟩ := l1_some s acc hS (by omega) acc.length 0 (by omega)
      exact ⟨r, Ev.step (fun k => spec_ReadNormal.l0.eq_2 ..) (ev_neg (by simp) er), hr⟩
    | cons x l =>
    simp only [List.length_cons] at hl
    have hx := hL x (List.mem_cons_self ..)
    have hLl := lnB_tail hL
    have cont : ∀ (l' : List ByteArray) (y : IT), l'.length ≤ n → LnB l' → RowB y.f2 → RowB y.f5 → Ans3 s (fun k => spec_ReadNormal.l0 k s l' (acc ++ [y])) := fun l' y h1 h2 h3 h4 =>
      ih l' (acc ++ [y]) h1 (by rw [List.length_append, List.length_singleton]; omega) h2 (stB_app hS h3 h4)
    have j2 : ∀ (x5 : List ByteArray) (e : Int) (b : Bool) (a1 a2 a3 a4 : Int) (old : List ByteArray), x5.length ≤ n → LnB x5 → (b = true → 1 ≤ x5.length) → RowB old → Ans3 s (fun k => spec_ReadNormal.j2 k s x5 acc e b a1 a2 old a3 a4 []) := by
      intro x5 e b a1 a2 a3 a4 old h1 h2 h4 h5
      cases b with
      | true =>
        have h4 := h4 rfl
        have hd : (x5.drop 1).length ≤ n := by rw [List.length_drop]; omega
        have hdB := lnB_drop h2 1
        by_cases he : e = 100
        · obtain ⟨r, er, hr⟩ := cont (x5.drop 1) ⟨a1, a2, old, a3, a4, []⟩ hd hdB h5 rowB_nil
          exact ⟨r, Ev.step (fun k => spec_ReadNormal.j2.eq_2 ..) (ev_pos rfl (ev_pos (by omega) (ev_bind (ev_const rfl) (ev_pos he (ev_pos (by omega) er))))), hr⟩
        · obtain ⟨q, m, eq, q1, q2⟩ := take5_some ⟨#[62, 32]⟩ (x5.drop 1) (by omega) hdB
          obtain ⟨r, er, hr⟩ := cont ((x5.drop 1).drop m) ⟨a1, a2, old, a3, a4, q⟩ (by rw [List.length_drop]; omega) (lnB_drop hdB m) h5 q1
          exact ⟨r, Ev.step (fun k => spec_ReadNormal.j2.eq_2 ..) (ev_pos rfl (ev_pos (by omega) (ev_bind (ev_const rfl) (ev_neg he (ev_bind eq (ev_pos (by omega) (ev_pos (by show ((m : Nat) : Int) ≤ ((x5.drop 1).length : Int); omega) (ev_pos (by omega) er)))))))), hr⟩
      | false =>
        by_cases he : e = 100
        · obtain ⟨r, er, hr⟩ := cont x5 ⟨a1, a2, old, a3, a4, []⟩ h1 h2 h5 rowB_nil
          exact ⟨r, Ev.step (fun k => spec_ReadNormal.j2.eq_2 ..) (ev_neg (by simp) (ev_pos he (ev_pos (by omega) er))), hr⟩
        · obtain ⟨q, m, eq, q1, q2⟩ := take5_some ⟨#[62, 32]⟩ x5 (by omega) h2
          obtain ⟨r, er, hr⟩ := cont (x5.drop m) ⟨a1, a2, old, a3, a4, q⟩ (by rw [List.length_drop]; omega) (lnB_drop h2 m) h5 q1
          exact ⟨r, Ev.step (fun k => spec_ReadNormal.j2.eq_2 ..) (ev_neg (by simp) (ev_neg he (ev_bind eq (ev_pos (by omega) (ev_pos (by omega) (ev_pos (by omega) er)))))), hr⟩
    have j1 : ∀ (x5 : List ByteArray) (e : Int) (a1 a2 a3 a4 : Int) (old : List ByteArray), x5.length ≤ n → LnB x5 → RowB old → Ans3 s (fun k => spec_ReadNormal.j1 k s x5 acc e a1 a2 old a3 a4 []) := by
      intro x5 e a1 a2 a3 a4 old h1 h2 h5
      by_cases he : e = 99
      · obtain ⟨r, er, hr⟩ := j2 x5 e (decide ((x5.length : Int) > 0)) a1 a2 a3 a4 old h1 h2 (fun hb => by have := of_decide_eq_true hb; omega) h5
        exact ⟨r, Ev.step (fun k => spec_ReadNormal.j1.eq_2 ..) (ev_pos he er), hr⟩
      · obtain ⟨r, er, hr⟩ := j2 x5 e false a1 a2 a3 a4 old h1 h2 (fun hb => by cases hb) h5
        exact ⟨r, Ev.step (fun k => spec_ReadNormal.j1.eq_2 ..) (ev_neg he er), hr⟩
    have hpz : (plainB x).size ≤ 3000 := by
      unfold plainB
      split
      · rw [ByteArray.size_extract]; omega
      · omega
    obtain ⟨a, b, c, d, e, o, hh⟩ := head_some (plainB x) hpz (plainB x).size 0 (by omega)
    have hh2 : Ev (fun k => spec_l5Head.f k (plainB x)) ((a, b, ([] : List ByteArray), c, d, ([] : List ByteArray), e, o) : HT) := by
      simp only [spec_l5Head.f]
      exact hh
    have top : ∀ r, Ev (fun k => (if o = true then (if 1 ≤ ((x :: l).length : Int) then ((some ((x :: l).drop (1 : Int).toNat : List ByteArray)).bind fun y202 => (if e = 97 then (spec_ReadNormal.j1 k s y202 acc e a b [] c d []) else ((spec_l5Take.f k y202 (⟨#[60, 32]⟩ : ByteArray)).bind fun bt205 => (if 0 ≤ bt205.2 then (if bt205.2 ≤ (y202.length : Int) then (spec_ReadNormal.j1 k s (y202.drop (bt205.2 : Int).toNat) acc e a b bt205.1 c d []) else (none)) else (none))))) else (none)) else (some (([] : List IT), (1 : Int), false)))) r → Ev (fun k => spec_ReadNormal.l0 k s (x :: l) acc) r := by
      intro r hr
      refine Ev.step (fun k => spec_ReadNormal.l0.eq_2 ..) (ev_pos (by simp only [List.length_cons]; omega) (ev_pos (by simp only [List.length_cons]; omega) ?_))
      rw [show rdOf ByteArray.empty (x :: l) 0 = x from rfl]
      exact ev_bind (ev_const (l1Plain_eq x hx.1 (by omega))) (ev_bind hh2 hr)
    cases o with
    | false =>
      obtain ⟨r, er, hr⟩ := ans3_bad s
      exact ⟨r, top r (ev_neg (by simp) er), hr⟩
    | true =>
      by_cases he : e = 97
      · obtain ⟨r, er, hr⟩ := j1 l e a b c d [] (by omega) hLl rowB_nil
        exact ⟨r, top r (ev_pos rfl (ev_pos (by simp only [List.length_cons]; omega) (ev_bind (ev_const rfl) (ev_pos he er)))), hr⟩
      · obtain ⟨q, m, eq, q1, q2⟩ := take5_some ⟨#[60, 32]⟩ l (by omega) hLl
        obtain ⟨r, er, hr⟩ := j1 (l.drop m) e a b c d q (by rw [List.length_drop]; omega) (lnB_drop hLl m) q1
        exact ⟨r, top r (ev_pos rfl (ev_pos (by simp only [List.length_cons]; omega) (ev_bind (ev_const rfl) (ev_neg he (ev_bind eq (ev_pos (by omega) (ev_pos (by show ((m : Nat) : Int) ≤ (l.length : Int); omega) er))))))), hr⟩
theorem rsS_good (s : ByteArray) : ∀ (p acc : List IT), (∀ x ∈ p, StepG x) → acc.length + p.length ≤ 20 → (linesT p).length ≤ 4000 → ∀ {R : RT}, Ev (fun k => spec_ReadNormal.l1 k s (acc ++ p) (acc ++ p) ((acc ++ p).length : Int) 0) R → Ev (fun k => spec_ReadNormal.l0 k s (linesT p) acc) R
  | [], acc, _, _, _, R, hR => by
    rw [List.append_nil] at hR
    exact Ev.step (fun k => spec_ReadNormal.l0.eq_2 ..) (ev_neg (by simp [linesT]) hR)
  | x :: p, acc, h, hl, hn, R, hR => by
    simp only [List.length_cons] at hl
    have hx := h x (List.mem_cons_self ..)
    have hk := hx.ok
    have hlines : linesT (x :: p) = headL x :: ((showL lt_ x.f2 ++ (midL x ++ showL gt_ x.f5)) ++ linesT p) := rfl
    rw [hlines] at hn
    simp only [List.length_cons, List.length_append] at hn
    have ih := rsS_good s p (acc ++ [x]) (fun y hy => h y (List.mem_cons_of_mem _ hy)) (by rw [List.length_append, List.length_singleton]; omega) (by omega) (R := R) (by rw [List.append_assoc, List.singleton_append]; exact hR)
    have eta := it_eta x hk
    have a0 := hk.a0; have a1 := hk.a1; have a3 := hk.a3; have a4 := hk.a4
    have hab := hx.ab; have hcd := hx.cd
    have hH := headL_eq x
    have hh := head_good x.f0.toNat x.f1.toNat x.f3.toNat x.f4.toNat (kc x) (kc_abc x) (by omega) (by omega) (by omega) (by omega) (by omega) (by omega)
    have z1 := pair_size x.f0.toNat x.f1.toNat (by omega) (by omega)
    have z2 := pair_size x.f3.toNat x.f4.toNat (by omega) (by omega)
    have hsz := headP_size (pairV x.f0.toNat x.f1.toNat) (pairV x.f3.toNat x.f4.toNat) (kc x)
    generalize headP (pairV x.f0.toNat x.f1.toNat) (pairV x.f3.toNat x.f4.toNat) (kc x) = H at *
    rw [hlines]
    generalize hT : (showL lt_ x.f2 ++ (midL x ++ showL gt_ x.f5)) ++ linesT p = T
    have hgt : Ev (fun k => spec_l5Take.f k (showL gt_ x.f5 ++ linesT p) gt_) (x.f5, (((showL gt_ x.f5).length : Nat) : Int)) :=
      take5_good gt_ 62 gt_head (by decide) (by decide) (by decide) (linesT p) x.f5 (by rw [List.length_append]; omega) (stop_lines gt_ 62 (by decide) gt_head (by decide) p) hk.i5 hk.l5
    have hcut : ∀ (g : ByteArray) (l rest : List ByteArray), (showL g l ++ rest).drop (((showL g l).length : Nat) : Int).toNat = rest := fun g l rest => by rw [Int.toNat_natCast]; exact List.drop_left
    have hz : (headL x).size = H.size + 1 := by rw [hH, ByteArray.size_append]; rfl
    refine Ev.step (fun k => spec_ReadNormal.l0.eq_2 ..) (ev_pos (by simp only [List.length_cons]; omega) (ev_pos (by simp only [List.length_cons]; omega) ?_))
    rw [show rdOf ByteArray.empty (headL x :: T) 0 = headL x from rfl]
    refine ev_bind (ev_const (l1Plain_eq _ (by omega) (by omega))) ?_
    rw [show plainB (headL x) = H by rw [hH, plainB_nl]]
    refine ev_bind hh (ev_pos rfl (ev_pos (by simp only [List.length_cons]; omega) (ev_bind (ev_const rfl) ?_)))
    rw [show (headL x :: T).drop (1 : Int).toNat = T from rfl]
    by_cases e2 : x.f2.length = 0
    · have k97 : kc x = 97 := by unfold kc; rw [if_pos e2]
      have f2 : x.f2 = [] := List.eq_nil_of_length_eq_zero e2
      have hT2 : T = showL gt_ x.f5 ++ linesT p := by
        rw [← hT, f2]
        unfold midL
        rw [if_pos e2]
        rfl
      rw [k97, hT2]
      refine ev_pos (by dsimp only; decide) (Ev.step (fun k => spec_ReadNormal.j1.eq_2 ..) (ev_neg (by dsimp only; decide) (Ev.step (fun k => spec_ReadNormal.j2.eq_2 ..) (ev_neg (by simp) (ev_neg (by dsimp only; decide) (ev_bind hgt (ev_pos (by omega) (ev_pos (by simp only [List.length_append]; omega) (ev_pos (by omega) ?_)))))))))
      rw [hcut]
      rw [f2] at eta
      rw [eta]
      exact ih
    · have tk : ∀ rest, Stop lt_ rest → (showL lt_ x.f2 ++ rest).length ≤ 4000 → Ev (fun k => spec_l5Take.f k (showL lt_ x.f2 ++ rest) lt_) (x.f2, (((showL lt_ x.f2).length : Nat) : Int)) := fun rest hr hL => take5_good lt_ 60 lt_head (by decide) (by decide) (by decide) rest x.f2 hL hr hk.i2 hk.l2
      by_cases e5 : x.f5.length = 0
      · have k100 : kc x = 100 := by unfold kc; rw [if_neg e2, if_pos e5]
        have f5 : x.f5 = [] := List.eq_nil_of_length_eq_zero e5
        have hT2 : T = showL lt_ x.f2 ++ linesT p := by
          rw [← hT, f5]
          unfold midL
          rw [if_neg e2, if_pos e5]
          simp [showL]
        rw [k100, hT2]
        refine ev_neg (by dsimp only; decide) (ev_bind (tk _ (stop_lines lt_ 60 (by decide) lt_head (by decide) p) (by rw [List.length_append]; omega)) (ev_pos (by omega) (ev_pos (by simp only [List.length_append]; omega) ?_)))
        rw [hcut]
        refine Ev.step (fun k => spec_ReadNormal.j1.eq_2 ..) (ev_neg (by dsimp only; decide) (Ev.step (fun k => spec_ReadNormal.j2.eq_2 ..) (ev_neg (by simp) (ev_pos (by dsimp only; decide) (ev_pos (by omega) ?_)))))
        rw [f5] at eta
        rw [eta]
        exact ih
      · have k99 : kc x = 99 := by unfold kc; rw [if_neg e2, if_neg e5]
        have hm : midL x = [dash] := by unfold midL; rw [if_neg e2, if_neg e5]; rfl
        rw [hm, List.length_singleton] at hn
        have hT2 : T = showL lt_ x.f2 ++ (dash :: (showL gt_ x.f5 ++ linesT p)) := by
          rw [← hT, hm, List.append_assoc]
          rfl
        rw [k99, hT2]
        refine ev_neg (by dsimp only; decide) (ev_bind (tk _ (stop_dash _) (by simp only [List.length_append, List.length_cons]; omega)) (ev_pos (by omega) (ev_pos (by simp only [List.length_append, List.length_cons]; omega) ?_)))
        rw [hcut]
        have hd1 : decide (((dash :: (showL gt_ x.f5 ++ linesT p)).length : Int) > 0) = true := decide_eq_true (by simp only [List.length_cons]; omega)
        refine Ev.step (fun k => spec_ReadNormal.j1.eq_2 ..) (ev_pos (by dsimp only; decide) ?_)
        rw [hd1]
        refine Ev.step (fun k => spec_ReadNormal.j2.eq_2 ..) (ev_pos rfl (ev_pos (by simp only [List.length_cons]; omega) (ev_bind (ev_const rfl) ?_)))
        rw [show (dash :: (showL gt_ x.f5 ++ linesT p)).drop (1 : Int).toNat = showL gt_ x.f5 ++ linesT p from rfl]
        refine ev_neg (by dsimp only; decide) (ev_bind hgt (ev_pos (by omega) (ev_pos (by simp only [List.length_append]; omega) (ev_pos (by omega) ?_))))
        rw [hcut, eta]
        exact ih

theorem endT_le : ∀ (v : List IT) (B m : Nat), (∀ x ∈ v, x.f2.length ≤ B ∧ x.f5.length ≤ B) → endT v m ≤ m + (4 + 2 * B) * v.length
  | [], B, m, _ => by simp [endT]
  | x :: t, B, m, h => by
    have h1 := endT_le t B (m + 2 + x.f2.length + 2 + x.f5.length) (fun y hy => h y (List.mem_cons_of_mem _ hy))
    have h2 := h x (List.mem_cons_self ..)
    simp only [List.length_cons, endT, Nat.mul_add] at h1 ⊢
    omega

theorem heldStringS_l0 (n m : Nat) (hn : n ≤ 1099511627776) (hm : m ≤ 1099511627776) : ∀ d i, i + d = n → Ev (fun k => laws_heldStringS.l0 k (marks m n) ((m + i : Nat) : Int) (i : Int)) ((m + n : Nat) : Int) := by
  intro d
  induction d with
  | zero =>
    intro i hi
    refine Ev.step (fun k => laws_heldStringS.l0.eq_2 ..) (ev_neg (by rw [marks_length]; omega) (ev_some ?_))
    rw [show i = n from by omega]
  | succ d ih =>
    intro i hi
    refine Ev.step (fun k => laws_heldStringS.l0.eq_2 ..) (ev_pos (by rw [marks_length]; omega) (ev_pos (by omega) (ev_bind (mark_ev (m + i) (by omega)) (ev_pos ?_ ?_))))
    · rw [rdOf_lt _ _ _ (by rw [marks_length]; omega), marks_get m n i (by omega)]
    · rw [wrap_succ i (by omega), wrap_succ (m + i) (by omega)]
      exact ih (i + 1) (by omega)
theorem heldStringS_ev (m n : Nat) (hn : n ≤ 1099511627776) (hm : m ≤ 1099511627776) : Ev (fun k => laws_heldStringS.f k (marks m n) (m : Int)) ((m + n : Nat) : Int) := by
  simp only [laws_heldStringS.f]
  exact heldStringS_l0 n m hn hm n 0 (by omega)

theorem heldStepS_l0 (L : List IT) (E : Nat) (hE : E ≤ 1099511627776) (hL : L.length ≤ 1099511627776) : ∀ (vs : List IT) (i mm : Nat), L.drop i = mkTs vs mm → i + vs.length = L.length → endT vs mm = E → Ev (fun k => laws_heldStepS.l0 k L (mm : Int) (i : Int)) (E : Int) := by
  intro vs
  induction vs with
  | nil =>
    intro i mm _ hi he
    refine Ev.step (fun k => laws_heldStepS.l0.eq_2 ..) (ev_neg (by simp only [List.length_nil] at hi; omega) (ev_some ?_))
    rw [← he]
    rfl
  | cons x t ih =>
    intro i mm hd hi he
    simp only [List.length_cons] at hi
    have hlt : i < L.length := by omega
    rw [List.drop_eq_getElem_cons hlt] at hd
    simp only [mkTs, List.cons.injEq] at hd
    simp only [endT] at he
    have hge := endT_ge t (mm + 2 + x.f2.length + 2 + x.f5.length)
    rw [he] at hge
    have hrd : rd_T52 L (i : Int) = mkT x mm := (rdIT L i hlt).trans hd.1
    obtain ⟨b1, b2, b3, b4, b5, b6⟩ := leT_a _ _ _ _ hge hE
    refine Ev.step (fun k => laws_heldStepS.l0.eq_2 ..) ?_
    simp only [hrd, mkT]
    rw [wrT mm x.f2.length E b5 hE, wrap_succ i (by omega)]
    refine ev_pos (by omega) (ev_pos (by omega) (ev_pos trivial (ev_pos trivial (ev_bind (heldStringS_ev (mm + 2) x.f2.length b1 b2) (ev_neg (by omega) (ev_pos rfl (ev_pos rfl ?_)))))))
    rw [wrT (mm + 2 + x.f2.length) x.f5.length E b6 hE]
    exact ev_bind (heldStringS_ev (mm + 2 + x.f2.length + 2) x.f5.length b3 b4) (ev_neg (by omega) (ih (i + 1) _ hd.2 (by omega) he))
theorem mkTs_length : ∀ (v : List IT) (m : Nat), (mkTs v m).length = v.length
  | [], _ => rfl
  | x :: t, m => by simp only [mkTs, List.length_cons, mkTs_length t]
theorem heldStepS_ev (v : List IT) (m : Nat) (hE : endT v m ≤ 1099511627776) (hL : v.length ≤ 1099511627776) : Ev (fun k => laws_heldStepS.f k (mkTs v m) (m : Int)) ((endT v m : Nat) : Int) := by
  simp only [laws_heldStepS.f]
  exact heldStepS_l0 (mkTs v m) _ hE (by rw [mkTs_length]; exact hL) v 0 m rfl (by rw [mkTs_length]; omega) rfl

def IsText (s : ByteArray) : Prop := s.size ≤ 3000 ∧ ∃ p : List IT, goodT p = true ∧ textFrom ⟨#[]⟩ p = s
open Classical in
/-- The good steps whose text it is. -/
noncomputable def ReadR (s : ByteArray) : RT := if h : IsText s then (Classical.choose h.2, 0, true) else ([], 1, false)
theorem cutS_pos : ∀ (l acc : List UInt8), ∀ x ∈ cutS acc l, x ≠ []
  | [], acc, x, hx => by
    simp only [cutS] at hx
    split at hx
    · cases hx
    · rename_i h
      rw [List.mem_singleton.1 hx]
      exact h
  | b :: t, acc, x, hx => by
    simp only [cutS] at hx
    split at hx
    · rcases List.mem_cons.1 hx with rfl | hx
      · simp
      · exact cutS_pos t [] x hx
    · exact cutS_pos t _ x hx
theorem lines_lnB (s : ByteArray) (hs : s.size ≤ 3000) : LnB (linesB s) ∧ (linesB s).length ≤ 3001 := by
  refine ⟨fun x hx => ⟨?_, by have := linesB_size s x hx; omega⟩, by have := linesB_len s; omega⟩
  unfold linesB at hx
  obtain ⟨y, hy, rfl⟩ := List.mem_map.1 hx
  rw [mkB_size]
  have := cutS_pos _ _ y hy
  cases y with
  | nil => exact absurd rfl this
  | cons _ _ => simp only [List.length_cons]; omega
theorem linesT_len (p : List IT) (hp : goodT p = true) (hz : (textFrom ⟨#[]⟩ p).size ≤ 3000) : (linesT p).length ≤ 3001 := by
  obtain ⟨h1, h2⟩ := goodT_ok hp
  rw [← lines_text p h2]
  have := linesB_len (textFrom ⟨#[]⟩ p)
  omega
theorem spec_good (s : ByteArray) (hs : s.size ≤ 3000) (p : List IT) (hp : goodT p = true) (ht : textFrom ⟨#[]⟩ p = s) : Ev (fun k => spec_ReadNormal.f k s) (p, 0, true) := by
  obtain ⟨h1, h2⟩ := goodT_ok hp
  have hg := (goodT_g hp).2
  have hlen := linesT_len p hp (by rw [ht]; exact hs)
  simp only [spec_ReadNormal.f]
  refine ev_neg (by omega) (ev_bind (l1Cut_ev s (by omega)) ?_)
  rw [← ht, lines_text p h2, ht]
  exact rsS_good s p [] hg (by simp only [List.length_nil]; omega) (by omega) (l1_good s p hp ht p.length 0 (by omega))
theorem impl_good (s : ByteArray) (hs : s.size ≤ 3000) (p : List IT) (hp : goodT p = true) (ht : textFrom ⟨#[]⟩ p = s) : Ev (fun k => impl_ReadNormal.f k s) (p, 0, true) := by
  obtain ⟨h1, h2⟩ := goodT_ok hp
  have hg := (goodT_g hp).2
  have hr : Ev (fun k => impl_readSteps.f k (linesB s)) (p, true) := by
    simp only [impl_readSteps.f]
    rw [← ht, lines_text p h2]
    exact rs_good p [] hg (by simp only [List.length_nil]; omega)
  have hS := stB_good h2
  have hx := impl_StepsText_ev p (fitIT_st hS (by omega))
  have hv : stepsTextR p = (s, true) := by
    unfold stepsTextR shortV
    rw [if_pos hp, ht, if_neg (by omega)]
  rw [hv] at hx
  simp only [impl_ReadNormal.f]
  exact ev_pos (by omega) (ev_bind (linesOf_ev s (by omega)) (ev_bind hr (ev_bind hx (ev_pos rfl (ev_pos rfl (ev_pos rfl (ev_some rfl)))))))
theorem spec_any (s : ByteArray) : Ans3 s (fun k => spec_ReadNormal.f k s) := by
  by_cases hs : s.size ≤ 3000
  · obtain ⟨h1, h2⟩ := lines_lnB s hs
    obtain ⟨r, er, hr⟩ := rsS_some s (linesB s).length (linesB s) [] (Nat.le_refl _) (by simp only [List.length_nil]; omega) h1 stB_nil
    refine ⟨r, ?_, hr⟩
    simp only [spec_ReadNormal.f]
    exact ev_neg (by omega) (ev_bind (l1Cut_ev s (by omega)) er)
  · refine ⟨_, ?_, .inl rfl⟩
    simp only [spec_ReadNormal.f]
    exact ev_pos (by omega) (ev_some rfl)
theorem impl_any (s : ByteArray) : Ans3 s (fun k => impl_ReadNormal.f k s) := by
  by_cases hs : s.size ≤ 3000
  · obtain ⟨h1, h2⟩ := lines_lnB s hs
    obtain ⟨r, er, hr1, hr2⟩ := rs_some (linesB s).length (linesB s) [] (Nat.le_refl _) (by simp only [List.length_nil]; omega) h1 stB_nil
    have hr : Ev (fun k => impl_readSteps.f k (linesB s)) r := by
      simp only [impl_readSteps.f]
      exact er
    have hx := impl_StepsText_ev r.1 (fitIT_st hr2 hr1)
    have top : ∀ q : RT, Ev (fun k => (if r.2 = true then (if (stepsTextR r.1).2 = true then (if (stepsTextR r.1).1.toList = s.toList then (some ((r.1, 0, true) : RT)) else (some (([] : List IT), (1 : Int), false))) else (some (([] : List IT), (1 : Int), false))) else (some (([] : List IT), (1 : Int), false)))) q → Ev (fun k => impl_ReadNormal.f k s) q := by
      intro q hq
      simp only [impl_ReadNormal.f]
      exact ev_pos (by omega) (ev_bind (linesOf_ev s (by omega)) (ev_bind hr (ev_bind hx hq)))
    by_cases c1 : r.2 = true
    · by_cases c2 : (stepsTextR r.1).2 = true
      · by_cases c3 : (stepsTextR r.1).1.toList = s.toList
        · refine ⟨(r.1, 0, true), top _ (ev_pos c1 (ev_pos c2 (ev_pos c3 (ev_some rfl)))), .inr ⟨r.1, rfl, ?_⟩⟩
          unfold stepsTextR at c2 c3
          by_cases hg : goodT r.1 = true
          · rw [if_pos hg] at c2 c3
            unfold shortV at c2 c3
            split at c2
            · cases c2
            · rename_i hn
              rw [if_neg hn] at c3
              exact ⟨hg, ba_ext c3⟩
          · rw [if_neg hg] at c2
            cases c2
        · exact ⟨_, top _ (ev_pos c1 (ev_pos c2 (ev_neg c3 (ev_some rfl)))), .inl rfl⟩
      · exact ⟨_, top _ (ev_pos c1 (ev_neg c2 (ev_some rfl))), .inl rfl⟩
    · exact ⟨_, top _ (ev_neg c1 (ev_some rfl)), .inl rfl⟩
  · refine ⟨_, ?_, .inl rfl⟩
    simp only [impl_ReadNormal.f]
    exact ev_neg (by omega) (ev_some rfl)
theorem read_of (s : ByteArray) (f : Nat → Option RT) (ha : Ans3 s f) (hz : ∀ r, Ev f r → s.size ≤ 3000 ∨ r = ([], 1, false)) (hg : s.size ≤ 3000 → ∀ p, goodT p = true → textFrom ⟨#[]⟩ p = s → Ev f (p, 0, true)) : Ev f (ReadR s) := by
  unfold ReadR
  by_cases h : IsText s
  · rw [dif_pos h]
    have hc := Classical.choose_spec h.2
    exact hg h.1 _ hc.1 hc.2
  · rw [dif_neg h]
    obtain ⟨r, er, hr⟩ := ha
    rcases hr with rfl | ⟨p, rfl, hp, ht⟩
    · exact er
    · rcases hz _ er with c | c
      · exact absurd ⟨c, p, hp, ht⟩ h
      · cases c
theorem spec_ReadNormal_ev (s : ByteArray) (hs : s.size ≤ 1048576) : Ev (fun k => spec_ReadNormal.f k s) (ReadR s) := by
  refine read_of s _ (spec_any s) (fun r hr => ?_) (fun h p hp ht => spec_good s h p hp ht)
  by_cases h : s.size ≤ 3000
  · exact .inl h
  · right
    have h2 : Ev (fun k => spec_ReadNormal.f k s) ([], 1, false) := by
      simp only [spec_ReadNormal.f]
      exact ev_pos (by omega) (ev_some rfl)
    obtain ⟨k1, e1⟩ := hr
    obtain ⟨k2, e2⟩ := h2
    have a1 := e1 (k1 + k2) (by omega)
    have a2 := e2 (k1 + k2) (by omega)
    exact Option.some.inj (a1.symm.trans a2)
theorem impl_ReadNormal_ev (s : ByteArray) (hs : s.size ≤ 1048576) : Ev (fun k => impl_ReadNormal.f k s) (ReadR s) := by
  refine read_of s _ (impl_any s) (fun r hr => ?_) (fun h p hp ht => impl_good s h p hp ht)
  by_cases h : s.size ≤ 3000
  · exact .inl h
  · right
    have h2 : Ev (fun k => impl_ReadNormal.f k s) ([], 1, false) := by
      simp only [impl_ReadNormal.f]
      exact ev_neg (by omega) (ev_some rfl)
    obtain ⟨k1, e1⟩ := hr
    obtain ⟨k2, e2⟩ := h2
    have a1 := e1 (k1 + k2) (by omega)
    have a2 := e2 (k1 + k2) (by omega)
    exact Option.some.inj (a1.symm.trans a2)
theorem ReadR_small (s : ByteArray) : (ReadR s).1.length ≤ 20 ∧ ∀ x ∈ (ReadR s).1, StepOK x := by
  unfold ReadR
  by_cases h : IsText s
  · rw [dif_pos h]
    exact goodT_ok (Classical.choose_spec h.2).1
  · rw [dif_neg h]
    exact ⟨Nat.zero_le _, fun x hx => by cases hx⟩
theorem ReadR_fit (s : ByteArray) (hs : s.size ≤ 1048576) : FitIT (ReadR s).1 := by
  obtain ⟨h1, h2⟩ := ReadR_small s
  exact fitIT_st (stB_good h2) (by omega)
theorem ReadR_end (s : ByteArray) (hs : s.size ≤ 1048576) : endT (ReadR s).1 1 ≤ 1099511627776 ∧ (ReadR s).1.length ≤ 1099511627776 := by
  obtain ⟨h1, h2⟩ := ReadR_small s
  have := endT_le (ReadR s).1 40 1 (fun x hx => ⟨(h2 x hx).l2, (h2 x hx).l5⟩)
  exact ⟨by omega, by omega⟩
end Go.Proofs.YtmcldkobejhaeaaGreatDoor.Pl
namespace Go.Proofs.YtmcldkobejhaeaaGreatDoor.Pure
open Go.RowKit Go.Proofs.YtmcldkobejhaeaaGreatDoor.My Go.Proofs.YtmcldkobejhaeaaGreatDoor.Pl Go.Proofs.YtmcldkobejhaeaaGreatDoorW.PrintWords Go.Proofs.YtmcldkobejhaeaaGreatDoorW.PrintLast
set_option linter.unusedVariables false
theorem FnExactReadNormal (a0 : ByteArray) (q0 : Wstr a0) (W : World) (ht : Door true W) :
    Calls Tryz.prog 4 #[.string a0] W fun e w' => e = .returned (.bool true) ∧ Below W.heap.size W w' := by
  by_cases hk0 : 1048576 < (a0.size : Int)
  · exact laws_FnExactReadNormal_long a0 W ht  hk0
  have hy0 : a0.size ≤ 1048576 := by omega
  obtain ⟨kp, ep⟩ := spec_ReadNormal_ev a0 hy0
  obtain ⟨ki, ei⟩ := impl_ReadNormal_ev a0 hy0
  have hve := ReadR_end a0 hy0
  have hvf := ReadR_fit a0 hy0
  generalize hq0 : (ReadR a0).1 = v at *
  generalize hq1 : (ReadR a0).2.1 = r0 at *
  generalize hq2 : (ReadR a0).2.2 = r1 at *
  have hp : ReadR a0 = (v, r0, r1) := (Prod.ext hq0 (Prod.ext hq1 hq2))
  rw [hp] at ep ei
  have hb_ : (1 : Nat) ≤ 1 := Nat.le_refl _
  obtain ⟨kh, eh⟩ := heldStepS_ev v 1 hve.1 hve.2
  obtain ⟨kv, ev⟩ := eqStepS_ev v v hvf
  obtain ⟨k, hk⟩ : ∃ k, kp + ki + kh + kv ≤ k := ⟨_, Nat.le_refl _⟩
  exact laws_FnExactReadNormal_true k a0 W ht  hk0 v r0 r1 (ep k (by omega)) (ei k (by omega)) ((ev k (by omega)).trans (by simp))  hve.1 hve.2 (eh k (by omega))
end Go.Proofs.YtmcldkobejhaeaaGreatDoor.Pure
namespace Go.Proofs.YtmcldkobejhaeaaGreatDoor.fnExactReadNormal
open Go.ChangeShapes Go.WideShapes Go.ChangeAt Go.RowKit Go.Joins Go.Proofs.YtmcldkobejhaeaaGreatDoor.Opens Go.Proofs.YtmcldkobejhaeaaGreatDoor.My
open Go.ChangeMaps (open_string shut_string)
set_option linter.unusedVariables false
set_option linter.unusedSimpArgs false
theorem own : ownKnob Tryz.prog.godebug = none := by kernel_rfl
/-- WHAT THE ROW's LIST GIVES THE WALK. -/
theorem door {W : World} (h : laidMetH Tryz.prog Rows.fnExactReadNormalRow.laid W) : Door true W := by
  rw [MakeChecks.laidMetH_plain _ _ _ (by kernel_rfl)] at h
  have hT : Lib.TabIs Tryz.prog W "internal/strconv.uint64pow10" .u64 Lib.pow10Tab := doorTab (h.tail.tail)
  exact ⟨hT, fun _ => doorSyn (h.tail.tail.tail.tail.tail), fun _ => doorRng (h.tail.tail.tail.tail)⟩
set_option maxRecDepth 100000 in
theorem lifted (os : Os) (started : os.Started) (H : Type) (enc : TypeId × Value → H) :
    ReturnsInHanded {} Tryz.checked os 4 .any (fun w args => (Rows.fnExactReadNormalSpec.pre enc Tryz.prog Tryz.f4 [] false w args ∧ laidMetH Tryz.prog Rows.fnExactReadNormalRow.laid w) ∧ sizedMet enc Tryz.prog Tryz.f4 (OpenSpec.ofChange Rows.fnExactReadNormalSpec) false w args) (Rows.fnExactReadNormalSpec.post enc Tryz.prog Tryz.f4 false true false false) := by
  refine returnsInHanded_of_change_and (C := Tryz.checked) (X := fun w _ => laidMetH Tryz.prog Rows.fnExactReadNormalRow.laid w) (fun _ _ _ hh h => h.of_heap hh) own started (by kernel_rfl) Tryz.func4
    (ChangeSpec.witness_shaped (enc := enc) (C := Tryz.checked) (os := os) (X := fun w _ => laidMetH Tryz.prog Rows.fnExactReadNormalRow.laid w) false (World.laidAll Tryz.prog os Rows.fnExactReadNormalRow.laid) #[.string ByteArray.empty] 8 (World.laidAll_os _ _ _) (World.shaped_of_ZipB (by kernel_rfl) (by kernel_rfl)) (by kernel_rfl) (by kernel_rfl) (by kernel_rfl) (by rw [MakeChecks.laidMetH_plain _ _ _ (by kernel_rfl)]; exact laidMet_laidAll _ (by kernel_rfl) (by kernel_rfl))) ?_
  intro W base args ds gs before hval0 hW hcnd hsz0 hL _
  have hval : ∀ (j : Nat) t v, Tryz.f4.params[j]? = some t → args[j]? = some v → Value.okWide Tryz.prog W .any base t v := hval0
  have hW' := hW
  obtain ⟨p, q, hA0, hV, rfl, hfz, hnd⟩ := hW
  have hA : DataW.TrodAll enc Tryz.prog W 0 (fun _ => true) true Tryz.f4.params.toList args.toList ds p := hA0
  rw [Tryz.params4] at hA hval
  obtain ⟨v0, vs0, d0, ds0, p0, q0, hargs, rfl, rfl, h0, r0⟩ := trodAll_cons hA
  obtain ⟨rfl, rfl, rfl⟩ := trodAll_nil r0
  obtain rfl : args = #[v0] := by cases args; simp_all
  obtain ⟨rfl, rfl⟩ := trodVars_none hV
  obtain ⟨a0, rfl, rfl, rfl, y0⟩ := open_string Tryz.underlying9 (hval 0 9 v0 rfl rfl) h0
  clear hA0 hval0 hsz0
  refine (Pure.FnExactReadNormal a0 y0   W (door hL)).mono fun e W' hh => ?_
  obtain ⟨rfl, hd⟩ := hh
  have bel : Below W.heap.size W W' := hd
  exact ⟨_, rfl, _, _, _, [], _, [], hW', trodAll_mk1 (shut_bool Tryz.underlying4 _), (trodAll_cons_mk (shut_string Tryz.underlying9 y0) trodAll_mk0), rfl, bel.frame _, fun h => by cases h⟩
theorem over : Rows.fnExactReadNormalRow.holds Tryz.pinned (OpenSpec.ofChange Rows.fnExactReadNormalSpec) :=
  OpenClaim.holds_of_wide 4 Tryz.f4 rfl rfl rfl rfl rfl rfl rfl ⟨rfl, rfl, rfl, rfl, rfl⟩ rfl rfl rfl rfl rfl (by kernel_rfl) Tryz.func4 (by kernel_rfl)
    (of_decide_eq_true (by kernel_rfl)) (by unfold Func.isWrapper; first | (rw [if_pos (by decide +kernel)]; kernel_rfl) | (rw [if_neg (by decide +kernel)]; exact ⟨rfl, rfl⟩))
    (fun os started H enc _ => lifted os started H enc)
theorem plain (f : FuncId) (fn : Func) (hf : Tryz.pinned.checked.prog.funcNamed "loop.example/g00825/laws.FnExactReadNormal" = some f) (hfn : Tryz.pinned.checked.prog.funcs[f]? = some fn) :
    true = Tryz.pinned.checked.prog.looks [] ∧ ∀ (j : Nat) t, fn.params[j]? = some t → Tryz.pinned.checked.prog.wantsStandIn t = false := by
  obtain rfl : f = 4 := Option.some.inj ((show Tryz.prog.funcNamed "loop.example/g00825/laws.FnExactReadNormal" = some 4 by kernel_rfl).symm.trans hf) |>.symm
  obtain rfl : fn = Tryz.f4 := (Option.some.inj (Tryz.func4.symm.trans hfn)).symm
  refine ⟨by kernel_rfl, fun j t ht => ?_⟩
  have hall : (Tryz.f4.params.all fun u => !Tryz.prog.wantsStandIn u) = true := by kernel_rfl
  have hm := (Array.all_eq_true_iff_forall_mem.1 hall) t (Array.mem_of_getElem? ht)
  exact (show Tryz.prog.wantsStandIn t = false by simpa using hm)
theorem proved : Rows.FnExactReadNormalCardSaid :=
  Claim7.holds_tied_plain_at .later [] _ _ _ _ over (fun _ h => by cases h) (by kernel_rfl) (fun _ h => by cases h) fnExactReadNormal_row_tie rfl ⟨rfl, rfl⟩ (by kernel_rfl) rfl plain (by kernel_rfl)
#print axioms proved
end Go.Proofs.YtmcldkobejhaeaaGreatDoor.fnExactReadNormal
namespace Go.Proofs.YtmcldkobejhaeaaGreatDoor
/-- The row, under a short name, for the claim. -/
theorem fnExactReadNormal_holds : Rows.FnExactReadNormalCardSaid := fnExactReadNormal.proved
end Go.Proofs.YtmcldkobejhaeaaGreatDoor
