/- Part 2 of 7 of a proof of this sentence: The Go function loop.example/g00825/laws.FnNormal returns true for every input, and each argument reads afterwards as it read before. No condition. -/
import Derived.Test.YtmcldkobejhaeaaGreatDoorProg
import Derived.Below
import Derived.Deep.Draws
import Derived.Deep.AppendLies
import Derived.Maps.AppendAt
import Derived.OwnWalk
import Derived.Laws.BytesArg
import Derived.Laws.MakeOwn
import Derived.Laws.OwnMore
import Derived.Deep.OwnRows
import Derived.Tactics
import Derived.Lib.ConvBytes
import Derived.Laws.Slices
import Derived.WalkKit
import Derived.KernelRfl
import Derived.RowKit3
import Derived.Deep.LoopGhost
import Derived.Deep.QuietTactic
import Derived.BigQuiet
import Derived.WideLaws
import Derived.Deep.DeepCutAuto
import Derived.Deep.CutBlock
import Derived.Deep.RegionHeld3
import Derived.Laws.Rows
import Derived.Lib.AppendStr
import Derived.ArgAppend
import Derived.Laws.IdiomCopy
import Derived.OrdersHeld
import Derived.Laws.BitsLemmas
import Derived.RowKit
import Derived.Lib.LazyBuf
import Derived.Laws.Sem
import Derived.DataReads
import Derived.ChangeArms
import Derived.ChangeSame
import Derived.Deep.Slices
import Derived.Lib.Strings
import Derived.Lib.Slices
import Derived.Lib.Walk
import Derived.Lib.Bytealg
import Derived.Test.YtmcldkobejhaeaaGreatDoorCFnNormal1
namespace Go.Proofs.YtmcldkobejhaeaaGreatDoor.My
open Go.RowKit Go.Proofs.YtmcldkobejhaeaaGreatDoorW.PrintWords Go.Proofs.YtmcldkobejhaeaaGreatDoorW.PrintLast Go.Proofs.YtmcldkobejhaeaaGreatDoorW.PrintMore
attribute [local go_sem] max2_int min2_int max_two min_two max_three min_three max_four min_four
set_option linter.unusedVariables false
set_option linter.unusedSimpArgs false
theorem am {p : Prop} (h : p) : Aside0 p := ⟨h⟩
theorem zN {q p : Prop} (b : q) (h : q → p := by intro hz_; (with_reducible repeat (first | apply Kd.N_alloc | apply Kd.N_drewN | apply Kd.N_drew)); exact hz_) : p := h b
def errW : Option Int → Value
  | none => .nilIface
  | some c => .iface 138 (.int .i64 c)
theorem errW_none : errW none = .nilIface := rfl
theorem errW_some (c : Int) : errW (some c) = .iface 138 (.int .i64 c) := rfl
theorem info9 : (Tryz.prog.info? 9).map (fun i => (i.zero, i.size, i.bytes)) = some (some (.string ⟨#[]⟩), 1, 16) := by kernel_rfl
theorem info52 : (Tryz.prog.info? 52).map (fun i => (i.zero, i.size, i.bytes)) = some (some (.agg #[(.int .i64 0), (.int .i64 0), (.slice none 0 0), (.int .i64 0), (.int .i64 0), (.slice none 0 0)]), 6, 80) := by kernel_rfl
theorem info60 : (Tryz.prog.info? 60).map (fun i => (i.zero, i.size, i.bytes)) = some (some (.agg #[(.int .i64 0), (.int .i64 0), (.slice none 0 0)]), 3, 40) := by kernel_rfl
abbrev Y : Bool := true
abbrev O : Bool := false
theorem qa {α : Type} (xs : List α) (i : Nat) (v : α) : xs.toArray.setIfInBounds i v = (xs.set i v).toArray := List.setIfInBounds_toArray ..
theorem qb {α : Type} (x v : α) (xs : List α) : (x :: xs).set 0 v = v :: xs := rfl
theorem qc {α : Type} (x v : α) (xs : List α) (i : Nat) : (x :: xs).set (i + 1) v = x :: xs.set i v := rfl
theorem zb {p : Prop} (h : p := by repeat (first | (with_reducible first | exact HB.out | apply below_alloc | apply pw_below_drewN | apply below_drew1) | exact HB.out)) : p := h
theorem zk {q p : Prop} (b : q) (h : q → p := by intro hz_; (with_reducible repeat (first | refine blk_drewN ?_ _ | refine blk_drew ?_ | refine blk_alloc ?_ _)); exact hz_) : p := h b
theorem zs {q p : Prop} (b : q) (h : q → p := by intro hz_; (with_reducible repeat (first | apply Kd.S_alloc | apply Kd.S_drewN | apply Kd.S_drew)); exact hz_) : p := h b
theorem zr {q p : Prop} (b : q) (h : q → p := by intro hz_; (with_reducible repeat (first | apply Kd.R_alloc | apply Kd.R_drewN | apply Kd.R_drew)); exact hz_) : p := h b
theorem zf {p : Prop} (h : p := by first | rfl | (simp; done) | (simp [*]; done)) : p := h
theorem zq {q p : Prop} (b : q) (h : q → p := by intro hz_; repeat (first | exact hz_ | (with_reducible refine Kd.C_alloc ?_ _) | (with_reducible refine Kd.C_drewN ?_ _) | (with_reducible refine Kd.C_drew ?_))) : p := h b
theorem zm {p : Prop} (h : p := by (try simp only [List.map_toArray, List.map_cons, List.map_nil]); first | done | rfl | (simp only [List.length_drop, List.length_take]; rfl)) : p := h
theorem zd {p : Prop} (h : p := by first | exact ⟨rfl, _, World.drewN_drewN _ _ _⟩ | exact ⟨rfl, _, Eq.trans (World.drewN_drewN _ _ _) (congrArg (World.drewN _) (Nat.add_assoc _ _ _))⟩) : p := h
theorem zx {p : Prop} (h : p := by exact any_of HT_.out (by kernel_rfl)) : p := h
theorem gateC {P : Program} {ops : Array Oper} {Q : Exit → Act → World → Prop} {rest : List Oper} {o : Oper} {a : Act} {W : World} {f : FuncId} {xs : Array Operand} {ts : Array TypeId} (_ : o.op = .call { callee := .value (.func f), args := xs, argTypes := ts }) (h : wpList P ops Q (o :: rest) a W) : wpList P ops Q (o :: rest) a W := h
theorem gateB {P : Program} {ops : Array Oper} {Q : Exit → Act → World → Prop} {rest : List Oper} {o : Oper} {a : Act} {W : World} {b : Builtin} {xs : Array Operand} {ts : Array TypeId} (_ : o.op = .call { callee := .builtin b, args := xs, argTypes := ts }) (h : wpList P ops Q (o :: rest) a W) : wpList P ops Q (o :: rest) a W := h
theorem oa {p : Prop} [Decidable p] (h : decide p = true := by first | (with_reducible assumption) | assumption) : p := of_decide_eq_true h
def sepPair {α β : Type} (a : Kd α) (b : Kd β) : Kd (α × β) where
  sz := a.sz + b.sz
  E := a.E ++ b.E
  K := fun w x cs => ∃ c0 c1, cs = c0 ++ c1 ∧ a.K w x.1 c0 ∧ b.K w x.2 c1
  M := fun w base ok x cs => ∃ c0 c1, cs = c0 ++ c1 ∧ a.M w base ok x.1 c0 ∧ b.M w base (fun k => ok k ∧ ∀ v ∈ c0, v.ownBlock ≠ some k) x.2 c1
  K_len := (Kd.pair a b).K_len
  K_one := (Kd.pair a b).K_one
  K_below := (Kd.pair a b).K_below
  K_of_M := by
    rintro w base ok x cs ⟨c0, c1, rfl, h0, h1⟩
    exact ⟨c0, c1, rfl, a.K_of_M h0, b.K_of_M h1⟩
  M_mono := by
    rintro w base ok ok' x cs hok ⟨c0, c1, rfl, h0, h1⟩
    exact ⟨c0, c1, rfl, a.M_mono hok h0, b.M_mono (fun k hk => ⟨hok k hk.1, hk.2⟩) h1⟩
  M_bound := by
    rintro w base ok x cs ⟨c0, c1, rfl, h0, h1⟩
    refine ⟨c0, c1, rfl, a.M_mono ?_ (a.M_bound h0), b.M_mono ?_ (b.M_bound h1)⟩
    · rintro k ⟨h2, h3, h4, q, hq, hc⟩
      exact ⟨h2, h3, h4, q, List.mem_append_left _ hq, hc⟩
    · rintro k ⟨h2, h3, h4, q, hq, hc⟩
      exact ⟨⟨h2.1, h3, h4, q, List.mem_append_right _ hq, hc⟩, h2.2⟩
  M_move := by
    rintro w w1 base ok x cs hm ⟨c0, c1, rfl, h0, h1⟩
    exact ⟨c0, c1, rfl, a.M_move hm h0, b.M_move (fun k hk => hm k hk.1) h1⟩
  M_lower := by
    rintro w base base' ok x cs hb ⟨c0, c1, rfl, h0, h1⟩
    exact ⟨c0, c1, rfl, a.M_lower hb h0, b.M_lower hb h1⟩
section
variable {α β : Type} {d : Kd α} {e e' : Nat} {w w' : World} {base base' : Nat} {u v : Value} {xs ys : List ByteArray} {ok ok' ok2 : Nat → Prop}
theorem sep_nil : ∀ k, (Value.slice none 0 0).ownBlock = some k → v.ownBlock ≠ some k := fun k h => by simp [Value.ownBlock] at h
theorem sep_after {W : World} {o_ : Value} (hs : ∀ k, u.ownBlock = some k → o_.ownBlock ≠ some k) (hat : v.ownBlock = o_.ownBlock ∨ ∃ b, v.ownBlock = some b ∧ W.heap.size ≤ b) (hlt : ∀ k, u.ownBlock = some k → k < W.heap.size) : ∀ k, u.ownBlock = some k → v.ownBlock ≠ some k := fun k h1 h2 => by
  rcases hat with e | ⟨b, eb, hb⟩
  · exact hs k h1 (e.symm.trans h2)
  · have := hlt k h1
    rw [eb] at h2
    injection h2 with h2
    omega
theorem sep_k {oki okA okp : Nat → Prop} {g_ : Nat} (hge : Kd.string.R e w base oki v xs) (hoki : ∀ k, oki k → (okA k ∧ ¬ okp k) ∧ k ≠ g_) (hp : ∀ k, u.ownBlock = some k → okp k) : ∀ k, u.ownBlock = some k → v.ownBlock ≠ some k := fun k h1 h2 => (hoki k (hge.1 k h2)).1.2 (hp k h1)
theorem sep_a (h : Aside0 (Kd.string.R e w base (fun k => ok k ∧ some k ≠ u.ownBlock) v xs)) : ∀ k, u.ownBlock = some k → v.ownBlock ≠ some k := fun k h1 h2 => (h.out.1 k h2).2 h1.symm
theorem sep_b (h : Aside0 (Kd.string.R e w base (fun k => ok k ∧ some k ≠ v.ownBlock) u xs)) : ∀ k, u.ownBlock = some k → v.ownBlock ≠ some k := fun k h1 h2 => (h.out.1 k h1).2 h2.symm
theorem sep_a2 (h : Aside0 (Kd.string.R e w base (fun k => (ok k ∧ some k ≠ u.ownBlock) ∧ ok2 k) v xs)) : ∀ k, u.ownBlock = some k → v.ownBlock ≠ some k := fun k h1 h2 => (h.out.1 k h2).1.2 h1.symm
theorem sep_b2 (h : Aside0 (Kd.string.R e w base (fun k => (ok k ∧ some k ≠ v.ownBlock) ∧ ok2 k) u xs)) : ∀ k, u.ownBlock = some k → v.ownBlock ≠ some k := fun k h1 h2 => (h.out.1 k h1).1.2 h2.symm
theorem sep_e (h : Aside0 (Kd.string.R e w base (fun k => some k ≠ u.ownBlock) v xs)) : ∀ k, u.ownBlock = some k → v.ownBlock ≠ some k := fun k h1 h2 => (h.out.1 k h2) h1.symm
theorem sep_f (h : Aside0 (Kd.string.R e w base (fun k => some k ≠ v.ownBlock) u xs)) : ∀ k, u.ownBlock = some k → v.ownBlock ≠ some k := fun k h1 h2 => (h.out.1 k h1) h2.symm
theorem sep_c (h : Aside0 (Kd.string.R e w base (fun k => some k ≠ u.ownBlock ∧ ok k) v xs)) : ∀ k, u.ownBlock = some k → v.ownBlock ≠ some k := fun k h1 h2 => (h.out.1 k h2).1 h1.symm
theorem sep_d (h : Aside0 (Kd.string.R e w base (fun k => some k ≠ v.ownBlock ∧ ok k) u xs)) : ∀ k, u.ownBlock = some k → v.ownBlock ≠ some k := fun k h1 h2 => (h.out.1 k h1).1 h2.symm
theorem sep_g (h : Aside0 (Kd.string.R e w base (fun k => ok k ∧ (ok2 k ∧ some k ≠ u.ownBlock)) v xs)) : ∀ k, u.ownBlock = some k → v.ownBlock ≠ some k := fun k h1 h2 => (h.out.1 k h2).2.2 h1.symm
theorem sep_h (h : Aside0 (Kd.string.R e w base (fun k => ok k ∧ (ok2 k ∧ some k ≠ v.ownBlock)) u xs)) : ∀ k, u.ownBlock = some k → v.ownBlock ≠ some k := fun k h1 h2 => (h.out.1 k h1).2.2 h2.symm
theorem sep_i (h : Aside0 (Kd.string.R e w base (fun k => ok k ∧ (some k ≠ u.ownBlock ∧ ok2 k)) v xs)) : ∀ k, u.ownBlock = some k → v.ownBlock ≠ some k := fun k h1 h2 => (h.out.1 k h2).2.1 h1.symm
theorem sep_j (h : Aside0 (Kd.string.R e w base (fun k => ok k ∧ (some k ≠ v.ownBlock ∧ ok2 k)) u xs)) : ∀ k, u.ownBlock = some k → v.ownBlock ≠ some k := fun k h1 h2 => (h.out.1 k h1).2.1 h2.symm
end
structure S52 where
  f0 : Int
  f1 : Int
  f2 : (List ByteArray)
  f3 : Int
  f4 : Int
  f5 : (List ByteArray)
def z52 : S52 := ⟨(0 : Int), (0 : Int), ([] : List ByteArray), (0 : Int), (0 : Int), ([] : List ByteArray)⟩
def k52 : Kd S52 := Kd.iso (Kd.pair (Kd.int .i64) (Kd.pair (Kd.int .i64) (sepPair (Kd.slice 9 Kd.string) (Kd.pair (Kd.int .i64) (Kd.pair (Kd.int .i64) (Kd.slice 9 Kd.string)))))) (fun x : S52 => (x.f0, x.f1, x.f2, x.f3, x.f4, x.f5))
theorem k52_open {w : World} {x : S52} {cs : List Value} (h : k52.K w x cs) : ∃ A2 c2 A5 c5, cs = [.int .i64 x.f0, .int .i64 x.f1, .slice A2 x.f2.length c2, .int .i64 x.f3, .int .i64 x.f4, .slice A5 x.f5.length c5] ∧ x.f2.length ≤ c2 ∧ Kd.string.C w A2 x.f2.length x.f2 ∧ x.f5.length ≤ c5 ∧ Kd.string.C w A5 x.f5.length x.f5 := by
  obtain ⟨_, _, rfl, rfl, ⟨_, _, rfl, rfl, ⟨_, _, rfl, ⟨A2, c2, rfl, l2, g2⟩, ⟨_, _, rfl, rfl, ⟨_, _, rfl, rfl, ⟨A5, c5, rfl, l5, g5⟩⟩⟩⟩⟩⟩ := h
  exact ⟨A2, c2, A5, c5, rfl, l2, g2, l5, g5⟩
theorem k52_openM {w : World} {base : Nat} {ok : Nat → Prop} {x : S52} {cs : List Value} (h : k52.M w base ok x cs) : ∃ v2 v5, cs = [.int .i64 x.f0, .int .i64 x.f1, v2, .int .i64 x.f3, .int .i64 x.f4, v5] ∧ Kd.string.R 9 w base ok v2 x.f2 ∧ Kd.string.R 9 w base ok v5 x.f5 := by
  obtain ⟨_, _, rfl, rfl, ⟨_, _, rfl, rfl, ⟨_, _, rfl, ⟨v2, rfl, g2⟩, ⟨_, _, rfl, rfl, ⟨_, _, rfl, rfl, ⟨v5, rfl, g5⟩⟩⟩⟩⟩⟩ := h
  exact ⟨v2, v5, rfl, g2, Kd.R_mono g5 (fun _ h_ => h_.1)⟩
theorem k52_openMS {w : World} {base : Nat} {ok : Nat → Prop} {x : S52} {cs : List Value} (h : k52.M w base ok x cs) : ∃ v2 v5, cs = [.int .i64 x.f0, .int .i64 x.f1, v2, .int .i64 x.f3, .int .i64 x.f4, v5] ∧ Kd.string.R 9 w base ok v2 x.f2 ∧ Kd.string.R 9 w base ok v5 x.f5 ∧ (∀ k, v5.ownBlock = some k → v2.ownBlock ≠ some k) := by
  obtain ⟨_, _, rfl, rfl, ⟨_, _, rfl, rfl, ⟨_, _, rfl, ⟨v2, rfl, g2⟩, ⟨_, _, rfl, rfl, ⟨_, _, rfl, rfl, ⟨v5, rfl, g5⟩⟩⟩⟩⟩⟩ := h
  exact ⟨v2, v5, rfl, g2, Kd.R_mono g5 (fun _ h_ => h_.1), fun k h_ => (g5.1 k h_).2 _ (List.mem_singleton.2 rfl)⟩
theorem k52_mkM {v2 v5 : Value} (hsep : ∀ k, v5.ownBlock = some k → v2.ownBlock ≠ some k) (w : World) (base : Nat) (ok : Nat → Prop) (x : S52) (g2 : Kd.string.R 9 w base ok v2 x.f2) (g5 : Kd.string.R 9 w base ok v5 x.f5) : k52.M w base ok x [.int .i64 x.f0, .int .i64 x.f1, v2, .int .i64 x.f3, .int .i64 x.f4, v5] := ⟨[.int .i64 x.f0], [.int .i64 x.f1, v2, .int .i64 x.f3, .int .i64 x.f4, v5], rfl, rfl, ⟨[.int .i64 x.f1], [v2, .int .i64 x.f3, .int .i64 x.f4, v5], rfl, rfl, ⟨[v2], [.int .i64 x.f3, .int .i64 x.f4, v5], rfl, ⟨v2, rfl, g2⟩, ⟨[.int .i64 x.f3], [.int .i64 x.f4, v5], rfl, rfl, ⟨[.int .i64 x.f4], [v5], rfl, rfl, ⟨v5, rfl, Kd.R_mono (Kd.R_tight rfl g5) (fun k hk => ⟨g5.1 k hk.symm, fun v hv => by rw [List.mem_singleton.1 hv]; exact hsep k hk.symm⟩)⟩⟩⟩⟩⟩⟩
def T52 (xs : List S52) (i : Int) : S52 := xs.getD i.toNat z52
theorem at_T52 {w : World} {A : Option Addr} {n : Nat} {xs : List S52} (h : Kd.C k52 w A n xs) (i : Int) (h0 : 0 ≤ i) (h1 : i < n) : ∃ ad A2 c2 A5 c5, A = some ad ∧ w.cell? (ad.add (i.toNat * 6)) = some (.int .i64 (T52 xs i).f0) ∧ w.cell? ⟨(ad.add (i.toNat * 6)).block, (ad.add (i.toNat * 6)).off + 1, none⟩ = some (.int .i64 (T52 xs i).f1) ∧ w.cell? ⟨(ad.add (i.toNat * 6)).block, (ad.add (i.toNat * 6)).off + 2, none⟩ = some (.slice A2 (T52 xs i).f2.length c2) ∧ w.cell? ⟨(ad.add (i.toNat * 6)).block, (ad.add (i.toNat * 6)).off + 3, none⟩ = some (.int .i64 (T52 xs i).f3) ∧ w.cell? ⟨(ad.add (i.toNat * 6)).block, (ad.add (i.toNat * 6)).off + 4, none⟩ = some (.int .i64 (T52 xs i).f4) ∧ w.cell? ⟨(ad.add (i.toNat * 6)).block, (ad.add (i.toNat * 6)).off + 5, none⟩ = some (.slice A5 (T52 xs i).f5.length c5) ∧ (T52 xs i).f2.length ≤ c2 ∧ Kd.string.C w A2 (T52 xs i).f2.length (T52 xs i).f2 ∧ (T52 xs i).f5.length ≤ c5 ∧ Kd.string.C w A5 (T52 xs i).f5.length (T52 xs i).f5 := by
  obtain ⟨ad, c, e, _, hK, hc0⟩ := Kd.C_get h z52 i h0 h1
  have hc : ∀ j u, c[j]? = some u → w.cell? (ad.add (i.toNat * 6 + j)) = some u := hc0
  obtain ⟨A2, c2, A5, c5, rfl, l2, g2, l5, g5⟩ := k52_open hK
  exact ⟨ad, A2, c2, A5, c5, e, hc 0 _ rfl, by rw [← add_field _ _ 1 (by omega)]; exact hc 1 _ rfl, by rw [← add_field _ _ 2 (by omega)]; exact hc 2 _ rfl, by rw [← add_field _ _ 3 (by omega)]; exact hc 3 _ rfl, by rw [← add_field _ _ 4 (by omega)]; exact hc 4 _ rfl, by rw [← add_field _ _ 5 (by omega)]; exact hc 5 _ rfl, l2, g2, l5, g5⟩
structure S60 where
  f0 : Int
  f1 : Int
  f2 : (List ByteArray)
def z60 : S60 := ⟨(0 : Int), (0 : Int), ([] : List ByteArray)⟩
def k60 : Kd S60 := Kd.iso (Kd.pair (Kd.int .i64) (Kd.pair (Kd.int .i64) (Kd.slice 9 Kd.string))) (fun x : S60 => (x.f0, x.f1, x.f2))
theorem k60_open {w : World} {x : S60} {cs : List Value} (h : k60.K w x cs) : ∃ A2 c2, cs = [.int .i64 x.f0, .int .i64 x.f1, .slice A2 x.f2.length c2] ∧ x.f2.length ≤ c2 ∧ Kd.string.C w A2 x.f2.length x.f2 := by
  obtain ⟨_, _, rfl, rfl, ⟨_, _, rfl, rfl, ⟨A2, c2, rfl, l2, g2⟩⟩⟩ := h
  exact ⟨A2, c2, rfl, l2, g2⟩
theorem k60_openM {w : World} {base : Nat} {ok : Nat → Prop} {x : S60} {cs : List Value} (h : k60.M w base ok x cs) : ∃ v2, cs = [.int .i64 x.f0, .int .i64 x.f1, v2] ∧ Kd.string.R 9 w base ok v2 x.f2 := by
  obtain ⟨_, _, rfl, rfl, ⟨_, _, rfl, rfl, ⟨v2, rfl, g2⟩⟩⟩ := h
  exact ⟨v2, rfl, g2⟩
theorem k60_mkM (w : World) (base : Nat) (ok : Nat → Prop) (x : S60) {v2 : Value} (g2 : Kd.string.R 9 w base ok v2 x.f2) : k60.M w base ok x [.int .i64 x.f0, .int .i64 x.f1, v2] := ⟨[.int .i64 x.f0], [.int .i64 x.f1, v2], rfl, rfl, ⟨[.int .i64 x.f1], [v2], rfl, rfl, ⟨v2, rfl, g2⟩⟩⟩
def T60 (xs : List S60) (i : Int) : S60 := xs.getD i.toNat z60
theorem at_T60 {w : World} {A : Option Addr} {n : Nat} {xs : List S60} (h : Kd.C k60 w A n xs) (i : Int) (h0 : 0 ≤ i) (h1 : i < n) : ∃ ad A2 c2, A = some ad ∧ w.cell? (ad.add (i.toNat * 3)) = some (.int .i64 (T60 xs i).f0) ∧ w.cell? ⟨(ad.add (i.toNat * 3)).block, (ad.add (i.toNat * 3)).off + 1, none⟩ = some (.int .i64 (T60 xs i).f1) ∧ w.cell? ⟨(ad.add (i.toNat * 3)).block, (ad.add (i.toNat * 3)).off + 2, none⟩ = some (.slice A2 (T60 xs i).f2.length c2) ∧ (T60 xs i).f2.length ≤ c2 ∧ Kd.string.C w A2 (T60 xs i).f2.length (T60 xs i).f2 := by
  obtain ⟨ad, c, e, _, hK, hc0⟩ := Kd.C_get h z60 i h0 h1
  have hc : ∀ j u, c[j]? = some u → w.cell? (ad.add (i.toNat * 3 + j)) = some u := hc0
  obtain ⟨A2, c2, rfl, l2, g2⟩ := k60_open hK
  exact ⟨ad, A2, c2, e, hc 0 _ rfl, by rw [← add_field _ _ 1 (by omega)]; exact hc 1 _ rfl, by rw [← add_field _ _ 2 (by omega)]; exact hc 2 _ rfl, l2, g2⟩
theorem zh {p : Prop} (h : p := by repeat (first | (with_reducible first | exact HK.out | apply KeepBut.set_ | apply keep_drewN | apply keep_drew | apply keep_alloc) | exact HK.out)) : p := h
theorem zi {p : Prop} (h : p := by repeat (first | (with_reducible first | exact HI0.out | apply IsS77.alloc | apply IsS77.drewN | apply IsS77.drew | apply IsS77.set_1 | apply IsS77.set_2) | exact HI0.out)) : p := h
theorem zj {p : Prop} (h : p := by repeat (first | (with_reducible first | exact HB.out | apply below_alloc | apply pw_below_drewN | apply below_drew1 | refine below_set ?_ (IsS77.ge HI0.out)) | exact HB.out)) : p := h
theorem zn {q p : Prop} (b : q) (h : q → p := by intro hz_; first | (rw [add_block]; exact hz_) | (show (Addr.add _ _).block ≠ _; rw [add_block]; exact hz_) | exact hz_) : p := h b
theorem zl {q p : Prop} (b : q) (h : q → p := by intro hz_; have := World.block_lt_of_cell? _ _ hz_; first | rwa [add_block] at this | exact this) : p := h b
theorem zw {p : Prop} (h : p := by repeat (first | (with_reducible first | exact HB.out | apply below_alloc | apply pw_below_drewN | apply below_drew1 | refine below_set ?_ (Aside0.out (by assumption))) | exact HB.out)) : p := h
theorem zy {p : Prop} (h : p := by with_reducible first | exact sep_nil | exact sep_a (by assumption) | exact sep_a2 (by assumption) | exact sep_b (by assumption) | exact sep_b2 (by assumption) | exact sep_c (by assumption) | exact sep_d (by assumption) | exact sep_e (by assumption) | exact sep_f (by assumption) | exact sep_g (by assumption) | exact sep_h (by assumption) | exact sep_i (by assumption) | exact sep_j (by assumption) | exact Aside0.out (by assumption) | exact sep_k (by assumption) (by assumption) (fun _ h => h.symm)) : p := h
theorem itn {α : Type} {c : Prop} {d : Decidable c} {a : Option α} {r : α} (h : (if c then a else none) = some r) : c ∧ a = some r := by
 split at h
 · exact ⟨‹_›, h⟩
 · cases h
theorem bc {w W : World} {a : Addr} {v : Value} (hb : Below w.heap.size w W) (h : w.cell? a = some v) : W.cell? a = some v := (hb.cell (World.block_lt_of_cell? w _ h)).trans h
theorem fz3 {w : World} {g : Nat} {t : TypeId} {cs : Array Value} (h : w.heap[g]? = some (.cells cs t (0, 0))) : w.frozen? ⟨g, 0, none⟩ = false ∧ w.frozen? ⟨g, 1, none⟩ = false ∧ w.frozen? ⟨g, 2, none⟩ = false := ⟨blk_frozen h 0, blk_frozen h 1, blk_frozen h 2⟩
theorem cz3 {w : World} {g : Nat} {t : TypeId} {a b c : Value} (h : w.heap[g]? = some (.cells #[a, b, c] t (0, 0))) : w.cell? ⟨g, 0, none⟩ = some a ∧ w.cell? ⟨g, 1, none⟩ = some b ∧ w.cell? ⟨g, 2, none⟩ = some c := ⟨(blk_cell h 0).trans rfl, (blk_cell h 1).trans rfl, (blk_cell h 2).trans rfl⟩
theorem fz6 {w : World} {g : Nat} {t : TypeId} {cs : Array Value} (h : w.heap[g]? = some (.cells cs t (0, 0))) : w.frozen? ⟨g, 0, none⟩ = false ∧ w.frozen? ⟨g, 1, none⟩ = false ∧ w.frozen? ⟨g, 2, none⟩ = false ∧ w.frozen? ⟨g, 3, none⟩ = false ∧ w.frozen? ⟨g, 4, none⟩ = false ∧ w.frozen? ⟨g, 5, none⟩ = false := ⟨blk_frozen h 0, blk_frozen h 1, blk_frozen h 2, blk_frozen h 3, blk_frozen h 4, blk_frozen h 5⟩
theorem cz6 {w : World} {g : Nat} {t : TypeId} {a b c d e f : Value} (h : w.heap[g]? = some (.cells #[a, b, c, d, e, f] t (0, 0))) : w.cell? ⟨g, 0, none⟩ = some a ∧ w.cell? ⟨g, 1, none⟩ = some b ∧ w.cell? ⟨g, 2, none⟩ = some c ∧ w.cell? ⟨g, 3, none⟩ = some d ∧ w.cell? ⟨g, 4, none⟩ = some e ∧ w.cell? ⟨g, 5, none⟩ = some f := ⟨(blk_cell h 0).trans rfl, (blk_cell h 1).trans rfl, (blk_cell h 2).trans rfl, (blk_cell h 3).trans rfl, (blk_cell h 4).trans rfl, (blk_cell h 5).trans rfl⟩
theorem pu (i : Nat) (N : Option Tmp) {P : Program} {ops : Array Oper} {Q : Exit → Act → World → Prop} {md : Region.Mode} {S : World → Prop} {ds : List Nat} {oi : Oper} {v : Value} {fuel : Nat} {l : Array Bool} {a : Act} {w : World} {l' : Array Bool} {a' : Act} (h : wpAnyLast P md ops Q S ds fuel l' a' w) (hl : l.setIfInBounds i true = l' := by simp only [List.setIfInBounds_toArray, List.set_cons_zero, List.set_cons_succ]; rfl) (hi : ops[i]? = some oi := by rfl) (hN : oi.dst = N := by rfl) (hc : anyB md ops l l' i = true := by exact any_of HT_.out (by kernel_rfl)) (hQ : ∀ (c : List PanicEntry) (a : Act) (w : World), Q (Exit.panic c) (a.put oi.dst v) w → Q (Exit.panic c) a w := by exact fun _ _ _ h => h)
 (h0 : Region.wanted oi (yielded ops a.tmps) = true := by rfl) (hy : ∀ w' : World, Sem.run P (execOp a.eval oi) w' = Result.ok (Next.value v) w' := by intro w'; go_simp; with_reducible rfl) (ha : a.put N v = a' := by simp only [Act.put,qa,qb,qc,i64_w,i32_w]; rfl) : wpAnyLast P md ops Q S ds (fuel + 1) l a w := pure_ l' hi hN hc hQ (Or.inl ⟨h0, hy⟩) ha h
theorem ta (i : Nat) (N : Option Tmp) {P : Program} {ops : Array Oper} {Q : Exit → Act → World → Prop} {md : Region.Mode} {S : World → Prop} {ds : List Nat} {oi : Oper} {v : Value} {fuel : Nat} {l : Array Bool} {a : Act} {w : World} {l' : Array Bool} {a' : Act} (h : wpAnyLast P md ops Q S ds fuel l' a' w) (hl : l.setIfInBounds i true = l' := by simp only [List.setIfInBounds_toArray, List.set_cons_zero, List.set_cons_succ]; rfl) (hi : ops[i]? = some oi := by rfl) (hN : oi.dst = N := by rfl) (hc : takeB md ops ds l l' i = true := by exact take_ofW HT_.out HW_.out (by kernel_rfl)) (hQ : ∀ (c : List PanicEntry) (a : Act) (w : World), Q (Exit.panic c) (a.put oi.dst v) w → Q (Exit.panic c) a w := by exact fun _ _ _ h => h)
 (h0 : Region.wanted oi (yielded ops a.tmps) = true := by rfl) (hS : S w := by exact hHeld) (hy : ∀ w' : World, S w' → Sem.run P (execOp a.eval oi) w' = Result.ok (Next.value v) w' := by intro w' s_; (repeat (have := And.left s_; replace s_ := And.right s_)); go_simp; with_reducible rfl) (ha : a.put N v = a' := by simp only [Act.put,qa,qb,qc,i64_w,i32_w]; rfl) : wpAnyLast P md ops Q S ds (fuel + 1) l a w := take_ l' hi hN hc hQ (Or.inl ⟨h0, hy⟩) hS ha h
end Go.Proofs.YtmcldkobejhaeaaGreatDoor.My
namespace Go.Proofs.YtmcldkobejhaeaaGreatDoor.Opens
open Go.ChangeShapes Go.WideShapes Go.Proofs.YtmcldkobejhaeaaGreatDoorW.PrintWords
set_option linter.unusedVariables false
set_option linter.unusedSimpArgs false
def Opens {α : Type} (P : Program) (t : TypeId) (d : Kd α) (Q : α → Prop) : Prop :=
  ∀ (H : Type) (enc : TypeId × Value → H) (w : World) (base : Nat) (spare : Nat → Bool) (held : Bool) (n : Nat) (cs : List Value) (x : DataW H × List MemPlace),
    DataW.trod enc P w base spare held n t cs = some x → ∃ a : α, d.K w a cs ∧ Q a
theorem opens_int {P : Program} {t : TypeId} (k : IntKind) (ht : P.underlying t = some (.int k)) : Opens P t (Kd.int k) (fun z => (Lit.int k z).wf = true) := by
  intro H enc w base spare held n cs x h
  obtain ⟨z, rfl, _, hw⟩ := DataW.trod_int ht h
  exact ⟨z, rfl, hw⟩
theorem add_add (ad : Addr) (i j : Nat) : (ad.add i).add j = ad.add (i + j) := by
  unfold Addr.add
  by_cases h1 : i = 0 <;> by_cases h2 : j = 0 <;> simp [h1, h2, Nat.add_assoc]
theorem opens_slice {α : Type} {P : Program} {t e : TypeId} {d : Kd α} {Q : α → Prop} (ht : P.underlying t = some (.slice e)) (hc : P.cellsOf e = d.sz) (ho : Opens P e d Q) :
    Opens P t (Kd.slice e d) (fun xs => xs.length ≤ maxLen ∧ ∀ a ∈ xs, Q a) := by
  intro H enc w base spare held n cs x h
  rcases Go.Deep.open_slice ht h with ⟨rfl, _⟩ | ⟨a, len, cap, m, n', D, Pl, rfl, hb, hl, hm, hmm, rfl, hx⟩
  · refine ⟨[], ⟨none, 0, rfl, Nat.le_refl _, rfl, Nat.zero_le _, fun h => absurd h (Nat.lt_irrefl 0)⟩, by simp⟩
  · have hlm : len ≤ m := by rw [hmm]; split <;> omega
    have h1 : ∀ i, i < len → ∃ b : α × List Value, b.2.length = d.sz ∧ d.K w b.1 b.2 ∧ Q b.1 ∧ ∀ j u, b.2[j]? = some u → w.cell? (a.add (i * d.sz + j)) = some u := by
      intro i hi
      obtain ⟨cs', hcs, htr⟩ := hx i (by omega)
      rw [hc] at hcs
      obtain ⟨_, hlen, hcell⟩ := World.cells?_some hcs
      obtain ⟨b, hK, hQ⟩ := ho H enc w base spare held n' cs' _ htr
      refine ⟨(b, cs'), hlen, hK, hQ, fun j u hu => ?_⟩
      have hj : j < d.sz := by
        rw [← hlen]
        exact (List.getElem?_eq_some_iff.1 hu).1
      rw [← add_add, hcell j hj]
      exact hu
    have hne : ∀ i, i < len → Nonempty (α × List Value) := fun i hi => ⟨(h1 i hi).choose⟩
    rcases Nat.eq_zero_or_pos len with h0 | h0
    · subst h0
      exact ⟨[], ⟨some a, cap, rfl, Nat.zero_le _, rfl, Nat.zero_le _, fun h => absurd h (Nat.lt_irrefl 0)⟩, by simp⟩
    · haveI : Inhabited (α × List Value) := ⟨(h1 0 h0).choose⟩
      obtain ⟨f, hf⟩ := Go.Deep.choose_lt (p := fun i (b : α × List Value) => b.2.length = d.sz ∧ d.K w b.1 b.2 ∧ Q b.1 ∧ ∀ j u, b.2[j]? = some u → w.cell? (a.add (i * d.sz + j)) = some u) h1
      have hlen : ((List.range len).map fun i => (f i).1).length = len := by simp
      refine ⟨(List.range len).map fun i => (f i).1, ⟨some a, cap, by rw [hlen], by rw [hlen]; exact hl, by rw [hlen], by rw [hlen]; unfold maxLen at hm; omega, fun _ => ⟨a, rfl, fun j p hj => ?_⟩⟩, by rw [hlen]; omega, fun b hb => ?_⟩
      · have hjl : j < len := by
          have := (List.getElem?_eq_some_iff.1 hj).1
          simpa using this
        have hp : (f j).1 = p := by
          simp [List.getElem?_map, List.getElem?_range hjl] at hj
          exact hj
        obtain ⟨g1, g2, g3, g4⟩ := hf j hjl
        exact ⟨(f j).2, g1, hp ▸ g2, g4⟩
      · obtain ⟨i, hi, rfl⟩ := List.mem_map.1 hb
        exact (hf i (by simpa using hi)).2.2.1
theorem Opens.row {α : Type} {P : Program} {t e : TypeId} {d : Kd α} {Q : List α → Prop} (h : Opens P t (Kd.slice e d) Q) {H : Type} {enc : TypeId × Value → H} {w : World} {base : Nat} {spare : Nat → Bool} {held : Bool} {a : Option Addr} {len cap : Nat} {x : DataW H} {p : List MemPlace}
    (hr : ∃ m, DataW.trod enc P w base spare held m t (Value.slice a len cap).cells.toList = some (x, p)) :
    ∃ l : List α, l.length = len ∧ l.length ≤ cap ∧ Kd.C d w a l.length l ∧ Q l := by
  obtain ⟨m, hm⟩ := hr
  obtain ⟨l, ⟨A, c, e1, hl, hC⟩, hQ⟩ := h _ _ _ _ _ _ _ _ _ hm
  simp [Value.cells] at e1
  obtain ⟨rfl, rfl, rfl⟩ := e1
  exact ⟨l, rfl, hl, hC, hQ⟩
end Go.Proofs.YtmcldkobejhaeaaGreatDoor.Opens
namespace Go.Proofs.YtmcldkobejhaeaaGreatDoor.My
open Go.RowKit Go.Proofs.YtmcldkobejhaeaaGreatDoorW.PrintWords Go.Proofs.YtmcldkobejhaeaaGreatDoorW.PrintLast Go.Proofs.YtmcldkobejhaeaaGreatDoorW.PrintMore
attribute [local go_sem] max2_int min2_int max_two min_two max_three min_three max_four min_four
set_option linter.unusedVariables false
set_option linter.unusedSimpArgs false
open Go.Proofs.YtmcldkobejhaeaaGreatDoor.Opens
def Wu8 (z : Int) : Prop := (Lit.int .u8 z).wf = true
def WL {α : Type} (Q : α → Prop) (xs : List α) : Prop := xs.length ≤ maxLen ∧ ∀ a ∈ xs, Q a
end Go.Proofs.YtmcldkobejhaeaaGreatDoor.My
namespace Go.Proofs.YtmcldkobejhaeaaGreatDoor.My
open Go.RowKit Go.Proofs.YtmcldkobejhaeaaGreatDoorW.PrintWords Go.Proofs.YtmcldkobejhaeaaGreatDoorW.PrintLast Go.Proofs.YtmcldkobejhaeaaGreatDoorW.PrintMore
attribute [local go_sem] max2_int min2_int max_two min_two max_three min_three max_four min_four
set_option linter.unusedVariables false
set_option linter.unusedSimpArgs false
def impl_in.f (a0 : Int) (a1 : Int) (a2 : Int) : Option (Bool) := if a0 ≥ a1 then (some (decide (a0 ≤ a2))) else (some false)
set_option maxHeartbeats 8000000 in
set_option maxRecDepth 100000 in
theorem impl_in.calls (a0 : Int) (a1 : Int) (a2 : Int) (r : Bool) (w : World) (h : impl_in.f a0 a1 a2 = some r) :
  Calls Tryz.prog 69 #[.int .i64 a0, .int .i64 a1, .int .i64 a2] w fun e w' => e = .returned (.bool r) ∧ Drawn0 w w' := by
 have H : (if a0 ≥ a1 then (some (decide (a0 ≤ a2))) else (some false)) = some r := h
 clear h
 by_cases c4 : a0 ≥ a1
 ·rw [if_pos c4] at H
  have c4b0 : decide (a1 ≤ a0) = true := decide_eq_true c4
  clear c4
  obtain rfl := Option.some.inj H
  go_enter Tryz.func69, Tryz.ntmps69
  go_wp2
  go_ret
  exact ⟨by first | rfl | (simp; done) | (simp [*]; done), by repeat (first | exact Drawn0.refl _ | apply Drawn0.step)⟩
 ·rw [if_neg c4] at H
  have c4b0 : decide (a1 ≤ a0) = false := decide_eq_false c4
  clear c4
  obtain rfl := Option.some.inj H
  go_enter Tryz.func69, Tryz.ntmps69
  go_wp2
  go_ret
  exact ⟨by first | rfl | (simp; done) | (simp [*]; done), by repeat (first | exact Drawn0.refl _ | apply Drawn0.step)⟩

def stringslite_IndexByte.f (a0 : ByteArray) (a1 : Int) : Option (Int) := some (Lib.indexByte a0.data.toList a1.toNat.toUInt8)
set_option maxHeartbeats 1000000 in
set_option maxRecDepth 100000 in
theorem stringslite_IndexByte.calls (a0 : ByteArray) (a1 : Int) (r : Int) (w : World) (h : stringslite_IndexByte.f a0 a1 = some r) :
  Calls Tryz.prog 142 #[.string a0, .int .u8 a1] w fun e w' => e = .returned (.int .i64 r) ∧ Drawn0 w w' := by
 obtain rfl : Lib.indexByte a0.data.toList a1.toNat.toUInt8 = r := Option.some.inj h
 clear h
 go_enter Tryz.func142, Tryz.ntmps142
 go_wp2
 rw [run_callFunc_extern Tryz.func150 (by kernel_rfl) (by kernel_rfl) (by kernel_rfl) (e := Extern.BytealgIndexByte.indexByte) (by kernel_rfl), Lib.run_indexByteString]
 simp only [Result.andThen]
 rw [Oper.upon_value]
 go_wp2
 go_ret
 exact ⟨rfl, Drawn0.refl _⟩

def stringslite_Index.j0 : Nat → ByteArray → ByteArray → Int → Bool → Option (Int)
 | 0, _, _, _, _ => none
 | k + 1, x0, x1, x5, x16 => if x16 = true then (some 0) else (if x5 = 1 then (if 0 < (x1.size : Int) then ((stringslite_IndexByte.f x0 (bt x1 0)).bind fun t254 => (some t254)) else (none)) else (if x5 ≥ (x0.size : Int) then (some (-1)) else (none)))
def stringslite_Index.f (k : Nat) (a0 : ByteArray) (a1 : ByteArray) : Option (Int) := if (a1.size : Int) = 0 then (stringslite_Index.j0 k a0 a1 (a1.size : Int) true) else (stringslite_Index.j0 k a0 a1 (a1.size : Int) (a1.toList == a0.toList))
set_option maxHeartbeats 8000000 in
set_option maxRecDepth 100000 in
theorem stringslite_Index.calls (k : Nat) (a0 : ByteArray) (a1 : ByteArray) (r : Int) (w : World) (h : stringslite_Index.f k a0 a1 = some r) :
  Calls Tryz.prog 143 #[.string a0, .string a1] w fun e w' => e = .returned (.int .i64 r) ∧ Drawn0 w w' := by
 have H := h
 clear h
 unfold stringslite_Index.f at H
 have HC3 := am H
 clear H
 go_enter Tryz.func143, Tryz.ntmps143
 go_upto_region 2 with (fail)
 go_cut [16] (fun v16 wc => ∃ (kq : Nat) (x16_2 : Bool), v16 = .bool x16_2 ∧ Aside0 (stringslite_Index.j0 kq a0 a1 (a1.size : Int) x16_2 = some r) ∧ Aside0 (kq ≤ k) ∧ Drawn0 w wc)
 case first =>
  have H := HC3.out
  clear HC3
  by_cases c4 : (a1.size : Int) = 0
  ·rw [if_pos c4] at H
   have c4b0 : ((a1.size : Int) == 0) = true := beq_iff_eq.mpr c4
   have c4b1 : ((a1.size : Int) != 0) = false := bne_eq_false_iff_eq.mpr c4
   clear c4
   (skip)
   have H' := am H
   clear H
   go_wp2
   go_meet
   case rel => exact ⟨_, (true), zf, H', ⟨by omega⟩, by repeat (exact Drawn0.refl _)⟩
  ·rw [if_neg c4] at H
   have c4b0 : ((a1.size : Int) == 0) = false := beq_eq_false_iff_ne.mpr c4
   have c4b1 : ((a1.size : Int) != 0) = true := bne_iff_ne.mpr c4
   (skip)
   have H' := am H
   clear H
   go_wp2
   go_meet
   case rel => exact ⟨_, ((a1.toList == a0.toList)), zf, H', ⟨by omega⟩, by repeat (exact Drawn0.refl _)⟩
 case rest =>
  clear HC3
  obtain ⟨kq, x16_2, rfl, HA, HJ2, ⟨mc2, rfl⟩⟩ := hcut
  cases kq with
  | zero => exact absurd HA.out (by simp [stringslite_Index.j0])
  | succ kj2 =>
   have H := HA.out
   clear HA
   simp only [stringslite_Index.j0] at H
   by_cases c5 : x16_2 = true
   ·subst c5
    rw [if_pos rfl] at H
    obtain rfl := Option.some.inj H
    go_wp2
    go_ret
    exact ⟨by rfl, by repeat (first | exact Drawn0.refl _ | apply Drawn0.step)⟩
   ·replace c5 := Bool.eq_false_iff.mpr c5
    subst c5
    rw [if_neg nofun] at H
    by_cases c6 : (a1.size : Int) = 1
    ·rw [if_pos c6] at H
     have c6b0 : ((a1.size : Int) == 1) = true := beq_iff_eq.mpr c6
     have c6b1 : ((a1.size : Int) != 1) = false := bne_eq_false_iff_eq.mpr c6
     clear c6
     obtain ⟨c7, H⟩ := itn H
     have c7b0 := decide_eq_true c7
     have c7b1 : decide (0 < a1.size) = true := decide_eq_true (by omega)
     clear c7
     replace H := Option.bind_eq_some_iff.mp H
     obtain ⟨t254, A90, H⟩ := H
     replace H : (some t254) = some r := H
     have A9 := am A90
     clear A90
     obtain rfl := Option.some.inj H
     have p8 : 0 ≤ (0 : Int) := (by omega)
     have q8 : 0 < a1.size := (by have : (0 : Int) < (a1.size : Int) := oa; omega)
     have hx8 : ∀ h : 0 < a1.size, ((a1[0]'h).toNat : Int) = bt a1 0 := bt_at a1 0
     clear p8
     have qi8 : (0 < (a1.size : Int)) = True := eq_true oa
     replace q8 := eq_true q8
     go_wp2_with (((with_reducible refine gateC (f := 142) rfl ?_); refine goesL_ (some 30) rfl rfl Tryz.func142 (by kernel_rfl) rfl #[.string a0, .int .u8 (bt a1 0)] rfl zm ?_; (with_reducible refine (stringslite_IndexByte.calls a0 (bt a1 0) t254 _ A9.out).mono ?_); rintro e w' ⟨rfl, ⟨nd, rfl⟩⟩; refine ⟨_, rfl, ?_⟩))
     go_ret
     exact ⟨by rfl, by repeat (first | exact Drawn0.refl _ | apply Drawn0.step)⟩
    ·rw [if_neg c6] at H
     have c6b0 : ((a1.size : Int) == 1) = false := beq_eq_false_iff_ne.mpr c6
     have c6b1 : ((a1.size : Int) != 1) = true := bne_iff_ne.mpr c6
     obtain ⟨c10, H⟩ := itn H
     have c10b0 := decide_eq_true c10
     have c10b1 : decide (a0.size ≤ a1.size) = true := decide_eq_true (Int.ofNat_le.mp c10)
     clear c10
     obtain rfl := Option.some.inj H
     go_wp2
     go_ret
     exact ⟨by rfl, by repeat (first | exact Drawn0.refl _ | apply Drawn0.step)⟩

def strings_Index.f (k : Nat) (a0 : ByteArray) (a1 : ByteArray) : Option (Int) := (stringslite_Index.f k a0 a1).bind fun t255 => (some t255)
set_option maxHeartbeats 8000000 in
set_option maxRecDepth 100000 in
theorem strings_Index.calls (k : Nat) (a0 : ByteArray) (a1 : ByteArray) (r : Int) (w : World) (h : strings_Index.f k a0 a1 = some r) :
  Calls Tryz.prog 139 #[.string a0, .string a1] w fun e w' => e = .returned (.int .i64 r) ∧ Drawn0 w w' := by
 have H : ((stringslite_Index.f k a0 a1).bind fun t255 => (some t255)) = some r := h
 clear h
 replace H := Option.bind_eq_some_iff.mp H
 obtain ⟨t255, A30, H⟩ := H
 replace H : (some t255) = some r := H
 have A3 := am A30
 clear A30
 obtain rfl := Option.some.inj H
 go_enter Tryz.func139, Tryz.ntmps139
 go_wp2_with (first | ((with_reducible refine gateC (f := 143) rfl ?_); refine goesL_ (some 7) rfl rfl Tryz.func143 (by kernel_rfl) rfl #[.string a0, .string a1] rfl zm ?_; (with_reducible refine (stringslite_Index.calls k a0 a1 t255 _ A3.out).mono ?_); rintro e w' ⟨rfl, ⟨nd, rfl⟩⟩; refine ⟨_, rfl, ?_⟩))
 go_ret
 exact ⟨by first | rfl | (simp; done) | (simp [*]; done), by repeat (first | exact Drawn0.refl _ | apply Drawn0.step)⟩

def strings_Contains.f (k : Nat) (a0 : ByteArray) (a1 : ByteArray) : Option (Bool) := (strings_Index.f k a0 a1).bind fun t256 => (some (decide (t256 ≥ 0)))
set_option maxHeartbeats 8000000 in
set_option maxRecDepth 100000 in
theorem strings_Contains.calls (k : Nat) (a0 : ByteArray) (a1 : ByteArray) (r : Bool) (w : World) (h : strings_Contains.f k a0 a1 = some r) :
  Calls Tryz.prog 118 #[.string a0, .string a1] w fun e w' => e = .returned (.bool r) ∧ Drawn0 w w' := by
 have H : ((strings_Index.f k a0 a1).bind fun t256 => (some (decide (t256 ≥ 0)))) = some r := h
 clear h
 replace H := Option.bind_eq_some_iff.mp H
 obtain ⟨t256, A30, H⟩ := H
 replace H : (some (decide (t256 ≥ 0))) = some r := H
 have A3 := am A30
 clear A30
 obtain rfl := Option.some.inj H
 go_enter Tryz.func118, Tryz.ntmps118
 go_wp2_with (first | ((with_reducible refine gateC (f := 139) rfl ?_); refine goesL_ (some 7) rfl rfl Tryz.func139 (by kernel_rfl) rfl #[.string a0, .string a1] rfl zm ?_; (with_reducible refine (strings_Index.calls k a0 a1 t256 _ A3.out).mono ?_); rintro e w' ⟨rfl, ⟨nd, rfl⟩⟩; refine ⟨_, rfl, ?_⟩))
 go_ret
 exact ⟨by first | rfl | (simp; done) | (simp [*]; done), by repeat (first | exact Drawn0.refl _ | apply Drawn0.step)⟩

def impl_isLine.f (k : Nat) (a0 : ByteArray) : Option (Bool) := (impl_in.f (a0.size : Int) 1 30).bind fun t257 => (if t257 = true then (if 0 ≤ (wrap64 ((a0.size : Int) - 1)) then (if (wrap64 ((a0.size : Int) - 1)) ≤ (a0.size : Int) then ((strings_Contains.f k (a0.extract 0 ((wrap64 ((a0.size : Int) - 1)) : Int).toNat) (⟨#[10]⟩ : ByteArray)).bind fun t258 => (some (!t258))) else (none)) else (none)) else (some false))
set_option maxHeartbeats 8000000 in
set_option maxRecDepth 100000 in
theorem impl_isLine.calls (k : Nat) (a0 : ByteArray) (r : Bool) (w : World) (h : impl_isLine.f k a0 = some r) :
  Calls Tryz.prog 93 #[.string a0] w fun e w' => e = .returned (.bool r) ∧ Drawn0 w w' := by
 have H := h
 clear h
 unfold impl_isLine.f at H
 replace H := Option.bind_eq_some_iff.mp H
 obtain ⟨t257, A20, H⟩ := H
 replace H : (if t257 = true then (if 0 ≤ (wrap64 ((a0.size : Int) - 1)) then (if (wrap64 ((a0.size : Int) - 1)) ≤ (a0.size : Int) then ((strings_Contains.f k (a0.extract 0 ((wrap64 ((a0.size : Int) - 1)) : Int).toNat) (⟨#[10]⟩ : ByteArray)).bind fun t258 => (some (!t258))) else (none)) else (none)) else (some false)) = some r := H
 have A2 := am A20
 clear A20
 by_cases c3 : t257 = true
 ·subst c3
  rw [if_pos rfl] at H
  obtain ⟨ji4, hji4⟩ : ∃ j_ : Int, (wrap64 ((a0.size : Int) - 1)) = j_ := ⟨_, rfl⟩
  rw [hji4] at H
  have hji4w : (IntKind.i64.wrap ((a0.size : Int) - 1)) = ji4 := (i64_w _).trans hji4
  obtain ⟨c5, H⟩ := itn H
  have c5b0 := eq_true c5
  have c5b1 := decide_eq_true c5
  clear c5
  obtain ⟨c6, H⟩ := itn H
  have c6b0 := eq_true c6
  have c6b1 := decide_eq_true c6
  clear c6
  replace H := Option.bind_eq_some_iff.mp H
  obtain ⟨t258, A70, H⟩ := H
  replace H : (some (!t258)) = some r := H
  have A7 := am A70
  clear A70
  obtain rfl := Option.some.inj H
  go_enter Tryz.func93, Tryz.ntmps93
  go_wp2_with (first | ((with_reducible refine gateC (f := 69) rfl ?_); refine goesL_ (some 5) rfl rfl Tryz.func69 (by kernel_rfl) rfl #[.int .i64 (a0.size : Int), .int .i64 1, .int .i64 30] rfl zm ?_; (with_reducible refine (impl_in.calls (a0.size : Int) 1 30 true _ A2.out).mono ?_); rintro e w' ⟨rfl, ⟨nd, rfl⟩⟩; refine ⟨_, rfl, ?_⟩) | (go_at_call 118; (with_reducible refine (strings_Contains.calls k (a0.extract 0 ((ji4) : Int).toNat) (⟨#[10]⟩ : ByteArray) t258 _ A7.out).mono ?_); rintro e w' ⟨rfl, ⟨nd, rfl⟩⟩))
  go_ret
  exact ⟨by rfl, by repeat (first | exact Drawn0.refl _ | apply Drawn0.step)⟩
 ·replace c3 := Bool.eq_false_iff.mpr c3
  subst c3
  rw [if_neg nofun] at H
  obtain rfl := Option.some.inj H
  go_enter Tryz.func93, Tryz.ntmps93
  go_wp2_with (((with_reducible refine gateC (f := 69) rfl ?_); refine goesL_ (some 5) rfl rfl Tryz.func69 (by kernel_rfl) rfl #[.int .i64 (a0.size : Int), .int .i64 1, .int .i64 30] rfl zm ?_; (with_reducible refine (impl_in.calls (a0.size : Int) 1 30 false _ A2.out).mono ?_); rintro e w' ⟨rfl, ⟨nd, rfl⟩⟩; refine ⟨_, rfl, ?_⟩))
  go_ret
  exact ⟨by rfl, by repeat (first | exact Drawn0.refl _ | apply Drawn0.step)⟩

def impl_areLines_1.f (k : Nat) (a0 : ByteArray) : Option (Bool) := (impl_isLine.f k a0).bind fun t259 => (some (!t259))
set_option maxHeartbeats 8000000 in
set_option maxRecDepth 100000 in
theorem impl_areLines_1.calls (k : Nat) (a0 : ByteArray) (r : Bool) (w : World) (h : impl_areLines_1.f k a0 = some r) :
  Calls Tryz.prog 92 #[.string a0] w fun e w' => e = .returned (.bool r) ∧ Drawn0 w w' := by
 have H : ((impl_isLine.f k a0).bind fun t259 => (some (!t259))) = some r := h
 clear h
 replace H := Option.bind_eq_some_iff.mp H
 obtain ⟨t259, A20, H⟩ := H
 replace H : (some (!t259)) = some r := H
 have A2 := am A20
 clear A20
 obtain rfl := Option.some.inj H
 go_enter Tryz.func92, Tryz.ntmps92
 go_wp2_with (first | ((with_reducible refine gateC (f := 93) rfl ?_); refine goesL_ (some 4) rfl rfl Tryz.func93 (by kernel_rfl) rfl #[.string a0] rfl zm ?_; (with_reducible refine (impl_isLine.calls k a0 t259 _ A2.out).mono ?_); rintro e w' ⟨rfl, ⟨nd, rfl⟩⟩; refine ⟨_, rfl, ?_⟩))
 go_ret
 exact ⟨by first | rfl | (simp; done) | (simp [*]; done), by repeat (first | exact Drawn0.refl _ | apply Drawn0.step)⟩

def slices_IndexFunc_string_string__impl_areLines_1.l0 : Nat → List ByteArray → Int → Int → Option (Int)
 | 0, _, _, _ => none
 | k + 1, x0, x7, x8 => if x8 < x7 then (if 0 ≤ x8 then (if x8 < (x0.length : Int) then ((impl_areLines_1.f k (rdOf ByteArray.empty x0 x8)).bind fun t261 => (if t261 = true then (some x8) else (slices_IndexFunc_string_string__impl_areLines_1.l0 k x0 x7 (wrap64 (x8 + 1))))) else (none)) else (none)) else (some (-1))
def slices_IndexFunc_string_string__impl_areLines_1.f (k : Nat) (l0 : List ByteArray)  : Option (Int) := slices_IndexFunc_string_string__impl_areLines_1.l0 k l0 (l0.length : Int) 0
set_option maxHeartbeats 8000000 in
set_option maxRecDepth 100000 in
theorem slices_IndexFunc_string_string__impl_areLines_1.calls (k : Nat) (A0 : Option Addr) (c0 : Nat) (l0 : List ByteArray)  (r : Int) (w : World) (hr0 : Kd.C Kd.string w A0 l0.length l0) (hc0 : l0.length ≤ c0) (h : slices_IndexFunc_string_string__impl_areLines_1.f k l0 = some r) :
  Calls Tryz.prog 117 #[.slice A0 l0.length c0, .func (.func 92) #[] #[]] w fun e w' => e = .returned (.int .i64 r) ∧ Drawn0 w w' := by
 have HR0 := am hr0
 have HC0 := am hc0
 clear hr0 hc0
 have H := h
 clear h
 unfold slices_IndexFunc_string_string__impl_areLines_1.f at H
 have H' := am H
 clear H
 go_enter Tryz.func117, Tryz.ntmps117
 go_wp2
 go_loopg [8] k (fun kq v8 w' => ∃ (x8_1 : Int), v8 = .int .i64 x8_1 ∧ Aside0 (slices_IndexFunc_string_string__impl_areLines_1.l0 kq l0 (l0.length : Int) x8_1 = some r) ∧ Aside0 (kq ≤ k) ∧ Drawn0 w w')
 case atStart => exact ⟨(0), zf, H', ⟨Nat.le_refl _⟩, by repeat (exact Drawn0.refl _)⟩
 case round =>
  clear H'
  obtain ⟨x8_1, rfl, HA, HK1, ⟨m1, rfl⟩⟩ := hrel
  cases gk with
  | zero => exact absurd HA.out (by simp [slices_IndexFunc_string_string__impl_areLines_1.l0])
  | succ k1 =>
   have H := HA.out
   clear HA
   simp only [slices_IndexFunc_string_string__impl_areLines_1.l0] at H
   by_cases c3 : x8_1 < (l0.length : Int)
   ·rw [if_pos c3] at H
    have c3b0 : decide (x8_1 < (l0.length : Int)) = true := decide_eq_true c3
    clear c3
    obtain ⟨c4, H⟩ := itn H
    have c4b0 := decide_eq_true c4
    clear c4
    obtain ⟨c5, H⟩ := itn H
    have c5b0 := decide_eq_true c5
    clear c5
    replace H := Option.bind_eq_some_iff.mp H
    obtain ⟨t261, A60, H⟩ := H
    replace H : (if t261 = true then (some x8_1) else (slices_IndexFunc_string_string__impl_areLines_1.l0 k1 l0 (l0.length : Int) (wrap64 (x8_1 + 1)))) = some r := H
    have A6 := am A60
    clear A60
    by_cases c7 : t261 = true
    ·subst c7
     rw [if_pos rfl] at H
     obtain rfl := Option.some.inj H
     have p260 : 0 ≤ (x8_1 : Int) := oa
     have q260 : x8_1 < (l0.length : Int) := oa
     obtain ⟨ad260, e260, hx260_0⟩ := Kd.at_string HR0.out x8_1 p260 q260
     cases e260
     replace p260 := eq_true p260
     replace q260 := eq_true q260
     go_wp2_with ((go_at_call 92; (with_reducible refine (impl_areLines_1.calls k1 (rdOf ByteArray.empty l0 x8_1) true _ A6.out).mono ?_); rintro e w' ⟨rfl, ⟨nd, rfl⟩⟩))
     go_ret
     exact ⟨by rfl, by repeat (first | exact Drawn0.refl _ | apply Drawn0.step)⟩
    ·replace c7 := Bool.eq_false_iff.mpr c7
     subst c7
     rw [if_neg nofun] at H
     have H' := am H
     clear H
     have p260 : 0 ≤ (x8_1 : Int) := oa
     have q260 : x8_1 < (l0.length : Int) := oa
     obtain ⟨ad260, e260, hx260_0⟩ := Kd.at_string HR0.out x8_1 p260 q260
     cases e260
     replace p260 := eq_true p260
     replace q260 := eq_true q260
     go_wp2_with ((go_at_call 92; (with_reducible refine (impl_areLines_1.calls k1 (rdOf ByteArray.empty l0 x8_1) false _ A6.out).mono ?_); rintro e w' ⟨rfl, ⟨nd, rfl⟩⟩))
     go_roundg k1
     case measure => have := HK1.out; omega
     case rel => exact ⟨(wrap64 (x8_1 + 1)), zf, H', ⟨by have := HK1.out; omega⟩, by repeat (first | exact Drawn0.refl _ | apply Drawn0.step)⟩
   ·rw [if_neg c3] at H
    have c3b0 : decide (x8_1 < (l0.length : Int)) = false := decide_eq_false c3
    clear c3
    obtain rfl := Option.some.inj H
    go_wp2
    go_ret
    exact ⟨by rfl, by repeat (first | exact Drawn0.refl _ | apply Drawn0.step)⟩

def slices_ContainsFunc_string_string__impl_areLines_1.f (k : Nat) (l0 : List ByteArray)  : Option (Bool) := (slices_IndexFunc_string_string__impl_areLines_1.f k l0).bind fun t262 => (some (decide (t262 ≥ 0)))
set_option maxHeartbeats 8000000 in
set_option maxRecDepth 100000 in
theorem slices_ContainsFunc_string_string__impl_areLines_1.calls (k : Nat) (A0 : Option Addr) (c0 : Nat) (l0 : List ByteArray)  (r : Bool) (w : World) (hr0 : Kd.C Kd.string w A0 l0.length l0) (hc0 : l0.length ≤ c0) (h : slices_ContainsFunc_string_string__impl_areLines_1.f k l0 = some r) :
  Calls Tryz.prog 91 #[.slice A0 l0.length c0, .func (.func 92) #[] #[]] w fun e w' => e = .returned (.bool r) ∧ Drawn0 w w' := by
 have HR0 := am hr0
 have HC0 := am hc0
 clear hr0 hc0
 have H : ((slices_IndexFunc_string_string__impl_areLines_1.f k l0).bind fun t262 => (some (decide (t262 ≥ 0)))) = some r := h
 clear h
 replace H := Option.bind_eq_some_iff.mp H
 obtain ⟨t262, A30, H⟩ := H
 replace H : (some (decide (t262 ≥ 0))) = some r := H
 have A3 := am A30
 clear A30
 obtain rfl := Option.some.inj H
 go_enter Tryz.func91, Tryz.ntmps91
 go_wp2_with (first | ((with_reducible refine gateC (f := 117) rfl ?_); refine goesL_ (some 7) rfl rfl Tryz.func117 (by kernel_rfl) rfl #[.slice A0 l0.length c0, .func (.func 92) #[] #[]] rfl zm ?_; (with_reducible refine (slices_IndexFunc_string_string__impl_areLines_1.calls k _ _ l0  t262 _ ?side1 ?side2 A3.out).mono ?_); (case side1 => exact zq HR0.out); (case side2 => exact HC0.out); rintro e w' ⟨rfl, ⟨nd, rfl⟩⟩; refine ⟨_, rfl, ?_⟩))
 go_ret
 exact ⟨by first | rfl | (simp; done) | (simp [*]; done), by repeat (first | exact Drawn0.refl _ | apply Drawn0.step)⟩

def impl_areLines.f (k : Nat) (l0 : List ByteArray) : Option (Bool) := if (l0.length : Int) ≤ 40 then ((slices_ContainsFunc_string_string__impl_areLines_1.f k l0).bind fun t263 => (some (!t263))) else (some false)
set_option maxHeartbeats 8000000 in
set_option maxRecDepth 100000 in
theorem impl_areLines.calls (k : Nat) (A0 : Option Addr) (c0 : Nat) (l0 : List ByteArray) (r : Bool) (w : World) (hr0 : Kd.C Kd.string w A0 l0.length l0) (hc0 : l0.length ≤ c0) (h : impl_areLines.f k l0 = some r) :
  Calls Tryz.prog 64 #[.slice A0 l0.length c0] w fun e w' => e = .returned (.bool r) ∧ Drawn0 w w' := by
 have HR0 := am hr0
 have HC0 := am hc0
 clear hr0 hc0
 have H : (if (l0.length : Int) ≤ 40 then ((slices_ContainsFunc_string_string__impl_areLines_1.f k l0).bind fun t263 => (some (!t263))) else (some false)) = some r := h
 clear h
 by_cases c2 : (l0.length : Int) ≤ 40
 ·rw [if_pos c2] at H
  have c2b0 : decide ((l0.length : Int) ≤ 40) = true := decide_eq_true c2
  have c2b1 : decide (l0.length ≤ 40) = true := decide_eq_true (by omega)
  clear c2
  replace H := Option.bind_eq_some_iff.mp H
  obtain ⟨t263, A30, H⟩ := H
  replace H : (some (!t263)) = some r := H
  have A3 := am A30
  clear A30
  obtain rfl := Option.some.inj H
  go_enter Tryz.func64, Tryz.ntmps64
  go_wp2_with (first | (go_at_call 91; (with_reducible refine (slices_ContainsFunc_string_string__impl_areLines_1.calls k _ _ l0  t263 _ ?side1 ?side2 A3.out).mono ?_); (case side1 => exact zq HR0.out); (case side2 => exact HC0.out); rintro e w' ⟨rfl, ⟨nd, rfl⟩⟩))
  go_ret
  exact ⟨by first | rfl | (simp; done) | (simp [*]; done), by repeat (first | exact Drawn0.refl _ | apply Drawn0.step)⟩
 ·rw [if_neg c2] at H
  have c2b0 : decide ((l0.length : Int) ≤ 40) = false := decide_eq_false c2
  have c2b1 : decide (l0.length ≤ 40) = false := decide_eq_false (by omega)
  clear c2
  obtain rfl := Option.some.inj H
  go_enter Tryz.func64, Tryz.ntmps64
  go_wp2
  go_ret
  exact ⟨by first | rfl | (simp; done) | (simp [*]; done), by repeat (first | exact Drawn0.refl _ | apply Drawn0.step)⟩

mutual
def impl_goodHunks.j0 : Nat → Int → List (S60) → Bool → Option (Bool)
 | 0, _, _, _ => none
 | k + 1, x0, x1, x14 => if x14 = true then (some false) else (impl_goodHunks.l0 k x0 x1 x1 (x1.length : Int) 0)
def impl_goodHunks.l0 : Nat → Int → List (S60) → List (S60) → Int → Int → Option (Bool)
 | 0, _, _, _, _, _ => none
 | k + 1, x0, x1, x15, x16, x17 => if x17 < x16 then (if 0 ≤ x17 then (if x17 < (x15.length : Int) then ((impl_in.f ((T60 x15 x17).f0) 0 x0).bind fun t675 => (if t675 = true then ((impl_in.f ((T60 x15 x17).f1) 0 (wrap64 (x0 - ((T60 x15 x17).f0)))).bind fun t676 => (if t676 = true then ((impl_areLines.f k ((T60 x15 x17).f2)).bind fun t677 => (if t677 = true then (if ((T60 x15 x17).f1) = 0 then (impl_goodHunks.j2 k x0 x1 x17 x15 x16 x17 ((((T60 x15 x17).f2).length : Int) == 0) ((T60 x15 x17).f0) ((T60 x15 x17).f1) ((T60 x15 x17).f2)) else (impl_goodHunks.j2 k x0 x1 x17 x15 x16 x17 false ((T60 x15 x17).f0) ((T60 x15 x17).f1) ((T60 x15 x17).f2))) else (impl_goodHunks.j2 k x0 x1 x17 x15 x16 x17 true ((T60 x15 x17).f0) ((T60 x15 x17).f1) ((T60 x15 x17).f2)))) else (impl_goodHunks.j2 k x0 x1 x17 x15 x16 x17 true ((T60 x15 x17).f0) ((T60 x15 x17).f1) ((T60 x15 x17).f2)))) else (impl_goodHunks.j2 k x0 x1 x17 x15 x16 x17 true ((T60 x15 x17).f0) ((T60 x15 x17).f1) ((T60 x15 x17).f2)))) else (none)) else (none)) else (some true)
def impl_goodHunks.j2 : Nat → Int → List (S60) → Int → List (S60) → Int → Int → Bool → Int → Int → List ByteArray → Option (Bool)
 | 0, _, _, _, _, _, _, _, _, _, _ => none
 | k + 1, x0, x1, x5, x15, x16, x17, x53, x675000, x675001, x675002 => if x53 = true then (some false) else (if x5 > 0 then (if 0 ≤ (wrap64 (x5 - 1)) then (if (wrap64 (x5 - 1)) < (x1.length : Int) then (if x675000 ≤ (wrap64 (((T60 x1 (wrap64 (x5 - 1))).f0) + ((T60 x1 (wrap64 (x5 - 1))).f1))) then (some false) else (impl_goodHunks.l0 k x0 x1 x15 x16 (wrap64 (x17 + 1)))) else (none)) else (none)) else (impl_goodHunks.l0 k x0 x1 x15 x16 (wrap64 (x17 + 1))))
end
def impl_goodHunks.f (k : Nat) (a0 : Int) (l1 : List (S60)) : Option (Bool) := (impl_in.f a0 0 40).bind fun t672 => (if t672 = true then (impl_goodHunks.j0 k a0 l1 (decide ((l1.length : Int) > 20))) else (impl_goodHunks.j0 k a0 l1 true))
set_option maxHeartbeats 8000000 in
set_option maxRecDepth 100000 in
theorem impl_goodHunks.calls (k : Nat) (a0 : Int) (A1 : Option Addr) (c1 : Nat) (l1 : List (S60)) (r : Bool) (w : World) (hr1 : Kd.C k60 w A1 l1.length l1) (hc1 : l1.length ≤ c1) (h : impl_goodHunks.f k a0 l1 = some r) :
  Calls Tryz.prog 37 #[.int .i64 a0, .slice A1 l1.length c1] w fun e w' => e = .returned (.bool r) ∧ Below w.heap.size w w' := by
 have hu60 := Tryz.underlying60
 have HR1 := am hr1
 have HC1 := am hc1
 clear hr1 hc1
 have HB := am (Below.refl w.heap.size w)
 have H := h
 clear h
 unfold impl_goodHunks.f at H
 have HC3 := am H
 clear H
 go_enter Tryz.func37, Tryz.ntmps37
 go_upto_region 1 with (fail)
 go_cut [14] (fun v14 wc => ∃ (kq : Nat) (x14_2 : Bool), v14 = .bool x14_2 ∧ Aside0 (impl_goodHunks.j0 kq a0 l1 x14_2 = some r) ∧ Aside0 (kq ≤ k) ∧ Aside0 (Below w.heap.size w wc))
 case first =>
  have H := HC3.out
  clear HC3
  replace H := Option.bind_eq_some_iff.mp H
  obtain ⟨t672, A40, H⟩ := H
  replace H : (if t672 = true then (impl_goodHunks.j0 k a0 l1 (decide ((l1.length : Int) > 20))) else (impl_goodHunks.j0 k a0 l1 true)) = some r := H
  have A4 := am A40
  clear A40
  by_cases c5 : t672 = true
  ·subst c5
   rw [if_pos rfl] at H
   have H' := am H
   clear H
   go_wp2_with ((go_at_call 69; (with_reducible refine (impl_in.calls a0 0 40 true _ A4.out).mono ?_); rintro e w' ⟨rfl, ⟨nd, rfl⟩⟩))
   go_meet
   case rel => exact ⟨_, (decide ((l1.length : Int) > 20)), zf, H', ⟨by omega⟩, ⟨zb⟩⟩
  ·replace c5 := Bool.eq_false_iff.mpr c5
   subst c5
   rw [if_neg nofun] at H
   have H' := am H
   clear H
   go_wp2_with ((go_at_call 69; (with_reducible refine (impl_in.calls a0 0 40 false _ A4.out).mono ?_); rintro e w' ⟨rfl, ⟨nd, rfl⟩⟩))
   go_meet
   case rel => exact ⟨_, (true), zf, H', ⟨by omega⟩, ⟨zb⟩⟩
 case rest =>
  clear HC3
  obtain ⟨kq, x14_2, rfl, HA, HJ2, HB⟩ := hcut
  cases kq with
  | zero => exact absurd HA.out (by simp [impl_goodHunks.j0])
  | succ kj2 =>
   have H := HA.out
   clear HA
   simp only [impl_goodHunks.j0] at H
   by_cases c6 : x14_2 = true
   ·subst c6
    rw [if_pos rfl] at H
    obtain rfl := Option.some.inj H
    go_wp2
    go_ret
    exact ⟨by rfl, zb⟩
   ·replace c6 := Bool.eq_false_iff.mpr c6
    subst c6
    rw [if_neg nofun] at H
    have H' := am H
    clear H
    go_wp2
    go_loopg [17] kj2 (fun kq v17 w' => ∃ (x17_2 : Int), v17 = .int .i64 x17_2 ∧ Aside0 (impl_goodHunks.l0 kq a0 l1 l1 (l1.length : Int) x17_2 = some r) ∧ Aside0 (kq ≤ kj2) ∧ Aside0 (Below w.heap.size w w'))
    case atStart => exact ⟨(0), zf, H', ⟨Nat.le_refl _⟩, ⟨zb⟩⟩
    case round =>
     clear H'
     obtain ⟨x17_2, rfl, HA, HK2, HB⟩ := hrel
     cases gk with
     | zero => exact absurd HA.out (by simp [impl_goodHunks.l0])
     | succ k2 =>
      have H := HA.out
      clear HA
      simp only [impl_goodHunks.l0] at H
      by_cases c7 : x17_2 < (l1.length : Int)
      ·rw [if_pos c7] at H
       have c7b0 : decide (x17_2 < (l1.length : Int)) = true := decide_eq_true c7
       clear c7
       obtain ⟨c8, H⟩ := itn H
       have c8b0 := decide_eq_true c8
       clear c8
       obtain ⟨c9, H⟩ := itn H
       have c9b0 := decide_eq_true c9
       clear c9
       have HC10 := am H
       clear H
       have p673 : 0 ≤ (x17_2 : Int) := oa
       have q673 : x17_2 < (l1.length : Int) := oa
       obtain ⟨ad673, A673_2, c673_2, e673, hx673_0, hx673_1, hx673_2, hl673_2, hi673_2⟩ := at_T60 HR1.out x17_2 p673 q673
       cases e673
       replace hx673_0 := bc HB.out hx673_0
       replace hx673_1 := bc HB.out hx673_1
       replace hx673_2 := bc HB.out hx673_2
       have HR673_2 := am hi673_2
       have HC673_2 := am hl673_2
       clear hi673_2 hl673_2
       replace p673 := eq_true p673
       replace q673 := eq_true q673
       go_upto_region 6 with (((with_reducible refine gate_dst (N := 6) rfl ?_); (try (refine gate_guard (by rfl) ?_; dsimp only)); refine box_event ?hg (N := 6) ?hd (cs := #[.int .i64 0, .int .i64 0, .slice none 0 0]) (t := 60) ?hr ?_; (case hd => rfl); (case hg => rfl); (case hr => (go_simp; done)); intro gb674 hg w11 hbox hb; have BK674 := am (hbox); have GW674 := am ((by rw [hg]; exact (below_size zb) : w.heap.size ≤ gb674)); have GE674 := am ((by rw [hg]; exact (below_size zb) : w.heap.size ≤ gb674)); replace HB := am (below_step zb hb); clear hb hbox hg; obtain ⟨hcz12_0, hcz12_1, hcz12_2⟩ := cz3 BK674.out; obtain ⟨hfz12_0, hfz12_1, hfz12_2⟩ := fz3 BK674.out))
       go_cut [53] (fun v53 wc => ∃ (kq : Nat) (x53_9 : Bool), v53 = .bool x53_9 ∧ Aside0 (impl_goodHunks.j2 kq a0 l1 x17_2 l1 (l1.length : Int) x17_2 x53_9 ((T60 l1 x17_2).f0) ((T60 l1 x17_2).f1) ((T60 l1 x17_2).f2) = some r) ∧ Aside0 (kq ≤ k2) ∧ Aside0 (wc.heap[gb674]? = some (.cells #[.int .i64 ((T60 l1 x17_2).f0), .int .i64 ((T60 l1 x17_2).f1), (.slice A673_2 ((T60 l1 x17_2).f2).length c673_2)] 60 (0, 0))) ∧ Aside0 (Below w.heap.size w wc))
       case first =>
        have H := HC10.out
        clear HC10
        replace H := Option.bind_eq_some_iff.mp H
        obtain ⟨t675, A130, H⟩ := H
        replace H : (if t675 = true then ((impl_in.f ((T60 l1 x17_2).f1) 0 (wrap64 (a0 - ((T60 l1 x17_2).f0)))).bind fun t676 => (if t676 = true then ((impl_areLines.f k2 ((T60 l1 x17_2).f2)).bind fun t677 => (if t677 = true then (if ((T60 l1 x17_2).f1) = 0 then (impl_goodHunks.j2 k2 a0 l1 x17_2 l1 (l1.length : Int) x17_2 ((((T60 l1 x17_2).f2).length : Int) == 0) ((T60 l1 x17_2).f0) ((T60 l1 x17_2).f1) ((T60 l1 x17_2).f2)) else (impl_goodHunks.j2 k2 a0 l1 x17_2 l1 (l1.length : Int) x17_2 false ((T60 l1 x17_2).f0) ((T60 l1 x17_2).f1) ((T60 l1 x17_2).f2))) else (impl_goodHunks.j2 k2 a0 l1 x17_2 l1 (l1.length : Int) x17_2 true ((T60 l1 x17_2).f0) ((T60 l1 x17_2).f1) ((T60 l1 x17_2).f2)))) else (impl_goodHunks.j2 k2 a0 l1 x17_2 l1 (l1.length : Int) x17_2 true ((T60 l1 x17_2).f0) ((T60 l1 x17_2).f1) ((T60 l1 x17_2).f2)))) else (impl_goodHunks.j2 k2 a0 l1 x17_2 l1 (l1.length : Int) x17_2 true ((T60 l1 x17_2).f0) ((T60 l1 x17_2).f1) ((T60 l1 x17_2).f2))) = some r := H
        have A13 := am A130
        clear A130
        by_cases c14 : t675 = true
        ·subst c14
         rw [if_pos rfl] at H
         replace H := Option.bind_eq_some_iff.mp H
         obtain ⟨t676, A150, H⟩ := H
         replace H : (if t676 = true then ((impl_areLines.f k2 ((T60 l1 x17_2).f2)).bind fun t677 => (if t677 = true then (if ((T60 l1 x17_2).f1) = 0 then (impl_goodHunks.j2 k2 a0 l1 x17_2 l1 (l1.length : Int) x17_2 ((((T60 l1 x17_2).f2).length : Int) == 0) ((T60 l1 x17_2).f0) ((T60 l1 x17_2).f1) ((T60 l1 x17_2).f2)) else (impl_goodHunks.j2 k2 a0 l1 x17_2 l1 (l1.length : Int) x17_2 false ((T60 l1 x17_2).f0) ((T60 l1 x17_2).f1) ((T60 l1 x17_2).f2))) else (impl_goodHunks.j2 k2 a0 l1 x17_2 l1 (l1.length : Int) x17_2 true ((T60 l1 x17_2).f0) ((T60 l1 x17_2).f1) ((T60 l1 x17_2).f2)))) else (impl_goodHunks.j2 k2 a0 l1 x17_2 l1 (l1.length : Int) x17_2 true ((T60 l1 x17_2).f0) ((T60 l1 x17_2).f1) ((T60 l1 x17_2).f2))) = some r := H
         have A15 := am A150
         clear A150
         by_cases c16 : t676 = true
         ·subst c16
          rw [if_pos rfl] at H
          replace H := Option.bind_eq_some_iff.mp H
          obtain ⟨t677, A170, H⟩ := H
          replace H : (if t677 = true then (if ((T60 l1 x17_2).f1) = 0 then (impl_goodHunks.j2 k2 a0 l1 x17_2 l1 (l1.length : Int) x17_2 ((((T60 l1 x17_2).f2).length : Int) == 0) ((T60 l1 x17_2).f0) ((T60 l1 x17_2).f1) ((T60 l1 x17_2).f2)) else (impl_goodHunks.j2 k2 a0 l1 x17_2 l1 (l1.length : Int) x17_2 false ((T60 l1 x17_2).f0) ((T60 l1 x17_2).f1) ((T60 l1 x17_2).f2))) else (impl_goodHunks.j2 k2 a0 l1 x17_2 l1 (l1.length : Int) x17_2 true ((T60 l1 x17_2).f0) ((T60 l1 x17_2).f1) ((T60 l1 x17_2).f2))) = some r := H
          have A17 := am A170
          clear A170
          by_cases c18 : t677 = true
          ·subst c18
           rw [if_pos rfl] at H
           by_cases c19 : ((T60 l1 x17_2).f1) = 0
           ·rw [if_pos c19] at H
            have c19b0 : (((T60 l1 x17_2).f1) == 0) = true := beq_iff_eq.mpr c19
            have c19b1 : (((T60 l1 x17_2).f1) != 0) = false := bne_eq_false_iff_eq.mpr c19
            clear c19
            (skip)
            have H' := am H
            clear H
            obtain ⟨hcz20_0, hcz20_1, hcz20_2⟩ := cz3 BK674.out
            obtain ⟨hfz20_0, hfz20_1, hfz20_2⟩ := fz3 BK674.out
            go_wp2_with (first | (go_at_call 69; (with_reducible refine (impl_in.calls ((T60 l1 x17_2).f0) 0 a0 true _ A13.out).mono ?_); rintro e w' ⟨rfl, ⟨nd, rfl⟩⟩) | (go_at_call 69; (with_reducible refine (impl_in.calls ((T60 l1 x17_2).f1) 0 (wrap64 (a0 - ((T60 l1 x17_2).f0))) true _ A15.out).mono ?_); rintro e w' ⟨rfl, ⟨nd, rfl⟩⟩) | (go_at_call 64; (with_reducible refine (impl_areLines.calls k2 _ _ ((T60 l1 x17_2).f2) true _ ?side1 ?side2 A17.out).mono ?_); (case side1 => exact Kd.C_below HR673_2.out zw); (case side2 => exact HC673_2.out); rintro e w' ⟨rfl, ⟨nd, rfl⟩⟩))
            go_meet
            case rel => exact ⟨_, (((((T60 l1 x17_2).f2).length : Int) == 0)), zf, H', ⟨by have := HJ2.out; have := HK2.out; omega⟩, ⟨by (with_reducible repeat (refine blk_drewN ?_ _)); refine blk_put (cs := #[.int .i64 ((T60 l1 x17_2).f0), .int .i64 ((T60 l1 x17_2).f1), .slice none 0 0]) ?_ 2 _ rfl; refine blk_put (cs := #[.int .i64 ((T60 l1 x17_2).f0), .int .i64 0, .slice none 0 0]) ?_ 1 _ rfl; refine blk_put (cs := #[.int .i64 0, .int .i64 0, .slice none 0 0]) ?_ 0 _ rfl; exact BK674.out⟩, ⟨zw⟩⟩
           ·rw [if_neg c19] at H
            have c19b0 : (((T60 l1 x17_2).f1) == 0) = false := beq_eq_false_iff_ne.mpr c19
            have c19b1 : (((T60 l1 x17_2).f1) != 0) = true := bne_iff_ne.mpr c19
            (skip)
            have H' := am H
            clear H
            obtain ⟨hcz21_0, hcz21_1, hcz21_2⟩ := cz3 BK674.out
            obtain ⟨hfz21_0, hfz21_1, hfz21_2⟩ := fz3 BK674.out
            go_wp2_with (first | (go_at_call 69; (with_reducible refine (impl_in.calls ((T60 l1 x17_2).f0) 0 a0 true _ A13.out).mono ?_); rintro e w' ⟨rfl, ⟨nd, rfl⟩⟩) | (go_at_call 69; (with_reducible refine (impl_in.calls ((T60 l1 x17_2).f1) 0 (wrap64 (a0 - ((T60 l1 x17_2).f0))) true _ A15.out).mono ?_); rintro e w' ⟨rfl, ⟨nd, rfl⟩⟩) | (go_at_call 64; (with_reducible refine (impl_areLines.calls k2 _ _ ((T60 l1 x17_2).f2) true _ ?side1 ?side2 A17.out).mono ?_); (case side1 => exact Kd.C_below HR673_2.out zw); (case side2 => exact HC673_2.out); rintro e w' ⟨rfl, ⟨nd, rfl⟩⟩))
            go_meet
            case rel => exact ⟨_, (false), zf, H', ⟨by have := HJ2.out; have := HK2.out; omega⟩, ⟨by (with_reducible repeat (refine blk_drewN ?_ _)); refine blk_put (cs := #[.int .i64 ((T60 l1 x17_2).f0), .int .i64 ((T60 l1 x17_2).f1), .slice none 0 0]) ?_ 2 _ rfl; refine blk_put (cs := #[.int .i64 ((T60 l1 x17_2).f0), .int .i64 0, .slice none 0 0]) ?_ 1 _ rfl; refine blk_put (cs := #[.int .i64 0, .int .i64 0, .slice none 0 0]) ?_ 0 _ rfl; exact BK674.out⟩, ⟨zw⟩⟩
          ·replace c18 := Bool.eq_false_iff.mpr c18
           subst c18
           rw [if_neg nofun] at H
           have H' := am H
           clear H
           obtain ⟨hcz22_0, hcz22_1, hcz22_2⟩ := cz3 BK674.out
           obtain ⟨hfz22_0, hfz22_1, hfz22_2⟩ := fz3 BK674.out
           go_wp2_with (first | (go_at_call 69; (with_reducible refine (impl_in.calls ((T60 l1 x17_2).f0) 0 a0 true _ A13.out).mono ?_); rintro e w' ⟨rfl, ⟨nd, rfl⟩⟩) | (go_at_call 69; (with_reducible refine (impl_in.calls ((T60 l1 x17_2).f1) 0 (wrap64 (a0 - ((T60 l1 x17_2).f0))) true _ A15.out).mono ?_); rintro e w' ⟨rfl, ⟨nd, rfl⟩⟩) | (go_at_call 64; (with_reducible refine (impl_areLines.calls k2 _ _ ((T60 l1 x17_2).f2) false _ ?side1 ?side2 A17.out).mono ?_); (case side1 => exact Kd.C_below HR673_2.out zw); (case side2 => exact HC673_2.out); rintro e w' ⟨rfl, ⟨nd, rfl⟩⟩))
           go_meet
           case rel => exact ⟨_, (true), zf, H', ⟨by have := HJ2.out; have := HK2.out; omega⟩, ⟨by (with_reducible repeat (refine blk_drewN ?_ _)); refine blk_put (cs := #[.int .i64 ((T60 l1 x17_2).f0), .int .i64 ((T60 l1 x17_2).f1), .slice none 0 0]) ?_ 2 _ rfl; refine blk_put (cs := #[.int .i64 ((T60 l1 x17_2).f0), .int .i64 0, .slice none 0 0]) ?_ 1 _ rfl; refine blk_put (cs := #[.int .i64 0, .int .i64 0, .slice none 0 0]) ?_ 0 _ rfl; exact BK674.out⟩, ⟨zw⟩⟩
         ·replace c16 := Bool.eq_false_iff.mpr c16
          subst c16
          rw [if_neg nofun] at H
          have H' := am H
          clear H
          obtain ⟨hcz23_0, hcz23_1, hcz23_2⟩ := cz3 BK674.out
          obtain ⟨hfz23_0, hfz23_1, hfz23_2⟩ := fz3 BK674.out
          go_wp2_with (first | (go_at_call 69; (with_reducible refine (impl_in.calls ((T60 l1 x17_2).f0) 0 a0 true _ A13.out).mono ?_); rintro e w' ⟨rfl, ⟨nd, rfl⟩⟩) | (go_at_call 69; (with_reducible refine (impl_in.calls ((T60 l1 x17_2).f1) 0 (wrap64 (a0 - ((T60 l1 x17_2).f0))) false _ A15.out).mono ?_); rintro e w' ⟨rfl, ⟨nd, rfl⟩⟩))
          go_meet
          case rel => exact ⟨_, (true), zf, H', ⟨by have := HJ2.out; have := HK2.out; omega⟩, ⟨by (with_reducible repeat (refine blk_drewN ?_ _)); refine blk_put (cs := #[.int .i64 ((T60 l1 x17_2).f0), .int .i64 ((T60 l1 x17_2).f1), .slice none 0 0]) ?_ 2 _ rfl; refine blk_put (cs := #[.int .i64 ((T60 l1 x17_2).f0), .int .i64 0, .slice none 0 0]) ?_ 1 _ rfl; refine blk_put (cs := #[.int .i64 0, .int .i64 0, .slice none 0 0]) ?_ 0 _ rfl; exact BK674.out⟩, ⟨zw⟩⟩
        ·replace c14 := Bool.eq_false_iff.mpr c14
         subst c14
         rw [if_neg nofun] at H
         have H' := am H
         clear H
         obtain ⟨hcz24_0, hcz24_1, hcz24_2⟩ := cz3 BK674.out
         obtain ⟨hfz24_0, hfz24_1, hfz24_2⟩ := fz3 BK674.out
         go_wp2_with ((go_at_call 69; (with_reducible refine (impl_in.calls ((T60 l1 x17_2).f0) 0 a0 false _ A13.out).mono ?_); rintro e w' ⟨rfl, ⟨nd, rfl⟩⟩))
         go_meet
         case rel => exact ⟨_, (true), zf, H', ⟨by have := HJ2.out; have := HK2.out; omega⟩, ⟨by (with_reducible repeat (refine blk_drewN ?_ _)); refine blk_put (cs := #[.int .i64 ((T60 l1 x17_2).f0), .int .i64 ((T60 l1 x17_2).f1), .slice none 0 0]) ?_ 2 _ rfl; refine blk_put (cs := #[.int .i64 ((T60 l1 x17_2).f0), .int .i64 0, .slice none 0 0]) ?_ 1 _ rfl; refine blk_put (cs := #[.int .i64 0, .int .i64 0, .slice none 0 0]) ?_ 0 _ rfl; exact BK674.out⟩, ⟨zw⟩⟩
       case rest =>
        clear HC10
        try clear c7b0
        try clear c8b0
        try clear c9b0
        try clear hcz12_0
        try clear hcz12_1
        try clear hcz12_2
        try clear hfz12_0
        try clear hfz12_1
        try clear hfz12_2
        try clear hx673_0
        try clear hx673_1
        try clear hx673_2
        try clear p673
        try clear q673
        obtain ⟨kq, x53_9, rfl, HA, HJ9, BK674, HB⟩ := hcut
        cases kq with
        | zero => exact absurd HA.out (by simp [impl_goodHunks.j2])
        | succ kj9 =>
         have H := HA.out
         clear HA
         simp only [impl_goodHunks.j2] at H
         by_cases c25 : x53_9 = true
         ·subst c25
          rw [if_pos rfl] at H
          obtain rfl := Option.some.inj H
          go_wp2
          go_ret
          exact ⟨by rfl, zw⟩
         ·replace c25 := Bool.eq_false_iff.mpr c25
          subst c25
          rw [if_neg nofun] at H
          by_cases c26 : x17_2 > 0
          ·rw [if_pos c26] at H
           have c26b0 : decide (0 < x17_2) = true := decide_eq_true c26
           clear c26
           obtain ⟨ji27, hji27⟩ : ∃ j_ : Int, (wrap64 (x17_2 - 1)) = j_ := ⟨_, rfl⟩
           rw [hji27] at H
           have hji27w : (IntKind.i64.wrap (x17_2 - 1)) = ji27 := (i64_w _).trans hji27
           obtain ⟨c28, H⟩ := itn H
           have c28b0 := decide_eq_true c28
           clear c28
           obtain ⟨c29, H⟩ := itn H
           have c29b0 := decide_eq_true c29
           clear c29
           by_cases c30 : ((T60 l1 x17_2).f0) ≤ (wrap64 (((T60 l1 (ji27)).f0) + ((T60 l1 (ji27)).f1)))
           ·rw [if_pos c30] at H
            have c30b0 : decide (((T60 l1 x17_2).f0) ≤ (wrap64 (((T60 l1 (ji27)).f0) + ((T60 l1 (ji27)).f1)))) = true := decide_eq_true c30
            clear c30
            obtain rfl := Option.some.inj H
            obtain ⟨hcz31_0, hcz31_1, hcz31_2⟩ := cz3 BK674.out
            obtain ⟨hfz31_0, hfz31_1, hfz31_2⟩ := fz3 BK674.out
            have p678 : 0 ≤ ((ji27) : Int) := oa
            have q678 : (ji27) < (l1.length : Int) := oa
            obtain ⟨ad678, A678_2, c678_2, e678, hx678_0, hx678_1, hx678_2, hl678_2, hi678_2⟩ := at_T60 HR1.out (ji27) p678 q678
            obtain rfl : ad673 = ad678 := (by injection e678)
            replace hx678_0 := bc HB.out hx678_0
            replace hx678_1 := bc HB.out hx678_1
            replace hx678_2 := bc HB.out hx678_2
            have HR678_2 := am hi678_2
            have HC678_2 := am hl678_2
            clear hi678_2 hl678_2
            replace p678 := eq_true p678
            replace q678 := eq_true q678
            have p679 : 0 ≤ ((ji27) : Int) := oa
            have q679 : (ji27) < (l1.length : Int) := oa
            obtain ⟨ad679, A679_2, c679_2, e679, hx679_0, hx679_1, hx679_2, hl679_2, hi679_2⟩ := at_T60 HR1.out (ji27) p679 q679
            obtain rfl : ad673 = ad679 := (by injection e679)
            replace hx679_0 := bc HB.out hx679_0
            replace hx679_1 := bc HB.out hx679_1
            replace hx679_2 := bc HB.out hx679_2
            have HR679_2 := am hi679_2
            have HC679_2 := am hl679_2
            clear hi679_2 hl679_2
            replace p679 := eq_true p679
            replace q679 := eq_true q679
            have ea_ := Option.some.inj (hx678_2.symm.trans hx679_2)
            injection ea_ with ea_ en_ ec_
            subst ea_
            subst ec_
            clear en_
            go_wp2
            repeat (go_quiet (fail); try go_wp2)
            go_ret
            exact ⟨by rfl, zw⟩
           ·rw [if_neg c30] at H
            have c30b0 : decide (((T60 l1 x17_2).f0) ≤ (wrap64 (((T60 l1 (ji27)).f0) + ((T60 l1 (ji27)).f1)))) = false := decide_eq_false c30
            clear c30
            have H' := am H
            clear H
            obtain ⟨hcz32_0, hcz32_1, hcz32_2⟩ := cz3 BK674.out
            obtain ⟨hfz32_0, hfz32_1, hfz32_2⟩ := fz3 BK674.out
            have p678 : 0 ≤ ((ji27) : Int) := oa
            have q678 : (ji27) < (l1.length : Int) := oa
            obtain ⟨ad678, A678_2, c678_2, e678, hx678_0, hx678_1, hx678_2, hl678_2, hi678_2⟩ := at_T60 HR1.out (ji27) p678 q678
            obtain rfl : ad673 = ad678 := (by injection e678)
            replace hx678_0 := bc HB.out hx678_0
            replace hx678_1 := bc HB.out hx678_1
            replace hx678_2 := bc HB.out hx678_2
            have HR678_2 := am hi678_2
            have HC678_2 := am hl678_2
            clear hi678_2 hl678_2
            replace p678 := eq_true p678
            replace q678 := eq_true q678
            have p679 : 0 ≤ ((ji27) : Int) := oa
            have q679 : (ji27) < (l1.length : Int) := oa
            obtain ⟨ad679, A679_2, c679_2, e679, hx679_0, hx679_1, hx679_2, hl679_2, hi679_2⟩ := at_T60 HR1.out (ji27) p679 q679
            obtain rfl : ad673 = ad679 := (by injection e679)
            replace hx679_0 := bc HB.out hx679_0
            replace hx679_1 := bc HB.out hx679_1
            replace hx679_2 := bc HB.out hx679_2
            have HR679_2 := am hi679_2
            have HC679_2 := am hl679_2
            clear hi679_2 hl679_2
            replace p679 := eq_true p679
            replace q679 := eq_true q679
            have ea_ := Option.some.inj (hx678_2.symm.trans hx679_2)
            injection ea_ with ea_ en_ ec_
            subst ea_
            subst ec_
            clear en_
            go_wp2
            repeat (go_quiet (fail); try go_wp2)
            go_roundg kj9
            case measure => have := HJ2.out; have := HK2.out; have := HJ9.out; omega
            case rel => exact ⟨(wrap64 (x17_2 + 1)), zf, H', ⟨by have := HJ2.out; have := HK2.out; have := HJ9.out; omega⟩, ⟨zw⟩⟩
          ·rw [if_neg c26] at H
           have c26b0 : decide (0 < x17_2) = false := decide_eq_false c26
           clear c26
           have H' := am H
           clear H
           go_wp2
           repeat (go_quiet (fail); try go_wp2)
           go_roundg kj9
           case measure => have := HJ2.out; have := HK2.out; have := HJ9.out; omega
           case rel => exact ⟨(wrap64 (x17_2 + 1)), zf, H', ⟨by have := HJ2.out; have := HK2.out; have := HJ9.out; omega⟩, ⟨zw⟩⟩
      ·rw [if_neg c7] at H
       have c7b0 : decide (x17_2 < (l1.length : Int)) = false := decide_eq_false c7
       clear c7
       obtain rfl := Option.some.inj H
       go_wp2
       go_ret
       exact ⟨by rfl, zb⟩

def stringslite_HasSuffix.f (a0 : ByteArray) (a1 : ByteArray) : Option (Bool) := if (a0.size : Int) ≥ (a1.size : Int) then (if 0 ≤ (wrap64 ((a0.size : Int) - (a1.size : Int))) then (if (wrap64 ((a0.size : Int) - (a1.size : Int))) ≤ (a0.size : Int) then (some ((a0.extract ((wrap64 ((a0.size : Int) - (a1.size : Int))) : Int).toNat a0.size).toList == a1.toList)) else (none)) else (none)) else (some false)
set_option maxHeartbeats 8000000 in
set_option maxRecDepth 100000 in
theorem stringslite_HasSuffix.calls (a0 : ByteArray) (a1 : ByteArray) (r : Bool) (w : World) (h : stringslite_HasSuffix.f a0 a1 = some r) :
  Calls Tryz.prog 119 #[.string a0, .string a1] w fun e w' => e = .returned (.bool r) ∧ Drawn0 w w' := by
 have H : (if (a0.size : Int) ≥ (a1.size : Int) then (if 0 ≤ (wrap64 ((a0.size : Int) - (a1.size : Int))) then (if (wrap64 ((a0.size : Int) - (a1.size : Int))) ≤ (a0.size : Int) then (some ((a0.extract ((wrap64 ((a0.size : Int) - (a1.size : Int))) : Int).toNat a0.size).toList == a1.toList)) else (none)) else (none)) else (some false)) = some r := h
 clear h
 by_cases c3 : (a0.size : Int) ≥ (a1.size : Int)
 ·rw [if_pos c3] at H
  have c3b0 : decide ((a1.size : Int) ≤ (a0.size : Int)) = true := decide_eq_true c3
  have c3b1 : decide (a1.size ≤ a0.size) = true := decide_eq_true (Int.ofNat_le.mp c3)
  clear c3
  obtain ⟨ji4, hji4⟩ : ∃ j_ : Int, (wrap64 ((a0.size : Int) - (a1.size : Int))) = j_ := ⟨_, rfl⟩
  replace H : (if 0 ≤ (ji4) then (if (ji4) ≤ (a0.size : Int) then (some ((a0.extract ((ji4) : Int).toNat a0.size).toList == a1.toList)) else (none)) else (none)) = some r := by first | (rw [hji4] at H; exact H) | (simp only [hji4] at H ⊢; exact H)
  have hji4w : (IntKind.i64.wrap ((a0.size : Int) - (a1.size : Int))) = ji4 := (i64_w _).trans hji4
  by_cases c5 : 0 ≤ (ji4)
  ·rw [if_pos c5] at H
   have c5b0 := eq_true c5
   have c5b1 : decide (0 ≤ (ji4)) = true := decide_eq_true c5
   clear c5
   by_cases c6 : (ji4) ≤ (a0.size : Int)
   ·rw [if_pos c6] at H
    have c6b0 := eq_true c6
    have c6b1 : decide ((ji4) ≤ (a0.size : Int)) = true := decide_eq_true c6
    clear c6
    obtain rfl := Option.some.inj H
    go_enter Tryz.func119, Tryz.ntmps119
    go_wp2
    go_ret
    exact ⟨by first | rfl | (simp; done) | (simp only [← hji4] <;> (first | rfl | simp)) | (simp [*]; done), by repeat (first | exact Drawn0.refl _ | apply Drawn0.step)⟩
   ·rw [if_neg c6] at H
    exact absurd H (by simp)
  ·rw [if_neg c5] at H
   exact absurd H (by simp)
 ·rw [if_neg c3] at H
  have c3b0 : decide ((a1.size : Int) ≤ (a0.size : Int)) = false := decide_eq_false c3
  have c3b1 : decide (a1.size ≤ a0.size) = false := decide_eq_false (fun h => c3 (Int.ofNat_le.mpr h))
  clear c3
  obtain rfl := Option.some.inj H
  go_enter Tryz.func119, Tryz.ntmps119
  go_wp2
  go_ret
  exact ⟨by first | rfl | (simp; done) | (simp [*]; done), by repeat (first | exact Drawn0.refl _ | apply Drawn0.step)⟩

def strings_HasSuffix.f (a0 : ByteArray) (a1 : ByteArray) : Option (Bool) := (stringslite_HasSuffix.f a0 a1).bind fun t264 => (some t264)
set_option maxHeartbeats 8000000 in
set_option maxRecDepth 100000 in
theorem strings_HasSuffix.calls (a0 : ByteArray) (a1 : ByteArray) (r : Bool) (w : World) (h : strings_HasSuffix.f a0 a1 = some r) :
  Calls Tryz.prog 94 #[.string a0, .string a1] w fun e w' => e = .returned (.bool r) ∧ Drawn0 w w' := by
 have H : ((stringslite_HasSuffix.f a0 a1).bind fun t264 => (some t264)) = some r := h
 clear h
 replace H := Option.bind_eq_some_iff.mp H
 obtain ⟨t264, A30, H⟩ := H
 replace H : (some t264) = some r := H
 have A3 := am A30
 clear A30
 obtain rfl := Option.some.inj H
 go_enter Tryz.func94, Tryz.ntmps94
 go_wp2_with (first | ((with_reducible refine gateC (f := 119) rfl ?_); refine goesL_ (some 7) rfl rfl Tryz.func119 (by kernel_rfl) rfl #[.string a0, .string a1] rfl zm ?_; (with_reducible refine (stringslite_HasSuffix.calls a0 a1 t264 _ A3.out).mono ?_); rintro e w' ⟨rfl, ⟨nd, rfl⟩⟩; refine ⟨_, rfl, ?_⟩))
 go_ret
 exact ⟨by first | rfl | (simp; done) | (simp [*]; done), by repeat (first | exact Drawn0.refl _ | apply Drawn0.step)⟩

def impl_isEnded.f (a0 : ByteArray) : Option (Bool) := (strings_HasSuffix.f a0 (⟨#[10]⟩ : ByteArray)).bind fun t265 => (some t265)
set_option maxHeartbeats 8000000 in
set_option maxRecDepth 100000 in
theorem impl_isEnded.calls (a0 : ByteArray) (r : Bool) (w : World) (h : impl_isEnded.f a0 = some r) :
  Calls Tryz.prog 65 #[.string a0] w fun e w' => e = .returned (.bool r) ∧ Drawn0 w w' := by
 have H : ((strings_HasSuffix.f a0 (⟨#[10]⟩ : ByteArray)).bind fun t265 => (some t265)) = some r := h
 clear h
 replace H := Option.bind_eq_some_iff.mp H
 obtain ⟨t265, A20, H⟩ := H
 replace H : (some t265) = some r := H
 have A2 := am A20
 clear A20
 obtain rfl := Option.some.inj H
 go_enter Tryz.func65, Tryz.ntmps65
 go_wp2_with (first | ((with_reducible refine gateC (f := 94) rfl ?_); refine goesL_ (some 4) rfl rfl Tryz.func94 (by kernel_rfl) rfl #[.string a0, .string (⟨#[10]⟩ : ByteArray)] rfl zm ?_; (with_reducible refine (strings_HasSuffix.calls a0 (⟨#[10]⟩ : ByteArray) t265 _ A2.out).mono ?_); rintro e w' ⟨rfl, ⟨nd, rfl⟩⟩; refine ⟨_, rfl, ?_⟩))
 go_ret
 exact ⟨by first | rfl | (simp; done) | (simp [*]; done), by repeat (first | exact Drawn0.refl _ | apply Drawn0.step)⟩

def impl_goodLines.l0 : Nat → List ByteArray → List ByteArray → Int → Int → Option (Bool)
 | 0, _, _, _, _ => none
 | k + 1, x0, x8, x9, x10 => if x10 < x9 then (if 0 ≤ x10 then (if x10 < (x8.length : Int) then (if x10 < (wrap64 ((x0.length : Int) - 1)) then ((impl_isEnded.f (rdOf ByteArray.empty x8 x10)).bind fun t268 => (if t268 = true then (impl_goodLines.l0 k x0 x8 x9 (wrap64 (x10 + 1))) else (some false))) else (impl_goodLines.l0 k x0 x8 x9 (wrap64 (x10 + 1)))) else (none)) else (none)) else (some true)
def impl_goodLines.f (k : Nat) (l0 : List ByteArray) : Option (Bool) := (impl_areLines.f k l0).bind fun t266 => (if t266 = true then (impl_goodLines.l0 k l0 l0 (l0.length : Int) 0) else (some false))
set_option maxHeartbeats 8000000 in
set_option maxRecDepth 100000 in
theorem impl_goodLines.calls (k : Nat) (A0 : Option Addr) (c0 : Nat) (l0 : List ByteArray) (r : Bool) (w : World) (hr0 : Kd.C Kd.string w A0 l0.length l0) (hc0 : l0.length ≤ c0) (h : impl_goodLines.f k l0 = some r) :
  Calls Tryz.prog 32 #[.slice A0 l0.length c0] w fun e w' => e = .returned (.bool r) ∧ Drawn0 w w' := by
 have HR0 := am hr0
 have HC0 := am hc0
 clear hr0 hc0
 have H := h
 clear h
 unfold impl_goodLines.f at H
 replace H := Option.bind_eq_some_iff.mp H
 obtain ⟨t266, A20, H⟩ := H
 replace H : (if t266 = true then (impl_goodLines.l0 k l0 l0 (l0.length : Int) 0) else (some false)) = some r := H
 have A2 := am A20
 clear A20
 by_cases c3 : t266 = true
 ·subst c3
  rw [if_pos rfl] at H
  have H' := am H
  clear H
  go_enter Tryz.func32, Tryz.ntmps32
  go_wp2_with (((with_reducible refine gateC (f := 64) rfl ?_); refine goesL_ (some 6) rfl rfl Tryz.func64 (by kernel_rfl) rfl #[.slice A0 l0.length c0] rfl zm ?_; (with_reducible refine (impl_areLines.calls k _ _ l0 true _ ?side1 ?side2 A2.out).mono ?_); (case side1 => exact zq HR0.out); (case side2 => exact HC0.out); rintro e w' ⟨rfl, ⟨nd, rfl⟩⟩; refine ⟨_, rfl, ?_⟩))
  go_loopg [10] k (fun kq v10 w' => ∃ (x10_1 : Int), v10 = .int .i64 x10_1 ∧ Aside0 (impl_goodLines.l0 kq l0 l0 (l0.length : Int) x10_1 = some r) ∧ Aside0 (kq ≤ k) ∧ Drawn0 w w')
  case atStart => exact ⟨(0), zf, H', ⟨Nat.le_refl _⟩, by repeat (first | exact Drawn0.refl _ | apply Drawn0.step)⟩
  case round =>
   clear H'
   obtain ⟨x10_1, rfl, HA, HK1, ⟨m1, rfl⟩⟩ := hrel
   cases gk with
   | zero => exact absurd HA.out (by simp [impl_goodLines.l0])
   | succ k1 =>
    have H := HA.out
    clear HA
    simp only [impl_goodLines.l0] at H
    by_cases c4 : x10_1 < (l0.length : Int)
    ·rw [if_pos c4] at H
     have c4b0 : decide (x10_1 < (l0.length : Int)) = true := decide_eq_true c4
     clear c4
     obtain ⟨c5, H⟩ := itn H
     have c5b0 := decide_eq_true c5
     clear c5
     obtain ⟨c6, H⟩ := itn H
     have c6b0 := decide_eq_true c6
     clear c6
     by_cases c7 : x10_1 < (wrap64 ((l0.length : Int) - 1))
     ·rw [if_pos c7] at H
      have c7b0 : decide (x10_1 < (wrap64 ((l0.length : Int) - 1))) = true := decide_eq_true c7
      clear c7
      replace H := Option.bind_eq_some_iff.mp H
      obtain ⟨t268, A80, H⟩ := H
      replace H : (if t268 = true then (impl_goodLines.l0 k1 l0 l0 (l0.length : Int) (wrap64 (x10_1 + 1))) else (some false)) = some r := H
      have A8 := am A80
      clear A80
      by_cases c9 : t268 = true
      ·subst c9
       rw [if_pos rfl] at H
       have H' := am H
       clear H
       have p267 : 0 ≤ (x10_1 : Int) := oa
       have q267 : x10_1 < (l0.length : Int) := oa
       obtain ⟨ad267, e267, hx267_0⟩ := Kd.at_string HR0.out x10_1 p267 q267
       cases e267
       replace p267 := eq_true p267
       replace q267 := eq_true q267
       go_wp2_with ((go_at_call 65; (with_reducible refine (impl_isEnded.calls (rdOf ByteArray.empty l0 x10_1) true _ A8.out).mono ?_); rintro e w' ⟨rfl, ⟨nd, rfl⟩⟩))
       go_roundg k1
       case measure => have := HK1.out; omega
       case rel => exact ⟨(wrap64 (x10_1 + 1)), zf, H', ⟨by have := HK1.out; omega⟩, by repeat (first | exact Drawn0.refl _ | apply Drawn0.step)⟩
      ·replace c9 := Bool.eq_false_iff.mpr c9
       subst c9
       rw [if_neg nofun] at H
       obtain rfl := Option.some.inj H
       have p267 : 0 ≤ (x10_1 : Int) := oa
       have q267 : x10_1 < (l0.length : Int) := oa
       obtain ⟨ad267, e267, hx267_0⟩ := Kd.at_string HR0.out x10_1 p267 q267
       cases e267
       replace p267 := eq_true p267
       replace q267 := eq_true q267
       go_wp2_with ((go_at_call 65; (with_reducible refine (impl_isEnded.calls (rdOf ByteArray.empty l0 x10_1) false _ A8.out).mono ?_); rintro e w' ⟨rfl, ⟨nd, rfl⟩⟩))
       go_ret
       exact ⟨by rfl, by repeat (first | exact Drawn0.refl _ | apply Drawn0.step)⟩
     ·rw [if_neg c7] at H
      have c7b0 : decide (x10_1 < (wrap64 ((l0.length : Int) - 1))) = false := decide_eq_false c7
      clear c7
      have H' := am H
      clear H
      have p267 : 0 ≤ (x10_1 : Int) := oa
      have q267 : x10_1 < (l0.length : Int) := oa
      obtain ⟨ad267, e267, hx267_0⟩ := Kd.at_string HR0.out x10_1 p267 q267
      cases e267
      replace p267 := eq_true p267
      replace q267 := eq_true q267
      go_wp2
      go_roundg k1
      case measure => have := HK1.out; omega
      case rel => exact ⟨(wrap64 (x10_1 + 1)), zf, H', ⟨by have := HK1.out; omega⟩, by repeat (first | exact Drawn0.refl _ | apply Drawn0.step)⟩
    ·rw [if_neg c4] at H
     have c4b0 : decide (x10_1 < (l0.length : Int)) = false := decide_eq_false c4
     clear c4
     obtain rfl := Option.some.inj H
     go_wp2
     go_ret
     exact ⟨by rfl, by repeat (first | exact Drawn0.refl _ | apply Drawn0.step)⟩
 ·replace c3 := Bool.eq_false_iff.mpr c3
  subst c3
  rw [if_neg nofun] at H
  obtain rfl := Option.some.inj H
  go_enter Tryz.func32, Tryz.ntmps32
  go_wp2_with (((with_reducible refine gateC (f := 64) rfl ?_); refine goesL_ (some 6) rfl rfl Tryz.func64 (by kernel_rfl) rfl #[.slice A0 l0.length c0] rfl zm ?_; (with_reducible refine (impl_areLines.calls k _ _ l0 false _ ?side1 ?side2 A2.out).mono ?_); (case side1 => exact zq HR0.out); (case side2 => exact HC0.out); rintro e w' ⟨rfl, ⟨nd, rfl⟩⟩; refine ⟨_, rfl, ?_⟩))
  go_ret
  exact ⟨by rfl, by repeat (first | exact Drawn0.refl _ | apply Drawn0.step)⟩

def impl_patched.l0 : Nat → List ByteArray → List ByteArray → Int → List (S60) → Int → Int → Option (List ByteArray)
 | 0, _, _, _, _, _, _ => none
 | k + 1, x0, x5, x6, x10, x11, x12 => if x12 < x11 then (if 0 ≤ x12 then (if x12 < (x10.length : Int) then (if 0 ≤ x6 then (if x6 ≤ ((T60 x10 x12).f0) then (if ((T60 x10 x12).f0) ≤ (x0.length : Int) then (if x5.length + ((x0.take (((T60 x10 x12).f0) : Int).toNat).drop (x6 : Int).toNat).length < 8796093022208 then ((some (x5 ++ ((x0.take (((T60 x10 x12).f0) : Int).toNat).drop (x6 : Int).toNat) : List ByteArray)).bind fun y686 => (if y686.length + ((T60 x10 x12).f2).length < 8796093022208 then (impl_patched.l0 k x0 (y686 ++ ((T60 x10 x12).f2)) (wrap64 (((T60 x10 x12).f0) + ((T60 x10 x12).f1))) x10 x11 (wrap64 (x12 + 1))) else (none))) else (none)) else (none)) else (none)) else (none)) else (none)) else (none)) else (if 0 ≤ x6 then (if x6 ≤ (x0.length : Int) then (if x5.length + (x0.drop (x6 : Int).toNat).length < 8796093022208 then (some (x5 ++ (x0.drop (x6 : Int).toNat))) else (none)) else (none)) else (none))
def impl_patched.f (k : Nat) (l0 : List ByteArray) (l1 : List (S60)) : Option (List ByteArray) := impl_patched.l0 k l0 (([] : List ByteArray)) 0 l1 (l1.length : Int) 0
def impl_patched.T5 : Bool × List (List Nat × List Nat) := (true, [([], []), ([], []), ([], []), ([], []), ([3], [3]), ([1, 2, 4], [1, 2, 4]), ([0, 5], [0, 5]), ([], []), ([7], [7]), ([6, 8, 6], [6, 8]), ([9, 9, 0, 1, 2, 3, 4, 5, 6, 7, 8, 9], [0, 9])])
def impl_patched.B5 : List Nat := [0, 0, 0, 0, 8, 30, 63, 0, 128, 511, 1023]
theorem impl_patched.tab5 : rtab .any (opsOf Tryz.f39 5) = impl_patched.T5 := by kernel_rfl
theorem impl_patched.bits5 : waitsOk impl_patched.T5.2 impl_patched.B5 = true := by kernel_rfl
set_option maxHeartbeats 8000000 in
set_option maxRecDepth 100000 in
theorem impl_patched.calls (k : Nat) (A0 : Option Addr) (c0 : Nat) (l0 : List ByteArray) (A1 : Option Addr) (c1 : Nat) (l1 : List (S60)) (r : List ByteArray) (w : World) (hr0 : Kd.C Kd.string w A0 l0.length l0) (hc0 : l0.length ≤ c0) (hr1 : Kd.C k60 w A1 l1.length l1) (hc1 : l1.length ≤ c1) (h : impl_patched.f k l0 l1 = some r) :
  Calls Tryz.prog 39 #[.slice A0 l0.length c0, .slice A1 l1.length c1] w fun e w' => ∃ v0_ : Value, e = .returned (v0_) ∧ Kd.R Kd.string 9 w' w.heap.size (fun _ => True) v0_ r ∧ Below w.heap.size w w' := by
 have hu60 := Tryz.underlying60
 have HR0 := am hr0
 have HC0 := am hc0
 clear hr0 hc0
 have HR1 := am hr1
 have HC1 := am hc1
 clear hr1 hc1
 have HB := am (Below.refl w.heap.size w)
 have H := h
 clear h
 unfold impl_patched.f at H
 obtain ⟨y680, hy680⟩ : ∃ y_ : List ByteArray, y_ = (([] : List ByteArray)) := ⟨_, rfl⟩
 rw [← hy680] at H
 have Ny680 := am hy680
 clear hy680
 have H' := am H
 clear H
 go_enter Tryz.func39, Tryz.ntmps39
 go_wp2_with (((with_reducible refine gate_dst (N := 9) rfl ?_); refine Kd.R_lit Kd.string _ 9 ?hg (N := 9) ?hd (xs := ([] : List ByteArray)) (inner := []) (ok := fun _ => True) (okp := fun _ => True) ?hr ?hp (fun _ hk => hk) trivial (Below.refl _ _) (Nat.le_refl _) (by simp) ?_; (case hd => rfl); (case hg => rfl); (case hr => (go_simp; done)); (case hp => exact (Reps.none _ _)); intro v681 w3 ho4 hb hg_ hnew_; clear hg_ hnew_; (rw [← Ny680.out] at ho4); have HO682 := am (Kd.R_lower ho4 (below_size zb)); replace HB := am (below_step zb hb); clear hb ho4))
 go_loopg [5, 6, 12] k (fun kq v5 v6 v12 w' => ∃ (x5_1 : List ByteArray) (x6_1 : Int) (x12_1 : Int), v6 = .int .i64 x6_1 ∧ v12 = .int .i64 x12_1 ∧ Aside0 (impl_patched.l0 kq l0 x5_1 x6_1 l1 (l1.length : Int) x12_1 = some r) ∧ Aside0 (kq ≤ k) ∧ Aside0 (Kd.R Kd.string 9 w' w.heap.size (fun _ => True) v5 x5_1) ∧ Aside0 (Below w.heap.size w w'))
 case atStart => exact ⟨(y680), (0), (0), zf, zf, H', ⟨Nat.le_refl _⟩, ⟨zr HO682.out⟩, ⟨zb⟩⟩
 case round =>
  clear H'
  obtain ⟨x5_1, x6_1, x12_1, rfl, rfl, HA, HK1, HO_5, HB⟩ := hrel
  cases gk with
  | zero => exact absurd HA.out (by simp [impl_patched.l0])
  | succ k1 =>
   have H := HA.out
   clear HA
   simp only [impl_patched.l0] at H
   by_cases c5 : x12_1 < (l1.length : Int)
   ·rw [if_pos c5] at H
    have c5b0 : decide (x12_1 < (l1.length : Int)) = true := decide_eq_true c5
    clear c5
    obtain ⟨c6, H⟩ := itn H
    have c6b0 := decide_eq_true c6
    clear c6
    obtain ⟨c7, H⟩ := itn H
    have c7b0 := decide_eq_true c7
    clear c7
    obtain ⟨c8, H⟩ := itn H
    have c8b0 := eq_true c8
    have c8b1 := decide_eq_true c8
    clear c8
    obtain ⟨c9, H⟩ := itn H
    have c9b0 := eq_true c9
    have c9b1 := decide_eq_true c9
    clear c9
    obtain ⟨c10, H⟩ := itn H
    have c10b0 := eq_true c10
    have c10b1 := decide_eq_true c10
    clear c10
    obtain ⟨c11, H⟩ := itn H
    have LMc11 := am c11
    clear c11
    obtain ⟨y686, hy686⟩ : ∃ y_ : List ByteArray, y_ = (x5_1 ++ ((l0.take (((T60 l1 x12_1).f0) : Int).toNat).drop (x6_1 : Int).toNat)) := ⟨_, rfl⟩
    replace H : (if y686.length + ((T60 l1 x12_1).f2).length < 8796093022208 then (impl_patched.l0 k1 l0 (y686 ++ ((T60 l1 x12_1).f2)) (wrap64 (((T60 l1 x12_1).f0) + ((T60 l1 x12_1).f1))) l1 (l1.length : Int) (wrap64 (x12_1 + 1))) else (none)) = some r := by (have H2_ := (Option.bind_some _ _).symm.trans H; rw [hy686]; with_reducible exact H2_)
    have Ny686 := am hy686
    clear hy686
    obtain ⟨c12, H⟩ := itn H
    have LMc12 := am c12
    clear c12
    obtain ⟨y689, hy689⟩ : ∃ y_ : List ByteArray, y_ = (y686 ++ ((T60 l1 x12_1).f2)) := ⟨_, rfl⟩
    rw [← hy689] at H
    have Ny689 := am hy689
    clear hy689
    have H' := am H
    clear H
    have p683 : 0 ≤ (x12_1 : Int) := oa
    have q683 : x12_1 < (l1.length : Int) := oa
    obtain ⟨ad683, A683_2, c683_2, e683, hx683_0, hx683_1, hx683_2, hl683_2, hi683_2⟩ := at_T60 HR1.out x12_1 p683 q683
    cases e683
    replace hx683_0 := bc HB.out hx683_0
    replace hx683_1 := bc HB.out hx683_1
    replace hx683_2 := bc HB.out hx683_2
    have HR683_2 := am hi683_2
    have HC683_2 := am hl683_2
    clear hi683_2 hl683_2
    replace p683 := eq_true p683
    replace q683 := eq_true q683
    try go_wp2_with (((with_reducible refine gate_dst (N := 8) rfl ?_); refine box_event ?hg (N := 8) ?hd (cs := #[.int .i64 0, .int .i64 0, .slice none 0 0]) (t := 60) ?hr ?_; (case hd => rfl); (case hg => rfl); (case hr => (go_simp; done)); intro gb684 hg w13 hbox hb; replace HO_5 := am (Kd.R_below (zr HO_5.out) hb); have BK684 := am (hbox); have GW684 := am ((by rw [hg]; exact (below_size zb) : w.heap.size ≤ gb684)); have GE684 := am ((by rw [hg]; exact (below_size zb) : w.heap.size ≤ gb684)); replace HB := am (below_step zb hb); clear hb hbox hg; obtain ⟨hcz14_0, hcz14_1, hcz14_2⟩ := cz3 BK684.out; obtain ⟨hfz14_0, hfz14_1, hfz14_2⟩ := fz3 BK684.out))
    have n0_ : Aside0 (Kd.R Kd.string 9 (((w13.setCell ⟨gb684, 0, none⟩ (.int .i64 ((T60 l1 x12_1).f0))).setCell ⟨gb684, 1, none⟩ (.int .i64 ((T60 l1 x12_1).f1))).setCell ⟨gb684, 2, none⟩ (.slice A683_2 ((T60 l1 x12_1).f2).length c683_2)) w.heap.size (fun _ => True) u5 x5_1) := ⟨by exact Kd.R_mono (Kd.R_far (p := ⟨gb684, 2, none⟩) (Kd.R_far (p := ⟨gb684, 1, none⟩) (Kd.R_far (p := ⟨gb684, 0, none⟩) (Kd.R_types HO_5.out BK684.out (by decide)) (fun _ hk => hk.2) (.int .i64 ((T60 l1 x12_1).f0))) (fun _ hk => hk.2) (.int .i64 ((T60 l1 x12_1).f1))) (fun _ hk => hk.2) (.slice A683_2 ((T60 l1 x12_1).f2).length c683_2)) (fun _ hk => trivial)⟩
    have n1_ : Aside0 ((((w13.setCell ⟨gb684, 0, none⟩ (.int .i64 ((T60 l1 x12_1).f0))).setCell ⟨gb684, 1, none⟩ (.int .i64 ((T60 l1 x12_1).f1))).setCell ⟨gb684, 2, none⟩ (.slice A683_2 ((T60 l1 x12_1).f2).length c683_2)).heap[gb684]? = some (.cells #[.int .i64 ((T60 l1 x12_1).f0), .int .i64 ((T60 l1 x12_1).f1), .slice A683_2 ((T60 l1 x12_1).f2).length c683_2] 60 (0, 0))) := ⟨by refine blk_put (cs := #[.int .i64 ((T60 l1 x12_1).f0), .int .i64 ((T60 l1 x12_1).f1), .slice none 0 0]) ?_ 2 _ rfl; refine blk_put (cs := #[.int .i64 ((T60 l1 x12_1).f0), .int .i64 0, .slice none 0 0]) ?_ 1 _ rfl; refine blk_put (cs := #[.int .i64 0, .int .i64 0, .slice none 0 0]) ?_ 0 _ rfl; exact BK684.out⟩
    have n2_ : Aside0 (Below w.heap.size w (((w13.setCell ⟨gb684, 0, none⟩ (.int .i64 ((T60 l1 x12_1).f0))).setCell ⟨gb684, 1, none⟩ (.int .i64 ((T60 l1 x12_1).f1))).setCell ⟨gb684, 2, none⟩ (.slice A683_2 ((T60 l1 x12_1).f2).length c683_2))) := ⟨zw⟩
    (try clear HO_5)
    (try clear BK684)
    (try clear HB)
    generalize (((w13.setCell ⟨gb684, 0, none⟩ (.int .i64 ((T60 l1 x12_1).f0))).setCell ⟨gb684, 1, none⟩ (.int .i64 ((T60 l1 x12_1).f1))).setCell ⟨gb684, 2, none⟩ (.slice A683_2 ((T60 l1 x12_1).f2).length c683_2)) = w15 at n0_ n1_ n2_ ⊢
    have HO_5 := n0_
    have BK684 := n1_
    have HB := n2_
    clear n0_ n1_ n2_
    replace HO_5 := am (Kd.R_drew HO_5.out)
    replace BK684 := am (blk_drew BK684.out)
    replace HB := am (below_drew1 HB.out)
    obtain ⟨i017, hi017, _, hsz17, _⟩ := info_parts info9
    obtain ⟨A17, hcut17, hA17, hC17⟩ := print_mid_of (P := Tryz.prog) Value.string (⟨#[]⟩ : ByteArray) 24 9 .i64 .i64 Tryz.underlying24 hi017 hsz17 A0 c0 l0 x6_1 ((T60 l1 x12_1).f0) oa (by exact oa) oa HC0.out
    have HR685 := am (Kd.C_of_reads (h1 := fun _ => rfl) (hA17 _ (Kd.reads_of_C HR0.out)))
    have HC685 := am hC17
    clear hA17 hC17 hi017 hsz17
    refine start_ (n := 11) (S := fun w' => w'.cell? ⟨gb684, 0, none⟩ = some (.int .i64 ((T60 l1 x12_1).f0)) ∧ w'.cell? ⟨gb684, 1, none⟩ = some (.int .i64 ((T60 l1 x12_1).f1)) ∧ w'.cell? ⟨gb684, 2, none⟩ = some (.slice A683_2 ((T60 l1 x12_1).f2).length c683_2)) (ds := []) #[O,O,O,O,O,O,O,O,O,O,O] (by kernel_rfl) rfl rfl ⟨(blk_cell BK684.out 0).trans rfl, (blk_cell BK684.out 1).trans rfl, (blk_cell BK684.out 2).trans rfl⟩ (fun hHeld => ?_); refine with_tabW impl_patched.tab5 impl_patched.bits5 (fun HT_ HW_ => ?_)
    generalize w15.drew = w16 at HO_5 BK684 HB HR685 hHeld ⊢
    refine pu 0 (some 16) ?_
    refine pu 1 (some 17) ?_
    refine pu 2 (some 18) ?_
    refine pu 3 (some 19) ?_
    refine pu 7 (some 23) ?_
    refine ta 4 (some 20) ?_
    refine pu 5 (some 21) ?_
    refine ta 8 (some 24) ?_
    refine one_ (i := 6) (N := some 22) #[Y,Y,Y,Y,Y,Y,Y,Y,Y,O,O] rfl rfl (one_of HT_.out (by kernel_rfl)) (by decide) (fun K hK => ?_)
    refine Kd.R_append_rows_step Kd.string (w0 := w) w.heap.size (by rfl) (.tmp 16) (.tmp 21) 24 9 (.string ⟨#[]⟩) 16 rfl Tryz.underlying24 info9 rfl (by decide) (by omega) u5 x5_1 ((l0.take (((T60 l1 x12_1).f0) : Int).toNat).drop (x6_1 : Int).toNat) _ _ _ (fun _ => True) (fun _ => False) rfl rfl ?aO ?aR (fun _ _ h => h) (fun _ h => h.elim) ?aF ?aB ?aS ?aL ?_
    (case aR => (rw [← show ((l0.take (((T60 l1 x12_1).f0) : Int).toNat).drop (x6_1 : Int).toNat).length = (((T60 l1 x12_1).f0).toNat - x6_1.toNat) from (by rw [List.length_drop, List.length_take]; have h_ : (((T60 l1 x12_1).f0) : Int) ≤ (l0.length : Int) := oa; omega)]; exact zq (Kd.C_below HR685.out HB.out)))
    (case aB => exact zw)
    (case aF => exact (fun _ _ => trivial))
    (case aO => exact (zr HO_5.out))
    (case aS => exact (below_size zw))
    (case aL => have := LMc11.out; have hlx_ := (show ((l0.take (((T60 l1 x12_1).f0) : Int).toNat).drop (x6_1 : Int).toNat).length = (((T60 l1 x12_1).f0).toNat - x6_1.toNat) from (by rw [List.length_drop, List.length_take]; have h_ : (((T60 l1 x12_1).f0) : Int) ≤ (l0.length : Int) := oa; omega)); omega)
    intro v687 w18 ho hb hg hat
    rw [← Ny686.out] at ho
    replace BK684 := am (blk_grown (g := gb684) (o := .cells #[.int .i64 ((T60 l1 x12_1).f0), .int .i64 ((T60 l1 x12_1).f1), .slice A683_2 ((T60 l1 x12_1).f2).length c683_2] 60 (0, 0)) (zk BK684.out) hg (Kd.R_ne HO_5.out BK684.out (by decide)))
    replace HB := am (hb)
    have HO688 := am (ho)
    clear HO_5
    clear ho hb hg hat
    refine hK.out _ _ ⟨(blk_cell BK684.out 0).trans rfl, (blk_cell BK684.out 1).trans rfl, (blk_cell BK684.out 2).trans rfl⟩ (fun hHeld => ?_)
    clear hK K
    refine norm_ (a' := ?_) ?_ ?_
    rotate_left
    ·show Act.put _ (some 22) _ = _
     simp only [Act.put,qa,qb,qc,i64_w,i32_w]
     rfl
    refine one_ (i := 9) (N := some 25) #[Y,Y,Y,Y,Y,Y,Y,Y,Y,Y,O] rfl rfl (one_of HT_.out (by kernel_rfl)) (by decide) (fun K hK => ?_)
    refine Kd.R_append_rows_step Kd.string (w0 := w) w.heap.size (by rfl) (.tmp 22) (.tmp 24) 24 9 (.string ⟨#[]⟩) 16 rfl Tryz.underlying24 info9 rfl (by decide) (by omega) v687 y686 ((T60 l1 x12_1).f2) _ _ _ (fun _ => True) (fun _ => False) rfl rfl ?aO ?aR (fun _ _ h => h) (fun _ h => h.elim) ?aF ?aB ?aS ?aL ?_
    (case aR => exact zq (Kd.C_below HR683_2.out HB.out))
    (case aB => exact zw)
    (case aF => exact (fun _ _ => trivial))
    (case aO => exact (zr HO688.out))
    (case aS => exact (below_size zw))
    (case aL => have := LMc12.out; omega)
    intro v690 w19 ho hb hg hat
    rw [← Ny689.out] at ho
    replace BK684 := am (blk_grown (g := gb684) (o := .cells #[.int .i64 ((T60 l1 x12_1).f0), .int .i64 ((T60 l1 x12_1).f1), .slice A683_2 ((T60 l1 x12_1).f2).length c683_2] 60 (0, 0)) (zk BK684.out) hg (Kd.R_ne HO688.out BK684.out (by decide)))
    replace HB := am (hb)
    have HO691 := am (ho)
    clear HO688
    clear ho hb hg hat
    refine hK.out _ _ ⟨(blk_cell BK684.out 0).trans rfl, (blk_cell BK684.out 1).trans rfl, (blk_cell BK684.out 2).trans rfl⟩ (fun hHeld => ?_)
    clear hK K
    refine norm_ (a' := ?_) ?_ ?_
    rotate_left
    ·show Act.put _ (some 25) _ = _
     simp only [Act.put,qa,qb,qc,i64_w,i32_w]
     rfl
    refine pu 10 (some 5) ?_
    refine done_ (done_of HT_.out (by kernel_rfl)) ?_
    obtain ⟨hcz20_0, hcz20_1, hcz20_2⟩ := cz3 BK684.out
    obtain ⟨hfz20_0, hfz20_1, hfz20_2⟩ := fz3 BK684.out
    try go_wp2
    go_roundg k1
    case measure => have := HK1.out; omega
    case rel => exact ⟨(y689), (wrap64 (((T60 l1 x12_1).f0) + ((T60 l1 x12_1).f1))), (wrap64 (x12_1 + 1)), zf, zf, H', ⟨by have := HK1.out; omega⟩, ⟨zr HO691.out⟩, ⟨zw⟩⟩
   ·rw [if_neg c5] at H
    have c5b0 : decide (x12_1 < (l1.length : Int)) = false := decide_eq_false c5
    clear c5
    obtain ⟨c21, H⟩ := itn H
    have c21b0 := eq_true c21
    have c21b1 := decide_eq_true c21
    clear c21
    obtain ⟨c22, H⟩ := itn H
    have c22b0 := eq_true c22
    have c22b1 := decide_eq_true c22
    clear c22
    obtain ⟨c23, H⟩ := itn H
    have LMc23 := am c23
    clear c23
    obtain ⟨y693, hy693⟩ : ∃ y_ : List ByteArray, y_ = (x5_1 ++ (l0.drop (x6_1 : Int).toNat)) := ⟨_, rfl⟩
    rw [← hy693] at H
    have Ny693 := am hy693
    clear hy693
    obtain rfl := Option.some.inj H
    obtain ⟨i024, hi024, _, hsz24, _⟩ := info_parts info9
    obtain ⟨A24, hcut24, hA24, hC24⟩ := print_drop_of (P := Tryz.prog) Value.string (⟨#[]⟩ : ByteArray) 24 9 .i64 Tryz.underlying24 hi024 hsz24 A0 c0 l0 x6_1 oa oa HC0.out
    have HR692 := am (Kd.C_of_reads (h1 := fun _ => rfl) (hA24 _ (Kd.reads_of_C HR0.out)))
    have HC692 := am hC24
    clear hA24 hC24 hi024 hsz24
    go_wp2_with (((with_reducible refine gateB (b := .append) (xs := #[.tmp 32, .tmp 35]) rfl ?_); at_builtin; refine Kd.R_append_rows Kd.string (w0 := w) w.heap.size rfl (.tmp 32) (.tmp 35) 24 9 (.string ⟨#[]⟩) 16 rfl Tryz.underlying24 info9 rfl (by decide) (by omega) u5 x5_1 (l0.drop (x6_1 : Int).toNat) _ _ _ (fun _ => True) (fun _ => False) rfl rfl ?aO ?aR (fun _ _ h => h) (fun _ h => h.elim) ?aF ?aB ?aS ?aL ?_; (case aR => (rw [← show (l0.drop (x6_1 : Int).toNat).length = (l0.length - x6_1.toNat) from List.length_drop]; exact zq (Kd.C_below HR692.out HB.out))); (case aB => exact zb); (case aF => exact (fun _ _ => trivial)); (case aO => exact (zr HO_5.out)); (case aS => exact (below_size zb)); (case aL => have := LMc23.out; have hlx_ := (show (l0.drop (x6_1 : Int).toNat).length = (l0.length - x6_1.toNat) from List.length_drop); omega); intro v694 w25 ho hb hg hat; rw [← Ny693.out] at ho; replace HB := am (hb); have HO695 := am (ho); clear HO_5; clear ho hb hg hat))
    go_ret
    exact ⟨_, by rfl, zr HO695.out, zb⟩

def impl_Patch.j0 : Nat → List ByteArray → List (S60) → Bool → Option (List ByteArray × Bool)
 | 0, _, _, _ => none
 | k + 1, x0, x1, x16 => if x16 = true then (some (([] : List ByteArray), false)) else ((impl_patched.f k x0 x1).bind fun t698 => ((impl_goodLines.f k t698).bind fun t701 => (if t701 = true then (some (t698, true)) else (some (([] : List ByteArray), false)))))
def impl_Patch.f (k : Nat) (l0 : List ByteArray) (l1 : List (S60)) : Option (List ByteArray × Bool) := (impl_goodLines.f k l0).bind fun t696 => (if t696 = true then ((impl_goodHunks.f k (l0.length : Int) l1).bind fun t697 => (impl_Patch.j0 k l0 l1 (!t697))) else (impl_Patch.j0 k l0 l1 true))
set_option maxHeartbeats 8000000 in
set_option maxRecDepth 100000 in
theorem impl_Patch.calls (k : Nat) (A0 : Option Addr) (c0 : Nat) (l0 : List ByteArray) (A1 : Option Addr) (c1 : Nat) (l1 : List (S60)) (r1 : List ByteArray) (r2 : Bool) (w : World) (hr0 : Kd.C Kd.string w A0 l0.length l0) (hc0 : l0.length ≤ c0) (hr1 : Kd.C k60 w A1 l1.length l1) (hc1 : l1.length ≤ c1) (h : impl_Patch.f k l0 l1 = some (r1, r2)) :
  Calls Tryz.prog 14 #[.slice A0 l0.length c0, .slice A1 l1.length c1] w fun e w' => ∃ v0_ : Value, e = .returned (.tuple #[v0_, .bool r2]) ∧ Kd.R Kd.string 9 w' w.heap.size (fun _ => True) v0_ r1 ∧ Below w.heap.size w w' := by
 have HR0 := am hr0
 have HC0 := am hc0
 clear hr0 hc0
 have HR1 := am hr1
 have HC1 := am hc1
 clear hr1 hc1
 have HB := am (Below.refl w.heap.size w)
 have H := h
 clear h
 unfold impl_Patch.f at H
 have HC3 := am H
 clear H
 go_enter Tryz.func14, Tryz.ntmps14
 go_upto_region 1 with (fail)
 go_cut [16] (fun v16 wc => ∃ (kq : Nat) (x16_2 : Bool), v16 = .bool x16_2 ∧ Aside0 (impl_Patch.j0 kq l0 l1 x16_2 = some (r1, r2)) ∧ Aside0 (kq ≤ k) ∧ Aside0 (Below w.heap.size w wc))
 case first =>
  have H := HC3.out
  clear HC3
  replace H := Option.bind_eq_some_iff.mp H
  obtain ⟨t696, A40, H⟩ := H
  replace H : (if t696 = true then ((impl_goodHunks.f k (l0.length : Int) l1).bind fun t697 => (impl_Patch.j0 k l0 l1 (!t697))) else (impl_Patch.j0 k l0 l1 true)) = some (r1, r2) := H
  have A4 := am A40
  clear A40
  by_cases c5 : t696 = true
  ·subst c5
   rw [if_pos rfl] at H
   replace H := Option.bind_eq_some_iff.mp H
   obtain ⟨t697, A60, H⟩ := H
   replace H : (impl_Patch.j0 k l0 l1 (!t697)) = some (r1, r2) := H
   have A6 := am A60
   clear A60
   have H' := am H
   clear H
   go_wp2_with (first | ((with_reducible refine gateC (f := 32) rfl ?_); refine goesL_ (some 8) rfl rfl Tryz.func32 (by kernel_rfl) rfl #[.slice A0 l0.length c0] rfl zm ?_; (with_reducible refine (impl_goodLines.calls k _ _ l0 true _ ?side1 ?side2 A4.out).mono ?_); (case side1 => exact zq (Kd.C_below HR0.out HB.out)); (case side2 => exact HC0.out); rintro e w' ⟨rfl, ⟨nd, rfl⟩⟩; refine ⟨_, rfl, ?_⟩) | (go_at_call 37; (with_reducible refine (impl_goodHunks.calls k (l0.length : Int) _ _ l1 t697 _ ?side1 ?side2 A6.out).mono ?_); (case side1 => repeat (exact (Kd.C_below HR1.out zb))); (case side2 => exact HC1.out); rintro e w7 ⟨rfl, hb⟩; replace HB := am (below_step zb hb); (try clear hb)))
   go_meet
   case rel => exact ⟨_, (!t697), zf, H', ⟨by omega⟩, ⟨zb⟩⟩
  ·replace c5 := Bool.eq_false_iff.mpr c5
   subst c5
   rw [if_neg nofun] at H
   have H' := am H
   clear H
   go_wp2_with (((with_reducible refine gateC (f := 32) rfl ?_); refine goesL_ (some 8) rfl rfl Tryz.func32 (by kernel_rfl) rfl #[.slice A0 l0.length c0] rfl zm ?_; (with_reducible refine (impl_goodLines.calls k _ _ l0 false _ ?side1 ?side2 A4.out).mono ?_); (case side1 => exact zq (Kd.C_below HR0.out HB.out)); (case side2 => exact HC0.out); rintro e w' ⟨rfl, ⟨nd, rfl⟩⟩; refine ⟨_, rfl, ?_⟩))
   go_meet
   case rel => exact ⟨_, (true), zf, H', ⟨by omega⟩, ⟨zb⟩⟩
 case rest =>
  clear HC3
  obtain ⟨kq, x16_2, rfl, HA, HJ2, HB⟩ := hcut
  cases kq with
  | zero => exact absurd HA.out (by simp [impl_Patch.j0])
  | succ kj2 =>
   have H := HA.out
   clear HA
   simp only [impl_Patch.j0] at H
   by_cases c8 : x16_2 = true
   ·subst c8
    rw [if_pos rfl] at H
    simp only [Option.some.injEq, Prod.mk.injEq] at H
    obtain ⟨rfl, rfl⟩ := H
    go_wp2
    go_ret2
    exact ⟨_, by rfl, by exact Kd.R_nil _ _ _ _ _, zb⟩
   ·replace c8 := Bool.eq_false_iff.mpr c8
    subst c8
    rw [if_neg nofun] at H
    replace H := Option.bind_eq_some_iff.mp H
    obtain ⟨t698, A90, H⟩ := H
    replace H : ((impl_goodLines.f kj2 t698).bind fun t701 => (if t701 = true then (some (t698, true)) else (some (([] : List ByteArray), false)))) = some (r1, r2) := H
    have A9 := am A90
    clear A90
    replace H := Option.bind_eq_some_iff.mp H
    obtain ⟨t701, A100, H⟩ := H
    replace H : (if t701 = true then (some (t698, true)) else (some (([] : List ByteArray), false))) = some (r1, r2) := H
    have A10 := am A100
    clear A100
    by_cases c11 : t701 = true
    ·subst c11
     rw [if_pos rfl] at H
     simp only [Option.some.injEq, Prod.mk.injEq] at H
     obtain ⟨rfl, rfl⟩ := H
     go_wp2_with (first | ((with_reducible refine gateC (f := 39) rfl ?_); refine goesL_ (some 19) rfl rfl Tryz.func39 (by kernel_rfl) rfl #[.slice A0 l0.length c0, .slice A1 l1.length c1] rfl zm ?_; (with_reducible refine (impl_patched.calls kj2 _ _ l0 _ _ l1 t698 _ ?side1 ?side2 ?side3 ?side4 A9.out).mono ?_); (case side1 => exact zq (Kd.C_below HR0.out HB.out)); (case side2 => exact HC0.out); (case side3 => exact zq (Kd.C_below HR1.out HB.out)); (case side4 => exact HC1.out); rintro e w12 ⟨v699, rfl, ho0, hb⟩; refine ⟨_, rfl, ?_⟩; have HO700 := am (Kd.R_lower ho0 (below_size zb)); replace HB := am (below_step zb hb); (try clear hb); (try clear ho0); obtain ⟨Ao13, co13, eo13⟩ := Kd.R_slice HO700.out; subst eo13) | ((with_reducible refine gateC (f := 32) rfl ?_); refine goesL_ (some 21) rfl rfl Tryz.func32 (by kernel_rfl) rfl #[.slice Ao13 t698.length co13] rfl zm ?_; (with_reducible refine (impl_goodLines.calls kj2 _ _ t698 true _ ?side1 ?side2 A10.out).mono ?_); (case side1 => repeat (exact (Kd.R_reads' HO700.out).2.2)); (case side2 => exact (Kd.R_reads' HO700.out).2.1); rintro e w' ⟨rfl, ⟨nd, rfl⟩⟩; refine ⟨_, rfl, ?_⟩))
     go_ret2
     exact ⟨_, by rfl, zr HO700.out, zb⟩
    ·replace c11 := Bool.eq_false_iff.mpr c11
     subst c11
     rw [if_neg nofun] at H
     simp only [Option.some.injEq, Prod.mk.injEq] at H
     obtain ⟨rfl, rfl⟩ := H
     go_wp2_with (first | ((with_reducible refine gateC (f := 39) rfl ?_); refine goesL_ (some 19) rfl rfl Tryz.func39 (by kernel_rfl) rfl #[.slice A0 l0.length c0, .slice A1 l1.length c1] rfl zm ?_; (with_reducible refine (impl_patched.calls kj2 _ _ l0 _ _ l1 t698 _ ?side1 ?side2 ?side3 ?side4 A9.out).mono ?_); (case side1 => exact zq (Kd.C_below HR0.out HB.out)); (case side2 => exact HC0.out); (case side3 => exact zq (Kd.C_below HR1.out HB.out)); (case side4 => exact HC1.out); rintro e w14 ⟨v699, rfl, ho0, hb⟩; refine ⟨_, rfl, ?_⟩; have HO700 := am (Kd.R_lower ho0 (below_size zb)); replace HB := am (below_step zb hb); (try clear hb); (try clear ho0); obtain ⟨Ao15, co15, eo15⟩ := Kd.R_slice HO700.out; subst eo15) | ((with_reducible refine gateC (f := 32) rfl ?_); refine goesL_ (some 21) rfl rfl Tryz.func32 (by kernel_rfl) rfl #[.slice Ao15 t698.length co15] rfl zm ?_; (with_reducible refine (impl_goodLines.calls kj2 _ _ t698 false _ ?side1 ?side2 A10.out).mono ?_); (case side1 => repeat (exact (Kd.R_reads' HO700.out).2.2)); (case side2 => exact (Kd.R_reads' HO700.out).2.1); rintro e w' ⟨rfl, ⟨nd, rfl⟩⟩; refine ⟨_, rfl, ?_⟩))
     go_ret2
     exact ⟨_, by rfl, by exact Kd.R_nil _ _ _ _ _, zb⟩

def impl_isTold.j0 : Nat → Int → Int → List ByteArray → Bool → Option (Bool)
 | 0, _, _, _, _ => none
 | k + 1, x0, x1, x2, x19 => if x19 = true then (some false) else (if (x2.length : Int) = 0 then (some (x0 == x1)) else (if x0 ≥ 1 then (some ((wrap64 ((wrap64 (x1 - x0)) + 1)) == (x2.length : Int))) else (some false)))
def impl_isTold.f (k : Nat) (a0 : Int) (a1 : Int) (l2 : List ByteArray) : Option (Bool) := (impl_in.f a0 0 1000).bind fun t269 => (if t269 = true then ((impl_in.f a1 0 1000).bind fun t270 => (if t270 = true then ((impl_goodLines.f k l2).bind fun t271 => (impl_isTold.j0 k a0 a1 l2 (!t271))) else (impl_isTold.j0 k a0 a1 l2 true))) else (impl_isTold.j0 k a0 a1 l2 true))
set_option maxHeartbeats 8000000 in
set_option maxRecDepth 100000 in
theorem impl_isTold.calls (k : Nat) (a0 : Int) (a1 : Int) (A2 : Option Addr) (c2 : Nat) (l2 : List ByteArray) (r : Bool) (w : World) (hr2 : Kd.C Kd.string w A2 l2.length l2) (hc2 : l2.length ≤ c2) (h : impl_isTold.f k a0 a1 l2 = some r) :
  Calls Tryz.prog 67 #[.int .i64 a0, .int .i64 a1, .slice A2 l2.length c2] w fun e w' => e = .returned (.bool r) ∧ Drawn0 w w' := by
 have HR2 := am hr2
 have HC2 := am hc2
 clear hr2 hc2
 have H := h
 clear h
 unfold impl_isTold.f at H
 have HC4 := am H
 clear H
 go_enter Tryz.func67, Tryz.ntmps67
 go_upto_region 1 with (fail)
 go_cut [19] (fun v19 wc => ∃ (kq : Nat) (x19_3 : Bool), v19 = .bool x19_3 ∧ Aside0 (impl_isTold.j0 kq a0 a1 l2 x19_3 = some r) ∧ Aside0 (kq ≤ k) ∧ Drawn0 w wc)
 case first =>
  have H := HC4.out
  clear HC4
  replace H := Option.bind_eq_some_iff.mp H
  obtain ⟨t269, A50, H⟩ := H
  replace H : (if t269 = true then ((impl_in.f a1 0 1000).bind fun t270 => (if t270 = true then ((impl_goodLines.f k l2).bind fun t271 => (impl_isTold.j0 k a0 a1 l2 (!t271))) else (impl_isTold.j0 k a0 a1 l2 true))) else (impl_isTold.j0 k a0 a1 l2 true)) = some r := H
  have A5 := am A50
  clear A50
  by_cases c6 : t269 = true
  ·subst c6
   rw [if_pos rfl] at H
   replace H := Option.bind_eq_some_iff.mp H
   obtain ⟨t270, A70, H⟩ := H
   replace H : (if t270 = true then ((impl_goodLines.f k l2).bind fun t271 => (impl_isTold.j0 k a0 a1 l2 (!t271))) else (impl_isTold.j0 k a0 a1 l2 true)) = some r := H
   have A7 := am A70
   clear A70
   by_cases c8 : t270 = true
   ·subst c8
    rw [if_pos rfl] at H
    replace H := Option.bind_eq_some_iff.mp H
    obtain ⟨t271, A90, H⟩ := H
    replace H : (impl_isTold.j0 k a0 a1 l2 (!t271)) = some r := H
    have A9 := am A90
    clear A90
    have H' := am H
    clear H
    go_wp2_with (first | ((with_reducible refine gateC (f := 69) rfl ?_); refine goesL_ (some 8) rfl rfl Tryz.func69 (by kernel_rfl) rfl #[.int .i64 a0, .int .i64 0, .int .i64 1000] rfl zm ?_; (with_reducible refine (impl_in.calls a0 0 1000 true _ A5.out).mono ?_); rintro e w' ⟨rfl, ⟨nd, rfl⟩⟩; refine ⟨_, rfl, ?_⟩) | (go_at_call 69; (with_reducible refine (impl_in.calls a1 0 1000 true _ A7.out).mono ?_); rintro e w' ⟨rfl, ⟨nd, rfl⟩⟩) | (go_at_call 32; (with_reducible refine (impl_goodLines.calls k _ _ l2 t271 _ ?side1 ?side2 A9.out).mono ?_); (case side1 => exact zq HR2.out); (case side2 => exact HC2.out); rintro e w' ⟨rfl, ⟨nd, rfl⟩⟩))
    go_meet
    case rel => exact ⟨_, (!t271), zf, H', ⟨by omega⟩, by repeat (first | exact Drawn0.refl _ | apply Drawn0.step)⟩
   ·replace c8 := Bool.eq_false_iff.mpr c8
    subst c8
    rw [if_neg nofun] at H
    have H' := am H
    clear H
    go_wp2_with (first | ((with_reducible refine gateC (f := 69) rfl ?_); refine goesL_ (some 8) rfl rfl Tryz.func69 (by kernel_rfl) rfl #[.int .i64 a0, .int .i64 0, .int .i64 1000] rfl zm ?_; (with_reducible refine (impl_in.calls a0 0 1000 true _ A5.out).mono ?_); rintro e w' ⟨rfl, ⟨nd, rfl⟩⟩; refine ⟨_, rfl, ?_⟩) | (go_at_call 69; (with_reducible refine (impl_in.calls a1 0 1000 false _ A7.out).mono ?_); rintro e w' ⟨rfl, ⟨nd, rfl⟩⟩))
    go_meet
    case rel => exact ⟨_, (true), zf, H', ⟨by omega⟩, by repeat (first | exact Drawn0.refl _ | apply Drawn0.step)⟩
  ·replace c6 := Bool.eq_false_iff.mpr c6
   subst c6
   rw [if_neg nofun] at H
   have H' := am H
   clear H
   go_wp2_with (((with_reducible refine gateC (f := 69) rfl ?_); refine goesL_ (some 8) rfl rfl Tryz.func69 (by kernel_rfl) rfl #[.int .i64 a0, .int .i64 0, .int .i64 1000] rfl zm ?_; (with_reducible refine (impl_in.calls a0 0 1000 false _ A5.out).mono ?_); rintro e w' ⟨rfl, ⟨nd, rfl⟩⟩; refine ⟨_, rfl, ?_⟩))
   go_meet
   case rel => exact ⟨_, (true), zf, H', ⟨by omega⟩, by repeat (first | exact Drawn0.refl _ | apply Drawn0.step)⟩
 case rest =>
  clear HC4
  obtain ⟨kq, x19_3, rfl, HA, HJ3, ⟨mc3, rfl⟩⟩ := hcut
  cases kq with
  | zero => exact absurd HA.out (by simp [impl_isTold.j0])
  | succ kj3 =>
   have H := HA.out
   clear HA
   simp only [impl_isTold.j0] at H
   by_cases c10 : x19_3 = true
   ·subst c10
    rw [if_pos rfl] at H
    obtain rfl := Option.some.inj H
    go_wp2
    go_ret
    exact ⟨by rfl, by repeat (first | exact Drawn0.refl _ | apply Drawn0.step)⟩
   ·replace c10 := Bool.eq_false_iff.mpr c10
    subst c10
    rw [if_neg nofun] at H
    by_cases c11 : (l2.length : Int) = 0
    ·rw [if_pos c11] at H
     have c11b0 : ((l2.length : Int) == 0) = true := beq_iff_eq.mpr c11
     have c11b1 : ((l2.length : Int) != 0) = false := bne_eq_false_iff_eq.mpr c11
     clear c11
     obtain rfl := Option.some.inj H
     go_wp2
     go_ret
     exact ⟨by rfl, by repeat (first | exact Drawn0.refl _ | apply Drawn0.step)⟩
    ·rw [if_neg c11] at H
     have c11b0 : ((l2.length : Int) == 0) = false := beq_eq_false_iff_ne.mpr c11
     have c11b1 : ((l2.length : Int) != 0) = true := bne_iff_ne.mpr c11
     have c11b2 : ¬ (l2 = []) := fun h_ => c11 (by rw [h_]; rfl)
     by_cases c12 : a0 ≥ 1
     ·rw [if_pos c12] at H
      have c12b0 : decide (1 ≤ a0) = true := decide_eq_true c12
      clear c12
      obtain rfl := Option.some.inj H
      go_wp2
      go_ret
      exact ⟨by rfl, by repeat (first | exact Drawn0.refl _ | apply Drawn0.step)⟩
     ·rw [if_neg c12] at H
      have c12b0 : decide (1 ≤ a0) = false := decide_eq_false c12
      clear c12
      obtain rfl := Option.some.inj H
      go_wp2
      go_ret
      exact ⟨by rfl, by repeat (first | exact Drawn0.refl _ | apply Drawn0.step)⟩

def impl_goodSteps_1.f (k : Nat) (a0_0 : Int) (a0_1 : Int) (l0_2 : List ByteArray) (a0_3 : Int) (a0_4 : Int) (l0_5 : List ByteArray) : Option (Bool) := (impl_isTold.f k a0_0 a0_1 l0_2).bind fun t273 => (if t273 = true then ((impl_isTold.f k a0_3 a0_4 l0_5).bind fun t274 => (if t274 = true then (some ((wrap64 ((l0_2.length : Int) + (l0_5.length : Int))) == 0)) else (some true))) else (some true))
set_option maxHeartbeats 8000000 in
set_option maxRecDepth 100000 in
theorem impl_goodSteps_1.calls (k : Nat) (a0_0 : Int) (a0_1 : Int) (A0_2 : Option Addr) (c0_2 : Nat) (l0_2 : List ByteArray) (a0_3 : Int) (a0_4 : Int) (A0_5 : Option Addr) (c0_5 : Nat) (l0_5 : List ByteArray) (r : Bool) (w : World) (hr0_2 : Kd.C Kd.string w A0_2 l0_2.length l0_2) (hc0_2 : l0_2.length ≤ c0_2) (hr0_5 : Kd.C Kd.string w A0_5 l0_5.length l0_5) (hc0_5 : l0_5.length ≤ c0_5) (h : impl_goodSteps_1.f k a0_0 a0_1 l0_2 a0_3 a0_4 l0_5 = some r) :
  Calls Tryz.prog 66 #[.agg #[.int .i64 a0_0, .int .i64 a0_1, .slice A0_2 l0_2.length c0_2, .int .i64 a0_3, .int .i64 a0_4, .slice A0_5 l0_5.length c0_5]] w fun e w' => e = .returned (.bool r) ∧ Below w.heap.size w w' := by
 have hu52 := Tryz.underlying52
 have HR0_2 := am hr0_2
 have HC0_2 := am hc0_2
 clear hr0_2 hc0_2
 have HR0_5 := am hr0_5
 have HC0_5 := am hc0_5
 clear hr0_5 hc0_5
 have HB := am (Below.refl w.heap.size w)
 have H := h
 clear h
 unfold impl_goodSteps_1.f at H
 replace H := Option.bind_eq_some_iff.mp H
 obtain ⟨t273, A20, H⟩ := H
 replace H : (if t273 = true then ((impl_isTold.f k a0_3 a0_4 l0_5).bind fun t274 => (if t274 = true then (some ((wrap64 ((l0_2.length : Int) + (l0_5.length : Int))) == 0)) else (some true))) else (some true)) = some r := H
 have A2 := am A20
 clear A20
 by_cases c3 : t273 = true
 ·subst c3
  rw [if_pos rfl] at H
  replace H := Option.bind_eq_some_iff.mp H
  obtain ⟨t274, A40, H⟩ := H
  replace H : (if t274 = true then (some ((wrap64 ((l0_2.length : Int) + (l0_5.length : Int))) == 0)) else (some true)) = some r := H
  have A4 := am A40
  clear A40
  by_cases c5 : t274 = true
  ·subst c5
   rw [if_pos rfl] at H
   obtain rfl := Option.some.inj H
   go_enter Tryz.func66, Tryz.ntmps66
   go_wp2_with (first | ((with_reducible refine gate_dst (N := 1) rfl ?_); (try (refine gate_guard (by rfl) ?_; dsimp only)); refine box_event ?hg (N := 1) ?hd (cs := #[.int .i64 a0_0, .int .i64 a0_1, .slice A0_2 l0_2.length c0_2, .int .i64 a0_3, .int .i64 a0_4, .slice A0_5 l0_5.length c0_5]) (t := 52) ?hr ?_; (case hd => rfl); (case hg => rfl); (case hr => (go_simp; done)); intro gb272 hg w6 hbox hb; have BK272 := am (hbox); have GW272 := am ((by rw [hg]; exact (below_size zb) : w.heap.size ≤ gb272)); have GE272 := am ((by rw [hg]; exact (below_size zb) : w.heap.size ≤ gb272)); replace HB := am (below_step zb hb); clear hb hbox hg; obtain ⟨hcz7_0, hcz7_1, hcz7_2, hcz7_3, hcz7_4, hcz7_5⟩ := cz6 BK272.out; obtain ⟨hfz7_0, hfz7_1, hfz7_2, hfz7_3, hfz7_4, hfz7_5⟩ := fz6 BK272.out) | ((with_reducible refine gateC (f := 67) rfl ?_); refine goesL_ (some 9) rfl rfl Tryz.func67 (by kernel_rfl) rfl #[.int .i64 a0_0, .int .i64 a0_1, .slice A0_2 l0_2.length c0_2] rfl zm ?_; (with_reducible refine (impl_isTold.calls k a0_0 a0_1 _ _ l0_2 true _ ?side1 ?side2 A2.out).mono ?_); (case side1 => exact zq (Kd.C_below HR0_2.out HB.out)); (case side2 => exact HC0_2.out); rintro e w' ⟨rfl, ⟨nd, rfl⟩⟩; refine ⟨_, rfl, ?_⟩) | (go_at_call 67; (with_reducible refine (impl_isTold.calls k a0_3 a0_4 _ _ l0_5 true _ ?side1 ?side2 A4.out).mono ?_); (case side1 => repeat (exact (Kd.C_below HR0_5.out zw))); (case side2 => exact HC0_5.out); rintro e w' ⟨rfl, ⟨nd, rfl⟩⟩))
   go_ret
   exact ⟨by rfl, zw⟩
  ·replace c5 := Bool.eq_false_iff.mpr c5
   subst c5
   rw [if_neg nofun] at H
   obtain rfl := Option.some.inj H
   go_enter Tryz.func66, Tryz.ntmps66
   go_wp2_with (first | ((with_reducible refine gate_dst (N := 1) rfl ?_); (try (refine gate_guard (by rfl) ?_; dsimp only)); refine box_event ?hg (N := 1) ?hd (cs := #[.int .i64 a0_0, .int .i64 a0_1, .slice A0_2 l0_2.length c0_2, .int .i64 a0_3, .int .i64 a0_4, .slice A0_5 l0_5.length c0_5]) (t := 52) ?hr ?_; (case hd => rfl); (case hg => rfl); (case hr => (go_simp; done)); intro gb272 hg w8 hbox hb; have BK272 := am (hbox); have GW272 := am ((by rw [hg]; exact (below_size zb) : w.heap.size ≤ gb272)); have GE272 := am ((by rw [hg]; exact (below_size zb) : w.heap.size ≤ gb272)); replace HB := am (below_step zb hb); clear hb hbox hg; obtain ⟨hcz9_0, hcz9_1, hcz9_2, hcz9_3, hcz9_4, hcz9_5⟩ := cz6 BK272.out; obtain ⟨hfz9_0, hfz9_1, hfz9_2, hfz9_3, hfz9_4, hfz9_5⟩ := fz6 BK272.out) | ((with_reducible refine gateC (f := 67) rfl ?_); refine goesL_ (some 9) rfl rfl Tryz.func67 (by kernel_rfl) rfl #[.int .i64 a0_0, .int .i64 a0_1, .slice A0_2 l0_2.length c0_2] rfl zm ?_; (with_reducible refine (impl_isTold.calls k a0_0 a0_1 _ _ l0_2 true _ ?side1 ?side2 A2.out).mono ?_); (case side1 => exact zq (Kd.C_below HR0_2.out HB.out)); (case side2 => exact HC0_2.out); rintro e w' ⟨rfl, ⟨nd, rfl⟩⟩; refine ⟨_, rfl, ?_⟩) | (go_at_call 67; (with_reducible refine (impl_isTold.calls k a0_3 a0_4 _ _ l0_5 false _ ?side1 ?side2 A4.out).mono ?_); (case side1 => repeat (exact (Kd.C_below HR0_5.out zw))); (case side2 => exact HC0_5.out); rintro e w' ⟨rfl, ⟨nd, rfl⟩⟩))
   go_ret
   exact ⟨by rfl, zw⟩
 ·replace c3 := Bool.eq_false_iff.mpr c3
  subst c3
  rw [if_neg nofun] at H
  obtain rfl := Option.some.inj H
  go_enter Tryz.func66, Tryz.ntmps66
  go_wp2_with (first | ((with_reducible refine gate_dst (N := 1) rfl ?_); (try (refine gate_guard (by rfl) ?_; dsimp only)); refine box_event ?hg (N := 1) ?hd (cs := #[.int .i64 a0_0, .int .i64 a0_1, .slice A0_2 l0_2.length c0_2, .int .i64 a0_3, .int .i64 a0_4, .slice A0_5 l0_5.length c0_5]) (t := 52) ?hr ?_; (case hd => rfl); (case hg => rfl); (case hr => (go_simp; done)); intro gb272 hg w10 hbox hb; have BK272 := am (hbox); have GW272 := am ((by rw [hg]; exact (below_size zb) : w.heap.size ≤ gb272)); have GE272 := am ((by rw [hg]; exact (below_size zb) : w.heap.size ≤ gb272)); replace HB := am (below_step zb hb); clear hb hbox hg; obtain ⟨hcz11_0, hcz11_1, hcz11_2, hcz11_3, hcz11_4, hcz11_5⟩ := cz6 BK272.out; obtain ⟨hfz11_0, hfz11_1, hfz11_2, hfz11_3, hfz11_4, hfz11_5⟩ := fz6 BK272.out) | ((with_reducible refine gateC (f := 67) rfl ?_); refine goesL_ (some 9) rfl rfl Tryz.func67 (by kernel_rfl) rfl #[.int .i64 a0_0, .int .i64 a0_1, .slice A0_2 l0_2.length c0_2] rfl zm ?_; (with_reducible refine (impl_isTold.calls k a0_0 a0_1 _ _ l0_2 false _ ?side1 ?side2 A2.out).mono ?_); (case side1 => exact zq (Kd.C_below HR0_2.out HB.out)); (case side2 => exact HC0_2.out); rintro e w' ⟨rfl, ⟨nd, rfl⟩⟩; refine ⟨_, rfl, ?_⟩))
  go_ret
  exact ⟨by rfl, zw⟩

def slices_IndexFunc_impl_Step_impl_Step__impl_goodSteps_1.l0 : Nat → List (S52) → Int → Int → Option (Int)
 | 0, _, _, _ => none
 | k + 1, x0, x7, x8 => if x8 < x7 then (if 0 ≤ x8 then (if x8 < (x0.length : Int) then ((impl_goodSteps_1.f k ((T52 x0 x8).f0) ((T52 x0 x8).f1) ((T52 x0 x8).f2) ((T52 x0 x8).f3) ((T52 x0 x8).f4) ((T52 x0 x8).f5)).bind fun t276 => (if t276 = true then (some x8) else (slices_IndexFunc_impl_Step_impl_Step__impl_goodSteps_1.l0 k x0 x7 (wrap64 (x8 + 1))))) else (none)) else (none)) else (some (-1))
def slices_IndexFunc_impl_Step_impl_Step__impl_goodSteps_1.f (k : Nat) (l0 : List (S52))  : Option (Int) := slices_IndexFunc_impl_Step_impl_Step__impl_goodSteps_1.l0 k l0 (l0.length : Int) 0
set_option maxHeartbeats 8000000 in
set_option maxRecDepth 100000 in
theorem slices_IndexFunc_impl_Step_impl_Step__impl_goodSteps_1.calls (k : Nat) (A0 : Option Addr) (c0 : Nat) (l0 : List (S52))  (r : Int) (w : World) (hr0 : Kd.C k52 w A0 l0.length l0) (hc0 : l0.length ≤ c0) (h : slices_IndexFunc_impl_Step_impl_Step__impl_goodSteps_1.f k l0 = some r) :
  Calls Tryz.prog 68 #[.slice A0 l0.length c0, .func (.func 66) #[] #[]] w fun e w' => e = .returned (.int .i64 r) ∧ Below w.heap.size w w' := by
 have hu52 := Tryz.underlying52
 have HR0 := am hr0
 have HC0 := am hc0
 clear hr0 hc0
 have HB := am (Below.refl w.heap.size w)
 have H := h
 clear h
 unfold slices_IndexFunc_impl_Step_impl_Step__impl_goodSteps_1.f at H
 have H' := am H
 clear H
 go_enter Tryz.func68, Tryz.ntmps68
 go_wp2
 go_loopg [8] k (fun kq v8 w' => ∃ (x8_1 : Int), v8 = .int .i64 x8_1 ∧ Aside0 (slices_IndexFunc_impl_Step_impl_Step__impl_goodSteps_1.l0 kq l0 (l0.length : Int) x8_1 = some r) ∧ Aside0 (kq ≤ k) ∧ Aside0 (Below w.heap.size w w'))
 case atStart => exact ⟨(0), zf, H', ⟨Nat.le_refl _⟩, ⟨zb⟩⟩
 case round =>
  clear H'
  obtain ⟨x8_1, rfl, HA, HK1, HB⟩ := hrel
  cases gk with
  | zero => exact absurd HA.out (by simp [slices_IndexFunc_impl_Step_impl_Step__impl_goodSteps_1.l0])
  | succ k1 =>
   have H := HA.out
   clear HA
   simp only [slices_IndexFunc_impl_Step_impl_Step__impl_goodSteps_1.l0] at H
   by_cases c3 : x8_1 < (l0.length : Int)
   ·rw [if_pos c3] at H
    have c3b0 : decide (x8_1 < (l0.length : Int)) = true := decide_eq_true c3
    clear c3
    obtain ⟨c4, H⟩ := itn H
    have c4b0 := decide_eq_true c4
    clear c4
    obtain ⟨c5, H⟩ := itn H
    have c5b0 := decide_eq_true c5
    clear c5
    replace H := Option.bind_eq_some_iff.mp H
    obtain ⟨t276, A60, H⟩ := H
    replace H : (if t276 = true then (some x8_1) else (slices_IndexFunc_impl_Step_impl_Step__impl_goodSteps_1.l0 k1 l0 (l0.length : Int) (wrap64 (x8_1 + 1)))) = some r := H
    have A6 := am A60
    clear A60
    by_cases c7 : t276 = true
    ·subst c7
     rw [if_pos rfl] at H
     obtain rfl := Option.some.inj H
     have p275 : 0 ≤ (x8_1 : Int) := oa
     have q275 : x8_1 < (l0.length : Int) := oa
     obtain ⟨ad275, A275_2, c275_2, A275_5, c275_5, e275, hx275_0, hx275_1, hx275_2, hx275_3, hx275_4, hx275_5, hl275_2, hi275_2, hl275_5, hi275_5⟩ := at_T52 HR0.out x8_1 p275 q275
     cases e275
     replace hx275_0 := bc HB.out hx275_0
     replace hx275_1 := bc HB.out hx275_1
     replace hx275_2 := bc HB.out hx275_2
     replace hx275_3 := bc HB.out hx275_3
     replace hx275_4 := bc HB.out hx275_4
     replace hx275_5 := bc HB.out hx275_5
     have HR275_2 := am hi275_2
     have HC275_2 := am hl275_2
     clear hi275_2 hl275_2
     have HR275_5 := am hi275_5
     have HC275_5 := am hl275_5
     clear hi275_5 hl275_5
     replace p275 := eq_true p275
     replace q275 := eq_true q275
     go_wp2_with ((go_at_call 66; (with_reducible refine (impl_goodSteps_1.calls k1 ((T52 l0 x8_1).f0) ((T52 l0 x8_1).f1) _ _ ((T52 l0 x8_1).f2) ((T52 l0 x8_1).f3) ((T52 l0 x8_1).f4) _ _ ((T52 l0 x8_1).f5) true _ ?side1 ?side2 ?side3 ?side4 A6.out).mono ?_); (case side1 => exact zq (Kd.C_below HR275_2.out HB.out)); (case side2 => exact HC275_2.out); (case side3 => exact zq (Kd.C_below HR275_5.out HB.out)); (case side4 => exact HC275_5.out); rintro e w8 ⟨rfl, hb⟩; replace HB := am (below_step zb hb); (try clear hb)))
     go_ret
     exact ⟨by rfl, zb⟩
    ·replace c7 := Bool.eq_false_iff.mpr c7
     subst c7
     rw [if_neg nofun] at H
     have H' := am H
     clear H
     have p275 : 0 ≤ (x8_1 : Int) := oa
     have q275 : x8_1 < (l0.length : Int) := oa
     obtain ⟨ad275, A275_2, c275_2, A275_5, c275_5, e275, hx275_0, hx275_1, hx275_2, hx275_3, hx275_4, hx275_5, hl275_2, hi275_2, hl275_5, hi275_5⟩ := at_T52 HR0.out x8_1 p275 q275
     cases e275
     replace hx275_0 := bc HB.out hx275_0
     replace hx275_1 := bc HB.out hx275_1
     replace hx275_2 := bc HB.out hx275_2
     replace hx275_3 := bc HB.out hx275_3
     replace hx275_4 := bc HB.out hx275_4
     replace hx275_5 := bc HB.out hx275_5
     have HR275_2 := am hi275_2
     have HC275_2 := am hl275_2
     clear hi275_2 hl275_2
     have HR275_5 := am hi275_5
     have HC275_5 := am hl275_5
     clear hi275_5 hl275_5
     replace p275 := eq_true p275
     replace q275 := eq_true q275
     go_wp2_with ((go_at_call 66; (with_reducible refine (impl_goodSteps_1.calls k1 ((T52 l0 x8_1).f0) ((T52 l0 x8_1).f1) _ _ ((T52 l0 x8_1).f2) ((T52 l0 x8_1).f3) ((T52 l0 x8_1).f4) _ _ ((T52 l0 x8_1).f5) false _ ?side1 ?side2 ?side3 ?side4 A6.out).mono ?_); (case side1 => exact zq (Kd.C_below HR275_2.out HB.out)); (case side2 => exact HC275_2.out); (case side3 => exact zq (Kd.C_below HR275_5.out HB.out)); (case side4 => exact HC275_5.out); rintro e w9 ⟨rfl, hb⟩; replace HB := am (below_step zb hb); (try clear hb)))
     go_roundg k1
     case measure => have := HK1.out; omega
     case rel => exact ⟨(wrap64 (x8_1 + 1)), zf, H', ⟨by have := HK1.out; omega⟩, ⟨zb⟩⟩
   ·rw [if_neg c3] at H
    have c3b0 : decide (x8_1 < (l0.length : Int)) = false := decide_eq_false c3
    clear c3
    obtain rfl := Option.some.inj H
    go_wp2
    go_ret
    exact ⟨by rfl, zb⟩

def slices_ContainsFunc_impl_Step_impl_Step__impl_goodSteps_1.f (k : Nat) (l0 : List (S52))  : Option (Bool) := (slices_IndexFunc_impl_Step_impl_Step__impl_goodSteps_1.f k l0).bind fun t275 => (some (decide (t275 ≥ 0)))
set_option maxHeartbeats 8000000 in
set_option maxRecDepth 100000 in
theorem slices_ContainsFunc_impl_Step_impl_Step__impl_goodSteps_1.calls (k : Nat) (A0 : Option Addr) (c0 : Nat) (l0 : List (S52))  (r : Bool) (w : World) (hr0 : Kd.C k52 w A0 l0.length l0) (hc0 : l0.length ≤ c0) (h : slices_ContainsFunc_impl_Step_impl_Step__impl_goodSteps_1.f k l0 = some r) :
  Calls Tryz.prog 35 #[.slice A0 l0.length c0, .func (.func 66) #[] #[]] w fun e w' => e = .returned (.bool r) ∧ Below w.heap.size w w' := by
 have HR0 := am hr0
 have HC0 := am hc0
 clear hr0 hc0
 have HB := am (Below.refl w.heap.size w)
 have H : ((slices_IndexFunc_impl_Step_impl_Step__impl_goodSteps_1.f k l0).bind fun t275 => (some (decide (t275 ≥ 0)))) = some r := h
 clear h
 replace H := Option.bind_eq_some_iff.mp H
 obtain ⟨t275, A30, H⟩ := H
 replace H : (some (decide (t275 ≥ 0))) = some r := H
 have A3 := am A30
 clear A30
 obtain rfl := Option.some.inj H
 go_enter Tryz.func35, Tryz.ntmps35
 go_wp2_with (first | ((with_reducible refine gateC (f := 68) rfl ?_); refine goesL_ (some 7) rfl rfl Tryz.func68 (by kernel_rfl) rfl #[.slice A0 l0.length c0, .func (.func 66) #[] #[]] rfl zm ?_; (with_reducible refine (slices_IndexFunc_impl_Step_impl_Step__impl_goodSteps_1.calls k _ _ l0  t275 _ ?side1 ?side2 A3.out).mono ?_); (case side1 => exact zq HR0.out); (case side2 => exact HC0.out); rintro e w4 ⟨rfl, hb⟩; refine ⟨_, rfl, ?_⟩; have n0_ := am (below_step zb hb); clear HB; have HB := n0_; clear n0_; (try clear hb)))
 go_ret
 exact ⟨by first | rfl | (simp [errW_none, errW_some] <;> rfl) | (simp [*, errW_none, errW_some] <;> rfl), zb⟩

def impl_goodSteps.f (k : Nat) (l0 : List (S52)) : Option (Bool) := if (l0.length : Int) ≤ 20 then ((slices_ContainsFunc_impl_Step_impl_Step__impl_goodSteps_1.f k l0).bind fun t275 => (some (!t275))) else (some false)
set_option maxHeartbeats 8000000 in
set_option maxRecDepth 100000 in
theorem impl_goodSteps.calls (k : Nat) (A0 : Option Addr) (c0 : Nat) (l0 : List (S52)) (r : Bool) (w : World) (hr0 : Kd.C k52 w A0 l0.length l0) (hc0 : l0.length ≤ c0) (h : impl_goodSteps.f k l0 = some r) :
  Calls Tryz.prog 33 #[.slice A0 l0.length c0] w fun e w' => e = .returned (.bool r) ∧ Below w.heap.size w w' := by
 have HR0 := am hr0
 have HC0 := am hc0
 clear hr0 hc0
 have HB := am (Below.refl w.heap.size w)
 have H : (if (l0.length : Int) ≤ 20 then ((slices_ContainsFunc_impl_Step_impl_Step__impl_goodSteps_1.f k l0).bind fun t275 => (some (!t275))) else (some false)) = some r := h
 clear h
 by_cases c2 : (l0.length : Int) ≤ 20
 ·rw [if_pos c2] at H
  have c2b0 : decide ((l0.length : Int) ≤ 20) = true := decide_eq_true c2
  have c2b1 : decide (l0.length ≤ 20) = true := decide_eq_true (by omega)
  clear c2
  replace H := Option.bind_eq_some_iff.mp H
  obtain ⟨t275, A30, H⟩ := H
  replace H : (some (!t275)) = some r := H
  have A3 := am A30
  clear A30
  obtain rfl := Option.some.inj H
  go_enter Tryz.func33, Tryz.ntmps33
  go_wp2_with (first | (go_at_call 35; (with_reducible refine (slices_ContainsFunc_impl_Step_impl_Step__impl_goodSteps_1.calls k _ _ l0  t275 _ ?side1 ?side2 A3.out).mono ?_); (case side1 => exact zq HR0.out); (case side2 => exact HC0.out); rintro e w4 ⟨rfl, hb⟩; have n0_ := am (below_step zb hb); clear HB; have HB := n0_; clear n0_; (try clear hb)))
  go_ret
  exact ⟨by first | rfl | (simp [errW_none, errW_some] <;> rfl) | (simp [*, errW_none, errW_some] <;> rfl), zb⟩
 ·rw [if_neg c2] at H
  have c2b0 : decide ((l0.length : Int) ≤ 20) = false := decide_eq_false c2
  have c2b1 : decide (l0.length ≤ 20) = false := decide_eq_false (by omega)
  clear c2
  obtain rfl := Option.some.inj H
  go_enter Tryz.func33, Tryz.ntmps33
  go_wp2
  go_ret
  exact ⟨by first | rfl | (simp [errW_none, errW_some] <;> rfl) | (simp [*, errW_none, errW_some] <;> rfl), zb⟩

def slices_Clone_string_string.f (l0 : List ByteArray) : Option (List ByteArray) := (some (([] : List ByteArray) : List ByteArray)).bind fun y702 => (if y702.length + l0.length < 8796093022208 then (some (y702 ++ l0)) else (none))
set_option maxHeartbeats 8000000 in
set_option maxRecDepth 100000 in
theorem slices_Clone_string_string.calls (A0 : Option Addr) (c0 : Nat) (l0 : List ByteArray) (r : List ByteArray) (w : World) (hr0 : Kd.C Kd.string w A0 l0.length l0) (hc0 : l0.length ≤ c0) (h : slices_Clone_string_string.f l0 = some r) :
  Calls Tryz.prog 58 #[.slice A0 l0.length c0] w fun e w' => ∃ v0_ : Value, e = .returned (v0_) ∧ Kd.R Kd.string 9 w' w.heap.size (fun _ => True) v0_ r ∧ Below w.heap.size w w' := by
 rcases A0 with _ | ad0
 ·obtain rfl : l0 = [] := by
   rcases Nat.eq_zero_or_pos l0.length with h0 | h0
   ·exact List.eq_nil_of_length_eq_zero h0
   ·obtain ⟨ad, e, _⟩ := hr0.2.2 h0
    cases e
  obtain rfl : r = [] := by simpa [slices_Clone_string_string.f] using h.symm
  clear hr0 hc0 h
  have hnil := fun (W : World) (n_ c_ : Nat) => run_eql_slice_nil (P := Tryz.prog) W _ _ none n_ c_ Tryz.underlying24
  go_enter Tryz.func58, Tryz.ntmps58
  go_wp2
  go_ret
  exact ⟨_, rfl, Kd.R_nil _ _ _ _ _, Below.refl _ _⟩
 have hnil := fun (W : World) (n_ c_ : Nat) => run_eql_slice_nil (P := Tryz.prog) W _ _ (some ad0) n_ c_ Tryz.underlying24
 have HR0 := am hr0
 have HC0 := am hc0
 clear hr0 hc0
 have HB := am (Below.refl w.heap.size w)
 have H := h
 clear h
 unfold slices_Clone_string_string.f at H
 obtain ⟨y702, hy702⟩ : ∃ y_ : List ByteArray, y_ = (([] : List ByteArray)) := ⟨_, rfl⟩
 replace H : (if y702.length + l0.length < 8796093022208 then (some (y702 ++ l0)) else (none)) = some r := by (have H2_ := (Option.bind_some _ _).symm.trans H; rw [hy702]; with_reducible exact H2_)
 have Ny702 := am hy702
 clear hy702
 obtain ⟨c2, H⟩ := itn H
 have LMc2 := am c2
 clear c2
 obtain ⟨y705, hy705⟩ : ∃ y_ : List ByteArray, y_ = (y702 ++ l0) := ⟨_, rfl⟩
 rw [← hy705] at H
 have Ny705 := am hy705
 clear hy705
 obtain rfl := Option.some.inj H
 go_enter Tryz.func58, Tryz.ntmps58
 go_wp2_with (first | ((with_reducible refine gate_dst (N := 5) rfl ?_); refine Kd.R_lit Kd.string _ 9 ?hg (N := 5) ?hd (xs := ([] : List ByteArray)) (inner := []) (ok := fun _ => True) (okp := fun _ => True) ?hr ?hp (fun _ hk => hk) trivial (Below.refl _ _) (Nat.le_refl _) (by simp) ?_; (case hd => rfl); (case hg => rfl); (case hr => (go_simp; done)); (case hp => exact (Reps.none _ _)); intro v703 w3 ho4 hb hg_ hnew_; clear hg_ hnew_; (rw [← Ny702.out] at ho4); have HO704 := am (Kd.R_lower ho4 (below_size zb)); replace HB := am (below_step zb hb); clear hb ho4) | ((with_reducible refine gateB (b := .append) (xs := #[.tmp 5, .tmp 6]) rfl ?_); at_builtin; refine Kd.R_append_rows Kd.string (w0 := w) w.heap.size rfl (.tmp 5) (.tmp 6) 24 9 (.string ⟨#[]⟩) 16 rfl Tryz.underlying24 info9 rfl (by decide) (by omega) v703 y702 l0 _ _ _ (fun _ => True) (fun _ => False) rfl rfl ?aO ?aR (fun _ _ h => h) (fun _ h => h.elim) ?aF ?aB ?aS ?aL ?_; (case aR => exact zq (Kd.C_below HR0.out HB.out)); (case aB => exact zb); (case aF => exact (fun _ _ => trivial)); (case aO => exact (zr HO704.out)); (case aS => exact (below_size zb)); (case aL => have := LMc2.out; omega); intro v706 w5 ho hb hg hat; rw [← Ny705.out] at ho; replace HB := am (hb); have HO707 := am (ho); clear HO704; clear ho hb hg hat))
 go_ret
 exact ⟨_, by rfl, zr HO707.out, zb⟩

def impl_hunksOf.l0 : Nat → List (S60) → List (S52) → Int → Int → Option ((List (S60)))
 | 0, _, _, _, _ => none
 | k + 1, x3, x8, x9, x10 => if x10 < x9 then (if 0 ≤ x10 then (if x10 < (x8.length : Int) then (if (((T52 x8 x10).f2).length : Int) > 0 then ((slices_Clone_string_string.f ((T52 x8 x10).f5)).bind fun t814 => (if x3.length < 3518437208883 then (impl_hunksOf.l0 k (x3 ++ [(⟨wrap64 (((T52 x8 x10).f0) - 1), (((T52 x8 x10).f2).length : Int), t814⟩ : S60)]) x8 x9 (wrap64 (x10 + 1))) else (none))) else ((slices_Clone_string_string.f ((T52 x8 x10).f5)).bind fun t820 => (if x3.length < 3518437208883 then (impl_hunksOf.l0 k (x3 ++ [(⟨(T52 x8 x10).f0, (((T52 x8 x10).f2).length : Int), t820⟩ : S60)]) x8 x9 (wrap64 (x10 + 1))) else (none)))) else (none)) else (none)) else (some x3)
def impl_hunksOf.f (k : Nat) (l0 : List (S52)) : Option ((List (S60))) := impl_hunksOf.l0 k (([] : List (S60))) l0 (l0.length : Int) 0
def impl_hunksOf.T8 : Bool × List (List Nat × List Nat) := (true, [([], []), ([], []), ([], []), ([2], [2]), ([3], [3]), ([], []), ([5], [5]), ([6], [6]), ([1, 4, 7], [1, 4, 7]), ([8], [8]), ([0, 9, 7], [0, 9]), ([10, 10, 0, 1, 2, 3, 4, 5, 6, 7, 8, 9, 10], [0, 10])])
def impl_hunksOf.B8 : List Nat := [0, 0, 0, 4, 12, 0, 32, 96, 254, 510, 1023, 2047]
theorem impl_hunksOf.tab8 : rtab .any (opsOf Tryz.f34 8) = impl_hunksOf.T8 := by kernel_rfl
theorem impl_hunksOf.bits8 : waitsOk impl_hunksOf.T8.2 impl_hunksOf.B8 = true := by kernel_rfl
set_option maxHeartbeats 8000000 in
set_option maxRecDepth 100000 in
theorem impl_hunksOf.calls (k : Nat) (A0 : Option Addr) (c0 : Nat) (l0 : List (S52)) (r : List (S60)) (w : World) (hr0 : Kd.C k52 w A0 l0.length l0) (hc0 : l0.length ≤ c0) (h : impl_hunksOf.f k l0 = some r) :
  Calls Tryz.prog 34 #[.slice A0 l0.length c0] w fun e w' => ∃ v0_ : Value, e = .returned (v0_) ∧ Kd.S k60 60 w' w.heap.size (fun _ => True) v0_ r ∧ Below w.heap.size w w' := by
 have hu52 := Tryz.underlying52
 have hu60 := Tryz.underlying60
 have HR0 := am hr0
 have HC0 := am hc0
 clear hr0 hc0
 have HB := am (Below.refl w.heap.size w)
 have H := h
 clear h
 unfold impl_hunksOf.f at H
 obtain ⟨y809, hy809⟩ : ∃ y_ : List (S60), y_ = (([] : List (S60))) := ⟨_, rfl⟩
 rw [← hy809] at H
 have Ny809 := am hy809
 clear hy809
 have H' := am H
 clear H
 go_enter Tryz.func34, Tryz.ntmps34
 go_wp2_with (((with_reducible refine gate_dst (N := 7) rfl ?_); refine Kd.S_lit k60 _ 60 ?hg (N := 7) ?hd (xs := ([] : List (S60))) (inner := []) (ok := fun _ => True) (okp := fun _ => True) ?hr ?hp (fun _ hk => hk) trivial (Below.refl _ _) (Nat.le_refl _) (by simp) ?_; (case hd => rfl); (case hg => rfl); (case hr => (go_simp; done)); (case hp => exact (Reps.none _ _)); intro v810 w2 ho3 hb hg_ hnew_; clear hg_ hnew_; (rw [← Ny809.out] at ho3); have HO811 := am (Kd.S_lower ho3 (below_size zb)); replace HB := am (below_step zb hb); clear hb ho3))
 go_loopg [3, 10] k (fun kq v3 v10 w' => ∃ (x3_1 : List (S60)) (x10_1 : Int), v10 = .int .i64 x10_1 ∧ Aside0 (impl_hunksOf.l0 kq x3_1 l0 (l0.length : Int) x10_1 = some r) ∧ Aside0 (kq ≤ k) ∧ Aside0 (Kd.S k60 60 w' w.heap.size (fun _ => True) v3 x3_1) ∧ Aside0 (Below w.heap.size w w'))
 case atStart => exact ⟨(y809), (0), zf, H', ⟨Nat.le_refl _⟩, ⟨zs HO811.out⟩, ⟨zb⟩⟩
 case round =>
  clear H'
  obtain ⟨x3_1, x10_1, rfl, HA, HK1, HO_3, HB⟩ := hrel
  cases gk with
  | zero => exact absurd HA.out (by simp [impl_hunksOf.l0])
  | succ k1 =>
   have H := HA.out
   clear HA
   simp only [impl_hunksOf.l0] at H
   by_cases c4 : x10_1 < (l0.length : Int)
   ·rw [if_pos c4] at H
    have c4b0 : decide (x10_1 < (l0.length : Int)) = true := decide_eq_true c4
    clear c4
    obtain ⟨c5, H⟩ := itn H
    have c5b0 := decide_eq_true c5
    clear c5
    obtain ⟨c6, H⟩ := itn H
    have c6b0 := decide_eq_true c6
    clear c6
    by_cases c7 : (((T52 l0 x10_1).f2).length : Int) > 0
    ·rw [if_pos c7] at H
     have c7b0 : decide (0 < (((T52 l0 x10_1).f2).length : Int)) = true := decide_eq_true c7
     have c7b1 : decide (0 < ((T52 l0 x10_1).f2).length) = true := decide_eq_true (by omega)
     clear c7
     replace H := Option.bind_eq_some_iff.mp H
     obtain ⟨t814, A80, H⟩ := H
     replace H : (if x3_1.length < 3518437208883 then (impl_hunksOf.l0 k1 (x3_1 ++ [(⟨wrap64 (((T52 l0 x10_1).f0) - 1), (((T52 l0 x10_1).f2).length : Int), t814⟩ : S60)]) l0 (l0.length : Int) (wrap64 (x10_1 + 1))) else (none)) = some r := H
     have A8 := am A80
     clear A80
     obtain ⟨c9, H⟩ := itn H
     have LMc9 := am c9
     clear c9
     obtain ⟨y817, hy817⟩ : ∃ y_ : List (S60), y_ = (x3_1 ++ [(⟨wrap64 (((T52 l0 x10_1).f0) - 1), (((T52 l0 x10_1).f2).length : Int), t814⟩ : S60)]) := ⟨_, rfl⟩
     rw [← hy817] at H
     have Ny817 := am hy817
     clear hy817
     have H' := am H
     clear H
     have p812 : 0 ≤ (x10_1 : Int) := oa
     have q812 : x10_1 < (l0.length : Int) := oa
     obtain ⟨ad812, A812_2, c812_2, A812_5, c812_5, e812, hx812_0, hx812_1, hx812_2, hx812_3, hx812_4, hx812_5, hl812_2, hi812_2, hl812_5, hi812_5⟩ := at_T52 HR0.out x10_1 p812 q812
     cases e812
     replace hx812_0 := bc HB.out hx812_0
     replace hx812_1 := bc HB.out hx812_1
     replace hx812_2 := bc HB.out hx812_2
     replace hx812_3 := bc HB.out hx812_3
     replace hx812_4 := bc HB.out hx812_4
     replace hx812_5 := bc HB.out hx812_5
     have HR812_2 := am hi812_2
     have HC812_2 := am hl812_2
     clear hi812_2 hl812_2
     have HR812_5 := am hi812_5
     have HC812_5 := am hl812_5
     clear hi812_5 hl812_5
     replace p812 := eq_true p812
     replace q812 := eq_true q812
     try go_wp2_with (((with_reducible refine gate_dst (N := 5) rfl ?_); refine box_event ?hg (N := 5) ?hd (cs := #[.int .i64 0, .int .i64 0, .slice none 0 0, .int .i64 0, .int .i64 0, .slice none 0 0]) (t := 52) ?hr ?_; (case hd => rfl); (case hg => rfl); (case hr => (go_simp; done)); intro gb813 hg w10 hbox hb; replace HO_3 := am (Kd.S_below (zs HO_3.out) hb); have BK813 := am (hbox); have GW813 := am ((by rw [hg]; exact (below_size zb) : w.heap.size ≤ gb813)); have GE813 := am ((by rw [hg]; exact (below_size zb) : w.heap.size ≤ gb813)); replace HB := am (below_step zb hb); clear hb hbox hg; obtain ⟨hcz11_0, hcz11_1, hcz11_2, hcz11_3, hcz11_4, hcz11_5⟩ := cz6 BK813.out; obtain ⟨hfz11_0, hfz11_1, hfz11_2, hfz11_3, hfz11_4, hfz11_5⟩ := fz6 BK813.out))
     have n0_ : Aside0 (Kd.S k60 60 ((((((w10.setCell ⟨gb813, 0, none⟩ (.int .i64 ((T52 l0 x10_1).f0))).setCell ⟨gb813, 1, none⟩ (.int .i64 ((T52 l0 x10_1).f1))).setCell ⟨gb813, 2, none⟩ (.slice A812_2 ((T52 l0 x10_1).f2).length c812_2)).setCell ⟨gb813, 3, none⟩ (.int .i64 ((T52 l0 x10_1).f3))).setCell ⟨gb813, 4, none⟩ (.int .i64 ((T52 l0 x10_1).f4))).setCell ⟨gb813, 5, none⟩ (.slice A812_5 ((T52 l0 x10_1).f5).length c812_5)) w.heap.size (fun _ => True) u3 x3_1) := ⟨by exact Kd.S_mono (Kd.S_far (p := ⟨gb813, 5, none⟩) (Kd.S_far (p := ⟨gb813, 4, none⟩) (Kd.S_far (p := ⟨gb813, 3, none⟩) (Kd.S_far (p := ⟨gb813, 2, none⟩) (Kd.S_far (p := ⟨gb813, 1, none⟩) (Kd.S_far (p := ⟨gb813, 0, none⟩) (Kd.S_types HO_3.out BK813.out (by decide)) (fun _ hk => hk.2) (.int .i64 ((T52 l0 x10_1).f0))) (fun _ hk => hk.2) (.int .i64 ((T52 l0 x10_1).f1))) (fun _ hk => hk.2) (.slice A812_2 ((T52 l0 x10_1).f2).length c812_2)) (fun _ hk => hk.2) (.int .i64 ((T52 l0 x10_1).f3))) (fun _ hk => hk.2) (.int .i64 ((T52 l0 x10_1).f4))) (fun _ hk => hk.2) (.slice A812_5 ((T52 l0 x10_1).f5).length c812_5)) (fun _ hk => trivial)⟩
     have n1_ : Aside0 (((((((w10.setCell ⟨gb813, 0, none⟩ (.int .i64 ((T52 l0 x10_1).f0))).setCell ⟨gb813, 1, none⟩ (.int .i64 ((T52 l0 x10_1).f1))).setCell ⟨gb813, 2, none⟩ (.slice A812_2 ((T52 l0 x10_1).f2).length c812_2)).setCell ⟨gb813, 3, none⟩ (.int .i64 ((T52 l0 x10_1).f3))).setCell ⟨gb813, 4, none⟩ (.int .i64 ((T52 l0 x10_1).f4))).setCell ⟨gb813, 5, none⟩ (.slice A812_5 ((T52 l0 x10_1).f5).length c812_5)).heap[gb813]? = some (.cells #[.int .i64 ((T52 l0 x10_1).f0), .int .i64 ((T52 l0 x10_1).f1), .slice A812_2 ((T52 l0 x10_1).f2).length c812_2, .int .i64 ((T52 l0 x10_1).f3), .int .i64 ((T52 l0 x10_1).f4), .slice A812_5 ((T52 l0 x10_1).f5).length c812_5] 52 (0, 0))) := ⟨by refine blk_put (cs := #[.int .i64 ((T52 l0 x10_1).f0), .int .i64 ((T52 l0 x10_1).f1), .slice A812_2 ((T52 l0 x10_1).f2).length c812_2, .int .i64 ((T52 l0 x10_1).f3), .int .i64 ((T52 l0 x10_1).f4), .slice none 0 0]) ?_ 5 _ rfl; refine blk_put (cs := #[.int .i64 ((T52 l0 x10_1).f0), .int .i64 ((T52 l0 x10_1).f1), .slice A812_2 ((T52 l0 x10_1).f2).length c812_2, .int .i64 ((T52 l0 x10_1).f3), .int .i64 0, .slice none 0 0]) ?_ 4 _ rfl; refine blk_put (cs := #[.int .i64 ((T52 l0 x10_1).f0), .int .i64 ((T52 l0 x10_1).f1), .slice A812_2 ((T52 l0 x10_1).f2).length c812_2, .int .i64 0, .int .i64 0, .slice none 0 0]) ?_ 3 _ rfl; refine blk_put (cs := #[.int .i64 ((T52 l0 x10_1).f0), .int .i64 ((T52 l0 x10_1).f1), .slice none 0 0, .int .i64 0, .int .i64 0, .slice none 0 0]) ?_ 2 _ rfl; refine blk_put (cs := #[.int .i64 ((T52 l0 x10_1).f0), .int .i64 0, .slice none 0 0, .int .i64 0, .int .i64 0, .slice none 0 0]) ?_ 1 _ rfl; refine blk_put (cs := #[.int .i64 0, .int .i64 0, .slice none 0 0, .int .i64 0, .int .i64 0, .slice none 0 0]) ?_ 0 _ rfl; exact BK813.out⟩
     have n2_ : Aside0 (Below w.heap.size w ((((((w10.setCell ⟨gb813, 0, none⟩ (.int .i64 ((T52 l0 x10_1).f0))).setCell ⟨gb813, 1, none⟩ (.int .i64 ((T52 l0 x10_1).f1))).setCell ⟨gb813, 2, none⟩ (.slice A812_2 ((T52 l0 x10_1).f2).length c812_2)).setCell ⟨gb813, 3, none⟩ (.int .i64 ((T52 l0 x10_1).f3))).setCell ⟨gb813, 4, none⟩ (.int .i64 ((T52 l0 x10_1).f4))).setCell ⟨gb813, 5, none⟩ (.slice A812_5 ((T52 l0 x10_1).f5).length c812_5))) := ⟨zw⟩
     (try clear HO_3)
     (try clear BK813)
     (try clear HB)
     generalize ((((((w10.setCell ⟨gb813, 0, none⟩ (.int .i64 ((T52 l0 x10_1).f0))).setCell ⟨gb813, 1, none⟩ (.int .i64 ((T52 l0 x10_1).f1))).setCell ⟨gb813, 2, none⟩ (.slice A812_2 ((T52 l0 x10_1).f2).length c812_2)).setCell ⟨gb813, 3, none⟩ (.int .i64 ((T52 l0 x10_1).f3))).setCell ⟨gb813, 4, none⟩ (.int .i64 ((T52 l0 x10_1).f4))).setCell ⟨gb813, 5, none⟩ (.slice A812_5 ((T52 l0 x10_1).f5).length c812_5)) = w12 at n0_ n1_ n2_ ⊢
     have HO_3 := n0_
     have BK813 := n1_
     have HB := n2_
     clear n0_ n1_ n2_
     replace HO_3 := am (Kd.S_drew HO_3.out)
     replace BK813 := am (blk_drew BK813.out)
     replace HB := am (below_drew1 HB.out)
     refine start_ (n := 12) (S := fun w' => w'.cell? ⟨gb813, 0, none⟩ = some (.int .i64 ((T52 l0 x10_1).f0)) ∧ w'.cell? ⟨gb813, 1, none⟩ = some (.int .i64 ((T52 l0 x10_1).f1)) ∧ w'.cell? ⟨gb813, 2, none⟩ = some (.slice A812_2 ((T52 l0 x10_1).f2).length c812_2) ∧ w'.cell? ⟨gb813, 3, none⟩ = some (.int .i64 ((T52 l0 x10_1).f3)) ∧ w'.cell? ⟨gb813, 4, none⟩ = some (.int .i64 ((T52 l0 x10_1).f4)) ∧ w'.cell? ⟨gb813, 5, none⟩ = some (.slice A812_5 ((T52 l0 x10_1).f5).length c812_5)) (ds := []) #[O,O,O,O,O,O,O,O,O,O,O,O] (by kernel_rfl) rfl rfl ⟨(blk_cell BK813.out 0).trans rfl, (blk_cell BK813.out 1).trans rfl, (blk_cell BK813.out 2).trans rfl, (blk_cell BK813.out 3).trans rfl, (blk_cell BK813.out 4).trans rfl, (blk_cell BK813.out 5).trans rfl⟩ (fun hHeld => ?_); refine with_tabW impl_hunksOf.tab8 impl_hunksOf.bits8 (fun HT_ HW_ => ?_)
     generalize w12.drew = w13 at HO_3 BK813 HB hHeld ⊢
     refine pu 0 (some 22) ?_
     refine pu 1 (some 23) ?_
     refine pu 2 (some 24) ?_
     refine pu 5 (some 27) ?_
     refine ta 3 (some 25) ?_
     refine pu 4 (some 26) ?_
     refine ta 6 (some 28) ?_
     refine one_ (i := 7) (N := some 29) #[Y,Y,Y,Y,Y,Y,Y,Y,O,O,O,O] rfl rfl (one_of HT_.out (by kernel_rfl)) (by decide) (fun K hK => ?_)
     refine goes_ Tryz.func58 (by kernel_rfl) rfl #[.slice A812_5 ((T52 l0 x10_1).f5).length c812_5] (by rfl) rfl rfl zm ?_
     with_reducible refine (slices_Clone_string_string.calls _ _ ((T52 l0 x10_1).f5) t814 _ ?side1 ?side2 A8.out).mono ?_
     (case side1 => exact zq (Kd.C_below HR812_5.out HB.out))
     (case side2 => exact HC812_5.out)
     rintro e w14 ⟨v815, rfl, ho0, hb⟩
     refine ⟨_, rfl, ?_⟩
     replace HO_3 := am (Kd.S_elder' (zs HO_3.out) (Kd.R_base ho0) hb)
     have HO816 := am (Kd.R_lower ho0 (below_size zw))
     replace BK813 := am (blk_below (g := gb813) (o := .cells #[.int .i64 ((T52 l0 x10_1).f0), .int .i64 ((T52 l0 x10_1).f1), .slice A812_2 ((T52 l0 x10_1).f2).length c812_2, .int .i64 ((T52 l0 x10_1).f3), .int .i64 ((T52 l0 x10_1).f4), .slice A812_5 ((T52 l0 x10_1).f5).length c812_5] 52 (0, 0)) (zk BK813.out) hb)
     replace HB := am (below_step zw hb)
     (try clear hb)
     (try clear ho0)
     obtain ⟨Ao15, co15, eo15⟩ := Kd.R_slice HO816.out
     (subst eo15)
     refine hK.out _ _ ⟨(blk_cell BK813.out 0).trans rfl, (blk_cell BK813.out 1).trans rfl, (blk_cell BK813.out 2).trans rfl, (blk_cell BK813.out 3).trans rfl, (blk_cell BK813.out 4).trans rfl, (blk_cell BK813.out 5).trans rfl⟩ (fun hHeld => ?_)
     clear hK K
     refine norm_ (a' := ?_) ?_ ?_
     rotate_left
     ·show Act.put _ (some 29) _ = _
      simp only [Act.put,qa,qb,qc,i64_w,i32_w]
      rfl
     refine pu 8 (some 30) ?_
     refine one_ (i := 9) (N := some 31) #[Y,Y,Y,Y,Y,Y,Y,Y,Y,Y,O,O] rfl rfl (one_of HT_.out (by kernel_rfl)) (by decide) (fun K hK => ?_)
     refine value_ (w1 := ?_) (v := ?_) (by rfl) rfl ?_ ?_
     rotate_left 2
     ·go_simp
      constructor
      ·rfl
      ·rfl
     refine hK.out _ _ ⟨(blk_cell (blk_alloc BK813.out _) 0).trans rfl, (blk_cell (blk_alloc BK813.out _) 1).trans rfl, (blk_cell (blk_alloc BK813.out _) 2).trans rfl, (blk_cell (blk_alloc BK813.out _) 3).trans rfl, (blk_cell (blk_alloc BK813.out _) 4).trans rfl, (blk_cell (blk_alloc BK813.out _) 5).trans rfl⟩ (fun hHeld => ?_)
     clear hK K
     refine norm_ (a' := ?_) ?_ ?_
     rotate_left
     ·show Act.put _ (some 31) _ = _
      simp only [Act.put,qa,qb,qc,i64_w,i32_w]
      rfl
     refine one_ (i := 10) (N := some 32) #[Y,Y,Y,Y,Y,Y,Y,Y,Y,Y,Y,O] rfl rfl (one_of HT_.out (by kernel_rfl)) (by decide) (fun K hK => ?_)
     refine Kd.S_append_step k60 (w0 := w) w.heap.size (by rfl) (.tmp 22) (.tmp 31) 25 60 (.agg #[(.int .i64 0), (.int .i64 0), (.slice none 0 0)]) 40 rfl Tryz.underlying25 info60 rfl (by decide) (by omega) u3 x3_1 (⟨wrap64 (((T52 l0 x10_1).f0) - 1), (((T52 l0 x10_1).f2).length : Int), t814⟩ : S60) [.int .i64 (wrap64 (((T52 l0 x10_1).f0) - 1)), .int .i64 (((T52 l0 x10_1).f2).length : Int), .slice Ao15 t814.length co15] (fun _ => True) (fun k_ => some k_ = (.slice Ao15 t814.length co15 : Value).ownBlock) rfl rfl ?aP (fun k_ hk_ => ((Kd.R_mono (ok' := fun k_ => ((fun _ => True)) k_ ∧ some k_ ≠ (u3 : Value).ownBlock) (Kd.R_apart' (HO816.out) (Kd.S_typed HO_3.out) (by decide)) (fun k_ hk => ⟨trivial, hk.2⟩))).1 k_ hk_.symm) ?aF ?aO ?aB ?aS ?aL ?_
     (case aP => exact k60_mkM _ _ _ (⟨wrap64 (((T52 l0 x10_1).f0) - 1), (((T52 l0 x10_1).f2).length : Int), t814⟩ : S60) (Kd.R_mono (Kd.R_tight rfl (Kd.R_mono (ok' := fun k_ => ((fun _ => True)) k_ ∧ some k_ ≠ (u3 : Value).ownBlock) (Kd.R_apart' (HO816.out) (Kd.S_typed HO_3.out) (by decide)) (fun k_ hk => ⟨trivial, hk.2⟩))) (fun _ h_ => h_)))
     (case aB => exact zw)
     (case aF => exact (fun _ _ => trivial))
     (case aO => exact (by exact Kd.S_mono HO_3.out (fun k_ hk => ⟨trivial, fun e_ => hk.2 e_⟩)))
     (case aS => exact (below_size zw))
     (case aL => have := LMc9.out; omega)
     intro v818 w16 ho hb hg hat
     rw [← Ny817.out] at ho
     replace BK813 := am (blk_grown (g := gb813) (o := .cells #[.int .i64 ((T52 l0 x10_1).f0), .int .i64 ((T52 l0 x10_1).f1), .slice A812_2 ((T52 l0 x10_1).f2).length c812_2, .int .i64 ((T52 l0 x10_1).f3), .int .i64 ((T52 l0 x10_1).f4), .slice A812_5 ((T52 l0 x10_1).f5).length c812_5] 52 (0, 0)) (zk BK813.out) hg (Kd.S_ne HO_3.out BK813.out (by decide)))
     replace HB := am (hb)
     have HO819 := am (ho)
     clear HO_3
     clear HO816
     clear ho hb hg hat
     refine hK.out _ _ ⟨(blk_cell BK813.out 0).trans rfl, (blk_cell BK813.out 1).trans rfl, (blk_cell BK813.out 2).trans rfl, (blk_cell BK813.out 3).trans rfl, (blk_cell BK813.out 4).trans rfl, (blk_cell BK813.out 5).trans rfl⟩ (fun hHeld => ?_)
     clear hK K
     refine norm_ (a' := ?_) ?_ ?_
     rotate_left
     ·show Act.put _ (some 32) _ = _
      simp only [Act.put,qa,qb,qc,i64_w,i32_w]
      rfl
     refine pu 11 (some 3) ?_
     refine done_ (done_of HT_.out (by kernel_rfl)) ?_
     try go_wp2
     go_roundg k1
     case measure => have := HK1.out; omega
     case rel => exact ⟨(y817), (wrap64 (x10_1 + 1)), zf, H', ⟨by have := HK1.out; omega⟩, ⟨zs HO819.out⟩, ⟨zw⟩⟩
    ·rw [if_neg c7] at H
     have c7b0 : decide (0 < (((T52 l0 x10_1).f2).length : Int)) = false := decide_eq_false c7
     have c7b1 : decide (0 < ((T52 l0 x10_1).f2).length) = false := decide_eq_false (by omega)
     clear c7
     replace H := Option.bind_eq_some_iff.mp H
     obtain ⟨t820, A170, H⟩ := H
     replace H : (if x3_1.length < 3518437208883 then (impl_hunksOf.l0 k1 (x3_1 ++ [(⟨(T52 l0 x10_1).f0, (((T52 l0 x10_1).f2).length : Int), t820⟩ : S60)]) l0 (l0.length : Int) (wrap64 (x10_1 + 1))) else (none)) = some r := H
     have A17 := am A170
     clear A170
     obtain ⟨c18, H⟩ := itn H
     have LMc18 := am c18
     clear c18
     obtain ⟨y823, hy823⟩ : ∃ y_ : List (S60), y_ = (x3_1 ++ [(⟨(T52 l0 x10_1).f0, (((T52 l0 x10_1).f2).length : Int), t820⟩ : S60)]) := ⟨_, rfl⟩
     rw [← hy823] at H
     have Ny823 := am hy823
     clear hy823
     have H' := am H
     clear H
     have p812 : 0 ≤ (x10_1 : Int) := oa
     have q812 : x10_1 < (l0.length : Int) := oa
     obtain ⟨ad812, A812_2, c812_2, A812_5, c812_5, e812, hx812_0, hx812_1, hx812_2, hx812_3, hx812_4, hx812_5, hl812_2, hi812_2, hl812_5, hi812_5⟩ := at_T52 HR0.out x10_1 p812 q812
     cases e812
     replace hx812_0 := bc HB.out hx812_0
     replace hx812_1 := bc HB.out hx812_1
     replace hx812_2 := bc HB.out hx812_2
     replace hx812_3 := bc HB.out hx812_3
     replace hx812_4 := bc HB.out hx812_4
     replace hx812_5 := bc HB.out hx812_5
     have HR812_2 := am hi812_2
     have HC812_2 := am hl812_2
     clear hi812_2 hl812_2
     have HR812_5 := am hi812_5
     have HC812_5 := am hl812_5
     clear hi812_5 hl812_5
     replace p812 := eq_true p812
     replace q812 := eq_true q812
     try go_wp2_with (((with_reducible refine gate_dst (N := 5) rfl ?_); refine box_event ?hg (N := 5) ?hd (cs := #[.int .i64 0, .int .i64 0, .slice none 0 0, .int .i64 0, .int .i64 0, .slice none 0 0]) (t := 52) ?hr ?_; (case hd => rfl); (case hg => rfl); (case hr => (go_simp; done)); intro gb813 hg w19 hbox hb; replace HO_3 := am (Kd.S_below (zs HO_3.out) hb); have BK813 := am (hbox); have GW813 := am ((by rw [hg]; exact (below_size zb) : w.heap.size ≤ gb813)); have GE813 := am ((by rw [hg]; exact (below_size zb) : w.heap.size ≤ gb813)); replace HB := am (below_step zb hb); clear hb hbox hg; obtain ⟨hcz20_0, hcz20_1, hcz20_2, hcz20_3, hcz20_4, hcz20_5⟩ := cz6 BK813.out; obtain ⟨hfz20_0, hfz20_1, hfz20_2, hfz20_3, hfz20_4, hfz20_5⟩ := fz6 BK813.out))
     have n0_ : Aside0 (Kd.S k60 60 ((((((w19.setCell ⟨gb813, 0, none⟩ (.int .i64 ((T52 l0 x10_1).f0))).setCell ⟨gb813, 1, none⟩ (.int .i64 ((T52 l0 x10_1).f1))).setCell ⟨gb813, 2, none⟩ (.slice A812_2 ((T52 l0 x10_1).f2).length c812_2)).setCell ⟨gb813, 3, none⟩ (.int .i64 ((T52 l0 x10_1).f3))).setCell ⟨gb813, 4, none⟩ (.int .i64 ((T52 l0 x10_1).f4))).setCell ⟨gb813, 5, none⟩ (.slice A812_5 ((T52 l0 x10_1).f5).length c812_5)) w.heap.size (fun _ => True) u3 x3_1) := ⟨by exact Kd.S_mono (Kd.S_far (p := ⟨gb813, 5, none⟩) (Kd.S_far (p := ⟨gb813, 4, none⟩) (Kd.S_far (p := ⟨gb813, 3, none⟩) (Kd.S_far (p := ⟨gb813, 2, none⟩) (Kd.S_far (p := ⟨gb813, 1, none⟩) (Kd.S_far (p := ⟨gb813, 0, none⟩) (Kd.S_types HO_3.out BK813.out (by decide)) (fun _ hk => hk.2) (.int .i64 ((T52 l0 x10_1).f0))) (fun _ hk => hk.2) (.int .i64 ((T52 l0 x10_1).f1))) (fun _ hk => hk.2) (.slice A812_2 ((T52 l0 x10_1).f2).length c812_2)) (fun _ hk => hk.2) (.int .i64 ((T52 l0 x10_1).f3))) (fun _ hk => hk.2) (.int .i64 ((T52 l0 x10_1).f4))) (fun _ hk => hk.2) (.slice A812_5 ((T52 l0 x10_1).f5).length c812_5)) (fun _ hk => trivial)⟩
     have n1_ : Aside0 (((((((w19.setCell ⟨gb813, 0, none⟩ (.int .i64 ((T52 l0 x10_1).f0))).setCell ⟨gb813, 1, none⟩ (.int .i64 ((T52 l0 x10_1).f1))).setCell ⟨gb813, 2, none⟩ (.slice A812_2 ((T52 l0 x10_1).f2).length c812_2)).setCell ⟨gb813, 3, none⟩ (.int .i64 ((T52 l0 x10_1).f3))).setCell ⟨gb813, 4, none⟩ (.int .i64 ((T52 l0 x10_1).f4))).setCell ⟨gb813, 5, none⟩ (.slice A812_5 ((T52 l0 x10_1).f5).length c812_5)).heap[gb813]? = some (.cells #[.int .i64 ((T52 l0 x10_1).f0), .int .i64 ((T52 l0 x10_1).f1), .slice A812_2 ((T52 l0 x10_1).f2).length c812_2, .int .i64 ((T52 l0 x10_1).f3), .int .i64 ((T52 l0 x10_1).f4), .slice A812_5 ((T52 l0 x10_1).f5).length c812_5] 52 (0, 0))) := ⟨by refine blk_put (cs := #[.int .i64 ((T52 l0 x10_1).f0), .int .i64 ((T52 l0 x10_1).f1), .slice A812_2 ((T52 l0 x10_1).f2).length c812_2, .int .i64 ((T52 l0 x10_1).f3), .int .i64 ((T52 l0 x10_1).f4), .slice none 0 0]) ?_ 5 _ rfl; refine blk_put (cs := #[.int .i64 ((T52 l0 x10_1).f0), .int .i64 ((T52 l0 x10_1).f1), .slice A812_2 ((T52 l0 x10_1).f2).length c812_2, .int .i64 ((T52 l0 x10_1).f3), .int .i64 0, .slice none 0 0]) ?_ 4 _ rfl; refine blk_put (cs := #[.int .i64 ((T52 l0 x10_1).f0), .int .i64 ((T52 l0 x10_1).f1), .slice A812_2 ((T52 l0 x10_1).f2).length c812_2, .int .i64 0, .int .i64 0, .slice none 0 0]) ?_ 3 _ rfl; refine blk_put (cs := #[.int .i64 ((T52 l0 x10_1).f0), .int .i64 ((T52 l0 x10_1).f1), .slice none 0 0, .int .i64 0, .int .i64 0, .slice none 0 0]) ?_ 2 _ rfl; refine blk_put (cs := #[.int .i64 ((T52 l0 x10_1).f0), .int .i64 0, .slice none 0 0, .int .i64 0, .int .i64 0, .slice none 0 0]) ?_ 1 _ rfl; refine blk_put (cs := #[.int .i64 0, .int .i64 0, .slice none 0 0, .int .i64 0, .int .i64 0, .slice none 0 0]) ?_ 0 _ rfl; exact BK813.out⟩
     have n2_ : Aside0 (Below w.heap.size w ((((((w19.setCell ⟨gb813, 0, none⟩ (.int .i64 ((T52 l0 x10_1).f0))).setCell ⟨gb813, 1, none⟩ (.int .i64 ((T52 l0 x10_1).f1))).setCell ⟨gb813, 2, none⟩ (.slice A812_2 ((T52 l0 x10_1).f2).length c812_2)).setCell ⟨gb813, 3, none⟩ (.int .i64 ((T52 l0 x10_1).f3))).setCell ⟨gb813, 4, none⟩ (.int .i64 ((T52 l0 x10_1).f4))).setCell ⟨gb813, 5, none⟩ (.slice A812_5 ((T52 l0 x10_1).f5).length c812_5))) := ⟨zw⟩
     (try clear HO_3)
     (try clear BK813)
     (try clear HB)
     generalize ((((((w19.setCell ⟨gb813, 0, none⟩ (.int .i64 ((T52 l0 x10_1).f0))).setCell ⟨gb813, 1, none⟩ (.int .i64 ((T52 l0 x10_1).f1))).setCell ⟨gb813, 2, none⟩ (.slice A812_2 ((T52 l0 x10_1).f2).length c812_2)).setCell ⟨gb813, 3, none⟩ (.int .i64 ((T52 l0 x10_1).f3))).setCell ⟨gb813, 4, none⟩ (.int .i64 ((T52 l0 x10_1).f4))).setCell ⟨gb813, 5, none⟩ (.slice A812_5 ((T52 l0 x10_1).f5).length c812_5)) = w21 at n0_ n1_ n2_ ⊢
     have HO_3 := n0_
     have BK813 := n1_
     have HB := n2_
     clear n0_ n1_ n2_
     replace HO_3 := am (Kd.S_drew HO_3.out)
     replace BK813 := am (blk_drew BK813.out)
     replace HB := am (below_drew1 HB.out)
     refine start_ (n := 12) (S := fun w' => w'.cell? ⟨gb813, 0, none⟩ = some (.int .i64 ((T52 l0 x10_1).f0)) ∧ w'.cell? ⟨gb813, 1, none⟩ = some (.int .i64 ((T52 l0 x10_1).f1)) ∧ w'.cell? ⟨gb813, 2, none⟩ = some (.slice A812_2 ((T52 l0 x10_1).f2).length c812_2) ∧ w'.cell? ⟨gb813, 3, none⟩ = some (.int .i64 ((T52 l0 x10_1).f3)) ∧ w'.cell? ⟨gb813, 4, none⟩ = some (.int .i64 ((T52 l0 x10_1).f4)) ∧ w'.cell? ⟨gb813, 5, none⟩ = some (.slice A812_5 ((T52 l0 x10_1).f5).length c812_5)) (ds := []) #[O,O,O,O,O,O,O,O,O,O,O,O] (by kernel_rfl) rfl rfl ⟨(blk_cell BK813.out 0).trans rfl, (blk_cell BK813.out 1).trans rfl, (blk_cell BK813.out 2).trans rfl, (blk_cell BK813.out 3).trans rfl, (blk_cell BK813.out 4).trans rfl, (blk_cell BK813.out 5).trans rfl⟩ (fun hHeld => ?_); refine with_tabW impl_hunksOf.tab8 impl_hunksOf.bits8 (fun HT_ HW_ => ?_)
     generalize w21.drew = w22 at HO_3 BK813 HB hHeld ⊢
     refine pu 0 (some 22) ?_
     refine pu 1 (some 23) ?_
     refine pu 2 (some 24) ?_
     refine pu 5 (some 27) ?_
     refine ta 3 (some 25) ?_
     refine pu 4 (some 26) ?_
     refine ta 6 (some 28) ?_
     refine one_ (i := 7) (N := some 29) #[Y,Y,Y,Y,Y,Y,Y,Y,O,O,O,O] rfl rfl (one_of HT_.out (by kernel_rfl)) (by decide) (fun K hK => ?_)
     refine goes_ Tryz.func58 (by kernel_rfl) rfl #[.slice A812_5 ((T52 l0 x10_1).f5).length c812_5] (by rfl) rfl rfl zm ?_
     with_reducible refine (slices_Clone_string_string.calls _ _ ((T52 l0 x10_1).f5) t820 _ ?side1 ?side2 A17.out).mono ?_
     (case side1 => exact zq (Kd.C_below HR812_5.out HB.out))
     (case side2 => exact HC812_5.out)
     rintro e w23 ⟨v821, rfl, ho0, hb⟩
     refine ⟨_, rfl, ?_⟩
     replace HO_3 := am (Kd.S_elder' (zs HO_3.out) (Kd.R_base ho0) hb)
     have HO822 := am (Kd.R_lower ho0 (below_size zw))
     replace BK813 := am (blk_below (g := gb813) (o := .cells #[.int .i64 ((T52 l0 x10_1).f0), .int .i64 ((T52 l0 x10_1).f1), .slice A812_2 ((T52 l0 x10_1).f2).length c812_2, .int .i64 ((T52 l0 x10_1).f3), .int .i64 ((T52 l0 x10_1).f4), .slice A812_5 ((T52 l0 x10_1).f5).length c812_5] 52 (0, 0)) (zk BK813.out) hb)
     replace HB := am (below_step zw hb)
     (try clear hb)
     (try clear ho0)
     obtain ⟨Ao24, co24, eo24⟩ := Kd.R_slice HO822.out
     (subst eo24)
     refine hK.out _ _ ⟨(blk_cell BK813.out 0).trans rfl, (blk_cell BK813.out 1).trans rfl, (blk_cell BK813.out 2).trans rfl, (blk_cell BK813.out 3).trans rfl, (blk_cell BK813.out 4).trans rfl, (blk_cell BK813.out 5).trans rfl⟩ (fun hHeld => ?_)
     clear hK K
     refine norm_ (a' := ?_) ?_ ?_
     rotate_left
     ·show Act.put _ (some 29) _ = _
      simp only [Act.put,qa,qb,qc,i64_w,i32_w]
      rfl
     refine pu 8 (some 30) ?_
     refine one_ (i := 9) (N := some 31) #[Y,Y,Y,Y,Y,Y,Y,Y,Y,Y,O,O] rfl rfl (one_of HT_.out (by kernel_rfl)) (by decide) (fun K hK => ?_)
     refine value_ (w1 := ?_) (v := ?_) (by rfl) rfl ?_ ?_
     rotate_left 2
     ·go_simp
      constructor
      ·rfl
      ·rfl
     refine hK.out _ _ ⟨(blk_cell (blk_alloc BK813.out _) 0).trans rfl, (blk_cell (blk_alloc BK813.out _) 1).trans rfl, (blk_cell (blk_alloc BK813.out _) 2).trans rfl, (blk_cell (blk_alloc BK813.out _) 3).trans rfl, (blk_cell (blk_alloc BK813.out _) 4).trans rfl, (blk_cell (blk_alloc BK813.out _) 5).trans rfl⟩ (fun hHeld => ?_)
     clear hK K
     refine norm_ (a' := ?_) ?_ ?_
     rotate_left
     ·show Act.put _ (some 31) _ = _
      simp only [Act.put,qa,qb,qc,i64_w,i32_w]
      rfl
     refine one_ (i := 10) (N := some 32) #[Y,Y,Y,Y,Y,Y,Y,Y,Y,Y,Y,O] rfl rfl (one_of HT_.out (by kernel_rfl)) (by decide) (fun K hK => ?_)
     refine Kd.S_append_step k60 (w0 := w) w.heap.size (by rfl) (.tmp 22) (.tmp 31) 25 60 (.agg #[(.int .i64 0), (.int .i64 0), (.slice none 0 0)]) 40 rfl Tryz.underlying25 info60 rfl (by decide) (by omega) u3 x3_1 (⟨(T52 l0 x10_1).f0, (((T52 l0 x10_1).f2).length : Int), t820⟩ : S60) [.int .i64 ((T52 l0 x10_1).f0), .int .i64 (((T52 l0 x10_1).f2).length : Int), .slice Ao24 t820.length co24] (fun _ => True) (fun k_ => some k_ = (.slice Ao24 t820.length co24 : Value).ownBlock) rfl rfl ?aP (fun k_ hk_ => ((Kd.R_mono (ok' := fun k_ => ((fun _ => True)) k_ ∧ some k_ ≠ (u3 : Value).ownBlock) (Kd.R_apart' (HO822.out) (Kd.S_typed HO_3.out) (by decide)) (fun k_ hk => ⟨trivial, hk.2⟩))).1 k_ hk_.symm) ?aF ?aO ?aB ?aS ?aL ?_
     (case aP => exact k60_mkM _ _ _ (⟨(T52 l0 x10_1).f0, (((T52 l0 x10_1).f2).length : Int), t820⟩ : S60) (Kd.R_mono (Kd.R_tight rfl (Kd.R_mono (ok' := fun k_ => ((fun _ => True)) k_ ∧ some k_ ≠ (u3 : Value).ownBlock) (Kd.R_apart' (HO822.out) (Kd.S_typed HO_3.out) (by decide)) (fun k_ hk => ⟨trivial, hk.2⟩))) (fun _ h_ => h_)))
     (case aB => exact zw)
     (case aF => exact (fun _ _ => trivial))
     (case aO => exact (by exact Kd.S_mono HO_3.out (fun k_ hk => ⟨trivial, fun e_ => hk.2 e_⟩)))
     (case aS => exact (below_size zw))
     (case aL => have := LMc18.out; omega)
     intro v824 w25 ho hb hg hat
     rw [← Ny823.out] at ho
     replace BK813 := am (blk_grown (g := gb813) (o := .cells #[.int .i64 ((T52 l0 x10_1).f0), .int .i64 ((T52 l0 x10_1).f1), .slice A812_2 ((T52 l0 x10_1).f2).length c812_2, .int .i64 ((T52 l0 x10_1).f3), .int .i64 ((T52 l0 x10_1).f4), .slice A812_5 ((T52 l0 x10_1).f5).length c812_5] 52 (0, 0)) (zk BK813.out) hg (Kd.S_ne HO_3.out BK813.out (by decide)))
     replace HB := am (hb)
     have HO825 := am (ho)
     clear HO_3
     clear HO822
     clear ho hb hg hat
     refine hK.out _ _ ⟨(blk_cell BK813.out 0).trans rfl, (blk_cell BK813.out 1).trans rfl, (blk_cell BK813.out 2).trans rfl, (blk_cell BK813.out 3).trans rfl, (blk_cell BK813.out 4).trans rfl, (blk_cell BK813.out 5).trans rfl⟩ (fun hHeld => ?_)
     clear hK K
     refine norm_ (a' := ?_) ?_ ?_
     rotate_left
     ·show Act.put _ (some 32) _ = _
      simp only [Act.put,qa,qb,qc,i64_w,i32_w]
      rfl
     refine pu 11 (some 3) ?_
     refine done_ (done_of HT_.out (by kernel_rfl)) ?_
     try go_wp2
     go_roundg k1
     case measure => have := HK1.out; omega
     case rel => exact ⟨(y823), (wrap64 (x10_1 + 1)), zf, H', ⟨by have := HK1.out; omega⟩, ⟨zs HO825.out⟩, ⟨zw⟩⟩
   ·rw [if_neg c4] at H
    have c4b0 : decide (x10_1 < (l0.length : Int)) = false := decide_eq_false c4
    clear c4
    obtain rfl := Option.some.inj H
    go_wp2
    go_ret
    exact ⟨_, by rfl, zs HO_3.out, zb⟩

def impl_endOf.f (a0 : Int) (a1 : Int) : Option (Int) := some (wrap64 (a0 + a1))
set_option maxHeartbeats 8000000 in
set_option maxRecDepth 100000 in
theorem impl_endOf.calls (a0 : Int) (a1 : Int) (r : Int) (w : World) (h : impl_endOf.f a0 a1 = some r) :
  Calls Tryz.prog 57 #[.int .i64 a0, .int .i64 a1] w fun e w' => e = .returned (.int .i64 r) ∧ Drawn0 w w' := by
 have H : (some (wrap64 (a0 + a1))) = some r := h
 clear h
 obtain rfl := Option.some.inj H
 go_enter Tryz.func57, Tryz.ntmps57
 go_wp2
 go_ret
 exact ⟨by first | rfl | (simp; done) | (simp [*]; done), by repeat (first | exact Drawn0.refl _ | apply Drawn0.step)⟩

def impl_numberOf.f (a0 : Int) (a1 : Int) : Option (Int) := if a1 > 0 then (some (wrap64 (a0 + 1))) else (some a0)
set_option maxHeartbeats 8000000 in
set_option maxRecDepth 100000 in
theorem impl_numberOf.calls (a0 : Int) (a1 : Int) (r : Int) (w : World) (h : impl_numberOf.f a0 a1 = some r) :
  Calls Tryz.prog 56 #[.int .i64 a0, .int .i64 a1] w fun e w' => e = .returned (.int .i64 r) ∧ Drawn0 w w' := by
 have H : (if a1 > 0 then (some (wrap64 (a0 + 1))) else (some a0)) = some r := h
 clear h
 by_cases c3 : a1 > 0
 ·rw [if_pos c3] at H
  have c3b0 : decide (0 < a1) = true := decide_eq_true c3
  clear c3
  obtain rfl := Option.some.inj H
  go_enter Tryz.func56, Tryz.ntmps56
  go_wp2
  go_ret
  exact ⟨by first | rfl | (simp; done) | (simp [*]; done), by repeat (first | exact Drawn0.refl _ | apply Drawn0.step)⟩
 ·rw [if_neg c3] at H
  have c3b0 : decide (0 < a1) = false := decide_eq_false c3
  clear c3
  obtain rfl := Option.some.inj H
  go_enter Tryz.func56, Tryz.ntmps56
  go_wp2
  go_ret
  exact ⟨by first | rfl | (simp; done) | (simp [*]; done), by repeat (first | exact Drawn0.refl _ | apply Drawn0.step)⟩

def impl_stepsOf.l0 : Nat → List ByteArray → List (S52) → Int → List (S60) → Int → Int → Option ((List (S52)))
 | 0, _, _, _, _, _, _ => none
 | k + 1, x0, x5, x6, x11, x12, x13 => if x13 < x12 then (if 0 ≤ x13 then (if x13 < (x11.length : Int) then ((impl_numberOf.f ((T60 x11 x13).f0) ((T60 x11 x13).f1)).bind fun t713 => ((impl_endOf.f ((T60 x11 x13).f0) ((T60 x11 x13).f1)).bind fun t714 => (if 0 ≤ ((T60 x11 x13).f0) then (if ((T60 x11 x13).f0) ≤ (wrap64 (((T60 x11 x13).f0) + ((T60 x11 x13).f1))) then (if (wrap64 (((T60 x11 x13).f0) + ((T60 x11 x13).f1))) ≤ (x0.length : Int) then ((slices_Clone_string_string.f ((x0.take ((wrap64 (((T60 x11 x13).f0) + ((T60 x11 x13).f1))) : Int).toNat).drop (((T60 x11 x13).f0) : Int).toNat)).bind fun t716 => ((impl_numberOf.f (wrap64 (((T60 x11 x13).f0) + x6)) (((T60 x11 x13).f2).length : Int)).bind fun t719 => ((impl_endOf.f (wrap64 (((T60 x11 x13).f0) + x6)) (((T60 x11 x13).f2).length : Int)).bind fun t720 => ((slices_Clone_string_string.f ((T60 x11 x13).f2)).bind fun t721 => (if x5.length < 1759218604441 then (impl_stepsOf.l0 k x0 (x5 ++ [(⟨t713, t714, t716, t719, t720, t721⟩ : S52)]) (wrap64 (x6 + (wrap64 ((((T60 x11 x13).f2).length : Int) - ((T60 x11 x13).f1))))) x11 x12 (wrap64 (x13 + 1))) else (none)))))) else (none)) else (none)) else (none)))) else (none)) else (none)) else (some x5)
def impl_stepsOf.f (k : Nat) (l0 : List ByteArray) (l1 : List (S60)) : Option ((List (S52))) := impl_stepsOf.l0 k l0 (([] : List (S52))) 0 l1 (l1.length : Int) 0
def impl_stepsOf.T6 : Bool × List (List Nat × List Nat) := (true, [([], []), ([], []), ([1], [1]), ([], []), ([3], [3]), ([2, 4], [2, 4]), ([], []), ([6], [6]), ([], []), ([8], [8]), ([7, 9, 5], [7, 9]), ([], []), ([], []), ([12], [12]), ([], []), ([14], [14]), ([], []), ([16], [16]), ([15, 17], [15, 17]), ([11, 13, 18], [11, 13, 18]), ([19, 10], [19]), ([], []), ([], []), ([22], [22]), ([23], [23]), ([21, 24, 20], [21, 24]), ([], []), ([], []), ([27], [27]), ([28], [28]), ([26, 29, 25], [26, 29]), ([], []), ([31], [31]), ([32, 30], [32]), ([5, 10, 20, 25, 30, 33], [5, 10, 20, 25, 30, 33]), ([34], [34]), ([0, 35, 33], [0, 35]), ([36, 36, 0, 1, 2, 3, 4, 5, 6, 7, 8, 9, 10, 11, 12, 13, 14, 15, 16, 17, 18, 19, 20, 21, 22, 23, 24, 25, 26, 27, 28, 29, 30, 31, 32, 33, 34, 35, 36], [0, 36])])
def impl_stepsOf.B6 : List Nat := [0, 0, 2, 0, 8, 30, 0, 64, 0, 256, 1022, 0, 0, 4096, 0, 16384, 0, 65536, 245760, 522240, 1048574, 0, 0, 4194304, 12582912, 33554430, 0, 0, 134217728, 402653184, 1073741822, 0, 2147483648, 8589934590, 17179869182, 34359738366, 68719476735, 137438953471]
theorem impl_stepsOf.tab6 : rtab .any (opsOf Tryz.f27 6) = impl_stepsOf.T6 := by kernel_rfl
theorem impl_stepsOf.bits6 : waitsOk impl_stepsOf.T6.2 impl_stepsOf.B6 = true := by kernel_rfl
set_option maxHeartbeats 8000000 in
set_option maxRecDepth 100000 in
theorem impl_stepsOf.calls (k : Nat) (A0 : Option Addr) (c0 : Nat) (l0 : List ByteArray) (A1 : Option Addr) (c1 : Nat) (l1 : List (S60)) (r : List (S52)) (w : World) (hr0 : Kd.C Kd.string w A0 l0.length l0) (hc0 : l0.length ≤ c0) (hr1 : Kd.C k60 w A1 l1.length l1) (hc1 : l1.length ≤ c1) (h : impl_stepsOf.f k l0 l1 = some r) :
  Calls Tryz.prog 27 #[.slice A0 l0.length c0, .slice A1 l1.length c1] w fun e w' => ∃ v0_ : Value, e = .returned (v0_) ∧ Kd.S k52 52 w' w.heap.size (fun _ => True) v0_ r ∧ Below w.heap.size w w' := by
 have hu60 := Tryz.underlying60
 have hu52 := Tryz.underlying52
 have HR0 := am hr0
 have HC0 := am hc0
 clear hr0 hc0
 have HR1 := am hr1
 have HC1 := am hc1
 clear hr1 hc1
 have HB := am (Below.refl w.heap.size w)
 have H := h
 clear h
 unfold impl_stepsOf.f at H
 obtain ⟨y708, hy708⟩ : ∃ y_ : List (S52), y_ = (([] : List (S52))) := ⟨_, rfl⟩
 rw [← hy708] at H
 have Ny708 := am hy708
 clear hy708
 have H' := am H
 clear H
 go_enter Tryz.func27, Tryz.ntmps27
 go_wp2_with (((with_reducible refine gate_dst (N := 10) rfl ?_); refine Kd.S_lit k52 _ 52 ?hg (N := 10) ?hd (xs := ([] : List (S52))) (inner := []) (ok := fun _ => True) (okp := fun _ => True) ?hr ?hp (fun _ hk => hk) trivial (Below.refl _ _) (Nat.le_refl _) (by simp) ?_; (case hd => rfl); (case hg => rfl); (case hr => (go_simp; done)); (case hp => exact (Reps.none _ _)); intro v709 w3 ho4 hb hg_ hnew_; clear hg_ hnew_; (rw [← Ny708.out] at ho4); have HO710 := am (Kd.S_lower ho4 (below_size zb)); replace HB := am (below_step zb hb); clear hb ho4))
 go_loopg [5, 6, 13] k (fun kq v5 v6 v13 w' => ∃ (x5_1 : List (S52)) (x6_1 : Int) (x13_1 : Int), v6 = .int .i64 x6_1 ∧ v13 = .int .i64 x13_1 ∧ Aside0 (impl_stepsOf.l0 kq l0 x5_1 x6_1 l1 (l1.length : Int) x13_1 = some r) ∧ Aside0 (kq ≤ k) ∧ Aside0 (Kd.S k52 52 w' w.heap.size (fun _ => True) v5 x5_1) ∧ Aside0 (Below w.heap.size w w'))
 case atStart => exact ⟨(y708), (0), (0), zf, zf, H', ⟨Nat.le_refl _⟩, ⟨zs HO710.out⟩, ⟨zb⟩⟩
 case round =>
  clear H'
  obtain ⟨x5_1, x6_1, x13_1, rfl, rfl, HA, HK1, HO_5, HB⟩ := hrel
  cases gk with
  | zero => exact absurd HA.out (by simp [impl_stepsOf.l0])
  | succ k1 =>
   have H := HA.out
   clear HA
   simp only [impl_stepsOf.l0] at H
   by_cases c5 : x13_1 < (l1.length : Int)
   ·rw [if_pos c5] at H
    have c5b0 : decide (x13_1 < (l1.length : Int)) = true := decide_eq_true c5
    clear c5
    obtain ⟨c6, H⟩ := itn H
    have c6b0 := decide_eq_true c6
    clear c6
    obtain ⟨c7, H⟩ := itn H
    have c7b0 := decide_eq_true c7
    clear c7
    replace H := Option.bind_eq_some_iff.mp H
    obtain ⟨t713, A80, H⟩ := H
    replace H : ((impl_endOf.f ((T60 l1 x13_1).f0) ((T60 l1 x13_1).f1)).bind fun t714 => (if 0 ≤ ((T60 l1 x13_1).f0) then (if ((T60 l1 x13_1).f0) ≤ (wrap64 (((T60 l1 x13_1).f0) + ((T60 l1 x13_1).f1))) then (if (wrap64 (((T60 l1 x13_1).f0) + ((T60 l1 x13_1).f1))) ≤ (l0.length : Int) then ((slices_Clone_string_string.f ((l0.take ((wrap64 (((T60 l1 x13_1).f0) + ((T60 l1 x13_1).f1))) : Int).toNat).drop (((T60 l1 x13_1).f0) : Int).toNat)).bind fun t716 => ((impl_numberOf.f (wrap64 (((T60 l1 x13_1).f0) + x6_1)) (((T60 l1 x13_1).f2).length : Int)).bind fun t719 => ((impl_endOf.f (wrap64 (((T60 l1 x13_1).f0) + x6_1)) (((T60 l1 x13_1).f2).length : Int)).bind fun t720 => ((slices_Clone_string_string.f ((T60 l1 x13_1).f2)).bind fun t721 => (if x5_1.length < 1759218604441 then (impl_stepsOf.l0 k1 l0 (x5_1 ++ [(⟨t713, t714, t716, t719, t720, t721⟩ : S52)]) (wrap64 (x6_1 + (wrap64 ((((T60 l1 x13_1).f2).length : Int) - ((T60 l1 x13_1).f1))))) l1 (l1.length : Int) (wrap64 (x13_1 + 1))) else (none)))))) else (none)) else (none)) else (none))) = some r := H
    have A8 := am A80
    clear A80
    replace H := Option.bind_eq_some_iff.mp H
    obtain ⟨t714, A90, H⟩ := H
    replace H : (if 0 ≤ ((T60 l1 x13_1).f0) then (if ((T60 l1 x13_1).f0) ≤ (wrap64 (((T60 l1 x13_1).f0) + ((T60 l1 x13_1).f1))) then (if (wrap64 (((T60 l1 x13_1).f0) + ((T60 l1 x13_1).f1))) ≤ (l0.length : Int) then ((slices_Clone_string_string.f ((l0.take ((wrap64 (((T60 l1 x13_1).f0) + ((T60 l1 x13_1).f1))) : Int).toNat).drop (((T60 l1 x13_1).f0) : Int).toNat)).bind fun t716 => ((impl_numberOf.f (wrap64 (((T60 l1 x13_1).f0) + x6_1)) (((T60 l1 x13_1).f2).length : Int)).bind fun t719 => ((impl_endOf.f (wrap64 (((T60 l1 x13_1).f0) + x6_1)) (((T60 l1 x13_1).f2).length : Int)).bind fun t720 => ((slices_Clone_string_string.f ((T60 l1 x13_1).f2)).bind fun t721 => (if x5_1.length < 1759218604441 then (impl_stepsOf.l0 k1 l0 (x5_1 ++ [(⟨t713, t714, t716, t719, t720, t721⟩ : S52)]) (wrap64 (x6_1 + (wrap64 ((((T60 l1 x13_1).f2).length : Int) - ((T60 l1 x13_1).f1))))) l1 (l1.length : Int) (wrap64 (x13_1 + 1))) else (none)))))) else (none)) else (none)) else (none)) = some r := H
    have A9 := am A90
    clear A90
    obtain ⟨c10, H⟩ := itn H
    have c10b0 := eq_true c10
    have c10b1 := decide_eq_true c10
    clear c10
    obtain ⟨c11, H⟩ := itn H
    have c11b0 := eq_true c11
    have c11b1 := decide_eq_true c11
    obtain ⟨c12, H⟩ := itn H
    have c12b0 := eq_true c12
    have c12b1 := decide_eq_true c12
    replace H := Option.bind_eq_some_iff.mp H
    obtain ⟨t716, A130, H⟩ := H
    replace H : ((impl_numberOf.f (wrap64 (((T60 l1 x13_1).f0) + x6_1)) (((T60 l1 x13_1).f2).length : Int)).bind fun t719 => ((impl_endOf.f (wrap64 (((T60 l1 x13_1).f0) + x6_1)) (((T60 l1 x13_1).f2).length : Int)).bind fun t720 => ((slices_Clone_string_string.f ((T60 l1 x13_1).f2)).bind fun t721 => (if x5_1.length < 1759218604441 then (impl_stepsOf.l0 k1 l0 (x5_1 ++ [(⟨t713, t714, t716, t719, t720, t721⟩ : S52)]) (wrap64 (x6_1 + (wrap64 ((((T60 l1 x13_1).f2).length : Int) - ((T60 l1 x13_1).f1))))) l1 (l1.length : Int) (wrap64 (x13_1 + 1))) else (none))))) = some r := H
    have A13 := am A130
    clear A130
    replace H := Option.bind_eq_some_iff.mp H
    obtain ⟨t719, A140, H⟩ := H
    replace H : ((impl_endOf.f (wrap64 (((T60 l1 x13_1).f0) + x6_1)) (((T60 l1 x13_1).f2).length : Int)).bind fun t720 => ((slices_Clone_string_string.f ((T60 l1 x13_1).f2)).bind fun t721 => (if x5_1.length < 1759218604441 then (impl_stepsOf.l0 k1 l0 (x5_1 ++ [(⟨t713, t714, t716, t719, t720, t721⟩ : S52)]) (wrap64 (x6_1 + (wrap64 ((((T60 l1 x13_1).f2).length : Int) - ((T60 l1 x13_1).f1))))) l1 (l1.length : Int) (wrap64 (x13_1 + 1))) else (none)))) = some r := H
    have A14 := am A140
    clear A140
    replace H := Option.bind_eq_some_iff.mp H
    obtain ⟨t720, A150, H⟩ := H
    replace H : ((slices_Clone_string_string.f ((T60 l1 x13_1).f2)).bind fun t721 => (if x5_1.length < 1759218604441 then (impl_stepsOf.l0 k1 l0 (x5_1 ++ [(⟨t713, t714, t716, t719, t720, t721⟩ : S52)]) (wrap64 (x6_1 + (wrap64 ((((T60 l1 x13_1).f2).length : Int) - ((T60 l1 x13_1).f1))))) l1 (l1.length : Int) (wrap64 (x13_1 + 1))) else (none))) = some r := H
    have A15 := am A150
    clear A150
    replace H := Option.bind_eq_some_iff.mp H
    obtain ⟨t721, A160, H⟩ := H
    replace H : (if x5_1.length < 1759218604441 then (impl_stepsOf.l0 k1 l0 (x5_1 ++ [(⟨t713, t714, t716, t719, t720, t721⟩ : S52)]) (wrap64 (x6_1 + (wrap64 ((((T60 l1 x13_1).f2).length : Int) - ((T60 l1 x13_1).f1))))) l1 (l1.length : Int) (wrap64 (x13_1 + 1))) else (none)) = some r := H
    have A16 := am A160
    clear A160
    obtain ⟨c17, H⟩ := itn H
    have LMc17 := am c17
    clear c17
    obtain ⟨y724, hy724⟩ : ∃ y_ : List (S52), y_ = (x5_1 ++ [(⟨t713, t714, t716, t719, t720, t721⟩ : S52)]) := ⟨_, rfl⟩
    rw [← hy724] at H
    have Ny724 := am hy724
    clear hy724
    have H' := am H
    clear H
    have p711 : 0 ≤ (x13_1 : Int) := oa
    have q711 : x13_1 < (l1.length : Int) := oa
    obtain ⟨ad711, A711_2, c711_2, e711, hx711_0, hx711_1, hx711_2, hl711_2, hi711_2⟩ := at_T60 HR1.out x13_1 p711 q711
    cases e711
    replace hx711_0 := bc HB.out hx711_0
    replace hx711_1 := bc HB.out hx711_1
    replace hx711_2 := bc HB.out hx711_2
    have HR711_2 := am hi711_2
    have HC711_2 := am hl711_2
    clear hi711_2 hl711_2
    replace p711 := eq_true p711
    replace q711 := eq_true q711
    try go_wp2_with (((with_reducible refine gate_dst (N := 8) rfl ?_); refine box_event ?hg (N := 8) ?hd (cs := #[.int .i64 0, .int .i64 0, .slice none 0 0]) (t := 60) ?hr ?_; (case hd => rfl); (case hg => rfl); (case hr => (go_simp; done)); intro gb712 hg w18 hbox hb; replace HO_5 := am (Kd.S_below (zs HO_5.out) hb); have BK712 := am (hbox); have GW712 := am ((by rw [hg]; exact (below_size zb) : w.heap.size ≤ gb712)); have GE712 := am ((by rw [hg]; exact (below_size zb) : w.heap.size ≤ gb712)); replace HB := am (below_step zb hb); clear hb hbox hg; obtain ⟨hcz19_0, hcz19_1, hcz19_2⟩ := cz3 BK712.out; obtain ⟨hfz19_0, hfz19_1, hfz19_2⟩ := fz3 BK712.out))
    have n0_ : Aside0 (Kd.S k52 52 (((w18.setCell ⟨gb712, 0, none⟩ (.int .i64 ((T60 l1 x13_1).f0))).setCell ⟨gb712, 1, none⟩ (.int .i64 ((T60 l1 x13_1).f1))).setCell ⟨gb712, 2, none⟩ (.slice A711_2 ((T60 l1 x13_1).f2).length c711_2)) w.heap.size (fun _ => True) u5 x5_1) := ⟨by exact Kd.S_mono (Kd.S_far (p := ⟨gb712, 2, none⟩) (Kd.S_far (p := ⟨gb712, 1, none⟩) (Kd.S_far (p := ⟨gb712, 0, none⟩) (Kd.S_types HO_5.out BK712.out (by decide)) (fun _ hk => hk.2) (.int .i64 ((T60 l1 x13_1).f0))) (fun _ hk => hk.2) (.int .i64 ((T60 l1 x13_1).f1))) (fun _ hk => hk.2) (.slice A711_2 ((T60 l1 x13_1).f2).length c711_2)) (fun _ hk => trivial)⟩
    have n1_ : Aside0 ((((w18.setCell ⟨gb712, 0, none⟩ (.int .i64 ((T60 l1 x13_1).f0))).setCell ⟨gb712, 1, none⟩ (.int .i64 ((T60 l1 x13_1).f1))).setCell ⟨gb712, 2, none⟩ (.slice A711_2 ((T60 l1 x13_1).f2).length c711_2)).heap[gb712]? = some (.cells #[.int .i64 ((T60 l1 x13_1).f0), .int .i64 ((T60 l1 x13_1).f1), .slice A711_2 ((T60 l1 x13_1).f2).length c711_2] 60 (0, 0))) := ⟨by refine blk_put (cs := #[.int .i64 ((T60 l1 x13_1).f0), .int .i64 ((T60 l1 x13_1).f1), .slice none 0 0]) ?_ 2 _ rfl; refine blk_put (cs := #[.int .i64 ((T60 l1 x13_1).f0), .int .i64 0, .slice none 0 0]) ?_ 1 _ rfl; refine blk_put (cs := #[.int .i64 0, .int .i64 0, .slice none 0 0]) ?_ 0 _ rfl; exact BK712.out⟩
    have n2_ : Aside0 (Below w.heap.size w (((w18.setCell ⟨gb712, 0, none⟩ (.int .i64 ((T60 l1 x13_1).f0))).setCell ⟨gb712, 1, none⟩ (.int .i64 ((T60 l1 x13_1).f1))).setCell ⟨gb712, 2, none⟩ (.slice A711_2 ((T60 l1 x13_1).f2).length c711_2))) := ⟨zw⟩
    (try clear HO_5)
    (try clear BK712)
    (try clear HB)
    generalize (((w18.setCell ⟨gb712, 0, none⟩ (.int .i64 ((T60 l1 x13_1).f0))).setCell ⟨gb712, 1, none⟩ (.int .i64 ((T60 l1 x13_1).f1))).setCell ⟨gb712, 2, none⟩ (.slice A711_2 ((T60 l1 x13_1).f2).length c711_2)) = w20 at n0_ n1_ n2_ ⊢
    have HO_5 := n0_
    have BK712 := n1_
    have HB := n2_
    clear n0_ n1_ n2_
    replace HO_5 := am (Kd.S_drew HO_5.out)
    replace BK712 := am (blk_drew BK712.out)
    replace HB := am (below_drew1 HB.out)
    obtain ⟨i022, hi022, _, hsz22, _⟩ := info_parts info9
    obtain ⟨A22, hcut22, hA22, hC22⟩ := print_mid_of (P := Tryz.prog) Value.string (⟨#[]⟩ : ByteArray) 24 9 .i64 .i64 Tryz.underlying24 hi022 hsz22 A0 c0 l0 ((T60 l1 x13_1).f0) (wrap64 (((T60 l1 x13_1).f0) + ((T60 l1 x13_1).f1))) oa (by omega) oa HC0.out
    have HR715 := am (Kd.C_of_reads (h1 := fun _ => rfl) (hA22 _ (Kd.reads_of_C HR0.out)))
    have HC715 := am hC22
    clear hA22 hC22 hi022 hsz22
    refine start_ (n := 38) (S := fun w' => w'.cell? ⟨gb712, 0, none⟩ = some (.int .i64 ((T60 l1 x13_1).f0)) ∧ w'.cell? ⟨gb712, 1, none⟩ = some (.int .i64 ((T60 l1 x13_1).f1)) ∧ w'.cell? ⟨gb712, 2, none⟩ = some (.slice A711_2 ((T60 l1 x13_1).f2).length c711_2)) (ds := []) #[O,O,O,O,O,O,O,O,O,O,O,O,O,O,O,O,O,O,O,O,O,O,O,O,O,O,O,O,O,O,O,O,O,O,O,O,O,O] (by kernel_rfl) rfl rfl ⟨(blk_cell BK712.out 0).trans rfl, (blk_cell BK712.out 1).trans rfl, (blk_cell BK712.out 2).trans rfl⟩ (fun hHeld => ?_); refine with_tabW impl_stepsOf.tab6 impl_stepsOf.bits6 (fun HT_ HW_ => ?_)
    generalize w20.drew = w21 at HO_5 BK712 HB HR715 hHeld ⊢
    refine pu 0 (some 21) ?_
    refine pu 1 (some 22) ?_
    refine pu 3 (some 24) ?_
    refine pu 6 (some 27) ?_
    refine pu 8 (some 29) ?_
    refine pu 11 (some 32) ?_
    refine pu 12 (some 33) ?_
    refine pu 14 (some 35) ?_
    refine pu 16 (some 37) ?_
    refine pu 21 (some 42) ?_
    refine pu 22 (some 43) ?_
    refine pu 26 (some 47) ?_
    refine pu 27 (some 48) ?_
    refine pu 31 (some 52) ?_
    refine ta 2 (some 23) ?_
    refine ta 4 (some 25) ?_
    refine ta 7 (some 28) ?_
    refine ta 9 (some 30) ?_
    refine ta 13 (some 34) ?_
    refine ta 15 (some 36) ?_
    refine ta 17 (some 38) ?_
    refine pu 18 (some 39) ?_
    refine pu 19 (some 40) ?_
    refine ta 23 (some 44) ?_
    refine pu 24 (some 45) ?_
    refine ta 28 (some 49) ?_
    refine pu 29 (some 50) ?_
    refine ta 32 (some 53) ?_
    refine one_ (i := 5) (N := some 26) #[Y,Y,Y,Y,Y,Y,Y,Y,Y,Y,O,Y,Y,Y,Y,Y,Y,Y,Y,Y,O,Y,Y,Y,Y,O,Y,Y,Y,Y,O,Y,Y,O,O,O,O,O] rfl rfl (one_of HT_.out (by kernel_rfl)) (by decide) (fun K hK => ?_)
    refine goes_ Tryz.func56 (by kernel_rfl) rfl #[.int .i64 ((T60 l1 x13_1).f0), .int .i64 ((T60 l1 x13_1).f1)] (by rfl) rfl rfl zm ?_
    with_reducible refine (impl_numberOf.calls ((T60 l1 x13_1).f0) ((T60 l1 x13_1).f1) t713 _ A8.out).mono ?_
    rintro e w' ⟨rfl, ⟨nd, rfl⟩⟩
    refine ⟨_, rfl, ?_⟩
    refine hK.out _ _ ⟨(blk_cell BK712.out 0).trans rfl, (blk_cell BK712.out 1).trans rfl, (blk_cell BK712.out 2).trans rfl⟩ (fun hHeld => ?_)
    clear hK K
    refine norm_ (a' := ?_) ?_ ?_
    rotate_left
    ·show Act.put _ (some 26) _ = _
     simp only [Act.put,qa,qb,qc,i64_w,i32_w]
     rfl
    refine one_ (i := 10) (N := some 31) #[Y,Y,Y,Y,Y,Y,Y,Y,Y,Y,Y,Y,Y,Y,Y,Y,Y,Y,Y,Y,O,Y,Y,Y,Y,O,Y,Y,Y,Y,O,Y,Y,O,O,O,O,O] rfl rfl (one_of HT_.out (by kernel_rfl)) (by decide) (fun K hK => ?_)
    refine goes_ Tryz.func57 (by kernel_rfl) rfl #[.int .i64 ((T60 l1 x13_1).f0), .int .i64 ((T60 l1 x13_1).f1)] (by rfl) rfl rfl zm ?_
    with_reducible refine (impl_endOf.calls ((T60 l1 x13_1).f0) ((T60 l1 x13_1).f1) t714 _ A9.out).mono ?_
    rintro e w' ⟨rfl, ⟨nd, rfl⟩⟩
    refine ⟨_, rfl, ?_⟩
    refine hK.out _ _ ⟨(blk_cell BK712.out 0).trans rfl, (blk_cell BK712.out 1).trans rfl, (blk_cell BK712.out 2).trans rfl⟩ (fun hHeld => ?_)
    clear hK K
    refine norm_ (a' := ?_) ?_ ?_
    rotate_left
    ·show Act.put _ (some 31) _ = _
     simp only [Act.put,qa,qb,qc,i64_w,i32_w]
     rfl
    refine one_ (i := 20) (N := some 41) #[Y,Y,Y,Y,Y,Y,Y,Y,Y,Y,Y,Y,Y,Y,Y,Y,Y,Y,Y,Y,Y,Y,Y,Y,Y,O,Y,Y,Y,Y,O,Y,Y,O,O,O,O,O] rfl rfl (one_of HT_.out (by kernel_rfl)) (by decide) (fun K hK => ?_)
    refine goes_ Tryz.func58 (by kernel_rfl) rfl #[.slice A22 ((l0.take ((wrap64 (((T60 l1 x13_1).f0) + ((T60 l1 x13_1).f1))) : Int).toNat).drop (((T60 l1 x13_1).f0) : Int).toNat).length (c0 - ((T60 l1 x13_1).f0).toNat)] (by rfl) rfl rfl (by (try simp only [List.map_toArray, List.map_cons, List.map_nil]); (rw [show ((l0.take ((wrap64 (((T60 l1 x13_1).f0) + ((T60 l1 x13_1).f1))) : Int).toNat).drop (((T60 l1 x13_1).f0) : Int).toNat).length = ((wrap64 (((T60 l1 x13_1).f0) + ((T60 l1 x13_1).f1))).toNat - ((T60 l1 x13_1).f0).toNat) from (by rw [List.length_drop, List.length_take]; have h_ : ((wrap64 (((T60 l1 x13_1).f0) + ((T60 l1 x13_1).f1))) : Int) ≤ (l0.length : Int) := oa; omega)] <;> rfl)) ?_
    with_reducible refine (slices_Clone_string_string.calls _ _ ((l0.take ((wrap64 (((T60 l1 x13_1).f0) + ((T60 l1 x13_1).f1))) : Int).toNat).drop (((T60 l1 x13_1).f0) : Int).toNat) t716 _ ?side1 ?side2 A13.out).mono ?_
    (case side1 => repeat (exact (Kd.C_below HR715.out zw)))
    (case side2 => exact HC715.out)
    rintro e w23 ⟨v717, rfl, ho0, hb⟩
    refine ⟨_, rfl, ?_⟩
    replace HO_5 := am (Kd.S_elder' (zs HO_5.out) (Kd.R_base ho0) hb)
    have HO718 := am (Kd.R_lower ho0 (below_size zw))
    replace BK712 := am (blk_below (g := gb712) (o := .cells #[.int .i64 ((T60 l1 x13_1).f0), .int .i64 ((T60 l1 x13_1).f1), .slice A711_2 ((T60 l1 x13_1).f2).length c711_2] 60 (0, 0)) (zk BK712.out) hb)
    replace HB := am (below_step zw hb)
    (try clear hb)
    (try clear ho0)
    refine hK.out _ _ ⟨(blk_cell BK712.out 0).trans rfl, (blk_cell BK712.out 1).trans rfl, (blk_cell BK712.out 2).trans rfl⟩ (fun hHeld => ?_)
    clear hK K
    refine norm_ (a' := ?_) ?_ ?_
    rotate_left
    ·show Act.put _ (some 41) _ = _
     simp only [Act.put,qa,qb,qc,i64_w,i32_w]
     rfl
    refine one_ (i := 25) (N := some 46) #[Y,Y,Y,Y,Y,Y,Y,Y,Y,Y,Y,Y,Y,Y,Y,Y,Y,Y,Y,Y,Y,Y,Y,Y,Y,Y,Y,Y,Y,Y,O,Y,Y,O,O,O,O,O] rfl rfl (one_of HT_.out (by kernel_rfl)) (by decide) (fun K hK => ?_)
    refine goes_ Tryz.func56 (by kernel_rfl) rfl #[.int .i64 (wrap64 (((T60 l1 x13_1).f0) + x6_1)), .int .i64 (((T60 l1 x13_1).f2).length : Int)] (by rfl) rfl rfl zm ?_
    with_reducible refine (impl_numberOf.calls (wrap64 (((T60 l1 x13_1).f0) + x6_1)) (((T60 l1 x13_1).f2).length : Int) t719 _ A14.out).mono ?_
    rintro e w' ⟨rfl, ⟨nd, rfl⟩⟩
    refine ⟨_, rfl, ?_⟩
    refine hK.out _ _ ⟨(blk_cell BK712.out 0).trans rfl, (blk_cell BK712.out 1).trans rfl, (blk_cell BK712.out 2).trans rfl⟩ (fun hHeld => ?_)
    clear hK K
    refine norm_ (a' := ?_) ?_ ?_
    rotate_left
    ·show Act.put _ (some 46) _ = _
     simp only [Act.put,qa,qb,qc,i64_w,i32_w]
     rfl
    refine one_ (i := 30) (N := some 51) #[Y,Y,Y,Y,Y,Y,Y,Y,Y,Y,Y,Y,Y,Y,Y,Y,Y,Y,Y,Y,Y,Y,Y,Y,Y,Y,Y,Y,Y,Y,Y,Y,Y,O,O,O,O,O] rfl rfl (one_of HT_.out (by kernel_rfl)) (by decide) (fun K hK => ?_)
    refine goes_ Tryz.func57 (by kernel_rfl) rfl #[.int .i64 (wrap64 (((T60 l1 x13_1).f0) + x6_1)), .int .i64 (((T60 l1 x13_1).f2).length : Int)] (by rfl) rfl rfl zm ?_
    with_reducible refine (impl_endOf.calls (wrap64 (((T60 l1 x13_1).f0) + x6_1)) (((T60 l1 x13_1).f2).length : Int) t720 _ A15.out).mono ?_
    rintro e w' ⟨rfl, ⟨nd, rfl⟩⟩
    refine ⟨_, rfl, ?_⟩
    refine hK.out _ _ ⟨(blk_cell BK712.out 0).trans rfl, (blk_cell BK712.out 1).trans rfl, (blk_cell BK712.out 2).trans rfl⟩ (fun hHeld => ?_)
    clear hK K
    refine norm_ (a' := ?_) ?_ ?_
    rotate_left
    ·show Act.put _ (some 51) _ = _
     simp only [Act.put,qa,qb,qc,i64_w,i32_w]
     rfl
    refine one_ (i := 33) (N := some 54) #[Y,Y,Y,Y,Y,Y,Y,Y,Y,Y,Y,Y,Y,Y,Y,Y,Y,Y,Y,Y,Y,Y,Y,Y,Y,Y,Y,Y,Y,Y,Y,Y,Y,Y,O,O,O,O] rfl rfl (one_of HT_.out (by kernel_rfl)) (by decide) (fun K hK => ?_)
    refine goes_ Tryz.func58 (by kernel_rfl) rfl #[.slice A711_2 ((T60 l1 x13_1).f2).length c711_2] (by rfl) rfl rfl zm ?_
    with_reducible refine (slices_Clone_string_string.calls _ _ ((T60 l1 x13_1).f2) t721 _ ?side1 ?side2 A16.out).mono ?_
    (case side1 => repeat (exact (Kd.C_below HR711_2.out zw)))
    (case side2 => exact HC711_2.out)
    rintro e w24 ⟨v722, rfl, ho0, hb⟩
    refine ⟨_, rfl, ?_⟩
    replace HO_5 := am (Kd.S_elder' (zs HO_5.out) (Kd.R_base ho0) hb)
    have HO723 := am (Kd.R_lower (Kd.R_new' ho0 (Kd.R_lt (zr HO718.out))) (below_size zw))
    replace HO718 := am (Kd.R_elder' (zr HO718.out) (Kd.R_base ho0) hb)
    replace BK712 := am (blk_below (g := gb712) (o := .cells #[.int .i64 ((T60 l1 x13_1).f0), .int .i64 ((T60 l1 x13_1).f1), .slice A711_2 ((T60 l1 x13_1).f2).length c711_2] 60 (0, 0)) (zk BK712.out) hb)
    replace HB := am (below_step zw hb)
    (try clear hb)
    (try clear ho0)
    obtain ⟨Ao25, co25, eo25⟩ := Kd.R_slice HO723.out
    (subst eo25)
    obtain ⟨Ao26, co26, eo26⟩ := Kd.R_slice HO718.out
    (subst eo26)
    refine hK.out _ _ ⟨(blk_cell BK712.out 0).trans rfl, (blk_cell BK712.out 1).trans rfl, (blk_cell BK712.out 2).trans rfl⟩ (fun hHeld => ?_)
    clear hK K
    refine norm_ (a' := ?_) ?_ ?_
    rotate_left
    ·show Act.put _ (some 54) _ = _
     simp only [Act.put,qa,qb,qc,i64_w,i32_w]
     rfl
    refine pu 34 (some 55) ?_
    refine one_ (i := 35) (N := some 56) #[Y,Y,Y,Y,Y,Y,Y,Y,Y,Y,Y,Y,Y,Y,Y,Y,Y,Y,Y,Y,Y,Y,Y,Y,Y,Y,Y,Y,Y,Y,Y,Y,Y,Y,Y,Y,O,O] rfl rfl (one_of HT_.out (by kernel_rfl)) (by decide) (fun K hK => ?_)
    refine value_ (w1 := ?_) (v := ?_) (by rfl) rfl ?_ ?_
    rotate_left 2
    ·go_simp
     constructor
     ·rfl
     ·rfl
    refine hK.out _ _ ⟨(blk_cell (blk_alloc BK712.out _) 0).trans rfl, (blk_cell (blk_alloc BK712.out _) 1).trans rfl, (blk_cell (blk_alloc BK712.out _) 2).trans rfl⟩ (fun hHeld => ?_)
    clear hK K
    refine norm_ (a' := ?_) ?_ ?_
    rotate_left
    ·show Act.put _ (some 56) _ = _
     simp only [Act.put,qa,qb,qc,i64_w,i32_w]
     rfl
    refine one_ (i := 36) (N := some 57) #[Y,Y,Y,Y,Y,Y,Y,Y,Y,Y,Y,Y,Y,Y,Y,Y,Y,Y,Y,Y,Y,Y,Y,Y,Y,Y,Y,Y,Y,Y,Y,Y,Y,Y,Y,Y,Y,O] rfl rfl (one_of HT_.out (by kernel_rfl)) (by decide) (fun K hK => ?_)
    refine Kd.S_append_step k52 (w0 := w) w.heap.size (by rfl) (.tmp 21) (.tmp 56) 28 52 (.agg #[(.int .i64 0), (.int .i64 0), (.slice none 0 0), (.int .i64 0), (.int .i64 0), (.slice none 0 0)]) 80 rfl Tryz.underlying28 info52 rfl (by decide) (by omega) u5 x5_1 (⟨t713, t714, t716, t719, t720, t721⟩ : S52) [.int .i64 t713, .int .i64 t714, .slice Ao26 t716.length co26, .int .i64 t719, .int .i64 t720, .slice Ao25 t721.length co25] (fun _ => True) (fun k_ => some k_ = (.slice Ao26 t716.length co26 : Value).ownBlock ∨ some k_ = (.slice Ao25 t721.length co25 : Value).ownBlock) rfl rfl ?aP (fun k_ hk_ => hk_.elim (fun h_ => ((Kd.R_mono (ok' := fun k_ => ((fun _ => True)) k_ ∧ some k_ ≠ (u5 : Value).ownBlock) (Kd.R_apart' (HO718.out) (Kd.S_typed HO_5.out) (by decide)) (fun k_ hk => ⟨trivial, hk.2⟩))).1 k_ h_.symm) (fun h_ => ((Kd.R_mono (ok' := fun k_ => ((fun _ => True)) k_ ∧ some k_ ≠ (u5 : Value).ownBlock) (Kd.R_apart' (HO723.out) (Kd.S_typed HO_5.out) (by decide)) (fun k_ hk => ⟨trivial, hk.2⟩))).1 k_ h_.symm)) ?aF ?aO ?aB ?aS ?aL ?_
    (case aP => exact k52_mkM zy _ _ _ (⟨t713, t714, t716, t719, t720, t721⟩ : S52) (Kd.R_mono (Kd.R_tight rfl (Kd.R_mono (ok' := fun k_ => ((fun _ => True)) k_ ∧ some k_ ≠ (u5 : Value).ownBlock) (Kd.R_apart' (HO718.out) (Kd.S_typed HO_5.out) (by decide)) (fun k_ hk => ⟨trivial, hk.2⟩))) (fun _ h_ => Or.inl h_)) (Kd.R_mono (Kd.R_tight rfl (Kd.R_mono (ok' := fun k_ => ((fun _ => True)) k_ ∧ some k_ ≠ (u5 : Value).ownBlock) (Kd.R_apart' (HO723.out) (Kd.S_typed HO_5.out) (by decide)) (fun k_ hk => ⟨trivial, hk.2⟩))) (fun _ h_ => Or.inr (h_))))
    (case aB => exact zw)
    (case aF => exact (fun _ _ => trivial))
    (case aO => exact (by exact Kd.S_mono HO_5.out (fun k_ hk => ⟨trivial, fun e_ => e_.elim (fun h_ => hk.1.2 h_) (fun h_ => hk.2 h_)⟩)))
    (case aS => exact (below_size zw))
    (case aL => have := LMc17.out; omega)
    intro v725 w27 ho hb hg hat
    rw [← Ny724.out] at ho
    replace BK712 := am (blk_grown (g := gb712) (o := .cells #[.int .i64 ((T60 l1 x13_1).f0), .int .i64 ((T60 l1 x13_1).f1), .slice A711_2 ((T60 l1 x13_1).f2).length c711_2] 60 (0, 0)) (zk BK712.out) hg (Kd.S_ne HO_5.out BK712.out (by decide)))
    replace HB := am (hb)
    have HO726 := am (ho)
    clear HO_5
    clear HO718
    clear HO723
    clear ho hb hg hat
    refine hK.out _ _ ⟨(blk_cell BK712.out 0).trans rfl, (blk_cell BK712.out 1).trans rfl, (blk_cell BK712.out 2).trans rfl⟩ (fun hHeld => ?_)
    clear hK K
    refine norm_ (a' := ?_) ?_ ?_
    rotate_left
    ·show Act.put _ (some 57) _ = _
     simp only [Act.put,qa,qb,qc,i64_w,i32_w]
     rfl
    refine pu 37 (some 5) ?_
    refine done_ (done_of HT_.out (by kernel_rfl)) ?_
    obtain ⟨hcz28_0, hcz28_1, hcz28_2⟩ := cz3 BK712.out
    obtain ⟨hfz28_0, hfz28_1, hfz28_2⟩ := fz3 BK712.out
    try go_wp2
    go_roundg k1
    case measure => have := HK1.out; omega
    case rel => exact ⟨(y724), (wrap64 (x6_1 + (wrap64 ((((T60 l1 x13_1).f2).length : Int) - ((T60 l1 x13_1).f1))))), (wrap64 (x13_1 + 1)), zf, zf, H', ⟨by have := HK1.out; omega⟩, ⟨zs HO726.out⟩, ⟨zw⟩⟩
   ·rw [if_neg c5] at H
    have c5b0 : decide (x13_1 < (l1.length : Int)) = false := decide_eq_false c5
    clear c5
    obtain rfl := Option.some.inj H
    go_wp2
    go_ret
    exact ⟨_, by rfl, zs HO_5.out, zb⟩

def slices_Equal_string_string.l0 : Nat → List ByteArray → List ByteArray → Int → Int → Option (Bool)
 | 0, _, _, _, _ => none
 | k + 1, x0, x1, x12, x13 => if x13 < x12 then (if 0 ≤ x13 then (if x13 < (x0.length : Int) then (if x13 < (x1.length : Int) then (if (rdOf ByteArray.empty x0 x13).toList = (rdOf ByteArray.empty x1 x13).toList then (slices_Equal_string_string.l0 k x0 x1 x12 (wrap64 (x13 + 1))) else (some false)) else (none)) else (none)) else (none)) else (some true)
def slices_Equal_string_string.f (k : Nat) (l0 : List ByteArray) (l1 : List ByteArray) : Option (Bool) := if (l0.length : Int) = (l1.length : Int) then (slices_Equal_string_string.l0 k l0 l1 (l0.length : Int) 0) else (some false)
set_option maxHeartbeats 8000000 in
set_option maxRecDepth 100000 in
theorem slices_Equal_string_string.calls (k : Nat) (A0 : Option Addr) (c0 : Nat) (l0 : List ByteArray) (A1 : Option Addr) (c1 : Nat) (l1 : List ByteArray) (r : Bool) (w : World) (hr0 : Kd.C Kd.string w A0 l0.length l0) (hc0 : l0.length ≤ c0) (hr1 : Kd.C Kd.string w A1 l1.length l1) (hc1 : l1.length ≤ c1) (h : slices_Equal_string_string.f k l0 l1 = some r) :
  Calls Tryz.prog 38 #[.slice A0 l0.length c0, .slice A1 l1.length c1] w fun e w' => e = .returned (.bool r) ∧ Drawn0 w w' := by
 have HR0 := am hr0
 have HC0 := am hc0
 clear hr0 hc0
 have HR1 := am hr1
 have HC1 := am hc1
 clear hr1 hc1
 have H := h
 clear h
 unfold slices_Equal_string_string.f at H
 by_cases c3 : (l0.length : Int) = (l1.length : Int)
 ·rw [if_pos c3] at H
  have c3b0 : ((l0.length : Int) == (l1.length : Int)) = true := beq_iff_eq.mpr c3
  have c3b1 : ((l0.length : Int) != (l1.length : Int)) = false := bne_eq_false_iff_eq.mpr c3
  have c3b2 : (l0.length == l1.length) = true := by (simp at c3 ⊢; omega)
  clear c3
  have H' := am H
  clear H
  go_enter Tryz.func38, Tryz.ntmps38
  go_wp2
  go_loopg [13] k (fun kq v13 w' => ∃ (x13_1 : Int), v13 = .int .i64 x13_1 ∧ Aside0 (slices_Equal_string_string.l0 kq l0 l1 (l0.length : Int) x13_1 = some r) ∧ Aside0 (kq ≤ k) ∧ Drawn0 w w')
  case atStart => exact ⟨(0), zf, H', ⟨Nat.le_refl _⟩, by repeat (exact Drawn0.refl _)⟩
  case round =>
   clear H'
   try clear c3b0
   try clear c3b1
   try clear c3b2
   obtain ⟨x13_1, rfl, HA, HK1, ⟨m1, rfl⟩⟩ := hrel
   cases gk with
   | zero => exact absurd HA.out (by simp [slices_Equal_string_string.l0])
   | succ k1 =>
    have H := HA.out
    clear HA
    simp only [slices_Equal_string_string.l0] at H
    by_cases c4 : x13_1 < (l0.length : Int)
    ·rw [if_pos c4] at H
     have c4b0 : decide (x13_1 < (l0.length : Int)) = true := decide_eq_true c4
     clear c4
     obtain ⟨c5, H⟩ := itn H
     have c5b0 := decide_eq_true c5
     clear c5
     obtain ⟨c6, H⟩ := itn H
     have c6b0 := decide_eq_true c6
     clear c6
     obtain ⟨c7, H⟩ := itn H
     have c7b0 := decide_eq_true c7
     clear c7
     by_cases c8 : (rdOf ByteArray.empty l0 x13_1).toList = (rdOf ByteArray.empty l1 x13_1).toList
     ·rw [if_pos c8] at H
      have c8b0 : ((rdOf ByteArray.empty l0 x13_1).toList == (rdOf ByteArray.empty l1 x13_1).toList) = true := beq_iff_eq.mpr c8
      have c8b1 : ((rdOf ByteArray.empty l0 x13_1).toList != (rdOf ByteArray.empty l1 x13_1).toList) = false := bne_eq_false_iff_eq.mpr c8
      clear c8
      have H' := am H
      clear H
      have p827 : 0 ≤ (x13_1 : Int) := oa
      have q827 : x13_1 < (l0.length : Int) := oa
      obtain ⟨ad827, e827, hx827_0⟩ := Kd.at_string HR0.out x13_1 p827 q827
      cases e827
      replace p827 := eq_true p827
      replace q827 := eq_true q827
      have p828 : 0 ≤ (x13_1 : Int) := oa
      have q828 : x13_1 < (l1.length : Int) := oa
      obtain ⟨ad828, e828, hx828_0⟩ := Kd.at_string HR1.out x13_1 p828 q828
      cases e828
      replace p828 := eq_true p828
      replace q828 := eq_true q828
      go_wp2
      repeat (go_quiet (fail); try go_wp2)
      go_roundg k1
      case measure => have := HK1.out; omega
      case rel => exact ⟨(wrap64 (x13_1 + 1)), zf, H', ⟨by have := HK1.out; omega⟩, by repeat (first | exact Drawn0.refl _ | apply Drawn0.step)⟩
     ·rw [if_neg c8] at H
      have c8b0 : ((rdOf ByteArray.empty l0 x13_1).toList == (rdOf ByteArray.empty l1 x13_1).toList) = false := beq_eq_false_iff_ne.mpr c8
      have c8b1 : ((rdOf ByteArray.empty l0 x13_1).toList != (rdOf ByteArray.empty l1 x13_1).toList) = true := bne_iff_ne.mpr c8
      obtain rfl := Option.some.inj H
      have p827 : 0 ≤ (x13_1 : Int) := oa
      have q827 : x13_1 < (l0.length : Int) := oa
      obtain ⟨ad827, e827, hx827_0⟩ := Kd.at_string HR0.out x13_1 p827 q827
      cases e827
      replace p827 := eq_true p827
      replace q827 := eq_true q827
      have p828 : 0 ≤ (x13_1 : Int) := oa
      have q828 : x13_1 < (l1.length : Int) := oa
      obtain ⟨ad828, e828, hx828_0⟩ := Kd.at_string HR1.out x13_1 p828 q828
      cases e828
      replace p828 := eq_true p828
      replace q828 := eq_true q828
      go_wp2
      repeat (go_quiet (fail); try go_wp2)
      go_ret
      exact ⟨by rfl, by repeat (first | exact Drawn0.refl _ | apply Drawn0.step)⟩
    ·rw [if_neg c4] at H
     have c4b0 : decide (x13_1 < (l0.length : Int)) = false := decide_eq_false c4
     clear c4
     obtain rfl := Option.some.inj H
     go_wp2
     go_ret
     exact ⟨by rfl, by repeat (first | exact Drawn0.refl _ | apply Drawn0.step)⟩
 ·rw [if_neg c3] at H
  have c3b0 : ((l0.length : Int) == (l1.length : Int)) = false := beq_eq_false_iff_ne.mpr c3
  have c3b1 : ((l0.length : Int) != (l1.length : Int)) = true := bne_iff_ne.mpr c3
  have c3b2 : (l0.length == l1.length) = false := by (simp at c3 ⊢; omega)
  obtain rfl := Option.some.inj H
  go_enter Tryz.func38, Tryz.ntmps38
  go_wp2
  go_ret
  exact ⟨by rfl, by repeat (exact Drawn0.refl _)⟩

def stepsFar.f (n : Int) (a0_0 : Int) (a0_1 : Int) (l0_2 : List ByteArray) (a0_3 : Int) (a0_4 : Int) (l0_5 : List ByteArray) : Option Bool := some (decide (a0_1 > n))
set_option maxHeartbeats 8000000 in
set_option maxRecDepth 100000 in
theorem stepsFar.calls (gb : Nat) (AL : Option Addr) (nL cL : Nat) (a0_0 : Int) (a0_1 : Int) (A0_2 : Option Addr) (c0_2 : Nat) (l0_2 : List ByteArray) (a0_3 : Int) (a0_4 : Int) (A0_5 : Option Addr) (c0_5 : Nat) (l0_5 : List ByteArray) (r : Bool) (w : World) (hbx : w.heap[gb]? = some (.cells #[.slice AL nL cL] 24 (0, 0))) (h : stepsFar.f (nL : Int) a0_0 a0_1 l0_2 a0_3 a0_4 l0_5 = some r) :
  Calls Tryz.prog 36 #[.agg #[.int .i64 a0_0, .int .i64 a0_1, .slice A0_2 l0_2.length c0_2, .int .i64 a0_3, .int .i64 a0_4, .slice A0_5 l0_5.length c0_5], .pointer (some ⟨gb, 0, none⟩)] w fun e w' => e = .returned (.bool r) ∧ Below w.heap.size w w' := by
 have hu52 := Tryz.underlying52
 have HX := am hbx
 clear hbx
 have HB := am (Below.refl w.heap.size w)
 have H : (some (decide (a0_1 > (nL : Int)))) = some r := h
 clear h
 obtain rfl := Option.some.inj H
 go_enter Tryz.func36, Tryz.ntmps36
 go_wp2_with ((with_reducible refine gate_dst (N := 2) rfl ?_); (try (refine gate_guard (by rfl) ?_; dsimp only)); refine box_event ?hg (N := 2) ?hd (cs := #[.int .i64 a0_0, .int .i64 a0_1, .slice A0_2 l0_2.length c0_2, .int .i64 a0_3, .int .i64 a0_4, .slice A0_5 l0_5.length c0_5]) (t := 52) ?hr ?_; (case hd => rfl); (case hg => rfl); (case hr => first | (go_simp; done) | (go_simp; rfl)); intro gb272 hg w6 hbox hb; have n0_ := am (below_step zb hb); have n1_ := am (hbox); have n2_ := am ((by rw [hg]; exact (below_size zb) : w.heap.size ≤ gb272)); have n3_ := am ((by rw [hg]; exact (below_size zb) : w.heap.size ≤ gb272)); clear HB; have HB := n0_; have BK272 := n1_; have GW272 := n2_; have GE272 := n3_; clear n0_ n1_ n2_ n3_; have hcX : w6.cell? ⟨gb, 0, none⟩ = some (.slice AL nL cL) := (blk_cell (blk_below (zk HX.out) hb) 0).trans rfl; clear hb hbox hg; have hcz7_0 : w6.cell? ⟨gb272, 0, none⟩ = some (.int .i64 a0_0) := (blk_cell BK272.out 0).trans rfl; have hcz7_1 : w6.cell? ⟨gb272, 1, none⟩ = some (.int .i64 a0_1) := (blk_cell BK272.out 1).trans rfl; have hcz7_2 : w6.cell? ⟨gb272, 2, none⟩ = some (.slice A0_2 l0_2.length c0_2) := (blk_cell BK272.out 2).trans rfl; have hcz7_3 : w6.cell? ⟨gb272, 3, none⟩ = some (.int .i64 a0_3) := (blk_cell BK272.out 3).trans rfl; have hcz7_4 : w6.cell? ⟨gb272, 4, none⟩ = some (.int .i64 a0_4) := (blk_cell BK272.out 4).trans rfl; have hcz7_5 : w6.cell? ⟨gb272, 5, none⟩ = some (.slice A0_5 l0_5.length c0_5) := (blk_cell BK272.out 5).trans rfl; have hfz7_0 := blk_frozen BK272.out 0; have hfz7_1 := blk_frozen BK272.out 1; have hfz7_2 := blk_frozen BK272.out 2; have hfz7_3 := blk_frozen BK272.out 3; have hfz7_4 := blk_frozen BK272.out 4; have hfz7_5 := blk_frozen BK272.out 5)
 go_ret
 exact ⟨rfl, zb⟩
def stepsIx.l0 (n : Int) : Nat → List (S52) → Int → Int → Option (Int)
 | 0, _, _, _ => none
 | k + 1, x0, x7, x8 => if x8 < x7 then (if 0 ≤ x8 then (if x8 < (x0.length : Int) then ((stepsFar.f n ((T52 x0 x8).f0) ((T52 x0 x8).f1) ((T52 x0 x8).f2) ((T52 x0 x8).f3) ((T52 x0 x8).f4) ((T52 x0 x8).f5)).bind fun t276 => (if t276 = true then (some x8) else (stepsIx.l0 n k x0 x7 (wrap64 (x8 + 1))))) else (none)) else (none)) else (some (-1))
def stepsIx.f (k : Nat) (n : Int) (l0 : List (S52))  : Option (Int) := stepsIx.l0 n k l0 (l0.length : Int) 0
set_option maxHeartbeats 8000000 in
set_option maxRecDepth 100000 in
theorem stepsIx.calls (gb : Nat) (AL : Option Addr) (nL cL : Nat) (k : Nat) (A0 : Option Addr) (c0 : Nat) (l0 : List (S52))  (r : Int) (w : World) (hr0 : Kd.C k52 w A0 l0.length l0) (hc0 : l0.length ≤ c0) (hbx : w.heap[gb]? = some (.cells #[.slice AL nL cL] 24 (0, 0))) (h : stepsIx.f k (nL : Int) l0 = some r) :
  Calls Tryz.prog 68 #[.slice A0 l0.length c0, .func (.func 36) #[] #[.pointer (some ⟨gb, 0, none⟩)]] w fun e w' => e = .returned (.int .i64 r) ∧ Below w.heap.size w w' := by
 have hu52 := Tryz.underlying52
 have HX := am hbx
 clear hbx
 have HR0 := am hr0
 have HC0 := am hc0
 clear hr0 hc0
 have HB := am (Below.refl w.heap.size w)
 have H : (stepsIx.l0 (nL : Int) k l0 (l0.length : Int) 0) = some r := h
 clear h
 have H' := am H
 clear H
 go_enter Tryz.func68, Tryz.ntmps68
 go_wp2
 go_loopg [8] k (fun kq v8 w' => ∃ (x8_1 : Int), v8 = .int .i64 x8_1 ∧ Aside0 (stepsIx.l0 (nL : Int) kq l0 (l0.length : Int) x8_1 = some r) ∧ Aside0 (kq ≤ k) ∧ Aside0 (Below w.heap.size w w'))
 case atStart => exact ⟨(0), zf, H', ⟨Nat.le_refl _⟩, ⟨by repeat (first | (with_reducible first | exact HB.out | apply below_alloc | apply pw_below_drewN | apply below_drew1) | exact HB.out)⟩⟩
 case round =>
  clear H'
  try clear p2
  obtain ⟨x8_1, rfl, HA, HK1, HB⟩ := hrel
  cases gk with
  | zero => exact absurd HA.out (by simp [stepsIx.l0])
  | succ k1 =>
   have H := HA.out
   clear HA
   simp only [stepsIx.l0] at H
   by_cases c3 : x8_1 < (l0.length : Int)
   ·rw [if_pos c3] at H
    have c3b0 : decide (x8_1 < (l0.length : Int)) = true := decide_eq_true c3
    clear c3
    by_cases c4 : 0 ≤ x8_1
    ·rw [if_pos c4] at H
     have c4b0 : decide (0 ≤ x8_1) = true := decide_eq_true c4
     clear c4
     by_cases c5 : x8_1 < (l0.length : Int)
     ·rw [if_pos c5] at H
      have c5b0 : decide (x8_1 < (l0.length : Int)) = true := decide_eq_true c5
      clear c5
      replace H := Option.bind_eq_some_iff.mp H
      obtain ⟨t276, A60, H⟩ := H
      replace H : (if t276 = true then (some x8_1) else (stepsIx.l0 (nL : Int) k1 l0 (l0.length : Int) (wrap64 (x8_1 + 1)))) = some r := H
      have A6 := am A60
      clear A60
      by_cases c7 : t276 = true
      ·subst c7
       have H1 : (some x8_1) = some r := by rw [if_pos rfl] at H; exact H
       clear H
       have H := H1
       clear H1
       obtain rfl := Option.some.inj H
       have p275 : 0 ≤ (x8_1 : Int) := oa
       have q275 : x8_1 < (l0.length : Int) := oa
       obtain ⟨ad275, A275_2, c275_2, A275_5, c275_5, e275, hx275_0, hx275_1, hx275_2, hx275_3, hx275_4, hx275_5, hl275_2, hi275_2, hl275_5, hi275_5⟩ := at_T52 HR0.out x8_1 p275 q275
       cases e275
       replace hx275_0 := (HB.out.cell (World.block_lt_of_cell? w _ hx275_0)).trans hx275_0
       replace hx275_1 := (HB.out.cell (World.block_lt_of_cell? w _ hx275_1)).trans hx275_1
       replace hx275_2 := (HB.out.cell (World.block_lt_of_cell? w _ hx275_2)).trans hx275_2
       replace hx275_3 := (HB.out.cell (World.block_lt_of_cell? w _ hx275_3)).trans hx275_3
       replace hx275_4 := (HB.out.cell (World.block_lt_of_cell? w _ hx275_4)).trans hx275_4
       replace hx275_5 := (HB.out.cell (World.block_lt_of_cell? w _ hx275_5)).trans hx275_5
       have HR275_2 := am hi275_2
       have HC275_2 := am hl275_2
       clear hi275_2 hl275_2
       have HR275_5 := am hi275_5
       have HC275_5 := am hl275_5
       clear hi275_5 hl275_5
       replace p275 := eq_true p275
       replace q275 := eq_true q275
       go_wp2_with (first | (go_at_call 36; (with_reducible refine (stepsFar.calls gb AL nL cL ((T52 l0 x8_1).f0) ((T52 l0 x8_1).f1) _ _ ((T52 l0 x8_1).f2) ((T52 l0 x8_1).f3) ((T52 l0 x8_1).f4) _ _ ((T52 l0 x8_1).f5) true _ ?sideX A6.out).mono ?_); (case sideX => exact blk_below HX.out zb); rintro e w8 ⟨rfl, hb⟩; have n0_ := am (below_step zb hb); clear HB; have HB := n0_; clear n0_; (try clear hb)))
       go_ret
       exact ⟨by first | rfl | (simp [errW_none, errW_some] <;> rfl) | (simp [*, errW_none, errW_some] <;> rfl), by repeat (first | (with_reducible first | exact HB.out | apply below_alloc | apply pw_below_drewN | apply below_drew1) | exact HB.out)⟩
      ·replace c7 := Bool.eq_false_iff.mpr c7
       subst c7
       have H1 : (stepsIx.l0 (nL : Int) k1 l0 (l0.length : Int) (wrap64 (x8_1 + 1))) = some r := by rw [if_neg (show ¬ (false = true) by decide)] at H; exact H
       clear H
       have H := H1
       clear H1
       have H' := am H
       clear H
       have p275 : 0 ≤ (x8_1 : Int) := oa
       have q275 : x8_1 < (l0.length : Int) := oa
       obtain ⟨ad275, A275_2, c275_2, A275_5, c275_5, e275, hx275_0, hx275_1, hx275_2, hx275_3, hx275_4, hx275_5, hl275_2, hi275_2, hl275_5, hi275_5⟩ := at_T52 HR0.out x8_1 p275 q275
       cases e275
       replace hx275_0 := (HB.out.cell (World.block_lt_of_cell? w _ hx275_0)).trans hx275_0
       replace hx275_1 := (HB.out.cell (World.block_lt_of_cell? w _ hx275_1)).trans hx275_1
       replace hx275_2 := (HB.out.cell (World.block_lt_of_cell? w _ hx275_2)).trans hx275_2
       replace hx275_3 := (HB.out.cell (World.block_lt_of_cell? w _ hx275_3)).trans hx275_3
       replace hx275_4 := (HB.out.cell (World.block_lt_of_cell? w _ hx275_4)).trans hx275_4
       replace hx275_5 := (HB.out.cell (World.block_lt_of_cell? w _ hx275_5)).trans hx275_5
       have HR275_2 := am hi275_2
       have HC275_2 := am hl275_2
       clear hi275_2 hl275_2
       have HR275_5 := am hi275_5
       have HC275_5 := am hl275_5
       clear hi275_5 hl275_5
       replace p275 := eq_true p275
       replace q275 := eq_true q275
       go_wp2_with (first | (go_at_call 36; (with_reducible refine (stepsFar.calls gb AL nL cL ((T52 l0 x8_1).f0) ((T52 l0 x8_1).f1) _ _ ((T52 l0 x8_1).f2) ((T52 l0 x8_1).f3) ((T52 l0 x8_1).f4) _ _ ((T52 l0 x8_1).f5) false _ ?sideX A6.out).mono ?_); (case sideX => exact blk_below HX.out zb); rintro e w9 ⟨rfl, hb⟩; have n0_ := am (below_step zb hb); clear HB; have HB := n0_; clear n0_; (try clear hb)))
       go_roundg k1
       case measure => have := HK1.out; omega
       case rel => exact ⟨(wrap64 (x8_1 + 1)), zf, H', ⟨by have := HK1.out; omega⟩, ⟨by repeat (first | (with_reducible first | exact HB.out | apply below_alloc | apply pw_below_drewN | apply below_drew1) | exact HB.out)⟩⟩
     ·rw [if_neg c5] at H
      exact absurd H (by simp)
    ·rw [if_neg c4] at H
     exact absurd H (by simp)
   ·rw [if_neg c3] at H
    have c3b0 : decide (x8_1 < (l0.length : Int)) = false := decide_eq_false c3
    clear c3
    obtain rfl := Option.some.inj H
    go_wp2
    go_ret
    exact ⟨by first | rfl | (simp [errW_none, errW_some] <;> rfl) | (simp [*, errW_none, errW_some] <;> rfl), by repeat (first | (with_reducible first | exact HB.out | apply below_alloc | apply pw_below_drewN | apply below_drew1) | exact HB.out)⟩
def stepsCF.f (k : Nat) (n : Int) (l0 : List (S52))  : Option (Bool) := (stepsIx.f k n l0).bind fun t275 => (some (decide (t275 ≥ 0)))
set_option maxHeartbeats 8000000 in
set_option maxRecDepth 100000 in
theorem stepsCF.calls (gb : Nat) (AL : Option Addr) (nL cL : Nat) (k : Nat) (A0 : Option Addr) (c0 : Nat) (l0 : List (S52))  (r : Bool) (w : World) (hr0 : Kd.C k52 w A0 l0.length l0) (hc0 : l0.length ≤ c0) (hbx : w.heap[gb]? = some (.cells #[.slice AL nL cL] 24 (0, 0))) (h : stepsCF.f k (nL : Int) l0 = some r) :
  Calls Tryz.prog 35 #[.slice A0 l0.length c0, .func (.func 36) #[] #[.pointer (some ⟨gb, 0, none⟩)]] w fun e w' => e = .returned (.bool r) ∧ Below w.heap.size w w' := by
 have HX := am hbx
 clear hbx
 have HR0 := am hr0
 have HC0 := am hc0
 clear hr0 hc0
 have HB := am (Below.refl w.heap.size w)
 have H : ((stepsIx.f k (nL : Int) l0).bind fun t275 => (some (decide (t275 ≥ 0)))) = some r := h
 clear h
 replace H := Option.bind_eq_some_iff.mp H
 obtain ⟨t275, A30, H⟩ := H
 replace H : (some (decide (t275 ≥ 0))) = some r := H
 have A3 := am A30
 clear A30
 obtain rfl := Option.some.inj H
 go_enter Tryz.func35, Tryz.ntmps35
 go_wp2_with (first | ((with_reducible refine gateC (f := 68) rfl ?_); refine goesL_ (some 7) rfl rfl Tryz.func68 (by kernel_rfl) rfl #[.slice A0 l0.length c0, .func (.func 36) #[] #[.pointer (some ⟨gb, 0, none⟩)]] rfl zm ?_; (with_reducible refine (stepsIx.calls gb AL nL cL k _ _ l0  t275 _ ?side1 ?side2 ?sideX A3.out).mono ?_); (case sideX => exact blk_below HX.out zb); (case side1 => exact zq HR0.out); (case side2 => exact HC0.out); rintro e w4 ⟨rfl, hb⟩; refine ⟨_, rfl, ?_⟩; have n0_ := am (below_step zb hb); clear HB; have HB := n0_; clear n0_; (try clear hb)))
 go_ret
 exact ⟨by first | rfl | (simp [errW_none, errW_some] <;> rfl) | (simp [*, errW_none, errW_some] <;> rfl), by repeat (first | (with_reducible first | exact HB.out | apply below_alloc | apply pw_below_drewN | apply below_drew1) | exact HB.out)⟩

mutual
def impl_StepsHunks.j0 : Nat → List (S52) → List ByteArray → Bool → Option ((List (S60)) × Int × Bool)
 | 0, _, _, _ => none
 | k + 1, x1, x2, x17 => if x17 = true then (some (([] : List (S60)), 0, false)) else ((impl_hunksOf.f k x1).bind fun t831 => ((stepsCF.f k (x2.length : Int) x1).bind fun t834 => (if t834 = true then (impl_StepsHunks.j1 k x1 x2 t831 true) else ((impl_goodHunks.f k (x2.length : Int) t831).bind fun t835 => (impl_StepsHunks.j1 k x1 x2 t831 (!t835))))))
def impl_StepsHunks.j1 : Nat → List (S52) → List ByteArray → List (S60) → Bool → Option ((List (S60)) × Int × Bool)
 | 0, _, _, _, _ => none
 | k + 1, x1, x2, x7, x29 => if x29 = true then (some (([] : List (S60)), 3, true)) else ((impl_stepsOf.f k x2 x7).bind fun t836 => (impl_StepsHunks.l0 k x1 x7 t836 (t836.length : Int) 0))
def impl_StepsHunks.l0 : Nat → List (S52) → List (S60) → List (S52) → Int → Int → Option ((List (S60)) × Int × Bool)
 | 0, _, _, _, _, _ => none
 | k + 1, x1, x7, x32, x33, x34 => if x34 < x33 then (if 0 ≤ x34 then (if x34 < (x32.length : Int) then (if x34 < (x1.length : Int) then ((slices_Equal_string_string.f k ((T52 x32 x34).f2) ((T52 x1 x34).f2)).bind fun t842 => (if t842 = true then (if ((T52 x32 x34).f3) = ((T52 x1 x34).f3) then (impl_StepsHunks.l0 k x1 x7 x32 x33 (wrap64 (x34 + 1))) else (some (([] : List (S60)), 2, true))) else (some (([] : List (S60)), 2, true)))) else (none)) else (none)) else (none)) else (some (x7, 0, true))
end
def impl_StepsHunks.f (k : Nat) (l0 : List ByteArray) (l1 : List (S52)) : Option ((List (S60)) × Int × Bool) := (impl_goodLines.f k l0).bind fun t829 => (if t829 = true then ((impl_goodSteps.f k l1).bind fun t830 => (impl_StepsHunks.j0 k l1 l0 (!t830))) else (impl_StepsHunks.j0 k l1 l0 true))
set_option maxHeartbeats 64000000 in
set_option maxRecDepth 100000 in
theorem impl_StepsHunks.calls (k : Nat) (A0 : Option Addr) (c0 : Nat) (l0 : List ByteArray) (A1 : Option Addr) (c1 : Nat) (l1 : List (S52)) (r1 : List (S60)) (r2 : Int) (r3 : Bool) (w : World) (hr0 : Kd.C Kd.string w A0 l0.length l0) (hc0 : l0.length ≤ c0) (hr1 : Kd.C k52 w A1 l1.length l1) (hc1 : l1.length ≤ c1) (h : impl_StepsHunks.f k l0 l1 = some (r1, r2, r3)) :
  Calls Tryz.prog 12 #[.slice A0 l0.length c0, .slice A1 l1.length c1] w fun e w' => ∃ v0_ : Value, e = .returned (.tuple #[v0_, .int .i64 r2, .bool r3]) ∧ Kd.S k60 60 w' w.heap.size (fun _ => True) v0_ r1 ∧ Below w.heap.size w w' := by
 have hu52 := Tryz.underlying52
 have HR0 := am hr0
 have HC0 := am hc0
 clear hr0 hc0
 have HR1 := am hr1
 have HC1 := am hc1
 clear hr1 hc1
 have HB := am (Below.refl w.heap.size w)
 have H := h
 clear h
 unfold impl_StepsHunks.f at H
 have HC3 := am H
 clear H
 go_enter Tryz.func12, Tryz.ntmps12
 go_upto_region 1 with ((with_reducible refine gate_dst (N := 2) rfl ?_); refine box_event ?hg (N := 2) ?hd (cs := #[.slice A0 l0.length c0]) (t := 24) ?hr ?_; (case hd => rfl); (case hg => rfl); (case hr => (go_simp; done)); intro gb hg w1 hbox hb; have n1_ := am (below_step zb hb); clear HB; have HB := n1_; have BK := am hbox; clear n1_ hbox hb hg; have hcl : w1.cell? ⟨gb, 0, none⟩ = some (.slice A0 l0.length c0) := (blk_cell BK.out 0).trans rfl)
 go_cut [17] (fun v17 wc => ∃ (kq : Nat) (x17_2 : Bool), v17 = .bool x17_2 ∧ Aside0 (impl_StepsHunks.j0 kq l1 l0 x17_2 = some (r1, r2, r3)) ∧ Aside0 (kq ≤ k) ∧ Aside0 (Below w.heap.size w wc) ∧ Aside0 (wc.heap[gb]? = some (.cells #[.slice A0 l0.length c0] 24 (0, 0))))
 case first =>
  have H := HC3.out
  clear HC3
  replace H := Option.bind_eq_some_iff.mp H
  obtain ⟨t829, A40, H⟩ := H
  replace H : (if t829 = true then ((impl_goodSteps.f k l1).bind fun t830 => (impl_StepsHunks.j0 k l1 l0 (!t830))) else (impl_StepsHunks.j0 k l1 l0 true)) = some (r1, r2, r3) := H
  have A4 := am A40
  clear A40
  by_cases c5 : t829 = true
  ·subst c5
   rw [if_pos rfl] at H
   replace H := Option.bind_eq_some_iff.mp H
   obtain ⟨t830, A60, H⟩ := H
   replace H : (impl_StepsHunks.j0 k l1 l0 (!t830)) = some (r1, r2, r3) := H
   have A6 := am A60
   clear A60
   have H' := am H
   clear H
   go_wp2_with (first | (go_at_call 32; (with_reducible refine (impl_goodLines.calls k _ _ l0 true _ ?side1 ?side2 A4.out).mono ?_); (case side1 => exact zq (Kd.C_below HR0.out HB.out)); (case side2 => exact HC0.out); rintro e w' ⟨rfl, ⟨nd, rfl⟩⟩) | (go_at_call 33; (with_reducible refine (impl_goodSteps.calls k _ _ l1 t830 _ ?side1 ?side2 A6.out).mono ?_); (case side1 => repeat (exact (Kd.C_below HR1.out zb))); (case side2 => exact HC1.out); rintro e w7 ⟨rfl, hb⟩; have bk_ := am (blk_below (zk BK.out) hb); clear BK; (try clear hcl); have BK := bk_; clear bk_; have hcl : w7.cell? ⟨gb, 0, none⟩ = some (.slice A0 l0.length c0) := (blk_cell BK.out 0).trans rfl; replace HB := am (below_step zb hb); (try clear hb)))
   go_meet
   case rel => exact ⟨_, (!t830), zf, H', ⟨by omega⟩, ⟨zb⟩, ⟨zk BK.out⟩⟩
  ·replace c5 := Bool.eq_false_iff.mpr c5
   subst c5
   rw [if_neg nofun] at H
   have H' := am H
   clear H
   go_wp2_with ((go_at_call 32; (with_reducible refine (impl_goodLines.calls k _ _ l0 false _ ?side1 ?side2 A4.out).mono ?_); (case side1 => exact zq (Kd.C_below HR0.out HB.out)); (case side2 => exact HC0.out); rintro e w' ⟨rfl, ⟨nd, rfl⟩⟩))
   go_meet
   case rel => exact ⟨_, (true), zf, H', ⟨by omega⟩, ⟨zb⟩, ⟨zk BK.out⟩⟩
 case rest =>
  clear HC3
  obtain ⟨kq, x17_2, rfl, HA, HJ2, HB, BK⟩ := hcut
  have hcl := (blk_cell BK.out 0).trans (show (#[Value.slice A0 l0.length c0] : Array Value)[0]? = some (Value.slice A0 l0.length c0) from rfl)
  cases kq with
  | zero => exact absurd HA.out (by simp [impl_StepsHunks.j0])
  | succ kj2 =>
   have H := HA.out
   clear HA
   simp only [impl_StepsHunks.j0] at H
   by_cases c8 : x17_2 = true
   ·subst c8
    rw [if_pos rfl] at H
    simp only [Option.some.injEq, Prod.mk.injEq] at H
    obtain ⟨rfl, rfl, rfl⟩ := H
    go_wp2
    go_ret3
    exact ⟨_, by rfl, by exact Kd.S_nil _ _ _ _ _, zb⟩
   ·replace c8 := Bool.eq_false_iff.mpr c8
    subst c8
    rw [if_neg nofun] at H
    replace H := Option.bind_eq_some_iff.mp H
    obtain ⟨t831, A90, H⟩ := H
    replace H : ((stepsCF.f kj2 (l0.length : Int) l1).bind fun t834 => (if t834 = true then (impl_StepsHunks.j1 kj2 l1 l0 t831 true) else ((impl_goodHunks.f kj2 (l0.length : Int) t831).bind fun t835 => (impl_StepsHunks.j1 kj2 l1 l0 t831 (!t835))))) = some (r1, r2, r3) := H
    have A9 := am A90
    clear A90
    have HC10 := am H
    clear H
    go_upto_region 4 with ((go_at_call 34; (with_reducible refine (impl_hunksOf.calls kj2 _ _ l1 t831 _ ?side1 ?side2 A9.out).mono ?_); (case side1 => exact zq (Kd.C_below HR1.out HB.out)); (case side2 => exact HC1.out); rintro e w11 ⟨v832, rfl, ho0, hb⟩; have bk_ := am (blk_below (zk BK.out) hb); clear BK; (try clear hcl); have BK := bk_; clear bk_; have hcl : w11.cell? ⟨gb, 0, none⟩ = some (.slice A0 l0.length c0) := (blk_cell BK.out 0).trans rfl; have HO833 := am (Kd.S_lower ho0 (below_size zb)); replace HB := am (below_step zb hb); (try clear hb); (try clear ho0)))
    go_cut [29] (fun v29 wc => ∃ (kq : Nat) (x29_9 : Bool), v29 = .bool x29_9 ∧ Aside0 (impl_StepsHunks.j1 kq l1 l0 t831 x29_9 = some (r1, r2, r3)) ∧ Aside0 (kq ≤ kj2) ∧ Aside0 (Kd.S k60 60 wc w.heap.size (fun _ => True) v832 t831) ∧ Aside0 (Below w.heap.size w wc) ∧ Aside0 (wc.heap[gb]? = some (.cells #[.slice A0 l0.length c0] 24 (0, 0))))
    case first =>
     have H := HC10.out
     clear HC10
     replace H := Option.bind_eq_some_iff.mp H
     obtain ⟨t834, A120, H⟩ := H
     replace H : (if t834 = true then (impl_StepsHunks.j1 kj2 l1 l0 t831 true) else ((impl_goodHunks.f kj2 (l0.length : Int) t831).bind fun t835 => (impl_StepsHunks.j1 kj2 l1 l0 t831 (!t835)))) = some (r1, r2, r3) := H
     have A12 := am A120
     clear A120
     by_cases c13 : t834 = true
     ·subst c13
      rw [if_pos rfl] at H
      have H' := am H
      clear H
      go_wp2_with ((go_at_call 35; (with_reducible refine (stepsCF.calls gb A0 l0.length c0 kj2 _ _ l1 true _ ?side1 ?side2 ?side3 A12.out).mono ?_); (case side1 => exact zq (Kd.C_below HR1.out HB.out)); (case side2 => exact HC1.out); (case side3 => exact zk BK.out); rintro e w99 ⟨rfl, hb⟩; have bk_ := am (blk_below (zk BK.out) hb); clear BK; (try clear hcl); have BK := bk_; clear bk_; have hcl : w99.cell? ⟨gb, 0, none⟩ = some (.slice A0 l0.length c0) := (blk_cell BK.out 0).trans rfl; replace HO833 := am (Kd.S_below (zs HO833.out) hb); replace HB := am (below_step zb hb); (try clear hb)))
      go_meet
      case rel => exact ⟨_, (true), zf, H', ⟨by have := HJ2.out; omega⟩, ⟨zs HO833.out⟩, ⟨zb⟩, ⟨zk BK.out⟩⟩
     ·replace c13 := Bool.eq_false_iff.mpr c13
      subst c13
      rw [if_neg nofun] at H
      replace H := Option.bind_eq_some_iff.mp H
      obtain ⟨t835, A140, H⟩ := H
      replace H : (impl_StepsHunks.j1 kj2 l1 l0 t831 (!t835)) = some (r1, r2, r3) := H
      have A14 := am A140
      clear A140
      have H' := am H
      clear H
      go_wp2_with (first | (go_at_call 35; (with_reducible refine (stepsCF.calls gb A0 l0.length c0 kj2 _ _ l1 false _ ?side1 ?side2 ?side3 A12.out).mono ?_); (case side1 => exact zq (Kd.C_below HR1.out HB.out)); (case side2 => exact HC1.out); (case side3 => exact zk BK.out); rintro e w99 ⟨rfl, hb⟩; have bk_ := am (blk_below (zk BK.out) hb); clear BK; (try clear hcl); have BK := bk_; clear bk_; have hcl : w99.cell? ⟨gb, 0, none⟩ = some (.slice A0 l0.length c0) := (blk_cell BK.out 0).trans rfl; replace HO833 := am (Kd.S_below (zs HO833.out) hb); replace HB := am (below_step zb hb); (try clear hb); obtain ⟨Ao15, co15, eo15⟩ := Kd.S_slice HO833.out; subst eo15) | (go_at_call 37; (with_reducible refine (impl_goodHunks.calls kj2 (l0.length : Int) _ _ t831 t835 _ ?side1 ?side2 A14.out).mono ?_); (case side1 => repeat (exact (Kd.S_reads' HO833.out).2.2)); (case side2 => exact (Kd.S_reads' HO833.out).2.1); rintro e w16 ⟨rfl, hb⟩; have bk_ := am (blk_below (zk BK.out) hb); clear BK; (try clear hcl); have BK := bk_; clear bk_; have hcl : w16.cell? ⟨gb, 0, none⟩ = some (.slice A0 l0.length c0) := (blk_cell BK.out 0).trans rfl; replace HO833 := am (Kd.S_below (zs HO833.out) hb); replace HB := am (below_step zb hb); (try clear hb)))
      go_meet
      case rel => exact ⟨_, (!t835), zf, H', ⟨by have := HJ2.out; omega⟩, ⟨zs HO833.out⟩, ⟨zb⟩, ⟨zk BK.out⟩⟩
    case rest =>
     clear HC10
     obtain ⟨kq, x29_9, rfl, HA, HJ9, HO_7, HB, BK⟩ := hcut
     have hcl := (blk_cell BK.out 0).trans (show (#[Value.slice A0 l0.length c0] : Array Value)[0]? = some (Value.slice A0 l0.length c0) from rfl)
     cases kq with
     | zero => exact absurd HA.out (by simp [impl_StepsHunks.j1])
     | succ kj9 =>
      have H := HA.out
      clear HA
      simp only [impl_StepsHunks.j1] at H
      by_cases c17 : x29_9 = true
      ·subst c17
       rw [if_pos rfl] at H
       simp only [Option.some.injEq, Prod.mk.injEq] at H
       obtain ⟨rfl, rfl, rfl⟩ := H
       go_wp2
       go_ret3
       exact ⟨_, by rfl, by exact Kd.S_nil _ _ _ _ _, zb⟩
      ·replace c17 := Bool.eq_false_iff.mpr c17
       subst c17
       rw [if_neg nofun] at H
       replace H := Option.bind_eq_some_iff.mp H
       obtain ⟨t836, A180, H⟩ := H
       replace H : (impl_StepsHunks.l0 kj9 l1 t831 t836 (t836.length : Int) 0) = some (r1, r2, r3) := H
       have A18 := am A180
       clear A180
       have H' := am H
       clear H
       obtain ⟨Ao19, co19, eo19⟩ := Kd.S_slice HO_7.out
       subst eo19
       go_wp2_with ((go_at_call 27; (with_reducible refine (impl_stepsOf.calls kj9 _ _ l0 _ _ t831 t836 _ ?side1 ?side2 ?side3 ?side4 A18.out).mono ?_); (case side1 => exact zq (Kd.C_below HR0.out HB.out)); (case side2 => exact HC0.out); (case side3 => repeat (exact (Kd.S_reads' HO_7.out).2.2)); (case side4 => exact (Kd.S_reads' HO_7.out).2.1); rintro e w20 ⟨v837, rfl, ho0, hb⟩; have bk_ := am (blk_below (zk BK.out) hb); clear BK; (try clear hcl); have BK := bk_; clear bk_; have hcl : w20.cell? ⟨gb, 0, none⟩ = some (.slice A0 l0.length c0) := (blk_cell BK.out 0).trans rfl; replace HO_7 := am (Kd.S_below (zs HO_7.out) hb); have HO838 := am (Kd.S_lower ho0 (below_size zb)); replace HB := am (below_step zb hb); (try clear hb); (try clear ho0); obtain ⟨Ao21, co21, eo21⟩ := Kd.S_slice HO838.out; subst eo21))
       go_loopg [34] kj9 (fun kq v34 w' => ∃ (x34_3 : Int), v34 = .int .i64 x34_3 ∧ Aside0 (impl_StepsHunks.l0 kq l1 t831 t836 (t836.length : Int) x34_3 = some (r1, r2, r3)) ∧ Aside0 (kq ≤ kj9) ∧ Aside0 (Kd.S k60 60 w' w.heap.size (fun _ => True) (.slice Ao19 t831.length co19) t831) ∧ Aside0 (Kd.S k52 52 w' w.heap.size (fun _ => True) (.slice Ao21 t836.length co21) t836) ∧ Aside0 (Below w.heap.size w w'))
       case atStart => exact ⟨(0), zf, H', ⟨Nat.le_refl _⟩, ⟨zs HO_7.out⟩, ⟨zs HO838.out⟩, ⟨zb⟩⟩
       case round =>
        try clear BK hcl
        try clear HR0 HC0
        clear H'
        obtain ⟨x34_3, rfl, HA, HK3, HO_7, HO_32, HB⟩ := hrel
        cases gk with
        | zero => exact absurd HA.out (by simp [impl_StepsHunks.l0])
        | succ k3 =>
         have H := HA.out
         clear HA
         simp only [impl_StepsHunks.l0] at H
         by_cases c22 : x34_3 < (t836.length : Int)
         ·rw [if_pos c22] at H
          have c22b0 : decide (x34_3 < (t836.length : Int)) = true := decide_eq_true c22
          clear c22
          obtain ⟨c23, H⟩ := itn H
          have c23b0 := decide_eq_true c23
          clear c23
          obtain ⟨c24, H⟩ := itn H
          have c24b0 := decide_eq_true c24
          clear c24
          obtain ⟨c25, H⟩ := itn H
          have c25b0 := decide_eq_true c25
          clear c25
          replace H := Option.bind_eq_some_iff.mp H
          obtain ⟨t842, A260, H⟩ := H
          replace H : (if t842 = true then (if ((T52 t836 x34_3).f3) = ((T52 l1 x34_3).f3) then (impl_StepsHunks.l0 k3 l1 t831 t836 (t836.length : Int) (wrap64 (x34_3 + 1))) else (some (([] : List (S60)), 2, true))) else (some (([] : List (S60)), 2, true))) = some (r1, r2, r3) := H
          have A26 := am A260
          clear A260
          by_cases c27 : t842 = true
          ·subst c27
           rw [if_pos rfl] at H
           by_cases c28 : ((T52 t836 x34_3).f3) = ((T52 l1 x34_3).f3)
           ·rw [if_pos c28] at H
            have c28b0 : (((T52 t836 x34_3).f3) == ((T52 l1 x34_3).f3)) = true := beq_iff_eq.mpr c28
            have c28b1 : (((T52 t836 x34_3).f3) != ((T52 l1 x34_3).f3)) = false := bne_eq_false_iff_eq.mpr c28
            clear c28
            have H' := am H
            clear H
            have p839 : 0 ≤ (x34_3 : Int) := oa
            have q839 : x34_3 < (t836.length : Int) := oa
            obtain ⟨ad839, A839_2, c839_2, A839_5, c839_5, e839, hx839_0, hx839_1, hx839_2, hx839_3, hx839_4, hx839_5, hl839_2, hi839_2, hl839_5, hi839_5⟩ := at_T52 (Kd.S_reads' HO_32.out).2.2 x34_3 p839 q839
            cases e839
            obtain ⟨ce839, hce839, hMe839, hcc839⟩ := Kd.S_get HO_32.out z52 x34_3 p839 (by exact q839)
            obtain ⟨ve839_2, ve839_5, rfl, ge839_2, ge839_5⟩ := k52_openM hMe839
            have hv839_2 := hcc839 2 _ rfl
            rw [add_field _ _ 2 (by omega)] at hv839_2
            replace hv839_2 := Option.some.inj (hv839_2.symm.trans hx839_2)
            rw [hv839_2] at ge839_2
            have HL839_2 := am (show Kd.R Kd.string 9 _ _ _ _ ((T52 t836 x34_3).f2) from ge839_2)
            clear hv839_2 ge839_2
            have hv839_5 := hcc839 5 _ rfl
            rw [add_field _ _ 5 (by omega)] at hv839_5
            replace hv839_5 := Option.some.inj (hv839_5.symm.trans hx839_5)
            rw [hv839_5] at ge839_5
            have HL839_5 := am (show Kd.R Kd.string 9 _ _ _ _ ((T52 t836 x34_3).f5) from ge839_5)
            clear hv839_5 ge839_5
            clear hcc839 hce839
            have HR839_2 := am hi839_2
            have HC839_2 := am hl839_2
            clear hi839_2 hl839_2
            have HR839_5 := am hi839_5
            have HC839_5 := am hl839_5
            clear hi839_5 hl839_5
            replace p839 := eq_true p839
            replace q839 := eq_true q839
            go_wp2_with (((with_reducible refine gate_dst (N := 9) rfl ?_); (try (refine gate_guard (by rfl) ?_; dsimp only)); refine box_event ?hg (N := 9) ?hd (cs := #[.int .i64 0, .int .i64 0, .slice none 0 0, .int .i64 0, .int .i64 0, .slice none 0 0]) (t := 52) ?hr ?_; (case hd => rfl); (case hg => rfl); (case hr => (go_simp; done)); intro gb840 hg w29 hbox hb; replace HO_7 := am (Kd.S_below (zs HO_7.out) hb); replace HO_32 := am (Kd.S_below (Kd.S_elderB (zs HO_32.out) gb840 (Nat.le_of_eq hg.symm)) hb); replace HL839_2 := am (Kd.R_below (zr HL839_2.out) hb); replace HL839_5 := am (Kd.R_below (zr HL839_5.out) hb); replace HR839_2 := am (Kd.C_below (by repeat ((with_reducible exact HR839_2.out))) hb); replace HR839_5 := am (Kd.C_below (by repeat ((with_reducible exact HR839_5.out))) hb); have BK840 := am (hbox); have GW840 := am ((by rw [hg]; exact (below_size zb) : w.heap.size ≤ gb840)); have GE840 := am ((by rw [hg]; exact (below_size zb) : w.heap.size ≤ gb840)); replace HB := am (below_step zb hb); clear hb hbox hg; obtain ⟨hcz30_0, hcz30_1, hcz30_2, hcz30_3, hcz30_4, hcz30_5⟩ := cz6 BK840.out; obtain ⟨hfz30_0, hfz30_1, hfz30_2, hfz30_3, hfz30_4, hfz30_5⟩ := fz6 BK840.out; have p841 : 0 ≤ (x34_3 : Int) := oa; have q841 : x34_3 < (l1.length : Int) := oa; obtain ⟨ad841, A841_2, c841_2, A841_5, c841_5, e841, hx841_0, hx841_1, hx841_2, hx841_3, hx841_4, hx841_5, hl841_2, hi841_2, hl841_5, hi841_5⟩ := at_T52 HR1.out x34_3 p841 q841; cases e841; have hn841_0 : ad841.block ≠ gb840 := Nat.ne_of_lt (Nat.lt_of_lt_of_le (zl hx841_0) GW840.out); have hn841_1 : ad841.block ≠ gb840 := Nat.ne_of_lt (Nat.lt_of_lt_of_le (zl hx841_0) GW840.out); have hn841_2 : ad841.block ≠ gb840 := Nat.ne_of_lt (Nat.lt_of_lt_of_le (zl hx841_0) GW840.out); have hn841_3 : ad841.block ≠ gb840 := Nat.ne_of_lt (Nat.lt_of_lt_of_le (zl hx841_0) GW840.out); have hn841_4 : ad841.block ≠ gb840 := Nat.ne_of_lt (Nat.lt_of_lt_of_le (zl hx841_0) GW840.out); have hn841_5 : ad841.block ≠ gb840 := Nat.ne_of_lt (Nat.lt_of_lt_of_le (zl hx841_0) GW840.out); replace hx841_0 := (HB.out.cell (World.block_lt_of_cell? w _ hx841_0)).trans hx841_0; replace hx841_1 := (HB.out.cell (World.block_lt_of_cell? w _ hx841_1)).trans hx841_1; replace hx841_2 := (HB.out.cell (World.block_lt_of_cell? w _ hx841_2)).trans hx841_2; have hz841_2 := fun (n_ : Nat) => (show (w29.drewN n_).cell? _ = some _ from hx841_2); replace hx841_3 := (HB.out.cell (World.block_lt_of_cell? w _ hx841_3)).trans hx841_3; have hz841_3 := fun (n_ : Nat) => (show (w29.drewN n_).cell? _ = some _ from hx841_3); replace hx841_4 := (HB.out.cell (World.block_lt_of_cell? w _ hx841_4)).trans hx841_4; replace hx841_5 := (HB.out.cell (World.block_lt_of_cell? w _ hx841_5)).trans hx841_5; have HR841_2 := am hi841_2; have HC841_2 := am hl841_2; clear hi841_2 hl841_2; have HR841_5 := am hi841_5; have HC841_5 := am hl841_5; clear hi841_5 hl841_5; replace hx841_2 := (cell_far (p := ⟨gb840, 0, none⟩) (zn hn841_0) (.int .i64 ((T52 t836 x34_3).f0))).trans hx841_2; replace hx841_3 := (cell_far (p := ⟨gb840, 0, none⟩) (zn hn841_0) (.int .i64 ((T52 t836 x34_3).f0))).trans hx841_3; replace hx841_2 := (cell_far (p := ⟨gb840, 1, none⟩) (zn hn841_1) (.int .i64 ((T52 t836 x34_3).f1))).trans hx841_2; replace hx841_3 := (cell_far (p := ⟨gb840, 1, none⟩) (zn hn841_1) (.int .i64 ((T52 t836 x34_3).f1))).trans hx841_3; replace hx841_2 := (cell_far (p := ⟨gb840, 2, none⟩) (zn hn841_2) (.slice A839_2 ((T52 t836 x34_3).f2).length c839_2)).trans hx841_2; replace hx841_3 := (cell_far (p := ⟨gb840, 2, none⟩) (zn hn841_2) (.slice A839_2 ((T52 t836 x34_3).f2).length c839_2)).trans hx841_3; replace hx841_2 := (cell_far (p := ⟨gb840, 3, none⟩) (zn hn841_3) (.int .i64 ((T52 t836 x34_3).f3))).trans hx841_2; replace hx841_3 := (cell_far (p := ⟨gb840, 3, none⟩) (zn hn841_3) (.int .i64 ((T52 t836 x34_3).f3))).trans hx841_3; replace hx841_2 := (cell_far (p := ⟨gb840, 4, none⟩) (zn hn841_4) (.int .i64 ((T52 t836 x34_3).f4))).trans hx841_2; replace hx841_3 := (cell_far (p := ⟨gb840, 4, none⟩) (zn hn841_4) (.int .i64 ((T52 t836 x34_3).f4))).trans hx841_3; replace hx841_2 := (cell_far (p := ⟨gb840, 5, none⟩) (zn hn841_5) (.slice A839_5 ((T52 t836 x34_3).f5).length c839_5)).trans hx841_2; replace hx841_3 := (cell_far (p := ⟨gb840, 5, none⟩) (zn hn841_5) (.slice A839_5 ((T52 t836 x34_3).f5).length c839_5)).trans hx841_3; have hy841_2 := fun (n_ : Nat) => ((cell_far (p := ⟨gb840, 5, none⟩) (zn hn841_5) (.slice A839_5 ((T52 t836 x34_3).f5).length c839_5)).trans ((cell_far (p := ⟨gb840, 4, none⟩) (zn hn841_4) (.int .i64 ((T52 t836 x34_3).f4))).trans ((cell_far (p := ⟨gb840, 3, none⟩) (zn hn841_3) (.int .i64 ((T52 t836 x34_3).f3))).trans ((cell_far (p := ⟨gb840, 2, none⟩) (zn hn841_2) (.slice A839_2 ((T52 t836 x34_3).f2).length c839_2)).trans ((cell_far (p := ⟨gb840, 1, none⟩) (zn hn841_1) (.int .i64 ((T52 t836 x34_3).f1))).trans ((cell_far (p := ⟨gb840, 0, none⟩) (zn hn841_0) (.int .i64 ((T52 t836 x34_3).f0))).trans (hz841_2 n_))))))); have hy841_3 := fun (n_ : Nat) => ((cell_far (p := ⟨gb840, 5, none⟩) (zn hn841_5) (.slice A839_5 ((T52 t836 x34_3).f5).length c839_5)).trans ((cell_far (p := ⟨gb840, 4, none⟩) (zn hn841_4) (.int .i64 ((T52 t836 x34_3).f4))).trans ((cell_far (p := ⟨gb840, 3, none⟩) (zn hn841_3) (.int .i64 ((T52 t836 x34_3).f3))).trans ((cell_far (p := ⟨gb840, 2, none⟩) (zn hn841_2) (.slice A839_2 ((T52 t836 x34_3).f2).length c839_2)).trans ((cell_far (p := ⟨gb840, 1, none⟩) (zn hn841_1) (.int .i64 ((T52 t836 x34_3).f1))).trans ((cell_far (p := ⟨gb840, 0, none⟩) (zn hn841_0) (.int .i64 ((T52 t836 x34_3).f0))).trans (hz841_3 n_))))))); clear hn841_0; clear hn841_1; clear hn841_2; clear hn841_3; clear hn841_4; clear hn841_5; replace p841 := eq_true p841; replace q841 := eq_true q841))
            repeat (go_quiet ((go_at_call 38; (with_reducible refine (slices_Equal_string_string.calls k3 _ _ ((T52 t836 x34_3).f2) _ _ ((T52 l1 x34_3).f2) true _ ?side1 ?side2 ?side3 ?side4 A26.out).mono ?_); (case side1 => repeat (exact ((Kd.R_reads' (by (with_reducible repeat (apply Kd.R_drewN)); exact (Kd.R_mono (Kd.R_far (p := ⟨gb840, 5, none⟩) (Kd.R_far (p := ⟨gb840, 4, none⟩) (Kd.R_far (p := ⟨gb840, 3, none⟩) (Kd.R_far (p := ⟨gb840, 2, none⟩) (Kd.R_far (p := ⟨gb840, 1, none⟩) (Kd.R_far (p := ⟨gb840, 0, none⟩) (Kd.R_types HL839_2.out BK840.out (by decide)) (fun _ hk => hk.2) (.int .i64 ((T52 t836 x34_3).f0))) (fun _ hk => hk.2) (.int .i64 ((T52 t836 x34_3).f1))) (fun _ hk => hk.2) (.slice A839_2 ((T52 t836 x34_3).f2).length c839_2)) (fun _ hk => hk.2) (.int .i64 ((T52 t836 x34_3).f3))) (fun _ hk => hk.2) (.int .i64 ((T52 t836 x34_3).f4))) (fun _ hk => hk.2) (.slice A839_5 ((T52 t836 x34_3).f5).length c839_5)) (fun _ h_ => h_.1)))).2.2))); (case side2 => exact HC839_2.out); (case side3 => exact Kd.C_below HR841_2.out zw); (case side4 => exact HC841_2.out); rintro e w' ⟨rfl, ⟨nd, rfl⟩⟩; (try exact zd))); try go_wp2)
            go_roundg k3
            case measure => have := HJ2.out; have := HJ9.out; have := HK3.out; omega
            case rel => exact ⟨(wrap64 (x34_3 + 1)), zf, H', ⟨by have := HJ2.out; have := HJ9.out; have := HK3.out; omega⟩, ⟨by (with_reducible repeat (apply Kd.S_drewN)); exact Kd.S_mono (Kd.S_far (p := ⟨gb840, 5, none⟩) (Kd.S_far (p := ⟨gb840, 4, none⟩) (Kd.S_far (p := ⟨gb840, 3, none⟩) (Kd.S_far (p := ⟨gb840, 2, none⟩) (Kd.S_far (p := ⟨gb840, 1, none⟩) (Kd.S_far (p := ⟨gb840, 0, none⟩) (Kd.S_types HO_7.out BK840.out (by decide)) (fun _ hk => hk.2) (.int .i64 ((T52 t836 x34_3).f0))) (fun _ hk => hk.2) (.int .i64 ((T52 t836 x34_3).f1))) (fun _ hk => hk.2) (.slice A839_2 ((T52 t836 x34_3).f2).length c839_2)) (fun _ hk => hk.2) (.int .i64 ((T52 t836 x34_3).f3))) (fun _ hk => hk.2) (.int .i64 ((T52 t836 x34_3).f4))) (fun _ hk => hk.2) (.slice A839_5 ((T52 t836 x34_3).f5).length c839_5)) (fun _ hk => trivial)⟩, ⟨by (with_reducible repeat (apply Kd.S_drewN)); exact Kd.S_mono (Kd.S_far (p := ⟨gb840, 5, none⟩) (Kd.S_far (p := ⟨gb840, 4, none⟩) (Kd.S_far (p := ⟨gb840, 3, none⟩) (Kd.S_far (p := ⟨gb840, 2, none⟩) (Kd.S_far (p := ⟨gb840, 1, none⟩) (Kd.S_far (p := ⟨gb840, 0, none⟩) (Kd.S_mono HO_32.out (fun k_ hk => (⟨hk, hk.2⟩ : _ ∧ k_ ≠ gb840))) (fun _ hk => hk.2) (.int .i64 ((T52 t836 x34_3).f0))) (fun _ hk => hk.2) (.int .i64 ((T52 t836 x34_3).f1))) (fun _ hk => hk.2) (.slice A839_2 ((T52 t836 x34_3).f2).length c839_2)) (fun _ hk => hk.2) (.int .i64 ((T52 t836 x34_3).f3))) (fun _ hk => hk.2) (.int .i64 ((T52 t836 x34_3).f4))) (fun _ hk => hk.2) (.slice A839_5 ((T52 t836 x34_3).f5).length c839_5)) (fun _ hk => trivial)⟩, ⟨zw⟩⟩
           ·rw [if_neg c28] at H
            have c28b0 : (((T52 t836 x34_3).f3) == ((T52 l1 x34_3).f3)) = false := beq_eq_false_iff_ne.mpr c28
            have c28b1 : (((T52 t836 x34_3).f3) != ((T52 l1 x34_3).f3)) = true := bne_iff_ne.mpr c28
            simp only [Option.some.injEq, Prod.mk.injEq] at H
            obtain ⟨rfl, rfl, rfl⟩ := H
            have p839 : 0 ≤ (x34_3 : Int) := oa
            have q839 : x34_3 < (t836.length : Int) := oa
            obtain ⟨ad839, A839_2, c839_2, A839_5, c839_5, e839, hx839_0, hx839_1, hx839_2, hx839_3, hx839_4, hx839_5, hl839_2, hi839_2, hl839_5, hi839_5⟩ := at_T52 (Kd.S_reads' HO_32.out).2.2 x34_3 p839 q839
            cases e839
            obtain ⟨ce839, hce839, hMe839, hcc839⟩ := Kd.S_get HO_32.out z52 x34_3 p839 (by exact q839)
            obtain ⟨ve839_2, ve839_5, rfl, ge839_2, ge839_5⟩ := k52_openM hMe839
            have hv839_2 := hcc839 2 _ rfl
            rw [add_field _ _ 2 (by omega)] at hv839_2
            replace hv839_2 := Option.some.inj (hv839_2.symm.trans hx839_2)
            rw [hv839_2] at ge839_2
            have HL839_2 := am (show Kd.R Kd.string 9 _ _ _ _ ((T52 t836 x34_3).f2) from ge839_2)
            clear hv839_2 ge839_2
            have hv839_5 := hcc839 5 _ rfl
            rw [add_field _ _ 5 (by omega)] at hv839_5
            replace hv839_5 := Option.some.inj (hv839_5.symm.trans hx839_5)
            rw [hv839_5] at ge839_5
            have HL839_5 := am (show Kd.R Kd.string 9 _ _ _ _ ((T52 t836 x34_3).f5) from ge839_5)
            clear hv839_5 ge839_5
            clear hcc839 hce839
            have HR839_2 := am hi839_2
            have HC839_2 := am hl839_2
            clear hi839_2 hl839_2
            have HR839_5 := am hi839_5
            have HC839_5 := am hl839_5
            clear hi839_5 hl839_5
            replace p839 := eq_true p839
            replace q839 := eq_true q839
            go_wp2_with (((with_reducible refine gate_dst (N := 9) rfl ?_); (try (refine gate_guard (by rfl) ?_; dsimp only)); refine box_event ?hg (N := 9) ?hd (cs := #[.int .i64 0, .int .i64 0, .slice none 0 0, .int .i64 0, .int .i64 0, .slice none 0 0]) (t := 52) ?hr ?_; (case hd => rfl); (case hg => rfl); (case hr => (go_simp; done)); intro gb840 hg w31 hbox hb; replace HO_7 := am (Kd.S_below (zs HO_7.out) hb); replace HO_32 := am (Kd.S_below (Kd.S_elderB (zs HO_32.out) gb840 (Nat.le_of_eq hg.symm)) hb); replace HL839_2 := am (Kd.R_below (zr HL839_2.out) hb); replace HL839_5 := am (Kd.R_below (zr HL839_5.out) hb); replace HR839_2 := am (Kd.C_below (by repeat ((with_reducible exact HR839_2.out))) hb); replace HR839_5 := am (Kd.C_below (by repeat ((with_reducible exact HR839_5.out))) hb); have BK840 := am (hbox); have GW840 := am ((by rw [hg]; exact (below_size zb) : w.heap.size ≤ gb840)); have GE840 := am ((by rw [hg]; exact (below_size zb) : w.heap.size ≤ gb840)); replace HB := am (below_step zb hb); clear hb hbox hg; obtain ⟨hcz32_0, hcz32_1, hcz32_2, hcz32_3, hcz32_4, hcz32_5⟩ := cz6 BK840.out; obtain ⟨hfz32_0, hfz32_1, hfz32_2, hfz32_3, hfz32_4, hfz32_5⟩ := fz6 BK840.out; have p841 : 0 ≤ (x34_3 : Int) := oa; have q841 : x34_3 < (l1.length : Int) := oa; obtain ⟨ad841, A841_2, c841_2, A841_5, c841_5, e841, hx841_0, hx841_1, hx841_2, hx841_3, hx841_4, hx841_5, hl841_2, hi841_2, hl841_5, hi841_5⟩ := at_T52 HR1.out x34_3 p841 q841; cases e841; have hn841_0 : ad841.block ≠ gb840 := Nat.ne_of_lt (Nat.lt_of_lt_of_le (zl hx841_0) GW840.out); have hn841_1 : ad841.block ≠ gb840 := Nat.ne_of_lt (Nat.lt_of_lt_of_le (zl hx841_0) GW840.out); have hn841_2 : ad841.block ≠ gb840 := Nat.ne_of_lt (Nat.lt_of_lt_of_le (zl hx841_0) GW840.out); have hn841_3 : ad841.block ≠ gb840 := Nat.ne_of_lt (Nat.lt_of_lt_of_le (zl hx841_0) GW840.out); have hn841_4 : ad841.block ≠ gb840 := Nat.ne_of_lt (Nat.lt_of_lt_of_le (zl hx841_0) GW840.out); have hn841_5 : ad841.block ≠ gb840 := Nat.ne_of_lt (Nat.lt_of_lt_of_le (zl hx841_0) GW840.out); replace hx841_0 := (HB.out.cell (World.block_lt_of_cell? w _ hx841_0)).trans hx841_0; replace hx841_1 := (HB.out.cell (World.block_lt_of_cell? w _ hx841_1)).trans hx841_1; replace hx841_2 := (HB.out.cell (World.block_lt_of_cell? w _ hx841_2)).trans hx841_2; have hz841_2 := fun (n_ : Nat) => (show (w31.drewN n_).cell? _ = some _ from hx841_2); replace hx841_3 := (HB.out.cell (World.block_lt_of_cell? w _ hx841_3)).trans hx841_3; have hz841_3 := fun (n_ : Nat) => (show (w31.drewN n_).cell? _ = some _ from hx841_3); replace hx841_4 := (HB.out.cell (World.block_lt_of_cell? w _ hx841_4)).trans hx841_4; replace hx841_5 := (HB.out.cell (World.block_lt_of_cell? w _ hx841_5)).trans hx841_5; have HR841_2 := am hi841_2; have HC841_2 := am hl841_2; clear hi841_2 hl841_2; have HR841_5 := am hi841_5; have HC841_5 := am hl841_5; clear hi841_5 hl841_5; replace hx841_2 := (cell_far (p := ⟨gb840, 0, none⟩) (zn hn841_0) (.int .i64 ((T52 t836 x34_3).f0))).trans hx841_2; replace hx841_3 := (cell_far (p := ⟨gb840, 0, none⟩) (zn hn841_0) (.int .i64 ((T52 t836 x34_3).f0))).trans hx841_3; replace hx841_2 := (cell_far (p := ⟨gb840, 1, none⟩) (zn hn841_1) (.int .i64 ((T52 t836 x34_3).f1))).trans hx841_2; replace hx841_3 := (cell_far (p := ⟨gb840, 1, none⟩) (zn hn841_1) (.int .i64 ((T52 t836 x34_3).f1))).trans hx841_3; replace hx841_2 := (cell_far (p := ⟨gb840, 2, none⟩) (zn hn841_2) (.slice A839_2 ((T52 t836 x34_3).f2).length c839_2)).trans hx841_2; replace hx841_3 := (cell_far (p := ⟨gb840, 2, none⟩) (zn hn841_2) (.slice A839_2 ((T52 t836 x34_3).f2).length c839_2)).trans hx841_3; replace hx841_2 := (cell_far (p := ⟨gb840, 3, none⟩) (zn hn841_3) (.int .i64 ((T52 t836 x34_3).f3))).trans hx841_2; replace hx841_3 := (cell_far (p := ⟨gb840, 3, none⟩) (zn hn841_3) (.int .i64 ((T52 t836 x34_3).f3))).trans hx841_3; replace hx841_2 := (cell_far (p := ⟨gb840, 4, none⟩) (zn hn841_4) (.int .i64 ((T52 t836 x34_3).f4))).trans hx841_2; replace hx841_3 := (cell_far (p := ⟨gb840, 4, none⟩) (zn hn841_4) (.int .i64 ((T52 t836 x34_3).f4))).trans hx841_3; replace hx841_2 := (cell_far (p := ⟨gb840, 5, none⟩) (zn hn841_5) (.slice A839_5 ((T52 t836 x34_3).f5).length c839_5)).trans hx841_2; replace hx841_3 := (cell_far (p := ⟨gb840, 5, none⟩) (zn hn841_5) (.slice A839_5 ((T52 t836 x34_3).f5).length c839_5)).trans hx841_3; have hy841_2 := fun (n_ : Nat) => ((cell_far (p := ⟨gb840, 5, none⟩) (zn hn841_5) (.slice A839_5 ((T52 t836 x34_3).f5).length c839_5)).trans ((cell_far (p := ⟨gb840, 4, none⟩) (zn hn841_4) (.int .i64 ((T52 t836 x34_3).f4))).trans ((cell_far (p := ⟨gb840, 3, none⟩) (zn hn841_3) (.int .i64 ((T52 t836 x34_3).f3))).trans ((cell_far (p := ⟨gb840, 2, none⟩) (zn hn841_2) (.slice A839_2 ((T52 t836 x34_3).f2).length c839_2)).trans ((cell_far (p := ⟨gb840, 1, none⟩) (zn hn841_1) (.int .i64 ((T52 t836 x34_3).f1))).trans ((cell_far (p := ⟨gb840, 0, none⟩) (zn hn841_0) (.int .i64 ((T52 t836 x34_3).f0))).trans (hz841_2 n_))))))); have hy841_3 := fun (n_ : Nat) => ((cell_far (p := ⟨gb840, 5, none⟩) (zn hn841_5) (.slice A839_5 ((T52 t836 x34_3).f5).length c839_5)).trans ((cell_far (p := ⟨gb840, 4, none⟩) (zn hn841_4) (.int .i64 ((T52 t836 x34_3).f4))).trans ((cell_far (p := ⟨gb840, 3, none⟩) (zn hn841_3) (.int .i64 ((T52 t836 x34_3).f3))).trans ((cell_far (p := ⟨gb840, 2, none⟩) (zn hn841_2) (.slice A839_2 ((T52 t836 x34_3).f2).length c839_2)).trans ((cell_far (p := ⟨gb840, 1, none⟩) (zn hn841_1) (.int .i64 ((T52 t836 x34_3).f1))).trans ((cell_far (p := ⟨gb840, 0, none⟩) (zn hn841_0) (.int .i64 ((T52 t836 x34_3).f0))).trans (hz841_3 n_))))))); clear hn841_0; clear hn841_1; clear hn841_2; clear hn841_3; clear hn841_4; clear hn841_5; replace p841 := eq_true p841; replace q841 := eq_true q841))
            repeat (go_quiet ((go_at_call 38; (with_reducible refine (slices_Equal_string_string.calls k3 _ _ ((T52 t836 x34_3).f2) _ _ ((T52 l1 x34_3).f2) true _ ?side1 ?side2 ?side3 ?side4 A26.out).mono ?_); (case side1 => repeat (exact ((Kd.R_reads' (by (with_reducible repeat (apply Kd.R_drewN)); exact (Kd.R_mono (Kd.R_far (p := ⟨gb840, 5, none⟩) (Kd.R_far (p := ⟨gb840, 4, none⟩) (Kd.R_far (p := ⟨gb840, 3, none⟩) (Kd.R_far (p := ⟨gb840, 2, none⟩) (Kd.R_far (p := ⟨gb840, 1, none⟩) (Kd.R_far (p := ⟨gb840, 0, none⟩) (Kd.R_types HL839_2.out BK840.out (by decide)) (fun _ hk => hk.2) (.int .i64 ((T52 t836 x34_3).f0))) (fun _ hk => hk.2) (.int .i64 ((T52 t836 x34_3).f1))) (fun _ hk => hk.2) (.slice A839_2 ((T52 t836 x34_3).f2).length c839_2)) (fun _ hk => hk.2) (.int .i64 ((T52 t836 x34_3).f3))) (fun _ hk => hk.2) (.int .i64 ((T52 t836 x34_3).f4))) (fun _ hk => hk.2) (.slice A839_5 ((T52 t836 x34_3).f5).length c839_5)) (fun _ h_ => h_.1)))).2.2))); (case side2 => exact HC839_2.out); (case side3 => exact Kd.C_below HR841_2.out zw); (case side4 => exact HC841_2.out); rintro e w' ⟨rfl, ⟨nd, rfl⟩⟩; (try exact zd))); try go_wp2)
            go_ret3
            exact ⟨_, by rfl, by exact Kd.S_nil _ _ _ _ _, zw⟩
          ·replace c27 := Bool.eq_false_iff.mpr c27
           subst c27
           rw [if_neg nofun] at H
           simp only [Option.some.injEq, Prod.mk.injEq] at H
           obtain ⟨rfl, rfl, rfl⟩ := H
           have p839 : 0 ≤ (x34_3 : Int) := oa
           have q839 : x34_3 < (t836.length : Int) := oa
           obtain ⟨ad839, A839_2, c839_2, A839_5, c839_5, e839, hx839_0, hx839_1, hx839_2, hx839_3, hx839_4, hx839_5, hl839_2, hi839_2, hl839_5, hi839_5⟩ := at_T52 (Kd.S_reads' HO_32.out).2.2 x34_3 p839 q839
           cases e839
           obtain ⟨ce839, hce839, hMe839, hcc839⟩ := Kd.S_get HO_32.out z52 x34_3 p839 (by exact q839)
           obtain ⟨ve839_2, ve839_5, rfl, ge839_2, ge839_5⟩ := k52_openM hMe839
           have hv839_2 := hcc839 2 _ rfl
           rw [add_field _ _ 2 (by omega)] at hv839_2
           replace hv839_2 := Option.some.inj (hv839_2.symm.trans hx839_2)
           rw [hv839_2] at ge839_2
           have HL839_2 := am (show Kd.R Kd.string 9 _ _ _ _ ((T52 t836 x34_3).f2) from ge839_2)
           clear hv839_2 ge839_2
           have hv839_5 := hcc839 5 _ rfl
           rw [add_field _ _ 5 (by omega)] at hv839_5
           replace hv839_5 := Option.some.inj (hv839_5.symm.trans hx839_5)
           rw [hv839_5] at ge839_5
           have HL839_5 := am (show Kd.R Kd.string 9 _ _ _ _ ((T52 t836 x34_3).f5) from ge839_5)
           clear hv839_5 ge839_5
           clear hcc839 hce839
           have HR839_2 := am hi839_2
           have HC839_2 := am hl839_2
           clear hi839_2 hl839_2
           have HR839_5 := am hi839_5
           have HC839_5 := am hl839_5
           clear hi839_5 hl839_5
           replace p839 := eq_true p839
           replace q839 := eq_true q839
           go_wp2_with (((with_reducible refine gate_dst (N := 9) rfl ?_); (try (refine gate_guard (by rfl) ?_; dsimp only)); refine box_event ?hg (N := 9) ?hd (cs := #[.int .i64 0, .int .i64 0, .slice none 0 0, .int .i64 0, .int .i64 0, .slice none 0 0]) (t := 52) ?hr ?_; (case hd => rfl); (case hg => rfl); (case hr => (go_simp; done)); intro gb840 hg w33 hbox hb; replace HO_7 := am (Kd.S_below (zs HO_7.out) hb); replace HO_32 := am (Kd.S_below (Kd.S_elderB (zs HO_32.out) gb840 (Nat.le_of_eq hg.symm)) hb); replace HL839_2 := am (Kd.R_below (zr HL839_2.out) hb); replace HL839_5 := am (Kd.R_below (zr HL839_5.out) hb); replace HR839_2 := am (Kd.C_below (by repeat ((with_reducible exact HR839_2.out))) hb); replace HR839_5 := am (Kd.C_below (by repeat ((with_reducible exact HR839_5.out))) hb); have BK840 := am (hbox); have GW840 := am ((by rw [hg]; exact (below_size zb) : w.heap.size ≤ gb840)); have GE840 := am ((by rw [hg]; exact (below_size zb) : w.heap.size ≤ gb840)); replace HB := am (below_step zb hb); clear hb hbox hg; obtain ⟨hcz34_0, hcz34_1, hcz34_2, hcz34_3, hcz34_4, hcz34_5⟩ := cz6 BK840.out; obtain ⟨hfz34_0, hfz34_1, hfz34_2, hfz34_3, hfz34_4, hfz34_5⟩ := fz6 BK840.out; have p841 : 0 ≤ (x34_3 : Int) := oa; have q841 : x34_3 < (l1.length : Int) := oa; obtain ⟨ad841, A841_2, c841_2, A841_5, c841_5, e841, hx841_0, hx841_1, hx841_2, hx841_3, hx841_4, hx841_5, hl841_2, hi841_2, hl841_5, hi841_5⟩ := at_T52 HR1.out x34_3 p841 q841; cases e841; have hn841_0 : ad841.block ≠ gb840 := Nat.ne_of_lt (Nat.lt_of_lt_of_le (zl hx841_0) GW840.out); have hn841_1 : ad841.block ≠ gb840 := Nat.ne_of_lt (Nat.lt_of_lt_of_le (zl hx841_0) GW840.out); have hn841_2 : ad841.block ≠ gb840 := Nat.ne_of_lt (Nat.lt_of_lt_of_le (zl hx841_0) GW840.out); have hn841_3 : ad841.block ≠ gb840 := Nat.ne_of_lt (Nat.lt_of_lt_of_le (zl hx841_0) GW840.out); have hn841_4 : ad841.block ≠ gb840 := Nat.ne_of_lt (Nat.lt_of_lt_of_le (zl hx841_0) GW840.out); have hn841_5 : ad841.block ≠ gb840 := Nat.ne_of_lt (Nat.lt_of_lt_of_le (zl hx841_0) GW840.out); replace hx841_0 := (HB.out.cell (World.block_lt_of_cell? w _ hx841_0)).trans hx841_0; replace hx841_1 := (HB.out.cell (World.block_lt_of_cell? w _ hx841_1)).trans hx841_1; replace hx841_2 := (HB.out.cell (World.block_lt_of_cell? w _ hx841_2)).trans hx841_2; have hz841_2 := fun (n_ : Nat) => (show (w33.drewN n_).cell? _ = some _ from hx841_2); replace hx841_3 := (HB.out.cell (World.block_lt_of_cell? w _ hx841_3)).trans hx841_3; have hz841_3 := fun (n_ : Nat) => (show (w33.drewN n_).cell? _ = some _ from hx841_3); replace hx841_4 := (HB.out.cell (World.block_lt_of_cell? w _ hx841_4)).trans hx841_4; replace hx841_5 := (HB.out.cell (World.block_lt_of_cell? w _ hx841_5)).trans hx841_5; have HR841_2 := am hi841_2; have HC841_2 := am hl841_2; clear hi841_2 hl841_2; have HR841_5 := am hi841_5; have HC841_5 := am hl841_5; clear hi841_5 hl841_5; replace hx841_2 := (cell_far (p := ⟨gb840, 0, none⟩) (zn hn841_0) (.int .i64 ((T52 t836 x34_3).f0))).trans hx841_2; replace hx841_3 := (cell_far (p := ⟨gb840, 0, none⟩) (zn hn841_0) (.int .i64 ((T52 t836 x34_3).f0))).trans hx841_3; replace hx841_2 := (cell_far (p := ⟨gb840, 1, none⟩) (zn hn841_1) (.int .i64 ((T52 t836 x34_3).f1))).trans hx841_2; replace hx841_3 := (cell_far (p := ⟨gb840, 1, none⟩) (zn hn841_1) (.int .i64 ((T52 t836 x34_3).f1))).trans hx841_3; replace hx841_2 := (cell_far (p := ⟨gb840, 2, none⟩) (zn hn841_2) (.slice A839_2 ((T52 t836 x34_3).f2).length c839_2)).trans hx841_2; replace hx841_3 := (cell_far (p := ⟨gb840, 2, none⟩) (zn hn841_2) (.slice A839_2 ((T52 t836 x34_3).f2).length c839_2)).trans hx841_3; replace hx841_2 := (cell_far (p := ⟨gb840, 3, none⟩) (zn hn841_3) (.int .i64 ((T52 t836 x34_3).f3))).trans hx841_2; replace hx841_3 := (cell_far (p := ⟨gb840, 3, none⟩) (zn hn841_3) (.int .i64 ((T52 t836 x34_3).f3))).trans hx841_3; replace hx841_2 := (cell_far (p := ⟨gb840, 4, none⟩) (zn hn841_4) (.int .i64 ((T52 t836 x34_3).f4))).trans hx841_2; replace hx841_3 := (cell_far (p := ⟨gb840, 4, none⟩) (zn hn841_4) (.int .i64 ((T52 t836 x34_3).f4))).trans hx841_3; replace hx841_2 := (cell_far (p := ⟨gb840, 5, none⟩) (zn hn841_5) (.slice A839_5 ((T52 t836 x34_3).f5).length c839_5)).trans hx841_2; replace hx841_3 := (cell_far (p := ⟨gb840, 5, none⟩) (zn hn841_5) (.slice A839_5 ((T52 t836 x34_3).f5).length c839_5)).trans hx841_3; have hy841_2 := fun (n_ : Nat) => ((cell_far (p := ⟨gb840, 5, none⟩) (zn hn841_5) (.slice A839_5 ((T52 t836 x34_3).f5).length c839_5)).trans ((cell_far (p := ⟨gb840, 4, none⟩) (zn hn841_4) (.int .i64 ((T52 t836 x34_3).f4))).trans ((cell_far (p := ⟨gb840, 3, none⟩) (zn hn841_3) (.int .i64 ((T52 t836 x34_3).f3))).trans ((cell_far (p := ⟨gb840, 2, none⟩) (zn hn841_2) (.slice A839_2 ((T52 t836 x34_3).f2).length c839_2)).trans ((cell_far (p := ⟨gb840, 1, none⟩) (zn hn841_1) (.int .i64 ((T52 t836 x34_3).f1))).trans ((cell_far (p := ⟨gb840, 0, none⟩) (zn hn841_0) (.int .i64 ((T52 t836 x34_3).f0))).trans (hz841_2 n_))))))); have hy841_3 := fun (n_ : Nat) => ((cell_far (p := ⟨gb840, 5, none⟩) (zn hn841_5) (.slice A839_5 ((T52 t836 x34_3).f5).length c839_5)).trans ((cell_far (p := ⟨gb840, 4, none⟩) (zn hn841_4) (.int .i64 ((T52 t836 x34_3).f4))).trans ((cell_far (p := ⟨gb840, 3, none⟩) (zn hn841_3) (.int .i64 ((T52 t836 x34_3).f3))).trans ((cell_far (p := ⟨gb840, 2, none⟩) (zn hn841_2) (.slice A839_2 ((T52 t836 x34_3).f2).length c839_2)).trans ((cell_far (p := ⟨gb840, 1, none⟩) (zn hn841_1) (.int .i64 ((T52 t836 x34_3).f1))).trans ((cell_far (p := ⟨gb840, 0, none⟩) (zn hn841_0) (.int .i64 ((T52 t836 x34_3).f0))).trans (hz841_3 n_))))))); clear hn841_0; clear hn841_1; clear hn841_2; clear hn841_3; clear hn841_4; clear hn841_5; replace p841 := eq_true p841; replace q841 := eq_true q841))
           repeat (go_quiet ((go_at_call 38; (with_reducible refine (slices_Equal_string_string.calls k3 _ _ ((T52 t836 x34_3).f2) _ _ ((T52 l1 x34_3).f2) false _ ?side1 ?side2 ?side3 ?side4 A26.out).mono ?_); (case side1 => repeat (exact ((Kd.R_reads' (by (with_reducible repeat (apply Kd.R_drewN)); exact (Kd.R_mono (Kd.R_far (p := ⟨gb840, 5, none⟩) (Kd.R_far (p := ⟨gb840, 4, none⟩) (Kd.R_far (p := ⟨gb840, 3, none⟩) (Kd.R_far (p := ⟨gb840, 2, none⟩) (Kd.R_far (p := ⟨gb840, 1, none⟩) (Kd.R_far (p := ⟨gb840, 0, none⟩) (Kd.R_types HL839_2.out BK840.out (by decide)) (fun _ hk => hk.2) (.int .i64 ((T52 t836 x34_3).f0))) (fun _ hk => hk.2) (.int .i64 ((T52 t836 x34_3).f1))) (fun _ hk => hk.2) (.slice A839_2 ((T52 t836 x34_3).f2).length c839_2)) (fun _ hk => hk.2) (.int .i64 ((T52 t836 x34_3).f3))) (fun _ hk => hk.2) (.int .i64 ((T52 t836 x34_3).f4))) (fun _ hk => hk.2) (.slice A839_5 ((T52 t836 x34_3).f5).length c839_5)) (fun _ h_ => h_.1)))).2.2))); (case side2 => exact HC839_2.out); (case side3 => exact Kd.C_below HR841_2.out zw); (case side4 => exact HC841_2.out); rintro e w' ⟨rfl, ⟨nd, rfl⟩⟩; (try exact zd))); try go_wp2)
           go_ret3
           exact ⟨_, by rfl, by exact Kd.S_nil _ _ _ _ _, zw⟩
         ·rw [if_neg c22] at H
          have c22b0 : decide (x34_3 < (t836.length : Int)) = false := decide_eq_false c22
          clear c22
          simp only [Option.some.injEq, Prod.mk.injEq] at H
          obtain ⟨rfl, rfl, rfl⟩ := H
          go_wp2
          go_ret3
          exact ⟨_, by rfl, zs HO_7.out, zb⟩
end Go.Proofs.YtmcldkobejhaeaaGreatDoor.My