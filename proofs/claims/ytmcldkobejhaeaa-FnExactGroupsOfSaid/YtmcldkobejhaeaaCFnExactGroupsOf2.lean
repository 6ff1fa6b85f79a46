/- Part 2 of 5 of a proof of this sentence: The Go function loop.example/g00825/laws.FnExactGroupsOf returns true for every input, and each argument reads afterwards as it read before. No condition. -/
import Derived.Test.YtmcldkobejhaeaaProg
import Derived.Below
import Derived.Deep.Draws
import Derived.Deep.AppendLies
import Derived.Maps.AppendAt
import Derived.OwnWalk
import Derived.Laws.BytesArg
import Derived.Laws.MakeOwn
import Derived.Laws.OwnMore
import Derived.Deep.OwnRows
import Derived.Tactics
import Derived.Lib.ConvBytes
import Derived.Laws.Slices
import Derived.WalkKit
import Derived.KernelRfl
import Derived.RowKit3
import Derived.Deep.LoopGhost
import Derived.Deep.QuietTactic
import Derived.BigQuiet
import Derived.WideLaws
import Derived.Deep.DeepCutAuto
import Derived.Deep.CutBlock
import Derived.Deep.RegionHeld3
import Derived.Laws.Rows
import Derived.Lib.AppendStr
import Derived.ArgAppend
import Derived.Laws.IdiomCopy
import Derived.OrdersHeld
import Derived.Laws.BitsLemmas
import Derived.RowKit
import Derived.Lib.LazyBuf
import Derived.Laws.Sem
import Derived.DataReads
import Derived.ChangeArms
import Derived.ChangeSame
import Derived.Deep.Slices
import Derived.Test.YtmcldkobejhaeaaCFnExactGroupsOf1
namespace Go.Proofs.Ytmcldkobejhaeaa.My
open Go.RowKit Go.Proofs.YtmcldkobejhaeaaW.PrintWords Go.Proofs.YtmcldkobejhaeaaW.PrintLast Go.Proofs.YtmcldkobejhaeaaW.PrintMore
attribute [local go_sem] max2_int min2_int max_two min_two max_three min_three max_four min_four
set_option linter.unusedVariables false
set_option linter.unusedSimpArgs false
theorem am {p : Prop} (h : p) : Aside0 p := ⟨h⟩
theorem zN {q p : Prop} (b : q) (h : q → p := by intro hz_; (with_reducible repeat (first | apply Kd.N_alloc | apply Kd.N_drewN | apply Kd.N_drew)); exact hz_) : p := h b
def errW : Option Int → Value
  | none => .nilIface
  | some c => .iface 0 (.int .i64 c)
theorem errW_none : errW none = .nilIface := rfl
theorem errW_some (c : Int) : errW (some c) = .iface 0 (.int .i64 c) := rfl
theorem info9 : (Try.prog.info? 9).map (fun i => (i.zero, i.size, i.bytes)) = some (some (.string ⟨#[]⟩), 1, 16) := by kernel_rfl
theorem info73 : (Try.prog.info? 73).map (fun i => (i.zero, i.size, i.bytes)) = some (some (.agg #[(.int .i64 0), (.int .i64 0), (.slice none 0 0)]), 3, 40) := by kernel_rfl
theorem info106 : (Try.prog.info? 106).map (fun i => (i.zero, i.size, i.bytes)) = some (some (.agg #[(.int .i64 0), (.int .i64 0), (.slice none 0 0)]), 3, 40) := by kernel_rfl
theorem info140 : (Try.prog.info? 140).map (fun i => (i.zero, i.size, i.bytes)) = some (some (.agg #[(.int .i64 0), (.string ⟨#[]⟩)]), 2, 24) := by kernel_rfl
abbrev Y : Bool := true
abbrev O : Bool := false
theorem qa {α : Type} (xs : List α) (i : Nat) (v : α) : xs.toArray.setIfInBounds i v = (xs.set i v).toArray := List.setIfInBounds_toArray ..
theorem qb {α : Type} (x v : α) (xs : List α) : (x :: xs).set 0 v = v :: xs := rfl
theorem qc {α : Type} (x v : α) (xs : List α) (i : Nat) : (x :: xs).set (i + 1) v = x :: xs.set i v := rfl
theorem zb {p : Prop} (h : p := by repeat (first | (with_reducible first | exact HB.out | apply below_alloc | apply pw_below_drewN | apply below_drew1) | exact HB.out)) : p := h
theorem zk {q p : Prop} (b : q) (h : q → p := by intro hz_; (with_reducible repeat (first | refine blk_drewN ?_ _ | refine blk_drew ?_ | refine blk_alloc ?_ _)); exact hz_) : p := h b
theorem zs {q p : Prop} (b : q) (h : q → p := by intro hz_; (with_reducible repeat (first | apply Kd.S_alloc | apply Kd.S_drewN | apply Kd.S_drew)); exact hz_) : p := h b
theorem zr {q p : Prop} (b : q) (h : q → p := by intro hz_; (with_reducible repeat (first | apply Kd.R_alloc | apply Kd.R_drewN | apply Kd.R_drew)); exact hz_) : p := h b
theorem zf {p : Prop} (h : p := by first | rfl | (simp; done) | (simp [*]; done)) : p := h
theorem zq {q p : Prop} (b : q) (h : q → p := by intro hz_; repeat (first | exact hz_ | (with_reducible refine Kd.C_alloc ?_ _) | (with_reducible refine Kd.C_drewN ?_ _) | (with_reducible refine Kd.C_drew ?_))) : p := h b
theorem zm {p : Prop} (h : p := by (try simp only [List.map_toArray, List.map_cons, List.map_nil]); first | done | rfl | (simp only [List.length_drop, List.length_take]; rfl)) : p := h
theorem zd {p : Prop} (h : p := by first | exact ⟨rfl, _, World.drewN_drewN _ _ _⟩ | exact ⟨rfl, _, Eq.trans (World.drewN_drewN _ _ _) (congrArg (World.drewN _) (Nat.add_assoc _ _ _))⟩) : p := h
theorem zx {p : Prop} (h : p := by exact any_of HT_.out (by kernel_rfl)) : p := h
theorem gateC {P : Program} {ops : Array Oper} {Q : Exit → Act → World → Prop} {rest : List Oper} {o : Oper} {a : Act} {W : World} {f : FuncId} {xs : Array Operand} {ts : Array TypeId} (_ : o.op = .call { callee := .value (.func f), args := xs, argTypes := ts }) (h : wpList P ops Q (o :: rest) a W) : wpList P ops Q (o :: rest) a W := h
theorem gateB {P : Program} {ops : Array Oper} {Q : Exit → Act → World → Prop} {rest : List Oper} {o : Oper} {a : Act} {W : World} {b : Builtin} {xs : Array Operand} {ts : Array TypeId} (_ : o.op = .call { callee := .builtin b, args := xs, argTypes := ts }) (h : wpList P ops Q (o :: rest) a W) : wpList P ops Q (o :: rest) a W := h
theorem oa {p : Prop} [Decidable p] (h : decide p = true := by first | (with_reducible assumption) | assumption) : p := of_decide_eq_true h
structure S115 where
  f0 : Int
  f1 : Int
  f2 : (List ByteArray)
def z115 : S115 := ⟨(0 : Int), (0 : Int), ([] : List ByteArray)⟩
def k115 : Kd S115 := Kd.iso (Kd.pair (Kd.int .i64) (Kd.pair (Kd.int .i64) (Kd.slice 9 Kd.string))) (fun x : S115 => (x.f0, x.f1, x.f2))
theorem k115_open {w : World} {x : S115} {cs : List Value} (h : k115.K w x cs) : ∃ A2 c2, cs = [.int .i64 x.f0, .int .i64 x.f1, .slice A2 x.f2.length c2] ∧ x.f2.length ≤ c2 ∧ Kd.string.C w A2 x.f2.length x.f2 := by
  obtain ⟨_, _, rfl, rfl, ⟨_, _, rfl, rfl, ⟨A2, c2, rfl, l2, g2⟩⟩⟩ := h
  exact ⟨A2, c2, rfl, l2, g2⟩
def T115 (xs : List S115) (i : Int) : S115 := xs.getD i.toNat z115
theorem at_T115 {w : World} {A : Option Addr} {n : Nat} {xs : List S115} (h : Kd.C k115 w A n xs) (i : Int) (h0 : 0 ≤ i) (h1 : i < n) : ∃ ad A2 c2, A = some ad ∧ w.cell? (ad.add (i.toNat * 3)) = some (.int .i64 (T115 xs i).f0) ∧ w.cell? ⟨(ad.add (i.toNat * 3)).block, (ad.add (i.toNat * 3)).off + 1, none⟩ = some (.int .i64 (T115 xs i).f1) ∧ w.cell? ⟨(ad.add (i.toNat * 3)).block, (ad.add (i.toNat * 3)).off + 2, none⟩ = some (.slice A2 (T115 xs i).f2.length c2) ∧ (T115 xs i).f2.length ≤ c2 ∧ Kd.string.C w A2 (T115 xs i).f2.length (T115 xs i).f2 := by
  obtain ⟨ad, c, e, _, hK, hc0⟩ := Kd.C_get h z115 i h0 h1
  have hc : ∀ j u, c[j]? = some u → w.cell? (ad.add (i.toNat * 3 + j)) = some u := hc0
  obtain ⟨A2, c2, rfl, l2, g2⟩ := k115_open hK
  exact ⟨ad, A2, c2, e, hc 0 _ rfl, by rw [← add_field _ _ 1 (by omega)]; exact hc 1 _ rfl, by rw [← add_field _ _ 2 (by omega)]; exact hc 2 _ rfl, l2, g2⟩
structure S106 where
  f0 : Int
  f1 : Int
  f2 : (List ByteArray)
def z106 : S106 := ⟨(0 : Int), (0 : Int), ([] : List ByteArray)⟩
def k106 : Kd S106 := Kd.iso (Kd.pair (Kd.int .i64) (Kd.pair (Kd.int .i64) (Kd.slice 9 Kd.string))) (fun x : S106 => (x.f0, x.f1, x.f2))
theorem k106_open {w : World} {x : S106} {cs : List Value} (h : k106.K w x cs) : ∃ A2 c2, cs = [.int .i64 x.f0, .int .i64 x.f1, .slice A2 x.f2.length c2] ∧ x.f2.length ≤ c2 ∧ Kd.string.C w A2 x.f2.length x.f2 := by
  obtain ⟨_, _, rfl, rfl, ⟨_, _, rfl, rfl, ⟨A2, c2, rfl, l2, g2⟩⟩⟩ := h
  exact ⟨A2, c2, rfl, l2, g2⟩
theorem k106_openM {w : World} {base : Nat} {ok : Nat → Prop} {x : S106} {cs : List Value} (h : k106.M w base ok x cs) : ∃ v2, cs = [.int .i64 x.f0, .int .i64 x.f1, v2] ∧ Kd.string.R 9 w base ok v2 x.f2 := by
  obtain ⟨_, _, rfl, rfl, ⟨_, _, rfl, rfl, ⟨v2, rfl, g2⟩⟩⟩ := h
  exact ⟨v2, rfl, g2⟩
theorem k106_mkM (w : World) (base : Nat) (ok : Nat → Prop) (x : S106) {v2 : Value} (g2 : Kd.string.R 9 w base ok v2 x.f2) : k106.M w base ok x [.int .i64 x.f0, .int .i64 x.f1, v2] := ⟨[.int .i64 x.f0], [.int .i64 x.f1, v2], rfl, rfl, ⟨[.int .i64 x.f1], [v2], rfl, rfl, ⟨v2, rfl, g2⟩⟩⟩
def T106 (xs : List S106) (i : Int) : S106 := xs.getD i.toNat z106
theorem at_T106 {w : World} {A : Option Addr} {n : Nat} {xs : List S106} (h : Kd.C k106 w A n xs) (i : Int) (h0 : 0 ≤ i) (h1 : i < n) : ∃ ad A2 c2, A = some ad ∧ w.cell? (ad.add (i.toNat * 3)) = some (.int .i64 (T106 xs i).f0) ∧ w.cell? ⟨(ad.add (i.toNat * 3)).block, (ad.add (i.toNat * 3)).off + 1, none⟩ = some (.int .i64 (T106 xs i).f1) ∧ w.cell? ⟨(ad.add (i.toNat * 3)).block, (ad.add (i.toNat * 3)).off + 2, none⟩ = some (.slice A2 (T106 xs i).f2.length c2) ∧ (T106 xs i).f2.length ≤ c2 ∧ Kd.string.C w A2 (T106 xs i).f2.length (T106 xs i).f2 := by
  obtain ⟨ad, c, e, _, hK, hc0⟩ := Kd.C_get h z106 i h0 h1
  have hc : ∀ j u, c[j]? = some u → w.cell? (ad.add (i.toNat * 3 + j)) = some u := hc0
  obtain ⟨A2, c2, rfl, l2, g2⟩ := k106_open hK
  exact ⟨ad, A2, c2, e, hc 0 _ rfl, by rw [← add_field _ _ 1 (by omega)]; exact hc 1 _ rfl, by rw [← add_field _ _ 2 (by omega)]; exact hc 2 _ rfl, l2, g2⟩
structure S140 where
  f0 : Int
  f1 : ByteArray
def z140 : S140 := ⟨(0 : Int), (⟨#[]⟩ : ByteArray)⟩
def k140 : Kd S140 := Kd.iso (Kd.pair (Kd.int .i64) Kd.string) (fun x : S140 => (x.f0, x.f1))
theorem k140_open {w : World} {x : S140} {cs : List Value} (h : k140.K w x cs) : cs = [.int .i64 x.f0, .string x.f1] := by
  obtain ⟨_, _, rfl, rfl, rfl⟩ := h
  exact rfl
theorem k140_openM {w : World} {base : Nat} {ok : Nat → Prop} {x : S140} {cs : List Value} (h : k140.M w base ok x cs) : cs = [.int .i64 x.f0, .string x.f1] := by
  obtain ⟨_, _, rfl, rfl, rfl⟩ := h
  exact rfl
theorem k140_mkM (w : World) (base : Nat) (ok : Nat → Prop) (x : S140)  : k140.M w base ok x [.int .i64 x.f0, .string x.f1] := ⟨[.int .i64 x.f0], [.string x.f1], rfl, rfl, rfl⟩
def T140 (xs : List S140) (i : Int) : S140 := xs.getD i.toNat z140
theorem at_T140 {w : World} {A : Option Addr} {n : Nat} {xs : List S140} (h : Kd.C k140 w A n xs) (i : Int) (h0 : 0 ≤ i) (h1 : i < n) : ∃ ad , A = some ad ∧ w.cell? (ad.add (i.toNat * 2)) = some (.int .i64 (T140 xs i).f0) ∧ w.cell? ⟨(ad.add (i.toNat * 2)).block, (ad.add (i.toNat * 2)).off + 1, none⟩ = some (.string (T140 xs i).f1) := by
  obtain ⟨ad, c, e, _, hK, hc0⟩ := Kd.C_get h z140 i h0 h1
  have hc : ∀ j u, c[j]? = some u → w.cell? (ad.add (i.toNat * 2 + j)) = some u := hc0
  obtain rfl := k140_open hK
  exact ⟨ad, e, hc 0 _ rfl, by rw [← add_field _ _ 1 (by omega)]; exact hc 1 _ rfl⟩
structure S73 where
  f0 : Int
  f1 : Int
  f2 : (List S140)
def z73 : S73 := ⟨(0 : Int), (0 : Int), ([] : List S140)⟩
def k73 : Kd S73 := Kd.iso (Kd.pair (Kd.int .i64) (Kd.pair (Kd.int .i64) (Kd.slice 140 k140))) (fun x : S73 => (x.f0, x.f1, x.f2))
theorem k73_open {w : World} {x : S73} {cs : List Value} (h : k73.K w x cs) : ∃ A2 c2, cs = [.int .i64 x.f0, .int .i64 x.f1, .slice A2 x.f2.length c2] ∧ x.f2.length ≤ c2 ∧ k140.C w A2 x.f2.length x.f2 := by
  obtain ⟨_, _, rfl, rfl, ⟨_, _, rfl, rfl, ⟨A2, c2, rfl, l2, g2⟩⟩⟩ := h
  exact ⟨A2, c2, rfl, l2, g2⟩
theorem k73_openM {w : World} {base : Nat} {ok : Nat → Prop} {x : S73} {cs : List Value} (h : k73.M w base ok x cs) : ∃ v2, cs = [.int .i64 x.f0, .int .i64 x.f1, v2] ∧ k140.R 140 w base ok v2 x.f2 := by
  obtain ⟨_, _, rfl, rfl, ⟨_, _, rfl, rfl, ⟨v2, rfl, g2⟩⟩⟩ := h
  exact ⟨v2, rfl, g2⟩
theorem k73_mkM (w : World) (base : Nat) (ok : Nat → Prop) (x : S73) {v2 : Value} (g2 : k140.R 140 w base ok v2 x.f2) : k73.M w base ok x [.int .i64 x.f0, .int .i64 x.f1, v2] := ⟨[.int .i64 x.f0], [.int .i64 x.f1, v2], rfl, rfl, ⟨[.int .i64 x.f1], [v2], rfl, rfl, ⟨v2, rfl, g2⟩⟩⟩
def T73 (xs : List S73) (i : Int) : S73 := xs.getD i.toNat z73
theorem at_T73 {w : World} {A : Option Addr} {n : Nat} {xs : List S73} (h : Kd.C k73 w A n xs) (i : Int) (h0 : 0 ≤ i) (h1 : i < n) : ∃ ad A2 c2, A = some ad ∧ w.cell? (ad.add (i.toNat * 3)) = some (.int .i64 (T73 xs i).f0) ∧ w.cell? ⟨(ad.add (i.toNat * 3)).block, (ad.add (i.toNat * 3)).off + 1, none⟩ = some (.int .i64 (T73 xs i).f1) ∧ w.cell? ⟨(ad.add (i.toNat * 3)).block, (ad.add (i.toNat * 3)).off + 2, none⟩ = some (.slice A2 (T73 xs i).f2.length c2) ∧ (T73 xs i).f2.length ≤ c2 ∧ k140.C w A2 (T73 xs i).f2.length (T73 xs i).f2 := by
  obtain ⟨ad, c, e, _, hK, hc0⟩ := Kd.C_get h z73 i h0 h1
  have hc : ∀ j u, c[j]? = some u → w.cell? (ad.add (i.toNat * 3 + j)) = some u := hc0
  obtain ⟨A2, c2, rfl, l2, g2⟩ := k73_open hK
  exact ⟨ad, A2, c2, e, hc 0 _ rfl, by rw [← add_field _ _ 1 (by omega)]; exact hc 1 _ rfl, by rw [← add_field _ _ 2 (by omega)]; exact hc 2 _ rfl, l2, g2⟩
structure S143 where
  f0 : Int
  f1 : ByteArray
def z143 : S143 := ⟨(0 : Int), (⟨#[]⟩ : ByteArray)⟩
def k143 : Kd S143 := Kd.iso (Kd.pair (Kd.int .i64) Kd.string) (fun x : S143 => (x.f0, x.f1))
theorem k143_open {w : World} {x : S143} {cs : List Value} (h : k143.K w x cs) : cs = [.int .i64 x.f0, .string x.f1] := by
  obtain ⟨_, _, rfl, rfl, rfl⟩ := h
  exact rfl
def T143 (xs : List S143) (i : Int) : S143 := xs.getD i.toNat z143
theorem at_T143 {w : World} {A : Option Addr} {n : Nat} {xs : List S143} (h : Kd.C k143 w A n xs) (i : Int) (h0 : 0 ≤ i) (h1 : i < n) : ∃ ad , A = some ad ∧ w.cell? (ad.add (i.toNat * 2)) = some (.int .i64 (T143 xs i).f0) ∧ w.cell? ⟨(ad.add (i.toNat * 2)).block, (ad.add (i.toNat * 2)).off + 1, none⟩ = some (.string (T143 xs i).f1) := by
  obtain ⟨ad, c, e, _, hK, hc0⟩ := Kd.C_get h z143 i h0 h1
  have hc : ∀ j u, c[j]? = some u → w.cell? (ad.add (i.toNat * 2 + j)) = some u := hc0
  obtain rfl := k143_open hK
  exact ⟨ad, e, hc 0 _ rfl, by rw [← add_field _ _ 1 (by omega)]; exact hc 1 _ rfl⟩
structure S68 where
  f0 : Int
  f1 : Int
  f2 : (List S143)
def z68 : S68 := ⟨(0 : Int), (0 : Int), ([] : List S143)⟩
def k68 : Kd S68 := Kd.iso (Kd.pair (Kd.int .i64) (Kd.pair (Kd.int .i64) (Kd.slice 143 k143))) (fun x : S68 => (x.f0, x.f1, x.f2))
theorem k68_open {w : World} {x : S68} {cs : List Value} (h : k68.K w x cs) : ∃ A2 c2, cs = [.int .i64 x.f0, .int .i64 x.f1, .slice A2 x.f2.length c2] ∧ x.f2.length ≤ c2 ∧ k143.C w A2 x.f2.length x.f2 := by
  obtain ⟨_, _, rfl, rfl, ⟨_, _, rfl, rfl, ⟨A2, c2, rfl, l2, g2⟩⟩⟩ := h
  exact ⟨A2, c2, rfl, l2, g2⟩
def T68 (xs : List S68) (i : Int) : S68 := xs.getD i.toNat z68
theorem at_T68 {w : World} {A : Option Addr} {n : Nat} {xs : List S68} (h : Kd.C k68 w A n xs) (i : Int) (h0 : 0 ≤ i) (h1 : i < n) : ∃ ad A2 c2, A = some ad ∧ w.cell? (ad.add (i.toNat * 3)) = some (.int .i64 (T68 xs i).f0) ∧ w.cell? ⟨(ad.add (i.toNat * 3)).block, (ad.add (i.toNat * 3)).off + 1, none⟩ = some (.int .i64 (T68 xs i).f1) ∧ w.cell? ⟨(ad.add (i.toNat * 3)).block, (ad.add (i.toNat * 3)).off + 2, none⟩ = some (.slice A2 (T68 xs i).f2.length c2) ∧ (T68 xs i).f2.length ≤ c2 ∧ k143.C w A2 (T68 xs i).f2.length (T68 xs i).f2 := by
  obtain ⟨ad, c, e, _, hK, hc0⟩ := Kd.C_get h z68 i h0 h1
  have hc : ∀ j u, c[j]? = some u → w.cell? (ad.add (i.toNat * 3 + j)) = some u := hc0
  obtain ⟨A2, c2, rfl, l2, g2⟩ := k68_open hK
  exact ⟨ad, A2, c2, e, hc 0 _ rfl, by rw [← add_field _ _ 1 (by omega)]; exact hc 1 _ rfl, by rw [← add_field _ _ 2 (by omega)]; exact hc 2 _ rfl, l2, g2⟩
theorem zn {q p : Prop} (b : q) (h : q → p := by intro hz_; first | (rw [add_block]; exact hz_) | (show (Addr.add _ _).block ≠ _; rw [add_block]; exact hz_) | exact hz_) : p := h b
theorem zl {q p : Prop} (b : q) (h : q → p := by intro hz_; have := World.block_lt_of_cell? _ _ hz_; first | rwa [add_block] at this | exact this) : p := h b
end Go.Proofs.Ytmcldkobejhaeaa.My
namespace Go.Proofs.Ytmcldkobejhaeaa.Opens
open Go.ChangeShapes Go.WideShapes Go.Proofs.YtmcldkobejhaeaaW.PrintWords
set_option linter.unusedVariables false
set_option linter.unusedSimpArgs false
def Opens {α : Type} (P : Program) (t : TypeId) (d : Kd α) (Q : α → Prop) : Prop :=
  ∀ (H : Type) (enc : TypeId × Value → H) (w : World) (base : Nat) (spare : Nat → Bool) (held : Bool) (n : Nat) (cs : List Value) (x : DataW H × List MemPlace),
    DataW.trod enc P w base spare held n t cs = some x → ∃ a : α, d.K w a cs ∧ Q a
theorem opens_int {P : Program} {t : TypeId} (k : IntKind) (ht : P.underlying t = some (.int k)) : Opens P t (Kd.int k) (fun z => (Lit.int k z).wf = true) := by
  intro H enc w base spare held n cs x h
  obtain ⟨z, rfl, _, hw⟩ := DataW.trod_int ht h
  exact ⟨z, rfl, hw⟩
theorem opens_string {P : Program} {t : TypeId} (ht : P.underlying t = some .string) : Opens P t Kd.string (fun s => s.size ≤ maxLen) := by
  intro H enc w base spare held n cs x h
  obtain ⟨s, rfl, _, hs⟩ := DataW.trod_string ht h
  exact ⟨s, rfl, hs⟩
theorem add_add (ad : Addr) (i j : Nat) : (ad.add i).add j = ad.add (i + j) := by
  unfold Addr.add
  by_cases h1 : i = 0 <;> by_cases h2 : j = 0 <;> simp [h1, h2, Nat.add_assoc]
theorem opens_slice {α : Type} {P : Program} {t e : TypeId} {d : Kd α} {Q : α → Prop} (ht : P.underlying t = some (.slice e)) (hc : P.cellsOf e = d.sz) (ho : Opens P e d Q) :
    Opens P t (Kd.slice e d) (fun xs => xs.length ≤ maxLen ∧ ∀ a ∈ xs, Q a) := by
  intro H enc w base spare held n cs x h
  rcases Go.Deep.open_slice ht h with ⟨rfl, _⟩ | ⟨a, len, cap, m, n', D, Pl, rfl, hb, hl, hm, hmm, rfl, hx⟩
  · refine ⟨[], ⟨none, 0, rfl, Nat.le_refl _, rfl, Nat.zero_le _, fun h => absurd h (Nat.lt_irrefl 0)⟩, by simp⟩
  · have hlm : len ≤ m := by rw [hmm]; split <;> omega
    have h1 : ∀ i, i < len → ∃ b : α × List Value, b.2.length = d.sz ∧ d.K w b.1 b.2 ∧ Q b.1 ∧ ∀ j u, b.2[j]? = some u → w.cell? (a.add (i * d.sz + j)) = some u := by
      intro i hi
      obtain ⟨cs', hcs, htr⟩ := hx i (by omega)
      rw [hc] at hcs
      obtain ⟨_, hlen, hcell⟩ := World.cells?_some hcs
      obtain ⟨b, hK, hQ⟩ := ho H enc w base spare held n' cs' _ htr
      refine ⟨(b, cs'), hlen, hK, hQ, fun j u hu => ?_⟩
      have hj : j < d.sz := by
        rw [← hlen]
        exact (List.getElem?_eq_some_iff.1 hu).1
      rw [← add_add, hcell j hj]
      exact hu
    have hne : ∀ i, i < len → Nonempty (α × List Value) := fun i hi => ⟨(h1 i hi).choose⟩
    rcases Nat.eq_zero_or_pos len with h0 | h0
    · subst h0
      exact ⟨[], ⟨some a, cap, rfl, Nat.zero_le _, rfl, Nat.zero_le _, fun h => absurd h (Nat.lt_irrefl 0)⟩, by simp⟩
    · haveI : Inhabited (α × List Value) := ⟨(h1 0 h0).choose⟩
      obtain ⟨f, hf⟩ := Go.Deep.choose_lt (p := fun i (b : α × List Value) => b.2.length = d.sz ∧ d.K w b.1 b.2 ∧ Q b.1 ∧ ∀ j u, b.2[j]? = some u → w.cell? (a.add (i * d.sz + j)) = some u) h1
      have hlen : ((List.range len).map fun i => (f i).1).length = len := by simp
      refine ⟨(List.range len).map fun i => (f i).1, ⟨some a, cap, by rw [hlen], by rw [hlen]; exact hl, by rw [hlen], by rw [hlen]; unfold maxLen at hm; omega, fun _ => ⟨a, rfl, fun j p hj => ?_⟩⟩, by rw [hlen]; omega, fun b hb => ?_⟩
      · have hjl : j < len := by
          have := (List.getElem?_eq_some_iff.1 hj).1
          simpa using this
        have hp : (f j).1 = p := by
          simp [List.getElem?_map, List.getElem?_range hjl] at hj
          exact hj
        obtain ⟨g1, g2, g3, g4⟩ := hf j hjl
        exact ⟨(f j).2, g1, hp ▸ g2, g4⟩
      · obtain ⟨i, hi, rfl⟩ := List.mem_map.1 hb
        exact (hf i (by simpa using hi)).2.2.1
def OpensL {α : Type} (P : Program) (fs : List Field) (o : Nat) (d : Kd α) (Q : α → Prop) : Prop :=
  ∀ (H : Type) (enc : TypeId × Value → H) (w : World) (base : Nat) (spare : Nat → Bool) (held : Bool) (n : Nat) (cs : List Value),
    cs.length = o + d.sz → (∀ f ∈ fs, ∃ x : DataW H × List MemPlace, DataW.trod enc P w base spare held n f.type ((cs.drop f.offset).take (P.cellsOf f.type)) = some x) → ∃ a : α, d.K w a (cs.drop o) ∧ Q a
theorem opensL_one {α : Type} {P : Program} {f : Field} {o : Nat} {d : Kd α} {Q : α → Prop} (ho : f.offset = o) (hc : P.cellsOf f.type = d.sz) (h : Opens P f.type d Q) : OpensL P [f] o d Q := by
  intro H enc w base spare held n cs hl hf
  obtain ⟨x, hx⟩ := hf f (by simp)
  rw [ho, hc, List.take_of_length_le (by rw [List.length_drop]; omega)] at hx
  exact h H enc w base spare held n _ x hx
theorem opensL_cons {α β : Type} {P : Program} {f : Field} {fs : List Field} {o : Nat} {d : Kd α} {d' : Kd β} {Q : α → Prop} {Q' : β → Prop} (ho : f.offset = o) (hc : P.cellsOf f.type = d.sz) (h : Opens P f.type d Q)
    (hs : OpensL P fs (o + d.sz) d' Q') : OpensL P (f :: fs) o (Kd.pair d d') (fun x => Q x.1 ∧ Q' x.2) := by
  intro H enc w base spare held n cs hl hf
  have hl' : cs.length = o + (d.sz + d'.sz) := hl
  obtain ⟨x, hx⟩ := hf f (by simp)
  rw [ho, hc] at hx
  obtain ⟨a, hK, hQ⟩ := h H enc w base spare held n _ x hx
  obtain ⟨b, hK', hQ'⟩ := hs H enc w base spare held n cs (by omega) (fun g hg => hf g (by simp [hg]))
  refine ⟨(a, b), ⟨_, _, ?_, hK, hK'⟩, hQ, hQ'⟩
  rw [← List.drop_drop, List.take_append_drop]
theorem opens_struct {α β : Type} {P : Program} {t : TypeId} {fs : Array Field} {d : Kd α} {Q : α → Prop} (ht : P.underlying t = some (.struct fs)) (hc : P.cellsOf t = d.sz) (g : β → α) (mk : α → β) (hg : ∀ a, g (mk a) = a)
    (hs : OpensL P fs.toList 0 d Q) : Opens P t (Kd.iso d g) (fun x => Q (g x)) := by
  intro H enc w base spare held n cs x h
  obtain ⟨xs, n', _, rfl, hl, hlen, hf⟩ := DataW.trod_struct ht h
  obtain ⟨a, hK, hQ⟩ := hs H enc w base spare held n' cs (by rw [hl, hc, Nat.zero_add]) (fun f hf' => by
    obtain ⟨i, hi, rfl⟩ := List.mem_iff_getElem.1 hf'
    have hi' : i < xs.length := by rw [hlen]; simpa using hi
    refine ⟨xs[i], ?_⟩
    have := hf i fs.toList[i] (by simp [List.getElem?_eq_getElem hi])
    simpa [List.getElem?_eq_getElem hi'] using this)
  rw [List.drop_zero] at hK
  exact ⟨mk a, by show d.K w (g (mk a)) cs; rw [hg]; exact hK, by show Q (g (mk a)); rw [hg]; exact hQ⟩
theorem Opens.row {α : Type} {P : Program} {t e : TypeId} {d : Kd α} {Q : List α → Prop} (h : Opens P t (Kd.slice e d) Q) {H : Type} {enc : TypeId × Value → H} {w : World} {base : Nat} {spare : Nat → Bool} {held : Bool} {a : Option Addr} {len cap : Nat} {x : DataW H} {p : List MemPlace}
    (hr : ∃ m, DataW.trod enc P w base spare held m t (Value.slice a len cap).cells.toList = some (x, p)) :
    ∃ l : List α, l.length = len ∧ l.length ≤ cap ∧ Kd.C d w a l.length l ∧ Q l := by
  obtain ⟨m, hm⟩ := hr
  obtain ⟨l, ⟨A, c, e1, hl, hC⟩, hQ⟩ := h _ _ _ _ _ _ _ _ _ hm
  simp [Value.cells] at e1
  obtain ⟨rfl, rfl, rfl⟩ := e1
  exact ⟨l, rfl, hl, hC, hQ⟩
end Go.Proofs.Ytmcldkobejhaeaa.Opens
namespace Go.Proofs.Ytmcldkobejhaeaa.My
open Go.RowKit Go.Proofs.YtmcldkobejhaeaaW.PrintWords Go.Proofs.YtmcldkobejhaeaaW.PrintLast Go.Proofs.YtmcldkobejhaeaaW.PrintMore
attribute [local go_sem] max2_int min2_int max_two min_two max_three min_three max_four min_four
set_option linter.unusedVariables false
set_option linter.unusedSimpArgs false
open Go.Proofs.Ytmcldkobejhaeaa.Opens
def Wint (z : Int) : Prop := (Lit.int .i64 z).wf = true
def Wstr (s : ByteArray) : Prop := s.size ≤ maxLen
def WL {α : Type} (Q : α → Prop) (xs : List α) : Prop := xs.length ≤ maxLen ∧ ∀ a ∈ xs, Q a
def W115 (x : S115) : Prop := Wint x.f0 ∧ (Wint x.f1 ∧ ((WL Wstr) x.f2))
theorem opens115 : Opens Try.prog 115 k115 W115 := opens_struct Try.underlying115 (by kernel_rfl) (fun x : S115 => (x.f0, x.f1, x.f2)) (fun a => ⟨a.1, a.2.1, a.2.2⟩) (fun _ => rfl) (opensL_cons rfl (by kernel_rfl) (opens_int .i64 Try.underlying3) (opensL_cons rfl (by kernel_rfl) (opens_int .i64 Try.underlying3) (opensL_one rfl (by kernel_rfl) (opens_slice Try.underlying24 (by kernel_rfl) (opens_string Try.underlying9)))))
end Go.Proofs.Ytmcldkobejhaeaa.My
namespace Go.Proofs.Ytmcldkobejhaeaa.My
open Go.RowKit Go.Proofs.YtmcldkobejhaeaaW.PrintWords Go.Proofs.YtmcldkobejhaeaaW.PrintLast Go.Proofs.YtmcldkobejhaeaaW.PrintMore
attribute [local go_sem] max2_int min2_int max_two min_two max_three min_three max_four min_four
set_option linter.unusedVariables false
set_option linter.unusedSimpArgs false
def spec_l1Ends.f (a0 : ByteArray) : Option (Bool) := if 0 ≤ (wrap64 ((a0.size : Int) - 1)) then (if (wrap64 ((a0.size : Int) - 1)) < (a0.size : Int) then (some ((bt a0 (wrap64 ((a0.size : Int) - 1))) == 10)) else (none)) else (none)
set_option maxHeartbeats 8000000 in
set_option maxRecDepth 100000 in
theorem spec_l1Ends.calls (a0 : ByteArray) (r : Bool) (w : World) (h : spec_l1Ends.f a0 = some r) :
  Calls Try.prog 127 #[.string a0] w fun e w' => e = .returned (.bool r) ∧ Drawn0 w w' := by
 have H : (if 0 ≤ (wrap64 ((a0.size : Int) - 1)) then (if (wrap64 ((a0.size : Int) - 1)) < (a0.size : Int) then (some ((bt a0 (wrap64 ((a0.size : Int) - 1))) == 10)) else (none)) else (none)) = some r := h
 clear h
 obtain ⟨ji2, hji2⟩ : ∃ j_ : Int, (wrap64 ((a0.size : Int) - 1)) = j_ := ⟨_, rfl⟩
 replace H : (if 0 ≤ (ji2) then (if (ji2) < (a0.size : Int) then (some ((bt a0 (ji2)) == 10)) else (none)) else (none)) = some r := by first | (rw [hji2] at H; exact H) | (simp only [hji2] at H ⊢; exact H)
 have hji2w : (IntKind.i64.wrap ((a0.size : Int) - 1)) = ji2 := (i64_w _).trans hji2
 by_cases c3 : 0 ≤ (ji2)
 ·rw [if_pos c3] at H
  have c3b0 : decide (0 ≤ (ji2)) = true := decide_eq_true c3
  clear c3
  by_cases c4 : (ji2) < (a0.size : Int)
  ·rw [if_pos c4] at H
   have c4b0 : decide ((ji2) < (a0.size : Int)) = true := decide_eq_true c4
   clear c4
   obtain rfl := Option.some.inj H
   have p5 : 0 ≤ ((ji2) : Int) := oa
   have q5 : (ji2) < (a0.size : Int) := oa
   have hx5 := bt_at a0 (ji2)
   replace p5 := eq_true p5
   replace q5 := eq_true q5
   go_enter Try.func127, Try.ntmps127
   go_wp2
   go_ret
   exact ⟨by first | rfl | (simp; done) | (simp only [← hji2] <;> (first | rfl | simp)) | (simp [*]; done), by repeat (first | exact Drawn0.refl _ | apply Drawn0.step)⟩
  ·rw [if_neg c4] at H
   exact absurd H (by simp)
 ·rw [if_neg c3] at H
  exact absurd H (by simp)

def spec_l1In.f (a0 : Int) (a1 : Int) (a2 : Int) : Option (Bool) := if a0 ≥ a1 then (some (decide (a0 ≤ a2))) else (some false)
set_option maxHeartbeats 8000000 in
set_option maxRecDepth 100000 in
theorem spec_l1In.calls (a0 : Int) (a1 : Int) (a2 : Int) (r : Bool) (w : World) (h : spec_l1In.f a0 a1 a2 = some r) :
  Calls Try.prog 67 #[.int .i64 a0, .int .i64 a1, .int .i64 a2] w fun e w' => e = .returned (.bool r) ∧ Drawn0 w w' := by
 have H : (if a0 ≥ a1 then (some (decide (a0 ≤ a2))) else (some false)) = some r := h
 clear h
 by_cases c4 : a0 ≥ a1
 ·rw [if_pos c4] at H
  have c4b0 : decide (a1 ≤ a0) = true := decide_eq_true c4
  clear c4
  obtain rfl := Option.some.inj H
  go_enter Try.func67, Try.ntmps67
  go_wp2
  go_ret
  exact ⟨by first | rfl | (simp; done) | (simp [*]; done), by repeat (first | exact Drawn0.refl _ | apply Drawn0.step)⟩
 ·rw [if_neg c4] at H
  have c4b0 : decide (a1 ≤ a0) = false := decide_eq_false c4
  clear c4
  obtain rfl := Option.some.inj H
  go_enter Try.func67, Try.ntmps67
  go_wp2
  go_ret
  exact ⟨by first | rfl | (simp; done) | (simp [*]; done), by repeat (first | exact Drawn0.refl _ | apply Drawn0.step)⟩

def spec_l1Line.l0 : Nat → ByteArray → Int → Option (Bool)
 | 0, _, _ => none
 | k + 1, x0, x3 => if x3 < (wrap64 ((x0.size : Int) - 1)) then (if 0 ≤ x3 then (if x3 < (x0.size : Int) then (if (bt x0 x3) = 10 then (some false) else (spec_l1Line.l0 k x0 (wrap64 (x3 + 1)))) else (none)) else (none)) else ((spec_l1In.f (x0.size : Int) 1 30).bind fun t106 => (some t106))
def spec_l1Line.f (k : Nat) (a0 : ByteArray) : Option (Bool) := spec_l1Line.l0 k a0 0
set_option maxHeartbeats 8000000 in
set_option maxRecDepth 100000 in
theorem spec_l1Line.calls (k : Nat) (a0 : ByteArray) (r : Bool) (w : World) (h : spec_l1Line.f k a0 = some r) :
  Calls Try.prog 73 #[.string a0] w fun e w' => e = .returned (.bool r) ∧ Drawn0 w w' := by
 have H : (spec_l1Line.l0 k a0 0) = some r := h
 clear h
 have H' := am H
 clear H
 go_enter Try.func73, Try.ntmps73
 go_wp2
 go_loopg [3] k (fun kq v3 w' => ∃ (x3_1 : Int), v3 = .int .i64 x3_1 ∧ Aside0 (spec_l1Line.l0 kq a0 x3_1 = some r) ∧ Aside0 (kq ≤ k) ∧ Drawn0 w w')
 case atStart => exact ⟨(0), zf, H', ⟨Nat.le_refl _⟩, by repeat (first | exact Drawn0.refl _ | apply Drawn0.step)⟩
 case round =>
  clear H'
  obtain ⟨x3_1, rfl, HA, HK1, ⟨m1, rfl⟩⟩ := hrel
  cases gk with
  | zero => exact absurd HA.out (by simp [spec_l1Line.l0])
  | succ k1 =>
   have H := HA.out
   clear HA
   simp only [spec_l1Line.l0] at H
   by_cases c2 : x3_1 < (wrap64 ((a0.size : Int) - 1))
   ·rw [if_pos c2] at H
    have c2b0 : decide (x3_1 < (wrap64 ((a0.size : Int) - 1))) = true := decide_eq_true c2
    clear c2
    by_cases c3 : 0 ≤ x3_1
    ·rw [if_pos c3] at H
     have c3b0 : decide (0 ≤ x3_1) = true := decide_eq_true c3
     clear c3
     by_cases c4 : x3_1 < (a0.size : Int)
     ·rw [if_pos c4] at H
      have c4b0 : decide (x3_1 < (a0.size : Int)) = true := decide_eq_true c4
      clear c4
      by_cases c6 : (bt a0 x3_1) = 10
      ·rw [if_pos c6] at H
       have c6b0 : ((bt a0 x3_1) == 10) = true := beq_iff_eq.mpr c6
       have c6b1 : ((bt a0 x3_1) != 10) = false := bne_eq_false_iff_eq.mpr c6
       clear c6
       obtain rfl := Option.some.inj H
       have p5 : 0 ≤ (x3_1 : Int) := oa
       have q5 : x3_1 < (a0.size : Int) := oa
       have hx5 := bt_at a0 x3_1
       replace p5 := eq_true p5
       replace q5 := eq_true q5
       go_wp2
       go_ret
       exact ⟨by first | rfl | (simp; done) | (simp [*]; done), by repeat (first | exact Drawn0.refl _ | apply Drawn0.step)⟩
      ·rw [if_neg c6] at H
       have c6b0 : ((bt a0 x3_1) == 10) = false := beq_eq_false_iff_ne.mpr c6
       have c6b1 : ((bt a0 x3_1) != 10) = true := bne_iff_ne.mpr c6
       have H' := am H
       clear H
       have p5 : 0 ≤ (x3_1 : Int) := oa
       have q5 : x3_1 < (a0.size : Int) := oa
       have hx5 := bt_at a0 x3_1
       replace p5 := eq_true p5
       replace q5 := eq_true q5
       go_wp2
       go_roundg k1
       case measure => have := HK1.out; omega
       case rel => exact ⟨(wrap64 (x3_1 + 1)), zf, H', ⟨by have := HK1.out; omega⟩, by repeat (first | exact Drawn0.refl _ | apply Drawn0.step)⟩
     ·rw [if_neg c4] at H
      exact absurd H (by simp)
    ·rw [if_neg c3] at H
     exact absurd H (by simp)
   ·rw [if_neg c2] at H
    have c2b0 : decide (x3_1 < (wrap64 ((a0.size : Int) - 1))) = false := decide_eq_false c2
    clear c2
    replace H := Option.bind_eq_some_iff.mp H
    obtain ⟨t106, A70, H⟩ := H
    replace H : (some t106) = some r := H
    have A7 := am A70
    clear A70
    obtain rfl := Option.some.inj H
    go_wp2_with (first | ((with_reducible refine gateC (f := 67) rfl ?_); refine goesL_ (some 17) rfl rfl Try.func67 (by kernel_rfl) rfl #[.int .i64 (a0.size : Int), .int .i64 1, .int .i64 30] rfl zm ?_; (with_reducible refine (spec_l1In.calls (a0.size : Int) 1 30 t106 _ A7.out).mono ?_); rintro e w' ⟨rfl, ⟨nd, rfl⟩⟩; refine ⟨_, rfl, ?_⟩))
    go_ret
    exact ⟨by first | rfl | (simp; done) | (simp [*]; done), by repeat (first | exact Drawn0.refl _ | apply Drawn0.step)⟩

def spec_l1Good.l0 : Nat → List ByteArray → List ByteArray → Int → Int → Option (Bool)
 | 0, _, _, _, _ => none
 | k + 1, x0, x5, x6, x7 => if x7 < x6 then (if 0 ≤ x7 then (if x7 < (x5.length : Int) then ((spec_l1Line.f k (rdOf ByteArray.empty x5 x7)).bind fun t108 => (if t108 = true then (if x7 < (wrap64 ((x0.length : Int) - 1)) then ((spec_l1Ends.f (rdOf ByteArray.empty x5 x7)).bind fun t109 => (if t109 = true then (spec_l1Good.l0 k x0 x5 x6 (wrap64 (x7 + 1))) else (some false))) else (spec_l1Good.l0 k x0 x5 x6 (wrap64 (x7 + 1)))) else (some false))) else (none)) else (none)) else (some (decide ((x0.length : Int) ≤ 40)))
def spec_l1Good.f (k : Nat) (l0 : List ByteArray) : Option (Bool) := spec_l1Good.l0 k l0 l0 (l0.length : Int) 0
set_option maxHeartbeats 8000000 in
set_option maxRecDepth 100000 in
theorem spec_l1Good.calls (k : Nat) (A0 : Option Addr) (c0 : Nat) (l0 : List ByteArray) (r : Bool) (w : World) (hr0 : Kd.C Kd.string w A0 l0.length l0) (hc0 : l0.length ≤ c0) (h : spec_l1Good.f k l0 = some r) :
  Calls Try.prog 66 #[.slice A0 l0.length c0] w fun e w' => e = .returned (.bool r) ∧ Drawn0 w w' := by
 have HR0 := am hr0
 have HC0 := am hc0
 clear hr0 hc0
 have H : (spec_l1Good.l0 k l0 l0 (l0.length : Int) 0) = some r := h
 clear h
 have H' := am H
 clear H
 go_enter Try.func66, Try.ntmps66
 go_wp2
 go_loopg [7] k (fun kq v7 w' => ∃ (x7_1 : Int), v7 = .int .i64 x7_1 ∧ Aside0 (spec_l1Good.l0 kq l0 l0 (l0.length : Int) x7_1 = some r) ∧ Aside0 (kq ≤ k) ∧ Drawn0 w w')
 case atStart => exact ⟨(0), zf, H', ⟨Nat.le_refl _⟩, by repeat (first | exact Drawn0.refl _ | apply Drawn0.step)⟩
 case round =>
  clear H'
  obtain ⟨x7_1, rfl, HA, HK1, ⟨m1, rfl⟩⟩ := hrel
  cases gk with
  | zero => exact absurd HA.out (by simp [spec_l1Good.l0])
  | succ k1 =>
   have H := HA.out
   clear HA
   simp only [spec_l1Good.l0] at H
   by_cases c2 : x7_1 < (l0.length : Int)
   ·rw [if_pos c2] at H
    have c2b0 : decide (x7_1 < (l0.length : Int)) = true := decide_eq_true c2
    clear c2
    by_cases c3 : 0 ≤ x7_1
    ·rw [if_pos c3] at H
     have c3b0 : decide (0 ≤ x7_1) = true := decide_eq_true c3
     clear c3
     by_cases c4 : x7_1 < (l0.length : Int)
     ·rw [if_pos c4] at H
      have c4b0 : decide (x7_1 < (l0.length : Int)) = true := decide_eq_true c4
      clear c4
      replace H := Option.bind_eq_some_iff.mp H
      obtain ⟨t108, A50, H⟩ := H
      replace H : (if t108 = true then (if x7_1 < (wrap64 ((l0.length : Int) - 1)) then ((spec_l1Ends.f (rdOf ByteArray.empty l0 x7_1)).bind fun t109 => (if t109 = true then (spec_l1Good.l0 k1 l0 l0 (l0.length : Int) (wrap64 (x7_1 + 1))) else (some false))) else (spec_l1Good.l0 k1 l0 l0 (l0.length : Int) (wrap64 (x7_1 + 1)))) else (some false)) = some r := H
      have A5 := am A50
      clear A50
      by_cases c6 : t108 = true
      ·subst c6
       have H1 : (if x7_1 < (wrap64 ((l0.length : Int) - 1)) then ((spec_l1Ends.f (rdOf ByteArray.empty l0 x7_1)).bind fun t109 => (if t109 = true then (spec_l1Good.l0 k1 l0 l0 (l0.length : Int) (wrap64 (x7_1 + 1))) else (some false))) else (spec_l1Good.l0 k1 l0 l0 (l0.length : Int) (wrap64 (x7_1 + 1)))) = some r := by rw [if_pos rfl] at H; exact H
       clear H
       have H := H1
       clear H1
       by_cases c7 : x7_1 < (wrap64 ((l0.length : Int) - 1))
       ·rw [if_pos c7] at H
        have c7b0 : decide (x7_1 < (wrap64 ((l0.length : Int) - 1))) = true := decide_eq_true c7
        clear c7
        replace H := Option.bind_eq_some_iff.mp H
        obtain ⟨t109, A80, H⟩ := H
        replace H : (if t109 = true then (spec_l1Good.l0 k1 l0 l0 (l0.length : Int) (wrap64 (x7_1 + 1))) else (some false)) = some r := H
        have A8 := am A80
        clear A80
        by_cases c9 : t109 = true
        ·subst c9
         have H1 : (spec_l1Good.l0 k1 l0 l0 (l0.length : Int) (wrap64 (x7_1 + 1))) = some r := by rw [if_pos rfl] at H; exact H
         clear H
         have H := H1
         clear H1
         have H' := am H
         clear H
         have p107 : 0 ≤ (x7_1 : Int) := oa
         have q107 : x7_1 < (l0.length : Int) := oa
         obtain ⟨ad107, e107, hx107_0⟩ := Kd.at_string HR0.out x7_1 p107 q107
         cases e107
         replace p107 := eq_true p107
         replace q107 := eq_true q107
         go_wp2_with (first | ((with_reducible refine gateC (f := 73) rfl ?_); refine goesL_ (some 13) rfl rfl Try.func73 (by kernel_rfl) rfl #[.string (rdOf ByteArray.empty l0 x7_1)] rfl zm ?_; (with_reducible refine (spec_l1Line.calls k1 (rdOf ByteArray.empty l0 x7_1) true _ A5.out).mono ?_); rintro e w' ⟨rfl, ⟨nd, rfl⟩⟩; refine ⟨_, rfl, ?_⟩) | (go_at_call 127; (with_reducible refine (spec_l1Ends.calls (rdOf ByteArray.empty l0 x7_1) true _ A8.out).mono ?_); rintro e w' ⟨rfl, ⟨nd, rfl⟩⟩))
         go_roundg k1
         case measure => have := HK1.out; omega
         case rel => exact ⟨(wrap64 (x7_1 + 1)), zf, H', ⟨by have := HK1.out; omega⟩, by repeat (first | exact Drawn0.refl _ | apply Drawn0.step)⟩
        ·replace c9 := Bool.eq_false_iff.mpr c9
         subst c9
         have H1 : (some false) = some r := by rw [if_neg (show ¬ (false = true) by decide)] at H; exact H
         clear H
         have H := H1
         clear H1
         obtain rfl := Option.some.inj H
         have p107 : 0 ≤ (x7_1 : Int) := oa
         have q107 : x7_1 < (l0.length : Int) := oa
         obtain ⟨ad107, e107, hx107_0⟩ := Kd.at_string HR0.out x7_1 p107 q107
         cases e107
         replace p107 := eq_true p107
         replace q107 := eq_true q107
         go_wp2_with (first | ((with_reducible refine gateC (f := 73) rfl ?_); refine goesL_ (some 13) rfl rfl Try.func73 (by kernel_rfl) rfl #[.string (rdOf ByteArray.empty l0 x7_1)] rfl zm ?_; (with_reducible refine (spec_l1Line.calls k1 (rdOf ByteArray.empty l0 x7_1) true _ A5.out).mono ?_); rintro e w' ⟨rfl, ⟨nd, rfl⟩⟩; refine ⟨_, rfl, ?_⟩) | (go_at_call 127; (with_reducible refine (spec_l1Ends.calls (rdOf ByteArray.empty l0 x7_1) false _ A8.out).mono ?_); rintro e w' ⟨rfl, ⟨nd, rfl⟩⟩))
         go_ret
         exact ⟨by first | rfl | (simp; done) | (simp [*]; done), by repeat (first | exact Drawn0.refl _ | apply Drawn0.step)⟩
       ·rw [if_neg c7] at H
        have c7b0 : decide (x7_1 < (wrap64 ((l0.length : Int) - 1))) = false := decide_eq_false c7
        clear c7
        have H' := am H
        clear H
        have p107 : 0 ≤ (x7_1 : Int) := oa
        have q107 : x7_1 < (l0.length : Int) := oa
        obtain ⟨ad107, e107, hx107_0⟩ := Kd.at_string HR0.out x7_1 p107 q107
        cases e107
        replace p107 := eq_true p107
        replace q107 := eq_true q107
        go_wp2_with (first | ((with_reducible refine gateC (f := 73) rfl ?_); refine goesL_ (some 13) rfl rfl Try.func73 (by kernel_rfl) rfl #[.string (rdOf ByteArray.empty l0 x7_1)] rfl zm ?_; (with_reducible refine (spec_l1Line.calls k1 (rdOf ByteArray.empty l0 x7_1) true _ A5.out).mono ?_); rintro e w' ⟨rfl, ⟨nd, rfl⟩⟩; refine ⟨_, rfl, ?_⟩))
        go_roundg k1
        case measure => have := HK1.out; omega
        case rel => exact ⟨(wrap64 (x7_1 + 1)), zf, H', ⟨by have := HK1.out; omega⟩, by repeat (first | exact Drawn0.refl _ | apply Drawn0.step)⟩
      ·replace c6 := Bool.eq_false_iff.mpr c6
       subst c6
       have H1 : (some false) = some r := by rw [if_neg (show ¬ (false = true) by decide)] at H; exact H
       clear H
       have H := H1
       clear H1
       obtain rfl := Option.some.inj H
       have p107 : 0 ≤ (x7_1 : Int) := oa
       have q107 : x7_1 < (l0.length : Int) := oa
       obtain ⟨ad107, e107, hx107_0⟩ := Kd.at_string HR0.out x7_1 p107 q107
       cases e107
       replace p107 := eq_true p107
       replace q107 := eq_true q107
       go_wp2_with (first | ((with_reducible refine gateC (f := 73) rfl ?_); refine goesL_ (some 13) rfl rfl Try.func73 (by kernel_rfl) rfl #[.string (rdOf ByteArray.empty l0 x7_1)] rfl zm ?_; (with_reducible refine (spec_l1Line.calls k1 (rdOf ByteArray.empty l0 x7_1) false _ A5.out).mono ?_); rintro e w' ⟨rfl, ⟨nd, rfl⟩⟩; refine ⟨_, rfl, ?_⟩))
       go_ret
       exact ⟨by first | rfl | (simp; done) | (simp [*]; done), by repeat (first | exact Drawn0.refl _ | apply Drawn0.step)⟩
     ·rw [if_neg c4] at H
      exact absurd H (by simp)
    ·rw [if_neg c3] at H
     exact absurd H (by simp)
   ·rw [if_neg c2] at H
    have c2b0 : decide (x7_1 < (l0.length : Int)) = false := decide_eq_false c2
    clear c2
    obtain rfl := Option.some.inj H
    go_wp2
    go_ret
    exact ⟨by first | rfl | (simp; done) | (simp [*]; done), by repeat (first | exact Drawn0.refl _ | apply Drawn0.step)⟩

mutual
def spec_l2Hunks.l0 : Nat → Int → List (S106) → List (S106) → Int → Int → Option (Bool)
 | 0, _, _, _, _, _ => none
 | k + 1, x0, x1, x9, x10, x11 => if x11 < x10 then (if 0 ≤ x11 then (if x11 < (x9.length : Int) then (if ((T106 x9 x11).f0) < 0 then (spec_l2Hunks.j1 k x0 x1 x9 x10 x11 true ((T106 x9 x11).f0) ((T106 x9 x11).f1) ((T106 x9 x11).f2)) else (if ((T106 x9 x11).f1) < 0 then (spec_l2Hunks.j1 k x0 x1 x9 x10 x11 true ((T106 x9 x11).f0) ((T106 x9 x11).f1) ((T106 x9 x11).f2)) else (if ((T106 x9 x11).f1) > x0 then (spec_l2Hunks.j1 k x0 x1 x9 x10 x11 true ((T106 x9 x11).f0) ((T106 x9 x11).f1) ((T106 x9 x11).f2)) else (if ((T106 x9 x11).f0) > (wrap64 (x0 - ((T106 x9 x11).f1))) then (spec_l2Hunks.j1 k x0 x1 x9 x10 x11 true ((T106 x9 x11).f0) ((T106 x9 x11).f1) ((T106 x9 x11).f2)) else (if (wrap64 (((T106 x9 x11).f1) + (((T106 x9 x11).f2).length : Int))) = 0 then (spec_l2Hunks.j1 k x0 x1 x9 x10 x11 true ((T106 x9 x11).f0) ((T106 x9 x11).f1) ((T106 x9 x11).f2)) else (if (((T106 x9 x11).f2).length : Int) > 40 then (spec_l2Hunks.j1 k x0 x1 x9 x10 x11 true ((T106 x9 x11).f0) ((T106 x9 x11).f1) ((T106 x9 x11).f2)) else (if x11 > 0 then (if 0 ≤ (wrap64 (x11 - 1)) then (if (wrap64 (x11 - 1)) < (x1.length : Int) then (spec_l2Hunks.j1 k x0 x1 x9 x10 x11 (decide (((T106 x9 x11).f0) ≤ (wrap64 (((T106 x1 (wrap64 (x11 - 1))).f0) + ((T106 x1 (wrap64 (x11 - 1))).f1))))) ((T106 x9 x11).f0) ((T106 x9 x11).f1) ((T106 x9 x11).f2)) else (none)) else (none)) else (spec_l2Hunks.j1 k x0 x1 x9 x10 x11 false ((T106 x9 x11).f0) ((T106 x9 x11).f1) ((T106 x9 x11).f2))))))))) else (none)) else (none)) else (if (x1.length : Int) ≤ 20 then ((spec_l1In.f x0 0 40).bind fun t110 => (some t110)) else (some false))
def spec_l2Hunks.j1 : Nat → Int → List (S106) → List (S106) → Int → Int → Bool → Int → Int → List ByteArray → Option (Bool)
 | 0, _, _, _, _, _, _, _, _, _ => none
 | k + 1, x0, x1, x9, x10, x11, x75, x113000, x113001, x113002 => if x75 = true then (some false) else (spec_l2Hunks.l1 k x0 x1 x9 x10 x11 x113002 (x113002.length : Int) 0)
def spec_l2Hunks.l1 : Nat → Int → List (S106) → List (S106) → Int → Int → List ByteArray → Int → Int → Option (Bool)
 | 0, _, _, _, _, _, _, _, _ => none
 | k + 1, x0, x1, x9, x10, x11, x77, x78, x79 => if x79 < x78 then (if 0 ≤ x79 then (if x79 < (x77.length : Int) then ((spec_l1Line.f k (rdOf ByteArray.empty x77 x79)).bind fun t116 => (if t116 = true then (spec_l2Hunks.l1 k x0 x1 x9 x10 x11 x77 x78 (wrap64 (x79 + 1))) else (some false))) else (none)) else (none)) else (spec_l2Hunks.l0 k x0 x1 x9 x10 (wrap64 (x11 + 1)))
end
def spec_l2Hunks.f (k : Nat) (a0 : Int) (l1 : List (S106)) : Option (Bool) := spec_l2Hunks.l0 k a0 l1 l1 (l1.length : Int) 0
set_option maxHeartbeats 8000000 in
set_option maxRecDepth 100000 in
theorem spec_l2Hunks.calls (k : Nat) (a0 : Int) (A1 : Option Addr) (c1 : Nat) (l1 : List (S106)) (r : Bool) (w : World) (hr1 : Kd.C k106 w A1 l1.length l1) (hc1 : l1.length ≤ c1) (h : spec_l2Hunks.f k a0 l1 = some r) :
  Calls Try.prog 95 #[.int .i64 a0, .slice A1 l1.length c1] w fun e w' => e = .returned (.bool r) ∧ Below w.heap.size w w' := by
 have hu106 := Try.underlying106
 have HR1 := am hr1
 have HC1 := am hc1
 clear hr1 hc1
 have HB := am (Below.refl w.heap.size w)
 have H : (spec_l2Hunks.l0 k a0 l1 l1 (l1.length : Int) 0) = some r := h
 clear h
 have H' := am H
 clear H
 go_enter Try.func95, Try.ntmps95
 go_wp2
 repeat (go_quiet (fail); try go_wp2)
 go_loopg [11] k (fun kq v11 w' => ∃ (x11_1 : Int), v11 = .int .i64 x11_1 ∧ Aside0 (spec_l2Hunks.l0 kq a0 l1 l1 (l1.length : Int) x11_1 = some r) ∧ Aside0 (kq ≤ k) ∧ Aside0 (Below w.heap.size w w'))
 case atStart => exact ⟨(0), zf, H', ⟨Nat.le_refl _⟩, ⟨by repeat (first | (with_reducible first | exact HB.out | apply below_alloc | apply pw_below_drewN | apply below_drew1) | exact HB.out)⟩⟩
 case round =>
  clear H'
  try clear c1
  try clear p2
  obtain ⟨x11_1, rfl, HA, HK1, HB⟩ := hrel
  cases gk with
  | zero => exact absurd HA.out (by simp [spec_l2Hunks.l0])
  | succ k1 =>
   have H := HA.out
   clear HA
   simp only [spec_l2Hunks.l0] at H
   by_cases c3 : x11_1 < (l1.length : Int)
   ·rw [if_pos c3] at H
    have c3b0 : decide (x11_1 < (l1.length : Int)) = true := decide_eq_true c3
    clear c3
    by_cases c4 : 0 ≤ x11_1
    ·rw [if_pos c4] at H
     have c4b0 : decide (0 ≤ x11_1) = true := decide_eq_true c4
     clear c4
     by_cases c5 : x11_1 < (l1.length : Int)
     ·rw [if_pos c5] at H
      have c5b0 : decide (x11_1 < (l1.length : Int)) = true := decide_eq_true c5
      clear c5
      have HC6 := am H
      clear H
      have p111 : 0 ≤ (x11_1 : Int) := oa
      have q111 : x11_1 < (l1.length : Int) := oa
      obtain ⟨ad111, A111_2, c111_2, e111, hx111_0, hx111_1, hx111_2, hl111_2, hi111_2⟩ := at_T106 HR1.out x11_1 p111 q111
      cases e111
      replace hx111_0 := (HB.out.cell (World.block_lt_of_cell? w _ hx111_0)).trans hx111_0
      replace hx111_1 := (HB.out.cell (World.block_lt_of_cell? w _ hx111_1)).trans hx111_1
      replace hx111_2 := (HB.out.cell (World.block_lt_of_cell? w _ hx111_2)).trans hx111_2
      have HR111_2 := am hi111_2
      have HC111_2 := am hl111_2
      clear hi111_2 hl111_2
      replace p111 := eq_true p111
      replace q111 := eq_true q111
      go_upto_region 4 with (first | ((with_reducible refine gate_dst (N := 6) rfl ?_); (try (refine gate_guard (by rfl) ?_; dsimp only)); refine box_event ?hg (N := 6) ?hd (cs := #[.int .i64 0, .int .i64 0, .slice none 0 0]) (t := 106) ?hr ?_; (case hd => rfl); (case hg => rfl); (case hr => first | (go_simp; done) | (go_simp; rfl)); intro gb112 hg w7 hbox hb; have n0_ := am (below_step zb hb); have n1_ := am (hbox); have n2_ := am ((by rw [hg]; exact (below_size zb) : w.heap.size ≤ gb112)); have n3_ := am ((by rw [hg]; exact (below_size zb) : w.heap.size ≤ gb112)); clear HB; have HB := n0_; have BK112 := n1_; have GW112 := n2_; have GE112 := n3_; clear n0_ n1_ n2_ n3_; clear hb hbox hg; have hcz8_0 : w7.cell? ⟨gb112, 0, none⟩ = some (.int .i64 0) := (blk_cell BK112.out 0).trans rfl; have hcz8_1 : w7.cell? ⟨gb112, 1, none⟩ = some (.int .i64 0) := (blk_cell BK112.out 1).trans rfl; have hcz8_2 : w7.cell? ⟨gb112, 2, none⟩ = some (.slice none 0 0) := (blk_cell BK112.out 2).trans rfl; have hfz8_0 := blk_frozen BK112.out 0; have hfz8_1 := blk_frozen BK112.out 1; have hfz8_2 := blk_frozen BK112.out 2))
      repeat (go_quiet (first | ((with_reducible refine gate_dst (N := 6) rfl ?_); (try (refine gate_guard (by rfl) ?_; dsimp only)); refine box_event ?hg (N := 6) ?hd (cs := #[.int .i64 0, .int .i64 0, .slice none 0 0]) (t := 106) ?hr ?_; (case hd => rfl); (case hg => rfl); (case hr => first | (go_simp; done) | (go_simp; rfl)); intro gb112 hg w7 hbox hb; have n0_ := am (below_step zb hb); have n1_ := am (hbox); have n2_ := am ((by rw [hg]; exact (below_size zb) : w.heap.size ≤ gb112)); have n3_ := am ((by rw [hg]; exact (below_size zb) : w.heap.size ≤ gb112)); clear HB; have HB := n0_; have BK112 := n1_; have GW112 := n2_; have GE112 := n3_; clear n0_ n1_ n2_ n3_; clear hb hbox hg; have hcz8_0 : w7.cell? ⟨gb112, 0, none⟩ = some (.int .i64 0) := (blk_cell BK112.out 0).trans rfl; have hcz8_1 : w7.cell? ⟨gb112, 1, none⟩ = some (.int .i64 0) := (blk_cell BK112.out 1).trans rfl; have hcz8_2 : w7.cell? ⟨gb112, 2, none⟩ = some (.slice none 0 0) := (blk_cell BK112.out 2).trans rfl; have hfz8_0 := blk_frozen BK112.out 0; have hfz8_1 := blk_frozen BK112.out 1; have hfz8_2 := blk_frozen BK112.out 2)); go_upto_region 4 with (first | ((with_reducible refine gate_dst (N := 6) rfl ?_); (try (refine gate_guard (by rfl) ?_; dsimp only)); refine box_event ?hg (N := 6) ?hd (cs := #[.int .i64 0, .int .i64 0, .slice none 0 0]) (t := 106) ?hr ?_; (case hd => rfl); (case hg => rfl); (case hr => first | (go_simp; done) | (go_simp; rfl)); intro gb112 hg w7 hbox hb; have n0_ := am (below_step zb hb); have n1_ := am (hbox); have n2_ := am ((by rw [hg]; exact (below_size zb) : w.heap.size ≤ gb112)); have n3_ := am ((by rw [hg]; exact (below_size zb) : w.heap.size ≤ gb112)); clear HB; have HB := n0_; have BK112 := n1_; have GW112 := n2_; have GE112 := n3_; clear n0_ n1_ n2_ n3_; clear hb hbox hg; have hcz8_0 : w7.cell? ⟨gb112, 0, none⟩ = some (.int .i64 0) := (blk_cell BK112.out 0).trans rfl; have hcz8_1 : w7.cell? ⟨gb112, 1, none⟩ = some (.int .i64 0) := (blk_cell BK112.out 1).trans rfl; have hcz8_2 : w7.cell? ⟨gb112, 2, none⟩ = some (.slice none 0 0) := (blk_cell BK112.out 2).trans rfl; have hfz8_0 := blk_frozen BK112.out 0; have hfz8_1 := blk_frozen BK112.out 1; have hfz8_2 := blk_frozen BK112.out 2)))
      (try simp only [Act.put, List.setIfInBounds_toArray, List.set_cons_zero, List.set_cons_succ])
      go_cut [75] (fun v75 wc => ∃ (kq : Nat) (x75_5 : Bool), v75 = .bool x75_5 ∧ Aside0 (spec_l2Hunks.j1 kq a0 l1 l1 (l1.length : Int) x11_1 x75_5 ((T106 l1 x11_1).f0) ((T106 l1 x11_1).f1) ((T106 l1 x11_1).f2) = some r) ∧ Aside0 (kq ≤ k1) ∧ Aside0 (wc.heap[gb112]? = some (.cells #[.int .i64 ((T106 l1 x11_1).f0), .int .i64 ((T106 l1 x11_1).f1), (.slice A111_2 ((T106 l1 x11_1).f2).length c111_2)] 106 (0, 0))) ∧ Aside0 (Below w.heap.size w wc))
      case first =>
       have H := HC6.out
       clear HC6
       by_cases c9 : ((T106 l1 x11_1).f0) < 0
       ·rw [if_pos c9] at H
        have c9b0 : decide (((T106 l1 x11_1).f0) < 0) = true := decide_eq_true c9
        clear c9
        (first | rw [c9b0] | (simp only [i64_w, i32_w]; rw [c9b0]) | skip)
        have H' := am H
        clear H
        have hcz10_0 : w7.cell? ⟨gb112, 0, none⟩ = some (.int .i64 0) := (blk_cell BK112.out 0).trans rfl
        have hcz10_1 : w7.cell? ⟨gb112, 1, none⟩ = some (.int .i64 0) := (blk_cell BK112.out 1).trans rfl
        have hcz10_2 : w7.cell? ⟨gb112, 2, none⟩ = some (.slice none 0 0) := (blk_cell BK112.out 2).trans rfl
        have hfz10_0 := blk_frozen BK112.out 0
        have hfz10_1 := blk_frozen BK112.out 1
        have hfz10_2 := blk_frozen BK112.out 2
        go_wp2
        repeat (go_quiet (fail); try go_wp2)
        go_meet
        case rel => exact ⟨_, (true), zf, H', ⟨by have := HK1.out; first | omega | exact Nat.le_refl _⟩, ⟨by (with_reducible repeat (first | refine blk_drewN ?_ _ | refine blk_drew ?_ | refine blk_alloc ?_ _)); refine blk_put (cs := #[.int .i64 ((T106 l1 x11_1).f0), .int .i64 ((T106 l1 x11_1).f1), .slice none 0 0]) ?_ 2 _ rfl; (with_reducible repeat (first | refine blk_drewN ?_ _ | refine blk_drew ?_ | refine blk_alloc ?_ _)); refine blk_put (cs := #[.int .i64 ((T106 l1 x11_1).f0), .int .i64 0, .slice none 0 0]) ?_ 1 _ rfl; (with_reducible repeat (first | refine blk_drewN ?_ _ | refine blk_drew ?_ | refine blk_alloc ?_ _)); refine blk_put (cs := #[.int .i64 0, .int .i64 0, .slice none 0 0]) ?_ 0 _ rfl; (with_reducible repeat (first | refine blk_drewN ?_ _ | refine blk_drew ?_ | refine blk_alloc ?_ _)); exact BK112.out⟩, ⟨by repeat (first | (with_reducible first | exact HB.out | apply below_alloc | apply pw_below_drewN | apply below_drew1 | refine below_set ?_ GE112.out) | exact HB.out)⟩⟩
       ·rw [if_neg c9] at H
        have c9b0 : decide (((T106 l1 x11_1).f0) < 0) = false := decide_eq_false c9
        clear c9
        (first | rw [c9b0] | (simp only [i64_w, i32_w]; rw [c9b0]) | skip)
        by_cases c11 : ((T106 l1 x11_1).f1) < 0
        ·rw [if_pos c11] at H
         have c11b0 : decide (((T106 l1 x11_1).f1) < 0) = true := decide_eq_true c11
         clear c11
         have H' := am H
         clear H
         have hcz12_0 : w7.cell? ⟨gb112, 0, none⟩ = some (.int .i64 0) := (blk_cell BK112.out 0).trans rfl
         have hcz12_1 : w7.cell? ⟨gb112, 1, none⟩ = some (.int .i64 0) := (blk_cell BK112.out 1).trans rfl
         have hcz12_2 : w7.cell? ⟨gb112, 2, none⟩ = some (.slice none 0 0) := (blk_cell BK112.out 2).trans rfl
         have hfz12_0 := blk_frozen BK112.out 0
         have hfz12_1 := blk_frozen BK112.out 1
         have hfz12_2 := blk_frozen BK112.out 2
         go_wp2
         repeat (go_quiet (fail); try go_wp2)
         go_meet
         case rel => exact ⟨_, (true), zf, H', ⟨by have := HK1.out; first | omega | exact Nat.le_refl _⟩, ⟨by (with_reducible repeat (first | refine blk_drewN ?_ _ | refine blk_drew ?_ | refine blk_alloc ?_ _)); refine blk_put (cs := #[.int .i64 ((T106 l1 x11_1).f0), .int .i64 ((T106 l1 x11_1).f1), .slice none 0 0]) ?_ 2 _ rfl; (with_reducible repeat (first | refine blk_drewN ?_ _ | refine blk_drew ?_ | refine blk_alloc ?_ _)); refine blk_put (cs := #[.int .i64 ((T106 l1 x11_1).f0), .int .i64 0, .slice none 0 0]) ?_ 1 _ rfl; (with_reducible repeat (first | refine blk_drewN ?_ _ | refine blk_drew ?_ | refine blk_alloc ?_ _)); refine blk_put (cs := #[.int .i64 0, .int .i64 0, .slice none 0 0]) ?_ 0 _ rfl; (with_reducible repeat (first | refine blk_drewN ?_ _ | refine blk_drew ?_ | refine blk_alloc ?_ _)); exact BK112.out⟩, ⟨by repeat (first | (with_reducible first | exact HB.out | apply below_alloc | apply pw_below_drewN | apply below_drew1 | refine below_set ?_ GE112.out) | exact HB.out)⟩⟩
        ·rw [if_neg c11] at H
         have c11b0 : decide (((T106 l1 x11_1).f1) < 0) = false := decide_eq_false c11
         clear c11
         by_cases c13 : ((T106 l1 x11_1).f1) > a0
         ·rw [if_pos c13] at H
          have c13b0 : decide (a0 < ((T106 l1 x11_1).f1)) = true := decide_eq_true c13
          clear c13
          have H' := am H
          clear H
          have hcz14_0 : w7.cell? ⟨gb112, 0, none⟩ = some (.int .i64 0) := (blk_cell BK112.out 0).trans rfl
          have hcz14_1 : w7.cell? ⟨gb112, 1, none⟩ = some (.int .i64 0) := (blk_cell BK112.out 1).trans rfl
          have hcz14_2 : w7.cell? ⟨gb112, 2, none⟩ = some (.slice none 0 0) := (blk_cell BK112.out 2).trans rfl
          have hfz14_0 := blk_frozen BK112.out 0
          have hfz14_1 := blk_frozen BK112.out 1
          have hfz14_2 := blk_frozen BK112.out 2
          go_wp2
          repeat (go_quiet (fail); try go_wp2)
          go_meet
          case rel => exact ⟨_, (true), zf, H', ⟨by have := HK1.out; first | omega | exact Nat.le_refl _⟩, ⟨by (with_reducible repeat (first | refine blk_drewN ?_ _ | refine blk_drew ?_ | refine blk_alloc ?_ _)); refine blk_put (cs := #[.int .i64 ((T106 l1 x11_1).f0), .int .i64 ((T106 l1 x11_1).f1), .slice none 0 0]) ?_ 2 _ rfl; (with_reducible repeat (first | refine blk_drewN ?_ _ | refine blk_drew ?_ | refine blk_alloc ?_ _)); refine blk_put (cs := #[.int .i64 ((T106 l1 x11_1).f0), .int .i64 0, .slice none 0 0]) ?_ 1 _ rfl; (with_reducible repeat (first | refine blk_drewN ?_ _ | refine blk_drew ?_ | refine blk_alloc ?_ _)); refine blk_put (cs := #[.int .i64 0, .int .i64 0, .slice none 0 0]) ?_ 0 _ rfl; (with_reducible repeat (first | refine blk_drewN ?_ _ | refine blk_drew ?_ | refine blk_alloc ?_ _)); exact BK112.out⟩, ⟨by repeat (first | (with_reducible first | exact HB.out | apply below_alloc | apply pw_below_drewN | apply below_drew1 | refine below_set ?_ GE112.out) | exact HB.out)⟩⟩
         ·rw [if_neg c13] at H
          have c13b0 : decide (a0 < ((T106 l1 x11_1).f1)) = false := decide_eq_false c13
          clear c13
          by_cases c15 : ((T106 l1 x11_1).f0) > (wrap64 (a0 - ((T106 l1 x11_1).f1)))
          ·rw [if_pos c15] at H
           have c15b0 : decide ((wrap64 (a0 - ((T106 l1 x11_1).f1))) < ((T106 l1 x11_1).f0)) = true := decide_eq_true c15
           clear c15
           have H' := am H
           clear H
           have hcz16_0 : w7.cell? ⟨gb112, 0, none⟩ = some (.int .i64 0) := (blk_cell BK112.out 0).trans rfl
           have hcz16_1 : w7.cell? ⟨gb112, 1, none⟩ = some (.int .i64 0) := (blk_cell BK112.out 1).trans rfl
           have hcz16_2 : w7.cell? ⟨gb112, 2, none⟩ = some (.slice none 0 0) := (blk_cell BK112.out 2).trans rfl
           have hfz16_0 := blk_frozen BK112.out 0
           have hfz16_1 := blk_frozen BK112.out 1
           have hfz16_2 := blk_frozen BK112.out 2
           go_wp2
           repeat (go_quiet (fail); try go_wp2)
           go_meet
           case rel => exact ⟨_, (true), zf, H', ⟨by have := HK1.out; first | omega | exact Nat.le_refl _⟩, ⟨by (with_reducible repeat (first | refine blk_drewN ?_ _ | refine blk_drew ?_ | refine blk_alloc ?_ _)); refine blk_put (cs := #[.int .i64 ((T106 l1 x11_1).f0), .int .i64 ((T106 l1 x11_1).f1), .slice none 0 0]) ?_ 2 _ rfl; (with_reducible repeat (first | refine blk_drewN ?_ _ | refine blk_drew ?_ | refine blk_alloc ?_ _)); refine blk_put (cs := #[.int .i64 ((T106 l1 x11_1).f0), .int .i64 0, .slice none 0 0]) ?_ 1 _ rfl; (with_reducible repeat (first | refine blk_drewN ?_ _ | refine blk_drew ?_ | refine blk_alloc ?_ _)); refine blk_put (cs := #[.int .i64 0, .int .i64 0, .slice none 0 0]) ?_ 0 _ rfl; (with_reducible repeat (first | refine blk_drewN ?_ _ | refine blk_drew ?_ | refine blk_alloc ?_ _)); exact BK112.out⟩, ⟨by repeat (first | (with_reducible first | exact HB.out | apply below_alloc | apply pw_below_drewN | apply below_drew1 | refine below_set ?_ GE112.out) | exact HB.out)⟩⟩
          ·rw [if_neg c15] at H
           have c15b0 : decide ((wrap64 (a0 - ((T106 l1 x11_1).f1))) < ((T106 l1 x11_1).f0)) = false := decide_eq_false c15
           clear c15
           by_cases c17 : (wrap64 (((T106 l1 x11_1).f1) + (((T106 l1 x11_1).f2).length : Int))) = 0
           ·rw [if_pos c17] at H
            have c17b0 : ((wrap64 (((T106 l1 x11_1).f1) + (((T106 l1 x11_1).f2).length : Int))) == 0) = true := beq_iff_eq.mpr c17
            have c17b1 : ((wrap64 (((T106 l1 x11_1).f1) + (((T106 l1 x11_1).f2).length : Int))) != 0) = false := bne_eq_false_iff_eq.mpr c17
            clear c17
            have H' := am H
            clear H
            have hcz18_0 : w7.cell? ⟨gb112, 0, none⟩ = some (.int .i64 0) := (blk_cell BK112.out 0).trans rfl
            have hcz18_1 : w7.cell? ⟨gb112, 1, none⟩ = some (.int .i64 0) := (blk_cell BK112.out 1).trans rfl
            have hcz18_2 : w7.cell? ⟨gb112, 2, none⟩ = some (.slice none 0 0) := (blk_cell BK112.out 2).trans rfl
            have hfz18_0 := blk_frozen BK112.out 0
            have hfz18_1 := blk_frozen BK112.out 1
            have hfz18_2 := blk_frozen BK112.out 2
            go_wp2
            repeat (go_quiet (fail); try go_wp2)
            go_meet
            case rel => exact ⟨_, (true), zf, H', ⟨by have := HK1.out; first | omega | exact Nat.le_refl _⟩, ⟨by (with_reducible repeat (first | refine blk_drewN ?_ _ | refine blk_drew ?_ | refine blk_alloc ?_ _)); refine blk_put (cs := #[.int .i64 ((T106 l1 x11_1).f0), .int .i64 ((T106 l1 x11_1).f1), .slice none 0 0]) ?_ 2 _ rfl; (with_reducible repeat (first | refine blk_drewN ?_ _ | refine blk_drew ?_ | refine blk_alloc ?_ _)); refine blk_put (cs := #[.int .i64 ((T106 l1 x11_1).f0), .int .i64 0, .slice none 0 0]) ?_ 1 _ rfl; (with_reducible repeat (first | refine blk_drewN ?_ _ | refine blk_drew ?_ | refine blk_alloc ?_ _)); refine blk_put (cs := #[.int .i64 0, .int .i64 0, .slice none 0 0]) ?_ 0 _ rfl; (with_reducible repeat (first | refine blk_drewN ?_ _ | refine blk_drew ?_ | refine blk_alloc ?_ _)); exact BK112.out⟩, ⟨by repeat (first | (with_reducible first | exact HB.out | apply below_alloc | apply pw_below_drewN | apply below_drew1 | refine below_set ?_ GE112.out) | exact HB.out)⟩⟩
           ·rw [if_neg c17] at H
            have c17b0 : ((wrap64 (((T106 l1 x11_1).f1) + (((T106 l1 x11_1).f2).length : Int))) == 0) = false := beq_eq_false_iff_ne.mpr c17
            have c17b1 : ((wrap64 (((T106 l1 x11_1).f1) + (((T106 l1 x11_1).f2).length : Int))) != 0) = true := bne_iff_ne.mpr c17
            by_cases c19 : (((T106 l1 x11_1).f2).length : Int) > 40
            ·rw [if_pos c19] at H
             have c19b0 : decide (40 < (((T106 l1 x11_1).f2).length : Int)) = true := decide_eq_true c19
             have c19b1 : decide (40 < ((T106 l1 x11_1).f2).length) = true := decide_eq_true (by omega)
             clear c19
             have H' := am H
             clear H
             have hcz20_0 : w7.cell? ⟨gb112, 0, none⟩ = some (.int .i64 0) := (blk_cell BK112.out 0).trans rfl
             have hcz20_1 : w7.cell? ⟨gb112, 1, none⟩ = some (.int .i64 0) := (blk_cell BK112.out 1).trans rfl
             have hcz20_2 : w7.cell? ⟨gb112, 2, none⟩ = some (.slice none 0 0) := (blk_cell BK112.out 2).trans rfl
             have hfz20_0 := blk_frozen BK112.out 0
             have hfz20_1 := blk_frozen BK112.out 1
             have hfz20_2 := blk_frozen BK112.out 2
             go_wp2
             repeat (go_quiet (fail); try go_wp2)
             go_meet
             case rel => exact ⟨_, (true), zf, H', ⟨by have := HK1.out; first | omega | exact Nat.le_refl _⟩, ⟨by (with_reducible repeat (first | refine blk_drewN ?_ _ | refine blk_drew ?_ | refine blk_alloc ?_ _)); refine blk_put (cs := #[.int .i64 ((T106 l1 x11_1).f0), .int .i64 ((T106 l1 x11_1).f1), .slice none 0 0]) ?_ 2 _ rfl; (with_reducible repeat (first | refine blk_drewN ?_ _ | refine blk_drew ?_ | refine blk_alloc ?_ _)); refine blk_put (cs := #[.int .i64 ((T106 l1 x11_1).f0), .int .i64 0, .slice none 0 0]) ?_ 1 _ rfl; (with_reducible repeat (first | refine blk_drewN ?_ _ | refine blk_drew ?_ | refine blk_alloc ?_ _)); refine blk_put (cs := #[.int .i64 0, .int .i64 0, .slice none 0 0]) ?_ 0 _ rfl; (with_reducible repeat (first | refine blk_drewN ?_ _ | refine blk_drew ?_ | refine blk_alloc ?_ _)); exact BK112.out⟩, ⟨by repeat (first | (with_reducible first | exact HB.out | apply below_alloc | apply pw_below_drewN | apply below_drew1 | refine below_set ?_ GE112.out) | exact HB.out)⟩⟩
            ·rw [if_neg c19] at H
             have c19b0 : decide (40 < (((T106 l1 x11_1).f2).length : Int)) = false := decide_eq_false c19
             have c19b1 : decide (40 < ((T106 l1 x11_1).f2).length) = false := decide_eq_false (by omega)
             clear c19
             by_cases c21 : x11_1 > 0
             ·rw [if_pos c21] at H
              have c21b0 : decide (0 < x11_1) = true := decide_eq_true c21
              clear c21
              obtain ⟨ji22, hji22⟩ : ∃ j_ : Int, (wrap64 (x11_1 - 1)) = j_ := ⟨_, rfl⟩
              replace H : (if 0 ≤ (ji22) then (if (ji22) < (l1.length : Int) then (spec_l2Hunks.j1 k1 a0 l1 l1 (l1.length : Int) x11_1 (decide (((T106 l1 x11_1).f0) ≤ (wrap64 (((T106 l1 (ji22)).f0) + ((T106 l1 (ji22)).f1))))) ((T106 l1 x11_1).f0) ((T106 l1 x11_1).f1) ((T106 l1 x11_1).f2)) else (none)) else (none)) = some r := by first | (rw [hji22] at H; exact H) | (simp only [hji22] at H ⊢; exact H)
              have hji22w : (IntKind.i64.wrap (x11_1 - 1)) = ji22 := (i64_w _).trans hji22
              by_cases c23 : 0 ≤ (ji22)
              ·rw [if_pos c23] at H
               have c23b0 : decide (0 ≤ (ji22)) = true := decide_eq_true c23
               clear c23
               by_cases c24 : (ji22) < (l1.length : Int)
               ·rw [if_pos c24] at H
                have c24b0 : decide ((ji22) < (l1.length : Int)) = true := decide_eq_true c24
                clear c24
                have H' := am H
                clear H
                have hcz25_0 : w7.cell? ⟨gb112, 0, none⟩ = some (.int .i64 0) := (blk_cell BK112.out 0).trans rfl
                have hcz25_1 : w7.cell? ⟨gb112, 1, none⟩ = some (.int .i64 0) := (blk_cell BK112.out 1).trans rfl
                have hcz25_2 : w7.cell? ⟨gb112, 2, none⟩ = some (.slice none 0 0) := (blk_cell BK112.out 2).trans rfl
                have hfz25_0 := blk_frozen BK112.out 0
                have hfz25_1 := blk_frozen BK112.out 1
                have hfz25_2 := blk_frozen BK112.out 2
                have p113 : 0 ≤ ((ji22) : Int) := oa
                have q113 : (ji22) < (l1.length : Int) := oa
                obtain ⟨ad113, A113_2, c113_2, e113, hx113_0, hx113_1, hx113_2, hl113_2, hi113_2⟩ := at_T106 HR1.out (ji22) p113 q113
                obtain rfl : ad111 = ad113 := (by injection e113)
                have hn113_0 : ad111.block ≠ gb112 := Nat.ne_of_lt (Nat.lt_of_lt_of_le (zl hx113_0) GW112.out)
                have hn113_1 : ad111.block ≠ gb112 := Nat.ne_of_lt (Nat.lt_of_lt_of_le (zl hx113_0) GW112.out)
                have hn113_2 : ad111.block ≠ gb112 := Nat.ne_of_lt (Nat.lt_of_lt_of_le (zl hx113_0) GW112.out)
                replace hx113_0 := (HB.out.cell (World.block_lt_of_cell? w _ hx113_0)).trans hx113_0
                replace hx113_1 := (HB.out.cell (World.block_lt_of_cell? w _ hx113_1)).trans hx113_1
                replace hx113_2 := (HB.out.cell (World.block_lt_of_cell? w _ hx113_2)).trans hx113_2
                have HR113_2 := am hi113_2
                have HC113_2 := am hl113_2
                clear hi113_2 hl113_2
                replace hx113_0 := (cell_far (p := ⟨gb112, 0, none⟩) (zn hn113_0) (.int .i64 ((T106 l1 x11_1).f0))).trans hx113_0
                replace hx113_1 := (cell_far (p := ⟨gb112, 0, none⟩) (zn hn113_0) (.int .i64 ((T106 l1 x11_1).f0))).trans hx113_1
                replace hx113_2 := (cell_far (p := ⟨gb112, 0, none⟩) (zn hn113_0) (.int .i64 ((T106 l1 x11_1).f0))).trans hx113_2
                replace hx113_0 := (cell_far (p := ⟨gb112, 1, none⟩) (zn hn113_1) (.int .i64 ((T106 l1 x11_1).f1))).trans hx113_0
                replace hx113_1 := (cell_far (p := ⟨gb112, 1, none⟩) (zn hn113_1) (.int .i64 ((T106 l1 x11_1).f1))).trans hx113_1
                replace hx113_2 := (cell_far (p := ⟨gb112, 1, none⟩) (zn hn113_1) (.int .i64 ((T106 l1 x11_1).f1))).trans hx113_2
                replace hx113_0 := (cell_far (p := ⟨gb112, 2, none⟩) (zn hn113_2) (.slice A111_2 ((T106 l1 x11_1).f2).length c111_2)).trans hx113_0
                replace hx113_1 := (cell_far (p := ⟨gb112, 2, none⟩) (zn hn113_2) (.slice A111_2 ((T106 l1 x11_1).f2).length c111_2)).trans hx113_1
                replace hx113_2 := (cell_far (p := ⟨gb112, 2, none⟩) (zn hn113_2) (.slice A111_2 ((T106 l1 x11_1).f2).length c111_2)).trans hx113_2
                (try have hy113_0 := fun (n_ : Nat) => (show (((((w7.drewN n_).setCell ⟨gb112, 0, none⟩ (.int .i64 ((T106 l1 x11_1).f0))).setCell ⟨gb112, 1, none⟩ (.int .i64 ((T106 l1 x11_1).f1))).setCell ⟨gb112, 2, none⟩ (.slice A111_2 ((T106 l1 x11_1).f2).length c111_2))).cell? _ = some _ from hx113_0))
                (try have hy113_1 := fun (n_ : Nat) => (show (((((w7.drewN n_).setCell ⟨gb112, 0, none⟩ (.int .i64 ((T106 l1 x11_1).f0))).setCell ⟨gb112, 1, none⟩ (.int .i64 ((T106 l1 x11_1).f1))).setCell ⟨gb112, 2, none⟩ (.slice A111_2 ((T106 l1 x11_1).f2).length c111_2))).cell? _ = some _ from hx113_1))
                (try have hy113_2 := fun (n_ : Nat) => (show (((((w7.drewN n_).setCell ⟨gb112, 0, none⟩ (.int .i64 ((T106 l1 x11_1).f0))).setCell ⟨gb112, 1, none⟩ (.int .i64 ((T106 l1 x11_1).f1))).setCell ⟨gb112, 2, none⟩ (.slice A111_2 ((T106 l1 x11_1).f2).length c111_2))).cell? _ = some _ from hx113_2))
                clear hn113_0
                clear hn113_1
                clear hn113_2
                replace p113 := eq_true p113
                replace q113 := eq_true q113
                have p114 : 0 ≤ ((ji22) : Int) := oa
                have q114 : (ji22) < (l1.length : Int) := oa
                obtain ⟨ad114, A114_2, c114_2, e114, hx114_0, hx114_1, hx114_2, hl114_2, hi114_2⟩ := at_T106 HR1.out (ji22) p114 q114
                obtain rfl : ad111 = ad114 := (by injection e114)
                have hn114_0 : ad111.block ≠ gb112 := Nat.ne_of_lt (Nat.lt_of_lt_of_le (zl hx114_0) GW112.out)
                have hn114_1 : ad111.block ≠ gb112 := Nat.ne_of_lt (Nat.lt_of_lt_of_le (zl hx114_0) GW112.out)
                have hn114_2 : ad111.block ≠ gb112 := Nat.ne_of_lt (Nat.lt_of_lt_of_le (zl hx114_0) GW112.out)
                replace hx114_0 := (HB.out.cell (World.block_lt_of_cell? w _ hx114_0)).trans hx114_0
                replace hx114_1 := (HB.out.cell (World.block_lt_of_cell? w _ hx114_1)).trans hx114_1
                replace hx114_2 := (HB.out.cell (World.block_lt_of_cell? w _ hx114_2)).trans hx114_2
                have HR114_2 := am hi114_2
                have HC114_2 := am hl114_2
                clear hi114_2 hl114_2
                replace hx114_0 := (cell_far (p := ⟨gb112, 0, none⟩) (zn hn114_0) (.int .i64 ((T106 l1 x11_1).f0))).trans hx114_0
                replace hx114_1 := (cell_far (p := ⟨gb112, 0, none⟩) (zn hn114_0) (.int .i64 ((T106 l1 x11_1).f0))).trans hx114_1
                replace hx114_2 := (cell_far (p := ⟨gb112, 0, none⟩) (zn hn114_0) (.int .i64 ((T106 l1 x11_1).f0))).trans hx114_2
                replace hx114_0 := (cell_far (p := ⟨gb112, 1, none⟩) (zn hn114_1) (.int .i64 ((T106 l1 x11_1).f1))).trans hx114_0
                replace hx114_1 := (cell_far (p := ⟨gb112, 1, none⟩) (zn hn114_1) (.int .i64 ((T106 l1 x11_1).f1))).trans hx114_1
                replace hx114_2 := (cell_far (p := ⟨gb112, 1, none⟩) (zn hn114_1) (.int .i64 ((T106 l1 x11_1).f1))).trans hx114_2
                replace hx114_0 := (cell_far (p := ⟨gb112, 2, none⟩) (zn hn114_2) (.slice A111_2 ((T106 l1 x11_1).f2).length c111_2)).trans hx114_0
                replace hx114_1 := (cell_far (p := ⟨gb112, 2, none⟩) (zn hn114_2) (.slice A111_2 ((T106 l1 x11_1).f2).length c111_2)).trans hx114_1
                replace hx114_2 := (cell_far (p := ⟨gb112, 2, none⟩) (zn hn114_2) (.slice A111_2 ((T106 l1 x11_1).f2).length c111_2)).trans hx114_2
                (try have hy114_0 := fun (n_ : Nat) => (show (((((w7.drewN n_).setCell ⟨gb112, 0, none⟩ (.int .i64 ((T106 l1 x11_1).f0))).setCell ⟨gb112, 1, none⟩ (.int .i64 ((T106 l1 x11_1).f1))).setCell ⟨gb112, 2, none⟩ (.slice A111_2 ((T106 l1 x11_1).f2).length c111_2))).cell? _ = some _ from hx114_0))
                (try have hy114_1 := fun (n_ : Nat) => (show (((((w7.drewN n_).setCell ⟨gb112, 0, none⟩ (.int .i64 ((T106 l1 x11_1).f0))).setCell ⟨gb112, 1, none⟩ (.int .i64 ((T106 l1 x11_1).f1))).setCell ⟨gb112, 2, none⟩ (.slice A111_2 ((T106 l1 x11_1).f2).length c111_2))).cell? _ = some _ from hx114_1))
                (try have hy114_2 := fun (n_ : Nat) => (show (((((w7.drewN n_).setCell ⟨gb112, 0, none⟩ (.int .i64 ((T106 l1 x11_1).f0))).setCell ⟨gb112, 1, none⟩ (.int .i64 ((T106 l1 x11_1).f1))).setCell ⟨gb112, 2, none⟩ (.slice A111_2 ((T106 l1 x11_1).f2).length c111_2))).cell? _ = some _ from hx114_2))
                clear hn114_0
                clear hn114_1
                clear hn114_2
                replace p114 := eq_true p114
                replace q114 := eq_true q114
                have eb_ := Option.some.inj (hx113_2.symm.trans hx114_2)
                injection eb_ with ea_ en_ ec_
                subst ea_
                subst ec_
                clear en_
                go_wp2
                repeat (go_quiet (fail); try go_wp2)
                go_meet
                case rel => exact ⟨_, (decide (((T106 l1 x11_1).f0) ≤ (wrap64 (((T106 l1 (ji22)).f0) + ((T106 l1 (ji22)).f1))))), (by first | rfl | (simp; done) | (simp only [← hji22] <;> (first | rfl | simp)) | (simp [*]; done)), H', ⟨by have := HK1.out; first | omega | exact Nat.le_refl _⟩, ⟨by (with_reducible repeat (first | refine blk_drewN ?_ _ | refine blk_drew ?_ | refine blk_alloc ?_ _)); refine blk_put (cs := #[.int .i64 ((T106 l1 x11_1).f0), .int .i64 ((T106 l1 x11_1).f1), .slice none 0 0]) ?_ 2 _ rfl; (with_reducible repeat (first | refine blk_drewN ?_ _ | refine blk_drew ?_ | refine blk_alloc ?_ _)); refine blk_put (cs := #[.int .i64 ((T106 l1 x11_1).f0), .int .i64 0, .slice none 0 0]) ?_ 1 _ rfl; (with_reducible repeat (first | refine blk_drewN ?_ _ | refine blk_drew ?_ | refine blk_alloc ?_ _)); refine blk_put (cs := #[.int .i64 0, .int .i64 0, .slice none 0 0]) ?_ 0 _ rfl; (with_reducible repeat (first | refine blk_drewN ?_ _ | refine blk_drew ?_ | refine blk_alloc ?_ _)); exact BK112.out⟩, ⟨by repeat (first | (with_reducible first | exact HB.out | apply below_alloc | apply pw_below_drewN | apply below_drew1 | refine below_set ?_ GE112.out) | exact HB.out)⟩⟩
               ·rw [if_neg c24] at H
                exact absurd H (by simp)
              ·rw [if_neg c23] at H
               exact absurd H (by simp)
             ·rw [if_neg c21] at H
              have c21b0 : decide (0 < x11_1) = false := decide_eq_false c21
              clear c21
              have H' := am H
              clear H
              have hcz26_0 : w7.cell? ⟨gb112, 0, none⟩ = some (.int .i64 0) := (blk_cell BK112.out 0).trans rfl
              have hcz26_1 : w7.cell? ⟨gb112, 1, none⟩ = some (.int .i64 0) := (blk_cell BK112.out 1).trans rfl
              have hcz26_2 : w7.cell? ⟨gb112, 2, none⟩ = some (.slice none 0 0) := (blk_cell BK112.out 2).trans rfl
              have hfz26_0 := blk_frozen BK112.out 0
              have hfz26_1 := blk_frozen BK112.out 1
              have hfz26_2 := blk_frozen BK112.out 2
              go_wp2
              repeat (go_quiet (fail); try go_wp2)
              go_meet
              case rel => exact ⟨_, (false), zf, H', ⟨by have := HK1.out; first | omega | exact Nat.le_refl _⟩, ⟨by (with_reducible repeat (first | refine blk_drewN ?_ _ | refine blk_drew ?_ | refine blk_alloc ?_ _)); refine blk_put (cs := #[.int .i64 ((T106 l1 x11_1).f0), .int .i64 ((T106 l1 x11_1).f1), .slice none 0 0]) ?_ 2 _ rfl; (with_reducible repeat (first | refine blk_drewN ?_ _ | refine blk_drew ?_ | refine blk_alloc ?_ _)); refine blk_put (cs := #[.int .i64 ((T106 l1 x11_1).f0), .int .i64 0, .slice none 0 0]) ?_ 1 _ rfl; (with_reducible repeat (first | refine blk_drewN ?_ _ | refine blk_drew ?_ | refine blk_alloc ?_ _)); refine blk_put (cs := #[.int .i64 0, .int .i64 0, .slice none 0 0]) ?_ 0 _ rfl; (with_reducible repeat (first | refine blk_drewN ?_ _ | refine blk_drew ?_ | refine blk_alloc ?_ _)); exact BK112.out⟩, ⟨by repeat (first | (with_reducible first | exact HB.out | apply below_alloc | apply pw_below_drewN | apply below_drew1 | refine below_set ?_ GE112.out) | exact HB.out)⟩⟩
      case rest =>
       clear HC6
       try clear c1
       try clear p1
       try clear q1
       try clear hx1
       try clear c2
       try clear p2
       try clear c3
       try clear c3b0
       try clear c4
       try clear c4b0
       try clear c5
       try clear c5b0
       try clear p6
       try clear c9
       try clear c9b0
       try clear c11
       try clear c11b0
       try clear p11
       try clear q11
       try clear hx11
       try clear c13
       try clear c13b0
       try clear c15
       try clear c15b0
       try clear c17
       try clear c17b0
       try clear c17b1
       try clear c19
       try clear c19b0
       try clear c19b1
       try clear c21
       try clear c21b0
       try clear c23
       try clear c23b0
       try clear c24
       try clear c24b0
       try clear hcz10_0
       try clear hcz10_1
       try clear hcz10_2
       try clear hcz12_0
       try clear hcz12_1
       try clear hcz12_2
       try clear hcz14_0
       try clear hcz14_1
       try clear hcz14_2
       try clear hcz16_0
       try clear hcz16_1
       try clear hcz16_2
       try clear hcz18_0
       try clear hcz18_1
       try clear hcz18_2
       try clear hcz20_0
       try clear hcz20_1
       try clear hcz20_2
       try clear hcz25_0
       try clear hcz25_1
       try clear hcz25_2
       try clear hcz26_0
       try clear hcz26_1
       try clear hcz26_2
       try clear hcz8_0
       try clear hcz8_1
       try clear hcz8_2
       try clear hfz10_0
       try clear hfz10_1
       try clear hfz10_2
       try clear hfz12_0
       try clear hfz12_1
       try clear hfz12_2
       try clear hfz14_0
       try clear hfz14_1
       try clear hfz14_2
       try clear hfz16_0
       try clear hfz16_1
       try clear hfz16_2
       try clear hfz18_0
       try clear hfz18_1
       try clear hfz18_2
       try clear hfz20_0
       try clear hfz20_1
       try clear hfz20_2
       try clear hfz25_0
       try clear hfz25_1
       try clear hfz25_2
       try clear hfz26_0
       try clear hfz26_1
       try clear hfz26_2
       try clear hfz8_0
       try clear hfz8_1
       try clear hfz8_2
       try clear hx111_0
       try clear hx111_1
       try clear hx111_2
       try clear hx113_0
       try clear hx113_1
       try clear hx113_2
       try clear hx114_0
       try clear hx114_1
       try clear hx114_2
       try clear p111
       try clear p113
       try clear p114
       try clear p2
       try clear q111
       try clear q113
       try clear q114
       obtain ⟨kq, x75_5, rfl, HA, HJ5, BK112, HB⟩ := hcut
       cases kq with
       | zero => exact absurd HA.out (by simp [spec_l2Hunks.j1])
       | succ kj5 =>
        have H := HA.out
        clear HA
        simp only [spec_l2Hunks.j1] at H
        by_cases c27 : x75_5 = true
        ·subst c27
         have H1 : (some false) = some r := by rw [if_pos rfl] at H; exact H
         clear H
         have H := H1
         clear H1
         obtain rfl := Option.some.inj H
         go_wp2
         repeat (go_quiet (fail); try go_wp2)
         go_ret
         exact ⟨by first | rfl | (simp [errW_none, errW_some] <;> rfl) | (simp [*, errW_none, errW_some] <;> rfl), by repeat (first | (with_reducible first | exact HB.out | apply below_alloc | apply pw_below_drewN | apply below_drew1 | refine below_set ?_ GE112.out) | exact HB.out)⟩
        ·replace c27 := Bool.eq_false_iff.mpr c27
         subst c27
         have H1 : (spec_l2Hunks.l1 kj5 a0 l1 l1 (l1.length : Int) x11_1 ((T106 l1 x11_1).f2) (((T106 l1 x11_1).f2).length : Int) 0) = some r := by rw [if_neg (show ¬ (false = true) by decide)] at H; exact H
         clear H
         have H := H1
         clear H1
         have H' := am H
         clear H
         have hcz28_0 : wc.cell? ⟨gb112, 0, none⟩ = some (.int .i64 ((T106 l1 x11_1).f0)) := (blk_cell BK112.out 0).trans rfl
         have hcz28_1 : wc.cell? ⟨gb112, 1, none⟩ = some (.int .i64 ((T106 l1 x11_1).f1)) := (blk_cell BK112.out 1).trans rfl
         have hcz28_2 : wc.cell? ⟨gb112, 2, none⟩ = some (.slice A111_2 ((T106 l1 x11_1).f2).length c111_2) := (blk_cell BK112.out 2).trans rfl
         have hfz28_0 := blk_frozen BK112.out 0
         have hfz28_1 := blk_frozen BK112.out 1
         have hfz28_2 := blk_frozen BK112.out 2
         go_wp2
         repeat (go_quiet (fail); try go_wp2)
         go_loopg [79] kj5 (fun kq v79 w' => ∃ (x79_3 : Int), v79 = .int .i64 x79_3 ∧ Aside0 (spec_l2Hunks.l1 kq a0 l1 l1 (l1.length : Int) x11_1 ((T106 l1 x11_1).f2) (((T106 l1 x11_1).f2).length : Int) x79_3 = some r) ∧ Aside0 (kq ≤ kj5) ∧ Aside0 (w'.heap[gb112]? = some (.cells #[.int .i64 ((T106 l1 x11_1).f0), .int .i64 ((T106 l1 x11_1).f1), (.slice A111_2 ((T106 l1 x11_1).f2).length c111_2)] 106 (0, 0))) ∧ Aside0 (Below w.heap.size w w'))
         case atStart => exact ⟨(0), zf, H', ⟨Nat.le_refl _⟩, ⟨by (with_reducible repeat (first | refine blk_drewN ?_ _ | refine blk_drew ?_ | refine blk_alloc ?_ _)); exact BK112.out⟩, ⟨by repeat (first | (with_reducible first | exact HB.out | apply below_alloc | apply pw_below_drewN | apply below_drew1 | refine below_set ?_ GE112.out) | exact HB.out)⟩⟩
         case round =>
          clear H'
          try clear c1
          try clear p1
          try clear q1
          try clear hx1
          try clear c2
          try clear p2
          try clear c3
          try clear c3b0
          try clear c4
          try clear c4b0
          try clear c5
          try clear c5b0
          try clear p6
          try clear c9
          try clear c9b0
          try clear c11
          try clear c11b0
          try clear p11
          try clear q11
          try clear hx11
          try clear c13
          try clear c13b0
          try clear c15
          try clear c15b0
          try clear c17
          try clear c17b0
          try clear c17b1
          try clear c19
          try clear c19b0
          try clear c19b1
          try clear c21
          try clear c21b0
          try clear c23
          try clear c23b0
          try clear c24
          try clear c24b0
          try clear c27
          try clear hcz10_0
          try clear hcz10_1
          try clear hcz10_2
          try clear hcz12_0
          try clear hcz12_1
          try clear hcz12_2
          try clear hcz14_0
          try clear hcz14_1
          try clear hcz14_2
          try clear hcz16_0
          try clear hcz16_1
          try clear hcz16_2
          try clear hcz18_0
          try clear hcz18_1
          try clear hcz18_2
          try clear hcz20_0
          try clear hcz20_1
          try clear hcz20_2
          try clear hcz25_0
          try clear hcz25_1
          try clear hcz25_2
          try clear hcz26_0
          try clear hcz26_1
          try clear hcz26_2
          try clear hcz28_0
          try clear hcz28_1
          try clear hcz28_2
          try clear hcz8_0
          try clear hcz8_1
          try clear hcz8_2
          try clear hfz10_0
          try clear hfz10_1
          try clear hfz10_2
          try clear hfz12_0
          try clear hfz12_1
          try clear hfz12_2
          try clear hfz14_0
          try clear hfz14_1
          try clear hfz14_2
          try clear hfz16_0
          try clear hfz16_1
          try clear hfz16_2
          try clear hfz18_0
          try clear hfz18_1
          try clear hfz18_2
          try clear hfz20_0
          try clear hfz20_1
          try clear hfz20_2
          try clear hfz25_0
          try clear hfz25_1
          try clear hfz25_2
          try clear hfz26_0
          try clear hfz26_1
          try clear hfz26_2
          try clear hfz28_0
          try clear hfz28_1
          try clear hfz28_2
          try clear hfz8_0
          try clear hfz8_1
          try clear hfz8_2
          try clear hx111_0
          try clear hx111_1
          try clear hx111_2
          try clear hx113_0
          try clear hx113_1
          try clear hx113_2
          try clear hx114_0
          try clear hx114_1
          try clear hx114_2
          try clear p1
          try clear p11
          try clear p111
          try clear p113
          try clear p114
          try clear p2
          try clear p6
          try clear q1
          try clear q11
          try clear q111
          try clear q113
          try clear q114
          obtain ⟨x79_3, rfl, HA, HK3, BK112, HB⟩ := hrel
          cases gk with
          | zero => exact absurd HA.out (by simp [spec_l2Hunks.l1])
          | succ k3 =>
           have H := HA.out
           clear HA
           simp only [spec_l2Hunks.l1] at H
           by_cases c29 : x79_3 < (((T106 l1 x11_1).f2).length : Int)
           ·rw [if_pos c29] at H
            have c29b0 : decide (x79_3 < (((T106 l1 x11_1).f2).length : Int)) = true := decide_eq_true c29
            clear c29
            by_cases c30 : 0 ≤ x79_3
            ·rw [if_pos c30] at H
             have c30b0 : decide (0 ≤ x79_3) = true := decide_eq_true c30
             clear c30
             by_cases c31 : x79_3 < (((T106 l1 x11_1).f2).length : Int)
             ·rw [if_pos c31] at H
              have c31b0 : decide (x79_3 < (((T106 l1 x11_1).f2).length : Int)) = true := decide_eq_true c31
              clear c31
              replace H := Option.bind_eq_some_iff.mp H
              obtain ⟨t116, A320, H⟩ := H
              replace H : (if t116 = true then (spec_l2Hunks.l1 k3 a0 l1 l1 (l1.length : Int) x11_1 ((T106 l1 x11_1).f2) (((T106 l1 x11_1).f2).length : Int) (wrap64 (x79_3 + 1))) else (some false)) = some r := H
              have A32 := am A320
              clear A320
              by_cases c33 : t116 = true
              ·subst c33
               have H1 : (spec_l2Hunks.l1 k3 a0 l1 l1 (l1.length : Int) x11_1 ((T106 l1 x11_1).f2) (((T106 l1 x11_1).f2).length : Int) (wrap64 (x79_3 + 1))) = some r := by rw [if_pos rfl] at H; exact H
               clear H
               have H := H1
               clear H1
               have H' := am H
               clear H
               have p115 : 0 ≤ (x79_3 : Int) := oa
               have q115 : x79_3 < (((T106 l1 x11_1).f2).length : Int) := oa
               obtain ⟨ad115, e115, hx115_0⟩ := Kd.at_string HR111_2.out x79_3 p115 q115
               cases e115
               replace hx115_0 := (HB.out.cell (World.block_lt_of_cell? w _ hx115_0)).trans hx115_0
               replace p115 := eq_true p115
               replace q115 := eq_true q115
               go_wp2_with (first | (go_at_call 73; (with_reducible refine (spec_l1Line.calls k3 (rdOf ByteArray.empty ((T106 l1 x11_1).f2) x79_3) true _ A32.out).mono ?_); rintro e w' ⟨rfl, ⟨nd, rfl⟩⟩; (try exact zd)))
               repeat (go_quiet (first | (go_at_call 73; (with_reducible refine (spec_l1Line.calls k3 (rdOf ByteArray.empty ((T106 l1 x11_1).f2) x79_3) true _ A32.out).mono ?_); rintro e w' ⟨rfl, ⟨nd, rfl⟩⟩; (try exact zd))); try go_wp2_with (first | (go_at_call 73; (with_reducible refine (spec_l1Line.calls k3 (rdOf ByteArray.empty ((T106 l1 x11_1).f2) x79_3) true _ A32.out).mono ?_); rintro e w' ⟨rfl, ⟨nd, rfl⟩⟩; (try exact zd))))
               go_roundg k3
               case measure => have := HK1.out; have := HJ5.out; have := HK3.out; omega
               case rel => exact ⟨(wrap64 (x79_3 + 1)), zf, H', ⟨by have := HK1.out; have := HJ5.out; have := HK3.out; omega⟩, ⟨by (with_reducible repeat (first | refine blk_drewN ?_ _ | refine blk_drew ?_ | refine blk_alloc ?_ _)); exact BK112.out⟩, ⟨by repeat (first | (with_reducible first | exact HB.out | apply below_alloc | apply pw_below_drewN | apply below_drew1 | refine below_set ?_ GE112.out) | exact HB.out)⟩⟩
              ·replace c33 := Bool.eq_false_iff.mpr c33
               subst c33
               have H1 : (some false) = some r := by rw [if_neg (show ¬ (false = true) by decide)] at H; exact H
               clear H
               have H := H1
               clear H1
               obtain rfl := Option.some.inj H
               have p115 : 0 ≤ (x79_3 : Int) := oa
               have q115 : x79_3 < (((T106 l1 x11_1).f2).length : Int) := oa
               obtain ⟨ad115, e115, hx115_0⟩ := Kd.at_string HR111_2.out x79_3 p115 q115
               cases e115
               replace hx115_0 := (HB.out.cell (World.block_lt_of_cell? w _ hx115_0)).trans hx115_0
               replace p115 := eq_true p115
               replace q115 := eq_true q115
               go_wp2_with (first | (go_at_call 73; (with_reducible refine (spec_l1Line.calls k3 (rdOf ByteArray.empty ((T106 l1 x11_1).f2) x79_3) false _ A32.out).mono ?_); rintro e w' ⟨rfl, ⟨nd, rfl⟩⟩; (try exact zd)))
               repeat (go_quiet (first | (go_at_call 73; (with_reducible refine (spec_l1Line.calls k3 (rdOf ByteArray.empty ((T106 l1 x11_1).f2) x79_3) false _ A32.out).mono ?_); rintro e w' ⟨rfl, ⟨nd, rfl⟩⟩; (try exact zd))); try go_wp2_with (first | (go_at_call 73; (with_reducible refine (spec_l1Line.calls k3 (rdOf ByteArray.empty ((T106 l1 x11_1).f2) x79_3) false _ A32.out).mono ?_); rintro e w' ⟨rfl, ⟨nd, rfl⟩⟩; (try exact zd))))
               go_ret
               exact ⟨by first | rfl | (simp [errW_none, errW_some] <;> rfl) | (simp [*, errW_none, errW_some] <;> rfl), by repeat (first | (with_reducible first | exact HB.out | apply below_alloc | apply pw_below_drewN | apply below_drew1 | refine below_set ?_ GE112.out) | exact HB.out)⟩
             ·rw [if_neg c31] at H
              exact absurd H (by simp)
            ·rw [if_neg c30] at H
             exact absurd H (by simp)
           ·rw [if_neg c29] at H
            have c29b0 : decide (x79_3 < (((T106 l1 x11_1).f2).length : Int)) = false := decide_eq_false c29
            clear c29
            have H' := am H
            clear H
            go_wp2
            repeat (go_quiet (fail); try go_wp2)
            go_roundg k3
            case measure => have := HK1.out; have := HJ5.out; have := HK3.out; omega
            case rel => exact ⟨(wrap64 (x11_1 + 1)), zf, H', ⟨by have := HK1.out; have := HJ5.out; have := HK3.out; omega⟩, ⟨by repeat (first | (with_reducible first | exact HB.out | apply below_alloc | apply pw_below_drewN | apply below_drew1 | refine below_set ?_ GE112.out) | exact HB.out)⟩⟩
     ·rw [if_neg c5] at H
      exact absurd H (by simp)
    ·rw [if_neg c4] at H
     exact absurd H (by simp)
   ·rw [if_neg c3] at H
    have c3b0 : decide (x11_1 < (l1.length : Int)) = false := decide_eq_false c3
    clear c3
    by_cases c34 : (l1.length : Int) ≤ 20
    ·rw [if_pos c34] at H
     have c34b0 : decide ((l1.length : Int) ≤ 20) = true := decide_eq_true c34
     have c34b1 : decide (l1.length ≤ 20) = true := decide_eq_true (by omega)
     clear c34
     replace H := Option.bind_eq_some_iff.mp H
     obtain ⟨t110, A350, H⟩ := H
     replace H : (some t110) = some r := H
     have A35 := am A350
     clear A350
     obtain rfl := Option.some.inj H
     go_wp2_with (first | (go_at_call 67; (with_reducible refine (spec_l1In.calls a0 0 40 t110 _ A35.out).mono ?_); rintro e w' ⟨rfl, ⟨nd, rfl⟩⟩; (try exact zd)))
     repeat (go_quiet (first | (go_at_call 67; (with_reducible refine (spec_l1In.calls a0 0 40 t110 _ A35.out).mono ?_); rintro e w' ⟨rfl, ⟨nd, rfl⟩⟩; (try exact zd))); try go_wp2_with (first | (go_at_call 67; (with_reducible refine (spec_l1In.calls a0 0 40 t110 _ A35.out).mono ?_); rintro e w' ⟨rfl, ⟨nd, rfl⟩⟩; (try exact zd))))
     go_ret
     exact ⟨by first | rfl | (simp [errW_none, errW_some] <;> rfl) | (simp [*, errW_none, errW_some] <;> rfl), by repeat (first | (with_reducible first | exact HB.out | apply below_alloc | apply pw_below_drewN | apply below_drew1) | exact HB.out)⟩
    ·rw [if_neg c34] at H
     have c34b0 : decide ((l1.length : Int) ≤ 20) = false := decide_eq_false c34
     have c34b1 : decide (l1.length ≤ 20) = false := decide_eq_false (by omega)
     clear c34
     obtain rfl := Option.some.inj H
     go_wp2
     repeat (go_quiet (fail); try go_wp2)
     go_ret
     exact ⟨by first | rfl | (simp [errW_none, errW_some] <;> rfl) | (simp [*, errW_none, errW_some] <;> rfl), by repeat (first | (with_reducible first | exact HB.out | apply below_alloc | apply pw_below_drewN | apply below_drew1) | exact HB.out)⟩

def spec_l2Asked.f (k : Nat) (l0 : List ByteArray) (l1 : List (S106)) : Option (Bool) := (spec_l1Good.f k l0).bind fun t117 => (if t117 = true then ((spec_l2Hunks.f k (l0.length : Int) l1).bind fun t118 => (some t118)) else (some false))
set_option maxHeartbeats 8000000 in
set_option maxRecDepth 100000 in
theorem spec_l2Asked.calls (k : Nat) (A0 : Option Addr) (c0 : Nat) (l0 : List ByteArray) (A1 : Option Addr) (c1 : Nat) (l1 : List (S106)) (r : Bool) (w : World) (hr0 : Kd.C Kd.string w A0 l0.length l0) (hc0 : l0.length ≤ c0) (hr1 : Kd.C k106 w A1 l1.length l1) (hc1 : l1.length ≤ c1) (h : spec_l2Asked.f k l0 l1 = some r) :
  Calls Try.prog 84 #[.slice A0 l0.length c0, .slice A1 l1.length c1] w fun e w' => e = .returned (.bool r) ∧ Below w.heap.size w w' := by
 have HR0 := am hr0
 have HC0 := am hc0
 clear hr0 hc0
 have HR1 := am hr1
 have HC1 := am hc1
 clear hr1 hc1
 have HB := am (Below.refl w.heap.size w)
 have H : ((spec_l1Good.f k l0).bind fun t117 => (if t117 = true then ((spec_l2Hunks.f k (l0.length : Int) l1).bind fun t118 => (some t118)) else (some false))) = some r := h
 clear h
 replace H := Option.bind_eq_some_iff.mp H
 obtain ⟨t117, A30, H⟩ := H
 replace H : (if t117 = true then ((spec_l2Hunks.f k (l0.length : Int) l1).bind fun t118 => (some t118)) else (some false)) = some r := H
 have A3 := am A30
 clear A30
 by_cases c4 : t117 = true
 ·subst c4
  have H1 : ((spec_l2Hunks.f k (l0.length : Int) l1).bind fun t118 => (some t118)) = some r := by rw [if_pos rfl] at H; exact H
  clear H
  have H := H1
  clear H1
  replace H := Option.bind_eq_some_iff.mp H
  obtain ⟨t118, A50, H⟩ := H
  replace H : (some t118) = some r := H
  have A5 := am A50
  clear A50
  obtain rfl := Option.some.inj H
  go_enter Try.func84, Try.ntmps84
  go_wp2_with (first | ((with_reducible refine gateC (f := 66) rfl ?_); refine goesL_ (some 6) rfl rfl Try.func66 (by kernel_rfl) rfl #[.slice A0 l0.length c0] rfl zm ?_; (with_reducible refine (spec_l1Good.calls k _ _ l0 true _ ?side1 ?side2 A3.out).mono ?_); (case side1 => exact zq HR0.out); (case side2 => exact HC0.out); rintro e w' ⟨rfl, ⟨nd, rfl⟩⟩; refine ⟨_, rfl, ?_⟩) | (go_at_call 95; (with_reducible refine (spec_l2Hunks.calls k (l0.length : Int) _ _ l1 t118 _ ?side1 ?side2 A5.out).mono ?_); (case side1 => exact zq HR1.out); (case side2 => exact HC1.out); rintro e w6 ⟨rfl, hb⟩; have n0_ := am (below_step zb hb); clear HB; have HB := n0_; clear n0_; (try clear hb)))
  go_ret
  exact ⟨by first | rfl | (simp [errW_none, errW_some] <;> rfl) | (simp [*, errW_none, errW_some] <;> rfl), by repeat (first | (with_reducible first | exact HB.out | apply below_alloc | apply pw_below_drewN | apply below_drew1) | exact HB.out)⟩
 ·replace c4 := Bool.eq_false_iff.mpr c4
  subst c4
  have H1 : (some false) = some r := by rw [if_neg (show ¬ (false = true) by decide)] at H; exact H
  clear H
  have H := H1
  clear H1
  obtain rfl := Option.some.inj H
  go_enter Try.func84, Try.ntmps84
  go_wp2_with (first | ((with_reducible refine gateC (f := 66) rfl ?_); refine goesL_ (some 6) rfl rfl Try.func66 (by kernel_rfl) rfl #[.slice A0 l0.length c0] rfl zm ?_; (with_reducible refine (spec_l1Good.calls k _ _ l0 false _ ?side1 ?side2 A3.out).mono ?_); (case side1 => exact zq HR0.out); (case side2 => exact HC0.out); rintro e w' ⟨rfl, ⟨nd, rfl⟩⟩; refine ⟨_, rfl, ?_⟩))
  go_ret
  exact ⟨by first | rfl | (simp [errW_none, errW_some] <;> rfl) | (simp [*, errW_none, errW_some] <;> rfl), by repeat (first | (with_reducible first | exact HB.out | apply below_alloc | apply pw_below_drewN | apply below_drew1) | exact HB.out)⟩

def spec_l2Patch.l0 : Nat → List ByteArray → List ByteArray → Int → List (S106) → Int → Int → Option (List ByteArray)
 | 0, _, _, _, _, _, _ => none
 | k + 1, x0, x5, x6, x9, x10, x11 => if x11 < x10 then (if 0 ≤ x11 then (if x11 < (x9.length : Int) then (if 0 ≤ x6 then (if x6 ≤ ((T106 x9 x11).f0) then (if ((T106 x9 x11).f0) ≤ (x0.length : Int) then (if x5.length + ((x0.take (((T106 x9 x11).f0) : Int).toNat).drop (x6 : Int).toNat).length < 8796093022208 then ((some (x5 ++ ((x0.take (((T106 x9 x11).f0) : Int).toNat).drop (x6 : Int).toNat) : List ByteArray)).bind fun y122 => (if y122.length + ((T106 x9 x11).f2).length < 8796093022208 then (spec_l2Patch.l0 k x0 (y122 ++ ((T106 x9 x11).f2)) (wrap64 (((T106 x9 x11).f0) + ((T106 x9 x11).f1))) x9 x10 (wrap64 (x11 + 1))) else (none))) else (none)) else (none)) else (none)) else (none)) else (none)) else (none)) else (if 0 ≤ x6 then (if x6 ≤ (x0.length : Int) then (if x5.length + (x0.drop (x6 : Int).toNat).length < 8796093022208 then (some (x5 ++ (x0.drop (x6 : Int).toNat))) else (none)) else (none)) else (none))
def spec_l2Patch.f (k : Nat) (l0 : List ByteArray) (l1 : List (S106)) : Option (List ByteArray) := spec_l2Patch.l0 k l0 ([] : List ByteArray) 0 l1 (l1.length : Int) 0
set_option maxHeartbeats 8000000 in
set_option maxRecDepth 100000 in
theorem spec_l2Patch.calls (k : Nat) (A0 : Option Addr) (c0 : Nat) (l0 : List ByteArray) (A1 : Option Addr) (c1 : Nat) (l1 : List (S106)) (r : List ByteArray) (w : World) (hr0 : Kd.C Kd.string w A0 l0.length l0) (hc0 : l0.length ≤ c0) (hr1 : Kd.C k106 w A1 l1.length l1) (hc1 : l1.length ≤ c1) (h : spec_l2Patch.f k l0 l1 = some r) :
  Calls Try.prog 133 #[.slice A0 l0.length c0, .slice A1 l1.length c1] w fun e w' => ∃ v0_ : Value, e = .returned (v0_) ∧ Kd.R Kd.string 9 w' w.heap.size (fun _ => True) v0_ r ∧ Below w.heap.size w w' := by
 have hu106 := Try.underlying106
 have HR0 := am hr0
 have HC0 := am hc0
 clear hr0 hc0
 have HR1 := am hr1
 have HC1 := am hc1
 clear hr1 hc1
 have HB := am (Below.refl w.heap.size w)
 have H : (spec_l2Patch.l0 k l0 ([] : List ByteArray) 0 l1 (l1.length : Int) 0) = some r := h
 clear h
 have H' := am H
 clear H
 go_enter Try.func133, Try.ntmps133
 go_wp2
 go_loopg [5, 6, 11] k (fun kq v5 v6 v11 w' => ∃ (x5_1 : List ByteArray) (x6_1 : Int) (x11_1 : Int), v6 = .int .i64 x6_1 ∧ v11 = .int .i64 x11_1 ∧ Aside0 (spec_l2Patch.l0 kq l0 x5_1 x6_1 l1 (l1.length : Int) x11_1 = some r) ∧ Aside0 (kq ≤ k) ∧ Aside0 (Kd.R Kd.string 9 w' w.heap.size (fun _ => True) v5 x5_1) ∧ Aside0 (Below w.heap.size w w'))
 case atStart => exact ⟨(([] : List ByteArray)), (0), (0), zf, zf, H', ⟨Nat.le_refl _⟩, ⟨by first | exact Kd.R_nil _ _ _ _ _ | exact Kd.Q_nil _ _ _ _ _ | exact Kd.S_nil _ _ _ _ _⟩, ⟨by repeat (first | (with_reducible first | exact HB.out | apply below_alloc | apply pw_below_drewN | apply below_drew1) | exact HB.out)⟩⟩
 case round =>
  clear H'
  try clear c1
  try clear p2
  obtain ⟨x5_1, x6_1, x11_1, rfl, rfl, HA, HK1, HO_5, HB⟩ := hrel
  cases gk with
  | zero => exact absurd HA.out (by simp [spec_l2Patch.l0])
  | succ k1 =>
   have H := HA.out
   clear HA
   simp only [spec_l2Patch.l0] at H
   by_cases c3 : x11_1 < (l1.length : Int)
   ·rw [if_pos c3] at H
    have c3b0 : decide (x11_1 < (l1.length : Int)) = true := decide_eq_true c3
    clear c3
    by_cases c4 : 0 ≤ x11_1
    ·rw [if_pos c4] at H
     have c4b0 : decide (0 ≤ x11_1) = true := decide_eq_true c4
     clear c4
     by_cases c5 : x11_1 < (l1.length : Int)
     ·rw [if_pos c5] at H
      have c5b0 : decide (x11_1 < (l1.length : Int)) = true := decide_eq_true c5
      clear c5
      by_cases c6 : 0 ≤ x6_1
      ·rw [if_pos c6] at H
       have c6b0 := eq_true c6
       have c6b1 : decide (0 ≤ x6_1) = true := decide_eq_true c6
       clear c6
       by_cases c7 : x6_1 ≤ ((T106 l1 x11_1).f0)
       ·rw [if_pos c7] at H
        have c7b0 := eq_true c7
        have c7b1 : decide (x6_1 ≤ ((T106 l1 x11_1).f0)) = true := decide_eq_true c7
        clear c7
        by_cases c8 : ((T106 l1 x11_1).f0) ≤ (l0.length : Int)
        ·rw [if_pos c8] at H
         have c8b0 := eq_true c8
         have c8b1 : decide (((T106 l1 x11_1).f0) ≤ (l0.length : Int)) = true := decide_eq_true c8
         clear c8
         by_cases c9 : x5_1.length + ((l0.take (((T106 l1 x11_1).f0) : Int).toNat).drop (x6_1 : Int).toNat).length < 8796093022208
         ·rw [if_pos c9] at H
          have LMc9 := am c9
          clear c9
          obtain ⟨y122, hy122⟩ : ∃ y_ : List ByteArray, y_ = (x5_1 ++ ((l0.take (((T106 l1 x11_1).f0) : Int).toNat).drop (x6_1 : Int).toNat)) := ⟨_, rfl⟩
          replace H : (if y122.length + ((T106 l1 x11_1).f2).length < 8796093022208 then (spec_l2Patch.l0 k1 l0 (y122 ++ ((T106 l1 x11_1).f2)) (wrap64 (((T106 l1 x11_1).f0) + ((T106 l1 x11_1).f1))) l1 (l1.length : Int) (wrap64 (x11_1 + 1))) else (none)) = some r := by first | (rw [hy122]; with_reducible exact H) | (have H2_ := (Option.bind_some _ _).symm.trans H; rw [hy122]; with_reducible exact H2_) | (have H2_ := (Option.bind_some _ _).symm.trans H; with_reducible exact H2_) | with_reducible exact H | (rw [hy122]; exact H) | exact H
          have Ny122 := am hy122
          clear hy122
          by_cases c10 : y122.length + ((T106 l1 x11_1).f2).length < 8796093022208
          ·rw [if_pos c10] at H
           have LMc10 := am c10
           clear c10
           obtain ⟨y125, hy125⟩ : ∃ y_ : List ByteArray, y_ = (y122 ++ ((T106 l1 x11_1).f2)) := ⟨_, rfl⟩
           replace H : (spec_l2Patch.l0 k1 l0 y125 (wrap64 (((T106 l1 x11_1).f0) + ((T106 l1 x11_1).f1))) l1 (l1.length : Int) (wrap64 (x11_1 + 1))) = some r := by first | (rw [hy125]; with_reducible exact H) | (have H2_ := (Option.bind_some _ _).symm.trans H; rw [hy125]; with_reducible exact H2_) | (have H2_ := (Option.bind_some _ _).symm.trans H; with_reducible exact H2_) | with_reducible exact H | (rw [hy125]; exact H) | exact H
           have Ny125 := am hy125
           clear hy125
           have H' := am H
           clear H
           have p119 : 0 ≤ (x11_1 : Int) := oa
           have q119 : x11_1 < (l1.length : Int) := oa
           obtain ⟨ad119, A119_2, c119_2, e119, hx119_0, hx119_1, hx119_2, hl119_2, hi119_2⟩ := at_T106 HR1.out x11_1 p119 q119
           cases e119
           replace hx119_0 := (HB.out.cell (World.block_lt_of_cell? w _ hx119_0)).trans hx119_0
           replace hx119_1 := (HB.out.cell (World.block_lt_of_cell? w _ hx119_1)).trans hx119_1
           replace hx119_2 := (HB.out.cell (World.block_lt_of_cell? w _ hx119_2)).trans hx119_2
           have HR119_2 := am hi119_2
           have HC119_2 := am hl119_2
           clear hi119_2 hl119_2
           replace p119 := eq_true p119
           replace q119 := eq_true q119
           go_wp2_with (first | ((with_reducible refine gate_dst (N := 8) rfl ?_); refine box_event ?hg (N := 8) ?hd (cs := #[.int .i64 0, .int .i64 0, .slice none 0 0]) (t := 106) ?hr ?_; (case hd => rfl); (case hg => rfl); (case hr => first | (go_simp; done) | (go_simp; rfl)); intro gb120 hg w11 hbox hb; have n0_ := am (Kd.R_below (zr HO_5.out) hb); have n1_ := am (below_step zb hb); have n2_ := am (hbox); have n3_ := am ((by rw [hg]; exact (below_size zb) : w.heap.size ≤ gb120)); have n4_ := am ((by rw [hg]; exact (below_size zb) : w.heap.size ≤ gb120)); clear HO_5; clear HB; have HO_5 := n0_; have HB := n1_; have BK120 := n2_; have GW120 := n3_; have GE120 := n4_; clear n0_ n1_ n2_ n3_ n4_; clear hb hbox hg; have hcz12_0 : w11.cell? ⟨gb120, 0, none⟩ = some (.int .i64 0) := (blk_cell BK120.out 0).trans rfl; have hcz12_1 : w11.cell? ⟨gb120, 1, none⟩ = some (.int .i64 0) := (blk_cell BK120.out 1).trans rfl; have hcz12_2 : w11.cell? ⟨gb120, 2, none⟩ = some (.slice none 0 0) := (blk_cell BK120.out 2).trans rfl; have hfz12_0 := blk_frozen BK120.out 0; have hfz12_1 := blk_frozen BK120.out 1; have hfz12_2 := blk_frozen BK120.out 2; obtain ⟨i013, hi013, _, hsz13, _⟩ := info_parts info9; obtain ⟨A13, hcut13, hA13, hC13⟩ := print_mid_of (P := Try.prog) Value.string (⟨#[]⟩ : ByteArray) 24 9 .i64 .i64 Try.underlying24 hi013 hsz13 A0 c0 l0 x6_1 ((T106 l1 x11_1).f0) oa (by first | omega | exact oa) oa HC0.out; have HR121 := am (Kd.C_of_reads (h1 := fun _ => rfl) (hA13 _ (Kd.reads_of_C HR0.out))); have HC121 := am hC13; clear hA13 hC13 hi013 hsz13) | ((with_reducible refine gateB (b := .append) (xs := #[.tmp 15, .tmp 20]) rfl ?_); at_builtin; refine Kd.R_append_rows Kd.string (w0 := w) w.heap.size rfl (.tmp 15) (.tmp 20) 24 9 (.string ⟨#[]⟩) 16 rfl Try.underlying24 info9 rfl (by decide) (by omega) u5 x5_1 ((l0.take (((T106 l1 x11_1).f0) : Int).toNat).drop (x6_1 : Int).toNat) _ _ _ (fun _ => True) (fun _ => False) rfl rfl ?aO ?aR (fun _ _ h => h) (fun _ h => h.elim) ?aF ?aB ?aS ?aL ?_; (case aR => first | (rw [← show ((l0.take (((T106 l1 x11_1).f0) : Int).toNat).drop (x6_1 : Int).toNat).length = (((T106 l1 x11_1).f0).toNat - x6_1.toNat) from (by rw [List.length_drop, List.length_take]; have h_ : (((T106 l1 x11_1).f0) : Int) ≤ (l0.length : Int) := oa; omega)]; exact Kd.C_below HR121.out (by repeat (first | (with_reducible first | exact HB.out | apply below_alloc | apply pw_below_drewN | apply below_drew1 | refine below_set ?_ GE120.out) | exact HB.out))) | (exact Kd.C_below HR121.out (by repeat (first | (with_reducible first | exact HB.out | apply below_alloc | apply pw_below_drewN | apply below_drew1 | refine below_set ?_ GE120.out) | exact HB.out)))); (case aB => exact (by repeat (first | (with_reducible first | exact HB.out | apply below_alloc | apply pw_below_drewN | apply below_drew1 | refine below_set ?_ GE120.out) | exact HB.out))); (case aF => exact (fun _ _ => trivial)); (case aO => exact (by (with_reducible repeat (first | apply Kd.R_alloc | apply Kd.R_drewN | apply Kd.R_drew)); exact Kd.R_mono (Kd.R_far (p := ⟨gb120, 2, none⟩) (Kd.R_far (p := ⟨gb120, 1, none⟩) (Kd.R_far (p := ⟨gb120, 0, none⟩) (Kd.R_types HO_5.out BK120.out (by decide)) (fun _ hk => hk.2) (.int .i64 ((T106 l1 x11_1).f0))) (fun _ hk => hk.2) (.int .i64 ((T106 l1 x11_1).f1))) (fun _ hk => hk.2) (.slice A119_2 ((T106 l1 x11_1).f2).length c119_2)) (fun _ hk => trivial))); (case aS => exact (below_size (by repeat (first | (with_reducible first | exact HB.out | apply below_alloc | apply pw_below_drewN | apply below_drew1 | refine below_set ?_ GE120.out) | exact HB.out)))); (case aL => have := LMc9.out; have hlx_ := (show ((l0.take (((T106 l1 x11_1).f0) : Int).toNat).drop (x6_1 : Int).toNat).length = (((T106 l1 x11_1).f0).toNat - x6_1.toNat) from (by rw [List.length_drop, List.length_take]; have h_ : (((T106 l1 x11_1).f0) : Int) ≤ (l0.length : Int) := oa; omega)); omega); intro v123 w14 ho hb hg hat; rw [← Ny122.out] at ho; have n0_ := am (blk_grown (g := gb120) (o := .cells #[.int .i64 ((T106 l1 x11_1).f0), .int .i64 ((T106 l1 x11_1).f1), .slice A119_2 ((T106 l1 x11_1).f2).length c119_2] 106 (0, 0)) (by (with_reducible repeat (first | refine blk_drewN ?_ _ | refine blk_drew ?_ | refine blk_alloc ?_ _)); refine blk_put (cs := #[.int .i64 ((T106 l1 x11_1).f0), .int .i64 ((T106 l1 x11_1).f1), .slice none 0 0]) ?_ 2 _ rfl; (with_reducible repeat (first | refine blk_drewN ?_ _ | refine blk_drew ?_ | refine blk_alloc ?_ _)); refine blk_put (cs := #[.int .i64 ((T106 l1 x11_1).f0), .int .i64 0, .slice none 0 0]) ?_ 1 _ rfl; (with_reducible repeat (first | refine blk_drewN ?_ _ | refine blk_drew ?_ | refine blk_alloc ?_ _)); refine blk_put (cs := #[.int .i64 0, .int .i64 0, .slice none 0 0]) ?_ 0 _ rfl; (with_reducible repeat (first | refine blk_drewN ?_ _ | refine blk_drew ?_ | refine blk_alloc ?_ _)); exact BK120.out) hg (Kd.R_ne HO_5.out BK120.out (by decide))); have n1_ := am (hb); have n2_ := am (ho); clear BK120; clear HB; clear HO_5; have BK120 := n0_; have HB := n1_; have HO124 := n2_; clear n0_ n1_ n2_; clear ho hb hg hat; have hcz15_0 : w14.cell? ⟨gb120, 0, none⟩ = some (.int .i64 ((T106 l1 x11_1).f0)) := (blk_cell BK120.out 0).trans rfl; have hcz15_1 : w14.cell? ⟨gb120, 1, none⟩ = some (.int .i64 ((T106 l1 x11_1).f1)) := (blk_cell BK120.out 1).trans rfl; have hcz15_2 : w14.cell? ⟨gb120, 2, none⟩ = some (.slice A119_2 ((T106 l1 x11_1).f2).length c119_2) := (blk_cell BK120.out 2).trans rfl; have hfz15_0 := blk_frozen BK120.out 0; have hfz15_1 := blk_frozen BK120.out 1; have hfz15_2 := blk_frozen BK120.out 2) | ((with_reducible refine gateB (b := .append) (xs := #[.tmp 22, .tmp 24]) rfl ?_); at_builtin; refine Kd.R_append_rows Kd.string (w0 := w) w.heap.size rfl (.tmp 22) (.tmp 24) 24 9 (.string ⟨#[]⟩) 16 rfl Try.underlying24 info9 rfl (by decide) (by omega) v123 y122 ((T106 l1 x11_1).f2) _ _ _ (fun _ => True) (fun _ => False) rfl rfl ?aO ?aR (fun _ _ h => h) (fun _ h => h.elim) ?aF ?aB ?aS ?aL ?_; (case aR => exact zq (Kd.C_below HR119_2.out HB.out)); (case aB => exact (by repeat (first | (with_reducible first | exact HB.out | apply below_alloc | apply pw_below_drewN | apply below_drew1 | refine below_set ?_ GE120.out) | exact HB.out))); (case aF => exact (fun _ _ => trivial)); (case aO => exact (zr HO124.out)); (case aS => exact (below_size (by repeat (first | (with_reducible first | exact HB.out | apply below_alloc | apply pw_below_drewN | apply below_drew1 | refine below_set ?_ GE120.out) | exact HB.out)))); (case aL => have := LMc10.out; omega); intro v126 w16 ho hb hg hat; rw [← Ny125.out] at ho; have n0_ := am (blk_grown (g := gb120) (o := .cells #[.int .i64 ((T106 l1 x11_1).f0), .int .i64 ((T106 l1 x11_1).f1), .slice A119_2 ((T106 l1 x11_1).f2).length c119_2] 106 (0, 0)) (zk BK120.out) hg (Kd.R_ne HO124.out BK120.out (by decide))); have n1_ := am (hb); have n2_ := am (ho); clear BK120; clear HB; clear HO124; have BK120 := n0_; have HB := n1_; have HO127 := n2_; clear n0_ n1_ n2_; clear ho hb hg hat; have hcz17_0 : w16.cell? ⟨gb120, 0, none⟩ = some (.int .i64 ((T106 l1 x11_1).f0)) := (blk_cell BK120.out 0).trans rfl; have hcz17_1 : w16.cell? ⟨gb120, 1, none⟩ = some (.int .i64 ((T106 l1 x11_1).f1)) := (blk_cell BK120.out 1).trans rfl; have hcz17_2 : w16.cell? ⟨gb120, 2, none⟩ = some (.slice A119_2 ((T106 l1 x11_1).f2).length c119_2) := (blk_cell BK120.out 2).trans rfl; have hfz17_0 := blk_frozen BK120.out 0; have hfz17_1 := blk_frozen BK120.out 1; have hfz17_2 := blk_frozen BK120.out 2))
           go_roundg k1
           case measure => have := HK1.out; omega
           case rel => exact ⟨(y125), (wrap64 (((T106 l1 x11_1).f0) + ((T106 l1 x11_1).f1))), (wrap64 (x11_1 + 1)), zf, zf, H', ⟨by have := HK1.out; omega⟩, ⟨by (with_reducible repeat (first | apply Kd.R_alloc | apply Kd.R_drewN | apply Kd.R_drew)); exact HO127.out⟩, ⟨by repeat (first | (with_reducible first | exact HB.out | apply below_alloc | apply pw_below_drewN | apply below_drew1 | refine below_set ?_ GE120.out) | exact HB.out)⟩⟩
          ·rw [if_neg c10] at H
           exact absurd H (by simp)
         ·rw [if_neg c9] at H
          exact absurd H (by simp)
        ·rw [if_neg c8] at H
         exact absurd H (by simp)
       ·rw [if_neg c7] at H
        exact absurd H (by simp)
      ·rw [if_neg c6] at H
       exact absurd H (by simp)
     ·rw [if_neg c5] at H
      exact absurd H (by simp)
    ·rw [if_neg c4] at H
     exact absurd H (by simp)
   ·rw [if_neg c3] at H
    have c3b0 : decide (x11_1 < (l1.length : Int)) = false := decide_eq_false c3
    clear c3
    by_cases c18 : 0 ≤ x6_1
    ·rw [if_pos c18] at H
     have c18b0 := eq_true c18
     have c18b1 : decide (0 ≤ x6_1) = true := decide_eq_true c18
     clear c18
     by_cases c19 : x6_1 ≤ (l0.length : Int)
     ·rw [if_pos c19] at H
      have c19b0 := eq_true c19
      have c19b1 : decide (x6_1 ≤ (l0.length : Int)) = true := decide_eq_true c19
      clear c19
      by_cases c20 : x5_1.length + (l0.drop (x6_1 : Int).toNat).length < 8796093022208
      ·rw [if_pos c20] at H
       have LMc20 := am c20
       clear c20
       obtain ⟨y129, hy129⟩ : ∃ y_ : List ByteArray, y_ = (x5_1 ++ (l0.drop (x6_1 : Int).toNat)) := ⟨_, rfl⟩
       replace H : (some y129) = some r := by first | (rw [hy129]; with_reducible exact H) | (have H2_ := (Option.bind_some _ _).symm.trans H; rw [hy129]; with_reducible exact H2_) | (have H2_ := (Option.bind_some _ _).symm.trans H; with_reducible exact H2_) | with_reducible exact H | (rw [hy129]; exact H) | exact H
       have Ny129 := am hy129
       clear hy129
       obtain rfl := Option.some.inj H
       obtain ⟨i021, hi021, _, hsz21, _⟩ := info_parts info9
       obtain ⟨A21, hcut21, hA21, hC21⟩ := print_drop_of (P := Try.prog) Value.string (⟨#[]⟩ : ByteArray) 24 9 .i64 Try.underlying24 hi021 hsz21 A0 c0 l0 x6_1 oa oa HC0.out
       have HR128 := am (Kd.C_of_reads (h1 := fun _ => rfl) (hA21 _ (Kd.reads_of_C HR0.out)))
       have HC128 := am hC21
       clear hA21 hC21 hi021 hsz21
       go_wp2_with (first | ((with_reducible refine gateB (b := .append) (xs := #[.tmp 32, .tmp 35]) rfl ?_); at_builtin; refine Kd.R_append_rows Kd.string (w0 := w) w.heap.size rfl (.tmp 32) (.tmp 35) 24 9 (.string ⟨#[]⟩) 16 rfl Try.underlying24 info9 rfl (by decide) (by omega) u5 x5_1 (l0.drop (x6_1 : Int).toNat) _ _ _ (fun _ => True) (fun _ => False) rfl rfl ?aO ?aR (fun _ _ h => h) (fun _ h => h.elim) ?aF ?aB ?aS ?aL ?_; (case aR => first | (rw [← show (l0.drop (x6_1 : Int).toNat).length = (l0.length - x6_1.toNat) from List.length_drop]; exact zq (Kd.C_below HR128.out HB.out)) | (exact zq (Kd.C_below HR128.out HB.out))); (case aB => exact zb); (case aF => exact (fun _ _ => trivial)); (case aO => exact (zr HO_5.out)); (case aS => exact (below_size zb)); (case aL => have := LMc20.out; have hlx_ := (show (l0.drop (x6_1 : Int).toNat).length = (l0.length - x6_1.toNat) from List.length_drop); omega); intro v130 w22 ho hb hg hat; rw [← Ny129.out] at ho; have n0_ := am (hb); have n1_ := am (ho); clear HB; clear HO_5; have HB := n0_; have HO131 := n1_; clear n0_ n1_; clear ho hb hg hat))
       go_ret
       exact ⟨_, by first | rfl | (simp [errW_none, errW_some] <;> rfl) | (simp [*, errW_none, errW_some] <;> rfl), by (with_reducible repeat (first | apply Kd.R_alloc | apply Kd.R_drewN | apply Kd.R_drew)); exact HO131.out, by repeat (first | (with_reducible first | exact HB.out | apply below_alloc | apply pw_below_drewN | apply below_drew1) | exact HB.out)⟩
      ·rw [if_neg c20] at H
       exact absurd H (by simp)
     ·rw [if_neg c19] at H
      exact absurd H (by simp)
    ·rw [if_neg c18] at H
     exact absurd H (by simp)

def spec_Patch.f (k : Nat) (l0 : List ByteArray) (l1 : List (S106)) : Option (List ByteArray × Bool) := (spec_l2Asked.f k l0 l1).bind fun t132 => (if t132 = true then ((spec_l2Patch.f k l0 l1).bind fun t133 => ((spec_l1Good.f k t133).bind fun t136 => (if t136 = true then (some (t133, true)) else (some (([] : List ByteArray), false))))) else (some (([] : List ByteArray), false)))
set_option maxHeartbeats 8000000 in
set_option maxRecDepth 100000 in
theorem spec_Patch.calls (k : Nat) (A0 : Option Addr) (c0 : Nat) (l0 : List ByteArray) (A1 : Option Addr) (c1 : Nat) (l1 : List (S106)) (r1 : List ByteArray) (r2 : Bool) (w : World) (hr0 : Kd.C Kd.string w A0 l0.length l0) (hc0 : l0.length ≤ c0) (hr1 : Kd.C k106 w A1 l1.length l1) (hc1 : l1.length ≤ c1) (h : spec_Patch.f k l0 l1 = some (r1, r2)) :
  Calls Try.prog 88 #[.slice A0 l0.length c0, .slice A1 l1.length c1] w fun e w' => ∃ v0_ : Value, e = .returned (.tuple #[v0_, .bool r2]) ∧ Kd.R Kd.string 9 w' w.heap.size (fun _ => True) v0_ r1 ∧ Below w.heap.size w w' := by
 have HR0 := am hr0
 have HC0 := am hc0
 clear hr0 hc0
 have HR1 := am hr1
 have HC1 := am hc1
 clear hr1 hc1
 have HB := am (Below.refl w.heap.size w)
 have H : ((spec_l2Asked.f k l0 l1).bind fun t132 => (if t132 = true then ((spec_l2Patch.f k l0 l1).bind fun t133 => ((spec_l1Good.f k t133).bind fun t136 => (if t136 = true then (some (t133, true)) else (some (([] : List ByteArray), false))))) else (some (([] : List ByteArray), false)))) = some (r1, r2) := h
 clear h
 replace H := Option.bind_eq_some_iff.mp H
 obtain ⟨t132, A30, H⟩ := H
 replace H : (if t132 = true then ((spec_l2Patch.f k l0 l1).bind fun t133 => ((spec_l1Good.f k t133).bind fun t136 => (if t136 = true then (some (t133, true)) else (some (([] : List ByteArray), false))))) else (some (([] : List ByteArray), false))) = some (r1, r2) := H
 have A3 := am A30
 clear A30
 by_cases c4 : t132 = true
 ·subst c4
  have H1 : ((spec_l2Patch.f k l0 l1).bind fun t133 => ((spec_l1Good.f k t133).bind fun t136 => (if t136 = true then (some (t133, true)) else (some (([] : List ByteArray), false))))) = some (r1, r2) := by rw [if_pos rfl] at H; exact H
  clear H
  have H := H1
  clear H1
  replace H := Option.bind_eq_some_iff.mp H
  obtain ⟨t133, A50, H⟩ := H
  replace H : ((spec_l1Good.f k t133).bind fun t136 => (if t136 = true then (some (t133, true)) else (some (([] : List ByteArray), false)))) = some (r1, r2) := H
  have A5 := am A50
  clear A50
  replace H := Option.bind_eq_some_iff.mp H
  obtain ⟨t136, A60, H⟩ := H
  replace H : (if t136 = true then (some (t133, true)) else (some (([] : List ByteArray), false))) = some (r1, r2) := H
  have A6 := am A60
  clear A60
  by_cases c7 : t136 = true
  ·subst c7
   have H1 : (some (t133, true)) = some (r1, r2) := by rw [if_pos rfl] at H; exact H
   clear H
   have H := H1
   clear H1
   simp only [Option.some.injEq, Prod.mk.injEq] at H
   obtain ⟨rfl, rfl⟩ := H
   go_enter Try.func88, Try.ntmps88
   go_wp2_with (first | ((with_reducible refine gateC (f := 84) rfl ?_); refine goesL_ (some 9) rfl rfl Try.func84 (by kernel_rfl) rfl #[.slice A0 l0.length c0, .slice A1 l1.length c1] rfl zm ?_; (with_reducible refine (spec_l2Asked.calls k _ _ l0 _ _ l1 true _ ?side1 ?side2 ?side3 ?side4 A3.out).mono ?_); (case side1 => exact zq HR0.out); (case side2 => exact HC0.out); (case side3 => exact zq HR1.out); (case side4 => exact HC1.out); rintro e w8 ⟨rfl, hb⟩; refine ⟨_, rfl, ?_⟩; have n0_ := am (below_step zb hb); clear HB; have HB := n0_; clear n0_; (try clear hb)) | ((with_reducible refine gateC (f := 133) rfl ?_); refine goesL_ (some 13) rfl rfl Try.func133 (by kernel_rfl) rfl #[.slice A0 l0.length c0, .slice A1 l1.length c1] rfl zm ?_; (with_reducible refine (spec_l2Patch.calls k _ _ l0 _ _ l1 t133 _ ?side1 ?side2 ?side3 ?side4 A5.out).mono ?_); (case side1 => exact zq (Kd.C_below HR0.out HB.out)); (case side2 => exact HC0.out); (case side3 => exact zq (Kd.C_below HR1.out HB.out)); (case side4 => exact HC1.out); rintro e w9 ⟨v134, rfl, ho0, hb⟩; refine ⟨_, rfl, ?_⟩; have n0_ := am (Kd.R_lower ho0 (below_size zb)); have n1_ := am (below_step zb hb); clear HB; have HO135 := n0_; have HB := n1_; clear n0_ n1_; (try clear hb); (try clear ho0); obtain ⟨Ao10, co10, eo10⟩ := Kd.R_slice HO135.out; subst eo10) | ((with_reducible refine gateC (f := 66) rfl ?_); refine goesL_ (some 15) rfl rfl Try.func66 (by kernel_rfl) rfl #[.slice Ao10 t133.length co10] rfl zm ?_; (with_reducible refine (spec_l1Good.calls k _ _ t133 true _ ?side1 ?side2 A6.out).mono ?_); (case side1 => repeat (first | exact (Kd.R_reads' HO135.out).2.2 | (with_reducible refine Kd.C_alloc ?_ _) | (with_reducible refine Kd.C_drewN ?_ _) | (with_reducible refine Kd.C_drew ?_))); (case side2 => exact (Kd.R_reads' HO135.out).2.1); rintro e w' ⟨rfl, ⟨nd, rfl⟩⟩; refine ⟨_, rfl, ?_⟩))
   go_ret2
   exact ⟨_, by first | rfl | (simp [errW_none, errW_some] <;> rfl) | (simp [*, errW_none, errW_some] <;> rfl), by (with_reducible repeat (first | apply Kd.R_alloc | apply Kd.R_drewN | apply Kd.R_drew)); exact HO135.out, by repeat (first | (with_reducible first | exact HB.out | apply below_alloc | apply pw_below_drewN | apply below_drew1) | exact HB.out)⟩
  ·replace c7 := Bool.eq_false_iff.mpr c7
   subst c7
   have H1 : (some (([] : List ByteArray), false)) = some (r1, r2) := by rw [if_neg (show ¬ (false = true) by decide)] at H; exact H
   clear H
   have H := H1
   clear H1
   simp only [Option.some.injEq, Prod.mk.injEq] at H
   obtain ⟨rfl, rfl⟩ := H
   go_enter Try.func88, Try.ntmps88
   go_wp2_with (first | ((with_reducible refine gateC (f := 84) rfl ?_); refine goesL_ (some 9) rfl rfl Try.func84 (by kernel_rfl) rfl #[.slice A0 l0.length c0, .slice A1 l1.length c1] rfl zm ?_; (with_reducible refine (spec_l2Asked.calls k _ _ l0 _ _ l1 true _ ?side1 ?side2 ?side3 ?side4 A3.out).mono ?_); (case side1 => exact zq HR0.out); (case side2 => exact HC0.out); (case side3 => exact zq HR1.out); (case side4 => exact HC1.out); rintro e w11 ⟨rfl, hb⟩; refine ⟨_, rfl, ?_⟩; have n0_ := am (below_step zb hb); clear HB; have HB := n0_; clear n0_; (try clear hb)) | ((with_reducible refine gateC (f := 133) rfl ?_); refine goesL_ (some 13) rfl rfl Try.func133 (by kernel_rfl) rfl #[.slice A0 l0.length c0, .slice A1 l1.length c1] rfl zm ?_; (with_reducible refine (spec_l2Patch.calls k _ _ l0 _ _ l1 t133 _ ?side1 ?side2 ?side3 ?side4 A5.out).mono ?_); (case side1 => exact zq (Kd.C_below HR0.out HB.out)); (case side2 => exact HC0.out); (case side3 => exact zq (Kd.C_below HR1.out HB.out)); (case side4 => exact HC1.out); rintro e w12 ⟨v134, rfl, ho0, hb⟩; refine ⟨_, rfl, ?_⟩; have n0_ := am (Kd.R_lower ho0 (below_size zb)); have n1_ := am (below_step zb hb); clear HB; have HO135 := n0_; have HB := n1_; clear n0_ n1_; (try clear hb); (try clear ho0); obtain ⟨Ao13, co13, eo13⟩ := Kd.R_slice HO135.out; subst eo13) | ((with_reducible refine gateC (f := 66) rfl ?_); refine goesL_ (some 15) rfl rfl Try.func66 (by kernel_rfl) rfl #[.slice Ao13 t133.length co13] rfl zm ?_; (with_reducible refine (spec_l1Good.calls k _ _ t133 false _ ?side1 ?side2 A6.out).mono ?_); (case side1 => repeat (first | exact (Kd.R_reads' HO135.out).2.2 | (with_reducible refine Kd.C_alloc ?_ _) | (with_reducible refine Kd.C_drewN ?_ _) | (with_reducible refine Kd.C_drew ?_))); (case side2 => exact (Kd.R_reads' HO135.out).2.1); rintro e w' ⟨rfl, ⟨nd, rfl⟩⟩; refine ⟨_, rfl, ?_⟩))
   go_ret2
   exact ⟨_, by first | rfl | (simp [errW_none, errW_some] <;> rfl) | (simp [*, errW_none, errW_some] <;> rfl), by first | exact Kd.R_nil _ _ _ _ _ | exact Kd.Q_nil _ _ _ _ _ | exact Kd.S_nil _ _ _ _ _, by repeat (first | (with_reducible first | exact HB.out | apply below_alloc | apply pw_below_drewN | apply below_drew1) | exact HB.out)⟩
 ·replace c4 := Bool.eq_false_iff.mpr c4
  subst c4
  have H1 : (some (([] : List ByteArray), false)) = some (r1, r2) := by rw [if_neg (show ¬ (false = true) by decide)] at H; exact H
  clear H
  have H := H1
  clear H1
  simp only [Option.some.injEq, Prod.mk.injEq] at H
  obtain ⟨rfl, rfl⟩ := H
  go_enter Try.func88, Try.ntmps88
  go_wp2_with (first | ((with_reducible refine gateC (f := 84) rfl ?_); refine goesL_ (some 9) rfl rfl Try.func84 (by kernel_rfl) rfl #[.slice A0 l0.length c0, .slice A1 l1.length c1] rfl zm ?_; (with_reducible refine (spec_l2Asked.calls k _ _ l0 _ _ l1 false _ ?side1 ?side2 ?side3 ?side4 A3.out).mono ?_); (case side1 => exact zq HR0.out); (case side2 => exact HC0.out); (case side3 => exact zq HR1.out); (case side4 => exact HC1.out); rintro e w14 ⟨rfl, hb⟩; refine ⟨_, rfl, ?_⟩; have n0_ := am (below_step zb hb); clear HB; have HB := n0_; clear n0_; (try clear hb)))
  go_ret2
  exact ⟨_, by first | rfl | (simp [errW_none, errW_some] <;> rfl) | (simp [*, errW_none, errW_some] <;> rfl), by first | exact Kd.R_nil _ _ _ _ _ | exact Kd.Q_nil _ _ _ _ _ | exact Kd.S_nil _ _ _ _ _, by repeat (first | (with_reducible first | exact HB.out | apply below_alloc | apply pw_below_drewN | apply below_drew1) | exact HB.out)⟩

def spec_l1Least.f (a0 : Int) (a1 : Int) : Option (Int) := if a0 < a1 then (some a0) else (some a1)
set_option maxHeartbeats 8000000 in
set_option maxRecDepth 100000 in
theorem spec_l1Least.calls (a0 : Int) (a1 : Int) (r : Int) (w : World) (h : spec_l1Least.f a0 a1 = some r) :
  Calls Try.prog 155 #[.int .i64 a0, .int .i64 a1] w fun e w' => e = .returned (.int .i64 r) ∧ Drawn0 w w' := by
 have H : (if a0 < a1 then (some a0) else (some a1)) = some r := h
 clear h
 by_cases c3 : a0 < a1
 ·rw [if_pos c3] at H
  have c3b0 : decide (a0 < a1) = true := decide_eq_true c3
  clear c3
  obtain rfl := Option.some.inj H
  go_enter Try.func155, Try.ntmps155
  go_wp2
  go_ret
  exact ⟨by first | rfl | (simp; done) | (simp [*]; done), by repeat (first | exact Drawn0.refl _ | apply Drawn0.step)⟩
 ·rw [if_neg c3] at H
  have c3b0 : decide (a0 < a1) = false := decide_eq_false c3
  clear c3
  obtain rfl := Option.some.inj H
  go_enter Try.func155, Try.ntmps155
  go_wp2
  go_ret
  exact ⟨by first | rfl | (simp; done) | (simp [*]; done), by repeat (first | exact Drawn0.refl _ | apply Drawn0.step)⟩

def spec_l1Most.f (a0 : Int) (a1 : Int) : Option (Int) := if a0 > a1 then (some a0) else (some a1)
set_option maxHeartbeats 8000000 in
set_option maxRecDepth 100000 in
theorem spec_l1Most.calls (a0 : Int) (a1 : Int) (r : Int) (w : World) (h : spec_l1Most.f a0 a1 = some r) :
  Calls Try.prog 131 #[.int .i64 a0, .int .i64 a1] w fun e w' => e = .returned (.int .i64 r) ∧ Drawn0 w w' := by
 have H : (if a0 > a1 then (some a0) else (some a1)) = some r := h
 clear h
 by_cases c3 : a0 > a1
 ·rw [if_pos c3] at H
  have c3b0 : decide (a1 < a0) = true := decide_eq_true c3
  clear c3
  obtain rfl := Option.some.inj H
  go_enter Try.func131, Try.ntmps131
  go_wp2
  go_ret
  exact ⟨by first | rfl | (simp; done) | (simp [*]; done), by repeat (first | exact Drawn0.refl _ | apply Drawn0.step)⟩
 ·rw [if_neg c3] at H
  have c3b0 : decide (a1 < a0) = false := decide_eq_false c3
  clear c3
  obtain rfl := Option.some.inj H
  go_enter Try.func131, Try.ntmps131
  go_wp2
  go_ret
  exact ⟨by first | rfl | (simp; done) | (simp [*]; done), by repeat (first | exact Drawn0.refl _ | apply Drawn0.step)⟩

def spec_l6Rows.l0 : Nat → Int → List (S140) → List ByteArray → Int → Int → Option ((List (S140)))
 | 0, _, _, _, _, _ => none
 | k + 1, x0, x5, x8, x9, x10 => if x10 < x9 then (if 0 ≤ x10 then (if x10 < (x8.length : Int) then (if x5.length < 5864062014805 then (spec_l6Rows.l0 k x0 (x5 ++ [(⟨x0, rdOf ByteArray.empty x8 x10⟩ : S140)]) x8 x9 (wrap64 (x10 + 1))) else (none)) else (none)) else (none)) else (some x5)
def spec_l6Rows.f (k : Nat) (a0 : Int) (l1 : List ByteArray) : Option ((List (S140))) := spec_l6Rows.l0 k a0 ([] : List (S140)) l1 (l1.length : Int) 0
set_option maxHeartbeats 8000000 in
set_option maxRecDepth 100000 in
theorem spec_l6Rows.calls (k : Nat) (a0 : Int) (A1 : Option Addr) (c1 : Nat) (l1 : List ByteArray) (r : List (S140)) (w : World) (hr1 : Kd.C Kd.string w A1 l1.length l1) (hc1 : l1.length ≤ c1) (h : spec_l6Rows.f k a0 l1 = some r) :
  Calls Try.prog 156 #[.int .i64 a0, .slice A1 l1.length c1] w fun e w' => ∃ v0_ : Value, e = .returned (v0_) ∧ Kd.R k140 140 w' w.heap.size (fun _ => True) v0_ r ∧ Below w.heap.size w w' := by
 have hu140 := Try.underlying140
 have HR1 := am hr1
 have HC1 := am hc1
 clear hr1 hc1
 have HB := am (Below.refl w.heap.size w)
 have H : (spec_l6Rows.l0 k a0 ([] : List (S140)) l1 (l1.length : Int) 0) = some r := h
 clear h
 have H' := am H
 clear H
 go_enter Try.func156, Try.ntmps156
 go_wp2
 go_loopg [5, 10] k (fun kq v5 v10 w' => ∃ (x5_1 : List (S140)) (x10_1 : Int), v10 = .int .i64 x10_1 ∧ Aside0 (spec_l6Rows.l0 kq a0 x5_1 l1 (l1.length : Int) x10_1 = some r) ∧ Aside0 (kq ≤ k) ∧ Aside0 (Kd.R k140 140 w' w.heap.size (fun _ => True) v5 x5_1) ∧ Aside0 (Below w.heap.size w w'))
 case atStart => exact ⟨(([] : List (S140))), (0), zf, H', ⟨Nat.le_refl _⟩, ⟨by first | exact Kd.R_nil _ _ _ _ _ | exact Kd.Q_nil _ _ _ _ _ | exact Kd.S_nil _ _ _ _ _⟩, ⟨by repeat (first | (with_reducible first | exact HB.out | apply below_alloc | apply pw_below_drewN | apply below_drew1) | exact HB.out)⟩⟩
 case round =>
  clear H'
  try clear c1
  try clear p2
  obtain ⟨x5_1, x10_1, rfl, HA, HK1, HO_5, HB⟩ := hrel
  cases gk with
  | zero => exact absurd HA.out (by simp [spec_l6Rows.l0])
  | succ k1 =>
   have H := HA.out
   clear HA
   simp only [spec_l6Rows.l0] at H
   by_cases c3 : x10_1 < (l1.length : Int)
   ·rw [if_pos c3] at H
    have c3b0 : decide (x10_1 < (l1.length : Int)) = true := decide_eq_true c3
    clear c3
    by_cases c4 : 0 ≤ x10_1
    ·rw [if_pos c4] at H
     have c4b0 : decide (0 ≤ x10_1) = true := decide_eq_true c4
     clear c4
     by_cases c5 : x10_1 < (l1.length : Int)
     ·rw [if_pos c5] at H
      have c5b0 : decide (x10_1 < (l1.length : Int)) = true := decide_eq_true c5
      clear c5
      by_cases c6 : x5_1.length < 5864062014805
      ·rw [if_pos c6] at H
       have LMc6 := am c6
       clear c6
       obtain ⟨y138, hy138⟩ : ∃ y_ : List (S140), y_ = (x5_1 ++ [(⟨a0, rdOf ByteArray.empty l1 x10_1⟩ : S140)]) := ⟨_, rfl⟩
       replace H : (spec_l6Rows.l0 k1 a0 y138 l1 (l1.length : Int) (wrap64 (x10_1 + 1))) = some r := by first | (rw [hy138]; with_reducible exact H) | (have H2_ := (Option.bind_some _ _).symm.trans H; rw [hy138]; with_reducible exact H2_) | (have H2_ := (Option.bind_some _ _).symm.trans H; with_reducible exact H2_) | with_reducible exact H | (rw [hy138]; exact H) | exact H
       have Ny138 := am hy138
       clear hy138
       have H' := am H
       clear H
       have p137 : 0 ≤ (x10_1 : Int) := oa
       have q137 : x10_1 < (l1.length : Int) := oa
       obtain ⟨ad137, e137, hx137_0⟩ := Kd.at_string HR1.out x10_1 p137 q137
       cases e137
       replace hx137_0 := (HB.out.cell (World.block_lt_of_cell? w _ hx137_0)).trans hx137_0
       replace p137 := eq_true p137
       replace q137 := eq_true q137
       go_wp2_with (first | ((with_reducible refine gateB (b := .append) (xs := #[.tmp 14, .tmp 18]) rfl ?_); at_builtin; refine Kd.R_append k140 (w0 := w) w.heap.size rfl (.tmp 14) (.tmp 18) 71 140 (.agg #[(.int .i64 0), (.string ⟨#[]⟩)]) 24 rfl Try.underlying71 info140 rfl (by decide) (by omega) u5 x5_1 (⟨a0, rdOf ByteArray.empty l1 x10_1⟩ : S140) [.int .i64 a0, .string (rdOf ByteArray.empty l1 x10_1)] (fun _ => True) (fun _ => False) rfl rfl ?aP (fun _ hk => hk.elim) ?aF ?aO ?aB ?aS ?aL ?_; (case aP => exact k140_mkM _ _ _ (⟨a0, rdOf ByteArray.empty l1 x10_1⟩ : S140)); (case aB => exact zb); (case aF => exact (fun _ _ => trivial)); (case aO => exact (zr HO_5.out)); (case aS => exact (below_size zb)); (case aL => have := LMc6.out; omega); intro v139 w7 ho hb hg hat; rw [← Ny138.out] at ho; have n0_ := am (hb); have n1_ := am (ho); clear HB; clear HO_5; have HB := n0_; have HO140 := n1_; clear n0_ n1_; clear ho hb hg hat))
       go_roundg k1
       case measure => have := HK1.out; omega
       case rel => exact ⟨(y138), (wrap64 (x10_1 + 1)), zf, H', ⟨by have := HK1.out; omega⟩, ⟨by (with_reducible repeat (first | apply Kd.R_alloc | apply Kd.R_drewN | apply Kd.R_drew)); exact HO140.out⟩, ⟨by repeat (first | (with_reducible first | exact HB.out | apply below_alloc | apply pw_below_drewN | apply below_drew1) | exact HB.out)⟩⟩
      ·rw [if_neg c6] at H
       exact absurd H (by simp)
     ·rw [if_neg c5] at H
      exact absurd H (by simp)
    ·rw [if_neg c4] at H
     exact absurd H (by simp)
   ·rw [if_neg c3] at H
    have c3b0 : decide (x10_1 < (l1.length : Int)) = false := decide_eq_false c3
    clear c3
    obtain rfl := Option.some.inj H
    go_wp2
    go_ret
    exact ⟨_, by first | rfl | (simp [errW_none, errW_some] <;> rfl) | (simp [*, errW_none, errW_some] <;> rfl), by (with_reducible repeat (first | apply Kd.R_alloc | apply Kd.R_drewN | apply Kd.R_drew)); exact HO_5.out, by repeat (first | (with_reducible first | exact HB.out | apply below_alloc | apply pw_below_drewN | apply below_drew1) | exact HB.out)⟩

def spec_l6One.l0 : Nat → List ByteArray → Int → Int → List (S106) → Int → Int → Int → Int → List ByteArray → Int → Int → List (S140) → Option (Int × Int × (List (S140)))
 | 0, _, _, _, _, _, _, _, _, _, _, _, _ => none
 | k + 1, x0, x2, x12, x35, x36, x37, x146000, x146001, x146002, x147000, x147001, x147002 => if x37 < x36 then (if 0 ≤ x37 then (if x37 < (x35.length : Int) then (if 0 ≤ x12 then (if x12 ≤ ((T106 x35 x37).f0) then (if ((T106 x35 x37).f0) ≤ (x0.length : Int) then ((spec_l6Rows.f k 1 ((x0.take (((T106 x35 x37).f0) : Int).toNat).drop (x12 : Int).toNat)).bind fun t150 => (if x147002.length + t150.length < 5864062014805 then ((some (x147002 ++ t150 : List (S140))).bind fun y153 => (if 0 ≤ ((T106 x35 x37).f0) then (if ((T106 x35 x37).f0) ≤ (wrap64 (((T106 x35 x37).f0) + ((T106 x35 x37).f1))) then (if (wrap64 (((T106 x35 x37).f0) + ((T106 x35 x37).f1))) ≤ (x0.length : Int) then ((spec_l6Rows.f k 2 ((x0.take ((wrap64 (((T106 x35 x37).f0) + ((T106 x35 x37).f1))) : Int).toNat).drop (((T106 x35 x37).f0) : Int).toNat)).bind fun t157 => (if y153.length + t157.length < 5864062014805 then ((some (y153 ++ t157 : List (S140))).bind fun y160 => ((spec_l6Rows.f k 3 ((T106 x35 x37).f2)).bind fun t163 => (if y160.length + t163.length < 5864062014805 then (spec_l6One.l0 k x0 x2 (wrap64 (((T106 x35 x37).f0) + ((T106 x35 x37).f1))) x35 x36 (wrap64 (x37 + 1)) x146000 x146001 x146002 x147000 x147001 (y160 ++ t163)) else (none)))) else (none))) else (none)) else (none)) else (none))) else (none))) else (none)) else (none)) else (none)) else (none)) else (none)) else ((spec_l1Least.f (x0.length : Int) (wrap64 ((wrap64 (x146000 + x146001)) + x2))).bind fun t169 => (if 0 ≤ x12 then (if x12 ≤ t169 then (if t169 ≤ (x0.length : Int) then ((spec_l6Rows.f k 1 ((x0.take (t169 : Int).toNat).drop (x12 : Int).toNat)).bind fun t171 => (if x147002.length + t171.length < 5864062014805 then (some (x147000, x147001, (x147002 ++ t171))) else (none))) else (none)) else (none)) else (none)))
def spec_l6One.f (k : Nat) (l0 : List ByteArray) (l1 : List (S106)) (a2 : Int) (a3 : Int) : Option (Int × Int × (List (S140))) := if 0 < (l1.length : Int) then ((spec_l1Most.f 0 (wrap64 (((T106 l1 0).f0) - a2))).bind fun t143 => (if 0 ≤ (wrap64 ((l1.length : Int) - 1)) then (if (wrap64 ((l1.length : Int) - 1)) < (l1.length : Int) then (spec_l6One.l0 k l0 a2 t143 l1 (l1.length : Int) 0 ((T106 l1 (wrap64 ((l1.length : Int) - 1))).f0) ((T106 l1 (wrap64 ((l1.length : Int) - 1))).f1) ((T106 l1 (wrap64 ((l1.length : Int) - 1))).f2) t143 (wrap64 (t143 + a3)) ([] : List (S140))) else (none)) else (none))) else (none)
def spec_l6One.T8 : Bool × List (List Nat × List Nat) := (true, [([], []), ([0], [0]), ([], []), ([], []), ([], []), ([4], [4]), ([2, 3, 5], [2, 3, 5]), ([6], [6]), ([1, 7, 7], [1, 7]), ([0, 1, 2, 3, 4, 5, 6, 7, 8], []), ([9, 8, 8, 0, 1, 2, 3, 4, 5, 6, 7, 8], [8, 9])])
def spec_l6One.B8 : List Nat := [0, 1, 0, 0, 0, 16, 60, 124, 255, 511, 1023]
theorem spec_l6One.tab8 : rtab .any (opsOf Try.f137 8) = spec_l6One.T8 := by kernel_rfl
theorem spec_l6One.bits8 : waitsOk spec_l6One.T8.2 spec_l6One.B8 = true := by kernel_rfl
def spec_l6One.T9 : Bool × List (List Nat × List Nat) := (true, [([], []), ([0], [0]), ([], []), ([], []), ([3], [3]), ([], []), ([5], [5]), ([], []), ([7], [7]), ([6, 8], [6, 8]), ([2, 4, 9], [2, 4, 9]), ([10], [10]), ([1, 11, 11], [1, 11]), ([0, 1, 2, 3, 4, 5, 6, 7, 8, 9, 10, 11, 12], []), ([13, 12, 12, 0, 1, 2, 3, 4, 5, 6, 7, 8, 9, 10, 11, 12], [12, 13])])
def spec_l6One.B9 : List Nat := [0, 1, 0, 0, 8, 0, 32, 0, 128, 480, 1020, 2044, 4095, 8191, 16383]
theorem spec_l6One.tab9 : rtab .any (opsOf Try.f137 9) = spec_l6One.T9 := by kernel_rfl
theorem spec_l6One.bits9 : waitsOk spec_l6One.T9.2 spec_l6One.B9 = true := by kernel_rfl
def spec_l6One.T10 : Bool × List (List Nat × List Nat) := (true, [([], []), ([0], [0]), ([], []), ([2], [2]), ([3], [3]), ([1, 4, 4], [1, 4]), ([0, 1, 2, 3, 4, 5], []), ([6, 5, 5, 0, 1, 2, 3, 4, 5], [5, 6])])
def spec_l6One.B10 : List Nat := [0, 1, 0, 4, 12, 31, 63, 127]
theorem spec_l6One.tab10 : rtab .any (opsOf Try.f137 10) = spec_l6One.T10 := by kernel_rfl
theorem spec_l6One.bits10 : waitsOk spec_l6One.T10.2 spec_l6One.B10 = true := by kernel_rfl
def spec_l6One.T14 : Bool × List (List Nat × List Nat) := (true, [([], []), ([0], [0]), ([], []), ([], []), ([], []), ([2, 3, 4], [2, 3, 4]), ([5], [5]), ([1, 6, 6], [1, 6]), ([0, 1, 2, 3, 4, 5, 6, 7], []), ([8, 7, 7, 0, 1, 2, 3, 4, 5, 6, 7], [7, 8])])
def spec_l6One.B14 : List Nat := [0, 1, 0, 0, 0, 28, 60, 127, 255, 511]
theorem spec_l6One.tab14 : rtab .any (opsOf Try.f137 14) = spec_l6One.T14 := by kernel_rfl
theorem spec_l6One.bits14 : waitsOk spec_l6One.T14.2 spec_l6One.B14 = true := by kernel_rfl
set_option maxHeartbeats 8000000 in
set_option maxRecDepth 100000 in
theorem spec_l6One.calls (k : Nat) (A0 : Option Addr) (c0 : Nat) (l0 : List ByteArray) (A1 : Option Addr) (c1 : Nat) (l1 : List (S106)) (a2 : Int) (a3 : Int) (r1 : Int) (r2 : Int) (r3 : List (S140)) (w : World) (hr0 : Kd.C Kd.string w A0 l0.length l0) (hc0 : l0.length ≤ c0) (hr1 : Kd.C k106 w A1 l1.length l1) (hc1 : l1.length ≤ c1) (h : spec_l6One.f k l0 l1 a2 a3 = some (r1, r2, r3)) :
  Calls Try.prog 137 #[.slice A0 l0.length c0, .slice A1 l1.length c1, .int .i64 a2, .int .i64 a3] w fun e w' => ∃ v2_ : Value, e = .returned (.agg #[.int .i64 r1, .int .i64 r2, v2_]) ∧ Kd.R k140 140 w' w.heap.size (fun _ => True) v2_ r3 ∧ Below w.heap.size w w' := by
 have hu73 := Try.underlying73
 have hu106 := Try.underlying106
 have HR0 := am hr0
 have HC0 := am hc0
 clear hr0 hc0
 have HR1 := am hr1
 have HC1 := am hc1
 clear hr1 hc1
 have HB := am (Below.refl w.heap.size w)
 have H : (if 0 < (l1.length : Int) then ((spec_l1Most.f 0 (wrap64 (((T106 l1 0).f0) - a2))).bind fun t143 => (if 0 ≤ (wrap64 ((l1.length : Int) - 1)) then (if (wrap64 ((l1.length : Int) - 1)) < (l1.length : Int) then (spec_l6One.l0 k l0 a2 t143 l1 (l1.length : Int) 0 ((T106 l1 (wrap64 ((l1.length : Int) - 1))).f0) ((T106 l1 (wrap64 ((l1.length : Int) - 1))).f1) ((T106 l1 (wrap64 ((l1.length : Int) - 1))).f2) t143 (wrap64 (t143 + a3)) ([] : List (S140))) else (none)) else (none))) else (none)) = some (r1, r2, r3) := h
 clear h
 by_cases c5 : 0 < (l1.length : Int)
 ·rw [if_pos c5] at H
  have c5b0 : decide (0 < (l1.length : Int)) = true := decide_eq_true c5
  have c5b1 : decide (0 < l1.length) = true := decide_eq_true (by omega)
  clear c5
  replace H := Option.bind_eq_some_iff.mp H
  obtain ⟨t143, A60, H⟩ := H
  replace H : (if 0 ≤ (wrap64 ((l1.length : Int) - 1)) then (if (wrap64 ((l1.length : Int) - 1)) < (l1.length : Int) then (spec_l6One.l0 k l0 a2 t143 l1 (l1.length : Int) 0 ((T106 l1 (wrap64 ((l1.length : Int) - 1))).f0) ((T106 l1 (wrap64 ((l1.length : Int) - 1))).f1) ((T106 l1 (wrap64 ((l1.length : Int) - 1))).f2) t143 (wrap64 (t143 + a3)) ([] : List (S140))) else (none)) else (none)) = some (r1, r2, r3) := H
  have A6 := am A60
  clear A60
  obtain ⟨ji7, hji7⟩ : ∃ j_ : Int, (wrap64 ((l1.length : Int) - 1)) = j_ := ⟨_, rfl⟩
  replace H : (if 0 ≤ (ji7) then (if (ji7) < (l1.length : Int) then (spec_l6One.l0 k l0 a2 t143 l1 (l1.length : Int) 0 ((T106 l1 (ji7)).f0) ((T106 l1 (ji7)).f1) ((T106 l1 (ji7)).f2) t143 (wrap64 (t143 + a3)) ([] : List (S140))) else (none)) else (none)) = some (r1, r2, r3) := by first | (rw [hji7] at H; exact H) | (simp only [hji7] at H ⊢; exact H)
  (try rw [hji7] at A6)
  have hji7w : (IntKind.i64.wrap ((l1.length : Int) - 1)) = ji7 := (i64_w _).trans hji7
  by_cases c8 : 0 ≤ (ji7)
  ·rw [if_pos c8] at H
   have c8b0 : decide (0 ≤ (ji7)) = true := decide_eq_true c8
   clear c8
   by_cases c9 : (ji7) < (l1.length : Int)
   ·rw [if_pos c9] at H
    have c9b0 : decide ((ji7) < (l1.length : Int)) = true := decide_eq_true c9
    clear c9
    have H' := am H
    clear H
    go_enter Try.func137, Try.ntmps137
    go_wp2_with (first | ((with_reducible refine gate_dst (N := 8) rfl ?_); refine box_event ?hg (N := 8) ?hd (cs := #[.int .i64 0, .int .i64 0, .slice none 0 0]) (t := 73) ?hr ?_; (case hd => rfl); (case hg => rfl); (case hr => first | (go_simp; done) | (go_simp; rfl)); intro gb141 hg w10 hbox hb; have n0_ := am (below_step zb hb); have n1_ := am (hbox); have n2_ := am ((by rw [hg]; exact (below_size zb) : w.heap.size ≤ gb141)); have n3_ := am ((by rw [hg]; exact (below_size zb) : w.heap.size ≤ gb141)); clear HB; have HB := n0_; have BK141 := n1_; have GW141 := n2_; have GE141 := n3_; clear n0_ n1_ n2_ n3_; clear hb hbox hg; have p142 : 0 ≤ (0 : Int) := (by omega); have q142 : 0 < (l1.length : Int) := oa; obtain ⟨ad142, A142_2, c142_2, e142, hx142_0, hx142_1, hx142_2, hl142_2, hi142_2⟩ := at_T106 HR1.out 0 p142 q142; cases e142; have qi142 : (0 < l1.length) = True := eq_true (by omega); (try rw [show ((0 : Int)).toNat = 0 from rfl] at hx142_0); (try rw [show 0 * 3 = 0 from rfl] at hx142_0); (try rw [Addr.add_zero'] at hx142_0); (try rw [show ((0 : Int)).toNat = 0 from rfl] at hx142_1); (try rw [show 0 * 3 = 0 from rfl] at hx142_1); (try rw [Addr.add_zero'] at hx142_1); (try rw [show ((0 : Int)).toNat = 0 from rfl] at hx142_2); (try rw [show 0 * 3 = 0 from rfl] at hx142_2); (try rw [Addr.add_zero'] at hx142_2); replace hx142_0 := (HB.out.cell (World.block_lt_of_cell? w _ hx142_0)).trans hx142_0; replace hx142_1 := (HB.out.cell (World.block_lt_of_cell? w _ hx142_1)).trans hx142_1; replace hx142_2 := (HB.out.cell (World.block_lt_of_cell? w _ hx142_2)).trans hx142_2; have HR142_2 := am hi142_2; have HC142_2 := am hl142_2; clear hi142_2 hl142_2; replace p142 := eq_true p142; replace q142 := eq_true q142) | ((with_reducible refine gateC (f := 131) rfl ?_); refine goesL_ (some 22) rfl rfl Try.func131 (by kernel_rfl) rfl #[.int .i64 0, .int .i64 (wrap64 (((T106 l1 0).f0) - a2))] rfl zm ?_; (with_reducible refine (spec_l1Most.calls 0 (wrap64 (((T106 l1 0).f0) - a2)) t143 _ A6.out).mono ?_); rintro e w' ⟨rfl, ⟨nd, rfl⟩⟩; refine ⟨_, rfl, ?_⟩; (try (rw [drewN_self w10]; generalize hq_ : World.drewN w10 _ = w10; have n0_ : Aside0 (w10.heap[gb141]? = some (.cells #[.int .i64 0, .int .i64 0, .slice none 0 0] 73 (0, 0))) := ⟨by rw [← hq_]; exact (zk BK141.out)⟩; have n1_ : Aside0 (Below w.heap.size w w10) := ⟨by rw [← hq_]; exact (by repeat (first | (with_reducible first | exact HB.out | apply below_alloc | apply pw_below_drewN | apply below_drew1 | refine below_set ?_ GE141.out) | exact HB.out))⟩; clear BK141 HB hq_; have BK141 := n0_; have HB := n1_; clear n0_ n1_)); have p144 : 0 ≤ ((ji7) : Int) := oa; have q144 : (ji7) < (l1.length : Int) := oa; obtain ⟨ad144, A144_2, c144_2, e144, hx144_0, hx144_1, hx144_2, hl144_2, hi144_2⟩ := at_T106 HR1.out (ji7) p144 q144; obtain rfl : ad142 = ad144 := (by injection e144); replace hx144_0 := (HB.out.cell (World.block_lt_of_cell? w _ hx144_0)).trans hx144_0; replace hx144_1 := (HB.out.cell (World.block_lt_of_cell? w _ hx144_1)).trans hx144_1; replace hx144_2 := (HB.out.cell (World.block_lt_of_cell? w _ hx144_2)).trans hx144_2; have HR144_2 := am hi144_2; have HC144_2 := am hl144_2; clear hi144_2 hl144_2; replace p144 := eq_true p144; replace q144 := eq_true q144) | ((with_reducible refine gate_dst (N := 10) rfl ?_); refine box_event ?hg (N := 10) ?hd (cs := #[.int .i64 0, .int .i64 0, .slice none 0 0]) (t := 106) ?hr ?_; (case hd => rfl); (case hg => rfl); (case hr => first | (go_simp; done) | (go_simp; rfl)); intro gb145 hg w11 hbox hb; have n0_ := am (blk_below (g := gb141) (o := .cells #[.int .i64 0, .int .i64 0, .slice none 0 0] 73 (0, 0)) (zk BK141.out) hb); have n1_ := am (below_step (by repeat (first | (with_reducible first | exact HB.out | apply below_alloc | apply pw_below_drewN | apply below_drew1 | refine below_set ?_ GE141.out) | exact HB.out)) hb); have n2_ := am (hbox); have n3_ := am ((by rw [hg]; exact (below_size (by repeat (first | (with_reducible first | exact HB.out | apply below_alloc | apply pw_below_drewN | apply below_drew1 | refine below_set ?_ GE141.out) | exact HB.out))) : w.heap.size ≤ gb145)); have n4_ := am ((by rw [hg]; exact (below_size (by repeat (first | (with_reducible first | exact HB.out | apply below_alloc | apply pw_below_drewN | apply below_drew1 | refine below_set ?_ GE141.out) | exact HB.out))) : w.heap.size ≤ gb145)); have n5_ := am ((by rw [hg]; exact Nat.ne_of_lt (blk_lt (g := gb141) (o := .cells #[.int .i64 0, .int .i64 0, .slice none 0 0] 73 (0, 0)) (zk BK141.out)) : gb141 ≠ gb145)); have n6_ := am ((by rw [hg]; exact Nat.ne_of_gt (blk_lt (g := gb141) (o := .cells #[.int .i64 0, .int .i64 0, .slice none 0 0] 73 (0, 0)) (zk BK141.out)) : gb145 ≠ gb141)); clear BK141; clear HB; have BK141 := n0_; have HB := n1_; have BK145 := n2_; have GW145 := n3_; have GE145 := n4_; have NB141_145 := n5_; have NB145_141 := n6_; clear n0_ n1_ n2_ n3_ n4_ n5_ n6_; clear hb hbox hg; have hnb12 := NB145_141.out; have hnc12 := NB141_145.out; have hcz13_0 : w11.cell? ⟨gb145, 0, none⟩ = some (.int .i64 0) := (blk_cell BK145.out 0).trans rfl; have hcz13_1 : w11.cell? ⟨gb145, 1, none⟩ = some (.int .i64 0) := (blk_cell BK145.out 1).trans rfl; have hcz13_2 : w11.cell? ⟨gb145, 2, none⟩ = some (.slice none 0 0) := (blk_cell BK145.out 2).trans rfl; have hfz13_0 := blk_frozen BK145.out 0; have hfz13_1 := blk_frozen BK145.out 1; have hfz13_2 := blk_frozen BK145.out 2) | ((with_reducible refine gate_dst (N := 11) rfl ?_); refine box_event ?hg (N := 11) ?hd (cs := #[.int .i64 0, .int .i64 0, .slice none 0 0]) (t := 73) ?hr ?_; (case hd => rfl); (case hg => rfl); (case hr => first | (go_simp; done) | (go_simp; rfl)); intro gb146 hg w14 hbox hb; have n0_ := am (blk_below (g := gb141) (o := .cells #[.int .i64 0, .int .i64 0, .slice none 0 0] 73 (0, 0)) (by (with_reducible repeat (first | refine blk_drewN ?_ _ | refine blk_drew ?_ | refine blk_alloc ?_ _)); refine blk_far ?_ NB141_145.out _; (with_reducible repeat (first | refine blk_drewN ?_ _ | refine blk_drew ?_ | refine blk_alloc ?_ _)); refine blk_far ?_ NB141_145.out _; (with_reducible repeat (first | refine blk_drewN ?_ _ | refine blk_drew ?_ | refine blk_alloc ?_ _)); refine blk_far ?_ NB141_145.out _; (with_reducible repeat (first | refine blk_drewN ?_ _ | refine blk_drew ?_ | refine blk_alloc ?_ _)); exact BK141.out) hb); have n1_ := am (blk_below (g := gb145) (o := .cells #[.int .i64 ((T106 l1 (ji7)).f0), .int .i64 ((T106 l1 (ji7)).f1), .slice A144_2 ((T106 l1 (ji7)).f2).length c144_2] 106 (0, 0)) (by (with_reducible repeat (first | refine blk_drewN ?_ _ | refine blk_drew ?_ | refine blk_alloc ?_ _)); refine blk_put (cs := #[.int .i64 ((T106 l1 (ji7)).f0), .int .i64 ((T106 l1 (ji7)).f1), .slice none 0 0]) ?_ 2 _ rfl; (with_reducible repeat (first | refine blk_drewN ?_ _ | refine blk_drew ?_ | refine blk_alloc ?_ _)); refine blk_put (cs := #[.int .i64 ((T106 l1 (ji7)).f0), .int .i64 0, .slice none 0 0]) ?_ 1 _ rfl; (with_reducible repeat (first | refine blk_drewN ?_ _ | refine blk_drew ?_ | refine blk_alloc ?_ _)); refine blk_put (cs := #[.int .i64 0, .int .i64 0, .slice none 0 0]) ?_ 0 _ rfl; (with_reducible repeat (first | refine blk_drewN ?_ _ | refine blk_drew ?_ | refine blk_alloc ?_ _)); exact BK145.out) hb); have n2_ := am (below_step (by repeat (first | (with_reducible first | exact HB.out | apply below_alloc | apply pw_below_drewN | apply below_drew1 | refine below_set ?_ GE141.out | refine below_set ?_ GE145.out) | exact HB.out)) hb); have n3_ := am (hbox); have n4_ := am ((by rw [hg]; exact (below_size (by repeat (first | (with_reducible first | exact HB.out | apply below_alloc | apply pw_below_drewN | apply below_drew1 | refine below_set ?_ GE141.out | refine below_set ?_ GE145.out) | exact HB.out))) : w.heap.size ≤ gb146)); have n5_ := am ((by rw [hg]; exact (below_size (by repeat (first | (with_reducible first | exact HB.out | apply below_alloc | apply pw_below_drewN | apply below_drew1 | refine below_set ?_ GE141.out | refine below_set ?_ GE145.out) | exact HB.out))) : w.heap.size ≤ gb146)); have n6_ := am ((by rw [hg]; exact Nat.ne_of_lt (blk_lt (g := gb141) (o := .cells #[.int .i64 0, .int .i64 0, .slice none 0 0] 73 (0, 0)) (by (with_reducible repeat (first | refine blk_drewN ?_ _ | refine blk_drew ?_ | refine blk_alloc ?_ _)); refine blk_far ?_ NB141_145.out _; (with_reducible repeat (first | refine blk_drewN ?_ _ | refine blk_drew ?_ | refine blk_alloc ?_ _)); refine blk_far ?_ NB141_145.out _; (with_reducible repeat (first | refine blk_drewN ?_ _ | refine blk_drew ?_ | refine blk_alloc ?_ _)); refine blk_far ?_ NB141_145.out _; (with_reducible repeat (first | refine blk_drewN ?_ _ | refine blk_drew ?_ | refine blk_alloc ?_ _)); exact BK141.out)) : gb141 ≠ gb146)); have n7_ := am ((by rw [hg]; exact Nat.ne_of_gt (blk_lt (g := gb141) (o := .cells #[.int .i64 0, .int .i64 0, .slice none 0 0] 73 (0, 0)) (by (with_reducible repeat (first | refine blk_drewN ?_ _ | refine blk_drew ?_ | refine blk_alloc ?_ _)); refine blk_far ?_ NB141_145.out _; (with_reducible repeat (first | refine blk_drewN ?_ _ | refine blk_drew ?_ | refine blk_alloc ?_ _)); refine blk_far ?_ NB141_145.out _; (with_reducible repeat (first | refine blk_drewN ?_ _ | refine blk_drew ?_ | refine blk_alloc ?_ _)); refine blk_far ?_ NB141_145.out _; (with_reducible repeat (first | refine blk_drewN ?_ _ | refine blk_drew ?_ | refine blk_alloc ?_ _)); exact BK141.out)) : gb146 ≠ gb141)); have n8_ := am ((by rw [hg]; exact Nat.ne_of_lt (blk_lt (g := gb145) (o := .cells #[.int .i64 ((T106 l1 (ji7)).f0), .int .i64 ((T106 l1 (ji7)).f1), .slice A144_2 ((T106 l1 (ji7)).f2).length c144_2] 106 (0, 0)) (by (with_reducible repeat (first | refine blk_drewN ?_ _ | refine blk_drew ?_ | refine blk_alloc ?_ _)); refine blk_put (cs := #[.int .i64 ((T106 l1 (ji7)).f0), .int .i64 ((T106 l1 (ji7)).f1), .slice none 0 0]) ?_ 2 _ rfl; (with_reducible repeat (first | refine blk_drewN ?_ _ | refine blk_drew ?_ | refine blk_alloc ?_ _)); refine blk_put (cs := #[.int .i64 ((T106 l1 (ji7)).f0), .int .i64 0, .slice none 0 0]) ?_ 1 _ rfl; (with_reducible repeat (first | refine blk_drewN ?_ _ | refine blk_drew ?_ | refine blk_alloc ?_ _)); refine blk_put (cs := #[.int .i64 0, .int .i64 0, .slice none 0 0]) ?_ 0 _ rfl; (with_reducible repeat (first | refine blk_drewN ?_ _ | refine blk_drew ?_ | refine blk_alloc ?_ _)); exact BK145.out)) : gb145 ≠ gb146)); have n9_ := am ((by rw [hg]; exact Nat.ne_of_gt (blk_lt (g := gb145) (o := .cells #[.int .i64 ((T106 l1 (ji7)).f0), .int .i64 ((T106 l1 (ji7)).f1), .slice A144_2 ((T106 l1 (ji7)).f2).length c144_2] 106 (0, 0)) (by (with_reducible repeat (first | refine blk_drewN ?_ _ | refine blk_drew ?_ | refine blk_alloc ?_ _)); refine blk_put (cs := #[.int .i64 ((T106 l1 (ji7)).f0), .int .i64 ((T106 l1 (ji7)).f1), .slice none 0 0]) ?_ 2 _ rfl; (with_reducible repeat (first | refine blk_drewN ?_ _ | refine blk_drew ?_ | refine blk_alloc ?_ _)); refine blk_put (cs := #[.int .i64 ((T106 l1 (ji7)).f0), .int .i64 0, .slice none 0 0]) ?_ 1 _ rfl; (with_reducible repeat (first | refine blk_drewN ?_ _ | refine blk_drew ?_ | refine blk_alloc ?_ _)); refine blk_put (cs := #[.int .i64 0, .int .i64 0, .slice none 0 0]) ?_ 0 _ rfl; (with_reducible repeat (first | refine blk_drewN ?_ _ | refine blk_drew ?_ | refine blk_alloc ?_ _)); exact BK145.out)) : gb146 ≠ gb145)); clear BK141; clear BK145; clear HB; have BK141 := n0_; have BK145 := n1_; have HB := n2_; have BK146 := n3_; have GW146 := n4_; have GE146 := n5_; have NB141_146 := n6_; have NB146_141 := n7_; have NB145_146 := n8_; have NB146_145 := n9_; clear n0_ n1_ n2_ n3_ n4_ n5_ n6_ n7_ n8_ n9_; clear hb hbox hg; have hnb15 := NB146_141.out; have hnc15 := NB141_146.out; have hnb16 := NB146_145.out; have hnc16 := NB145_146.out; have hcz17_0 : w14.cell? ⟨gb146, 0, none⟩ = some (.int .i64 0) := (blk_cell BK146.out 0).trans rfl; have hcz17_1 : w14.cell? ⟨gb146, 1, none⟩ = some (.int .i64 0) := (blk_cell BK146.out 1).trans rfl; have hcz17_2 : w14.cell? ⟨gb146, 2, none⟩ = some (.slice none 0 0) := (blk_cell BK146.out 2).trans rfl; have hfz17_0 := blk_frozen BK146.out 0; have hfz17_1 := blk_frozen BK146.out 1; have hfz17_2 := blk_frozen BK146.out 2))
    go_loopg [12, 37] k (fun kq v12 v37 w' => ∃ (x12_1 : Int) (x37_1 : Int) (x147002_1 : List (S140)) (u147002 : Value), v12 = .int .i64 x12_1 ∧ v37 = .int .i64 x37_1 ∧ Aside0 (spec_l6One.l0 kq l0 a2 x12_1 l1 (l1.length : Int) x37_1 ((T106 l1 (ji7)).f0) ((T106 l1 (ji7)).f1) ((T106 l1 (ji7)).f2) t143 (wrap64 (t143 + a3)) x147002_1 = some (r1, r2, r3)) ∧ Aside0 (kq ≤ k) ∧ Aside0 (Kd.R k140 140 w' w.heap.size (fun _ => True) u147002 x147002_1) ∧ Aside0 (w'.heap[gb141]? = some (.cells #[.int .i64 0, .int .i64 0, (.slice none 0 0)] 73 (0, 0))) ∧ Aside0 (w'.heap[gb145]? = some (.cells #[.int .i64 ((T106 l1 (ji7)).f0), .int .i64 ((T106 l1 (ji7)).f1), (.slice A144_2 ((T106 l1 (ji7)).f2).length c144_2)] 106 (0, 0))) ∧ Aside0 (w'.heap[gb146]? = some (.cells #[.int .i64 t143, .int .i64 (wrap64 (t143 + a3)), u147002] 73 (0, 0))) ∧ Aside0 (Below w.heap.size w w'))
    case atStart => exact ⟨(t143), (0), (([] : List (S140))), (.slice none 0 0), zf, zf, H', ⟨Nat.le_refl _⟩, ⟨by first | exact Kd.R_nil _ _ _ _ _ | exact Kd.Q_nil _ _ _ _ _ | exact Kd.S_nil _ _ _ _ _⟩, ⟨by (with_reducible repeat (first | refine blk_drewN ?_ _ | refine blk_drew ?_ | refine blk_alloc ?_ _)); refine blk_far ?_ NB141_146.out _; (with_reducible repeat (first | refine blk_drewN ?_ _ | refine blk_drew ?_ | refine blk_alloc ?_ _)); refine blk_far ?_ NB141_146.out _; (with_reducible repeat (first | refine blk_drewN ?_ _ | refine blk_drew ?_ | refine blk_alloc ?_ _)); refine blk_far ?_ NB141_146.out _; (with_reducible repeat (first | refine blk_drewN ?_ _ | refine blk_drew ?_ | refine blk_alloc ?_ _)); exact BK141.out⟩, ⟨by (with_reducible repeat (first | refine blk_drewN ?_ _ | refine blk_drew ?_ | refine blk_alloc ?_ _)); refine blk_far ?_ NB145_146.out _; (with_reducible repeat (first | refine blk_drewN ?_ _ | refine blk_drew ?_ | refine blk_alloc ?_ _)); refine blk_far ?_ NB145_146.out _; (with_reducible repeat (first | refine blk_drewN ?_ _ | refine blk_drew ?_ | refine blk_alloc ?_ _)); refine blk_far ?_ NB145_146.out _; (with_reducible repeat (first | refine blk_drewN ?_ _ | refine blk_drew ?_ | refine blk_alloc ?_ _)); exact BK145.out⟩, ⟨by (with_reducible repeat (first | refine blk_drewN ?_ _ | refine blk_drew ?_ | refine blk_alloc ?_ _)); refine blk_put (cs := #[.int .i64 t143, .int .i64 (wrap64 (t143 + a3)), .slice none 0 0]) ?_ 2 _ rfl; (with_reducible repeat (first | refine blk_drewN ?_ _ | refine blk_drew ?_ | refine blk_alloc ?_ _)); refine blk_put (cs := #[.int .i64 t143, .int .i64 0, .slice none 0 0]) ?_ 1 _ rfl; (with_reducible repeat (first | refine blk_drewN ?_ _ | refine blk_drew ?_ | refine blk_alloc ?_ _)); refine blk_put (cs := #[.int .i64 0, .int .i64 0, .slice none 0 0]) ?_ 0 _ rfl; (with_reducible repeat (first | refine blk_drewN ?_ _ | refine blk_drew ?_ | refine blk_alloc ?_ _)); exact BK146.out⟩, ⟨by repeat (first | (with_reducible first | exact HB.out | apply below_alloc | apply pw_below_drewN | apply below_drew1 | refine below_set ?_ GE141.out | refine below_set ?_ GE145.out | refine below_set ?_ GE146.out) | exact HB.out)⟩⟩
    case round =>
     clear H'
     try clear c1
     try clear p1
     try clear q1
     try clear hx1
     try clear qi1
     try clear p2
     try clear c5
     try clear c5b0
     try clear c5b1
     try clear p6
     try clear c8
     try clear c8b0
     try clear c9
     try clear c9b0
     try clear c12
     try clear c13
     try clear c14
     try clear p14
     try clear q14
     try clear hx14
     try clear qi14
     try clear c15
     try clear c16
     try clear hcz13_0
     try clear hcz13_1
     try clear hcz13_2
     try clear hcz17_0
     try clear hcz17_1
     try clear hcz17_2
     try clear hfz13_0
     try clear hfz13_1
     try clear hfz13_2
     try clear hfz17_0
     try clear hfz17_1
     try clear hfz17_2
     try clear hx142_0
     try clear hx142_1
     try clear hx142_2
     try clear hx144_0
     try clear hx144_1
     try clear hx144_2
     try clear p142
     try clear p144
     try clear q142
     try clear q144
     obtain ⟨x12_1, x37_1, x147002_1, u147002, rfl, rfl, HA, HK1, HO_147002, BK141, BK145, BK146, HB⟩ := hrel
     cases gk with
     | zero => exact absurd HA.out (by simp [spec_l6One.l0])
     | succ k1 =>
      have H := HA.out
      clear HA
      simp only [spec_l6One.l0] at H
      by_cases c18 : x37_1 < (l1.length : Int)
      ·rw [if_pos c18] at H
       have c18b0 : decide (x37_1 < (l1.length : Int)) = true := decide_eq_true c18
       clear c18
       by_cases c19 : 0 ≤ x37_1
       ·rw [if_pos c19] at H
        have c19b0 : decide (0 ≤ x37_1) = true := decide_eq_true c19
        clear c19
        by_cases c20 : x37_1 < (l1.length : Int)
        ·rw [if_pos c20] at H
         have c20b0 : decide (x37_1 < (l1.length : Int)) = true := decide_eq_true c20
         clear c20
         by_cases c21 : 0 ≤ x12_1
         ·rw [if_pos c21] at H
          have c21b0 := eq_true c21
          have c21b1 : decide (0 ≤ x12_1) = true := decide_eq_true c21
          clear c21
          by_cases c22 : x12_1 ≤ ((T106 l1 x37_1).f0)
          ·rw [if_pos c22] at H
           have c22b0 := eq_true c22
           have c22b1 : decide (x12_1 ≤ ((T106 l1 x37_1).f0)) = true := decide_eq_true c22
           clear c22
           by_cases c23 : ((T106 l1 x37_1).f0) ≤ (l0.length : Int)
           ·rw [if_pos c23] at H
            have c23b0 := eq_true c23
            have c23b1 : decide (((T106 l1 x37_1).f0) ≤ (l0.length : Int)) = true := decide_eq_true c23
            clear c23
            replace H := Option.bind_eq_some_iff.mp H
            obtain ⟨t150, A240, H⟩ := H
            replace H : (if x147002_1.length + t150.length < 5864062014805 then ((some (x147002_1 ++ t150 : List (S140))).bind fun y153 => (if 0 ≤ ((T106 l1 x37_1).f0) then (if ((T106 l1 x37_1).f0) ≤ (wrap64 (((T106 l1 x37_1).f0) + ((T106 l1 x37_1).f1))) then (if (wrap64 (((T106 l1 x37_1).f0) + ((T106 l1 x37_1).f1))) ≤ (l0.length : Int) then ((spec_l6Rows.f k1 2 ((l0.take ((wrap64 (((T106 l1 x37_1).f0) + ((T106 l1 x37_1).f1))) : Int).toNat).drop (((T106 l1 x37_1).f0) : Int).toNat)).bind fun t157 => (if y153.length + t157.length < 5864062014805 then ((some (y153 ++ t157 : List (S140))).bind fun y160 => ((spec_l6Rows.f k1 3 ((T106 l1 x37_1).f2)).bind fun t163 => (if y160.length + t163.length < 5864062014805 then (spec_l6One.l0 k1 l0 a2 (wrap64 (((T106 l1 x37_1).f0) + ((T106 l1 x37_1).f1))) l1 (l1.length : Int) (wrap64 (x37_1 + 1)) ((T106 l1 (ji7)).f0) ((T106 l1 (ji7)).f1) ((T106 l1 (ji7)).f2) t143 (wrap64 (t143 + a3)) (y160 ++ t163)) else (none)))) else (none))) else (none)) else (none)) else (none))) else (none)) = some (r1, r2, r3) := H
            have A24 := am A240
            clear A240
            by_cases c25 : x147002_1.length + t150.length < 5864062014805
            ·rw [if_pos c25] at H
             have LMc25 := am c25
             clear c25
             obtain ⟨y153, hy153⟩ : ∃ y_ : List (S140), y_ = (x147002_1 ++ t150) := ⟨_, rfl⟩
             replace H : (if 0 ≤ ((T106 l1 x37_1).f0) then (if ((T106 l1 x37_1).f0) ≤ (wrap64 (((T106 l1 x37_1).f0) + ((T106 l1 x37_1).f1))) then (if (wrap64 (((T106 l1 x37_1).f0) + ((T106 l1 x37_1).f1))) ≤ (l0.length : Int) then ((spec_l6Rows.f k1 2 ((l0.take ((wrap64 (((T106 l1 x37_1).f0) + ((T106 l1 x37_1).f1))) : Int).toNat).drop (((T106 l1 x37_1).f0) : Int).toNat)).bind fun t157 => (if y153.length + t157.length < 5864062014805 then ((some (y153 ++ t157 : List (S140))).bind fun y160 => ((spec_l6Rows.f k1 3 ((T106 l1 x37_1).f2)).bind fun t163 => (if y160.length + t163.length < 5864062014805 then (spec_l6One.l0 k1 l0 a2 (wrap64 (((T106 l1 x37_1).f0) + ((T106 l1 x37_1).f1))) l1 (l1.length : Int) (wrap64 (x37_1 + 1)) ((T106 l1 (ji7)).f0) ((T106 l1 (ji7)).f1) ((T106 l1 (ji7)).f2) t143 (wrap64 (t143 + a3)) (y160 ++ t163)) else (none)))) else (none))) else (none)) else (none)) else (none)) = some (r1, r2, r3) := by first | (rw [hy153]; with_reducible exact H) | (have H2_ := (Option.bind_some _ _).symm.trans H; rw [hy153]; with_reducible exact H2_) | (have H2_ := (Option.bind_some _ _).symm.trans H; with_reducible exact H2_) | with_reducible exact H | (rw [hy153]; exact H) | exact H
             have Ny153 := am hy153
             clear hy153
             by_cases c26 : 0 ≤ ((T106 l1 x37_1).f0)
             ·rw [if_pos c26] at H
              have c26b0 := eq_true c26
              have c26b1 : decide (0 ≤ ((T106 l1 x37_1).f0)) = true := decide_eq_true c26
              clear c26
              by_cases c27 : ((T106 l1 x37_1).f0) ≤ (wrap64 (((T106 l1 x37_1).f0) + ((T106 l1 x37_1).f1)))
              ·rw [if_pos c27] at H
               have c27b0 := eq_true c27
               have c27b1 : decide (((T106 l1 x37_1).f0) ≤ (wrap64 (((T106 l1 x37_1).f0) + ((T106 l1 x37_1).f1)))) = true := decide_eq_true c27
               by_cases c28 : (wrap64 (((T106 l1 x37_1).f0) + ((T106 l1 x37_1).f1))) ≤ (l0.length : Int)
               ·rw [if_pos c28] at H
                have c28b0 := eq_true c28
                have c28b1 : decide ((wrap64 (((T106 l1 x37_1).f0) + ((T106 l1 x37_1).f1))) ≤ (l0.length : Int)) = true := decide_eq_true c28
                replace H := Option.bind_eq_some_iff.mp H
                obtain ⟨t157, A290, H⟩ := H
                replace H : (if y153.length + t157.length < 5864062014805 then ((some (y153 ++ t157 : List (S140))).bind fun y160 => ((spec_l6Rows.f k1 3 ((T106 l1 x37_1).f2)).bind fun t163 => (if y160.length + t163.length < 5864062014805 then (spec_l6One.l0 k1 l0 a2 (wrap64 (((T106 l1 x37_1).f0) + ((T106 l1 x37_1).f1))) l1 (l1.length : Int) (wrap64 (x37_1 + 1)) ((T106 l1 (ji7)).f0) ((T106 l1 (ji7)).f1) ((T106 l1 (ji7)).f2) t143 (wrap64 (t143 + a3)) (y160 ++ t163)) else (none)))) else (none)) = some (r1, r2, r3) := H
                have A29 := am A290
                clear A290
                by_cases c30 : y153.length + t157.length < 5864062014805
                ·rw [if_pos c30] at H
                 have LMc30 := am c30
                 clear c30
                 obtain ⟨y160, hy160⟩ : ∃ y_ : List (S140), y_ = (y153 ++ t157) := ⟨_, rfl⟩
                 replace H : ((spec_l6Rows.f k1 3 ((T106 l1 x37_1).f2)).bind fun t163 => (if y160.length + t163.length < 5864062014805 then (spec_l6One.l0 k1 l0 a2 (wrap64 (((T106 l1 x37_1).f0) + ((T106 l1 x37_1).f1))) l1 (l1.length : Int) (wrap64 (x37_1 + 1)) ((T106 l1 (ji7)).f0) ((T106 l1 (ji7)).f1) ((T106 l1 (ji7)).f2) t143 (wrap64 (t143 + a3)) (y160 ++ t163)) else (none))) = some (r1, r2, r3) := by first | (rw [hy160]; with_reducible exact H) | (have H2_ := (Option.bind_some _ _).symm.trans H; rw [hy160]; with_reducible exact H2_) | (have H2_ := (Option.bind_some _ _).symm.trans H; with_reducible exact H2_) | with_reducible exact H | (rw [hy160]; exact H) | exact H
                 have Ny160 := am hy160
                 clear hy160
                 replace H := Option.bind_eq_some_iff.mp H
                 obtain ⟨t163, A310, H⟩ := H
                 replace H : (if y160.length + t163.length < 5864062014805 then (spec_l6One.l0 k1 l0 a2 (wrap64 (((T106 l1 x37_1).f0) + ((T106 l1 x37_1).f1))) l1 (l1.length : Int) (wrap64 (x37_1 + 1)) ((T106 l1 (ji7)).f0) ((T106 l1 (ji7)).f1) ((T106 l1 (ji7)).f2) t143 (wrap64 (t143 + a3)) (y160 ++ t163)) else (none)) = some (r1, r2, r3) := H
                 have A31 := am A310
                 clear A310
                 by_cases c32 : y160.length + t163.length < 5864062014805
                 ·rw [if_pos c32] at H
                  have LMc32 := am c32
                  clear c32
                  obtain ⟨y166, hy166⟩ : ∃ y_ : List (S140), y_ = (y160 ++ t163) := ⟨_, rfl⟩
                  replace H : (spec_l6One.l0 k1 l0 a2 (wrap64 (((T106 l1 x37_1).f0) + ((T106 l1 x37_1).f1))) l1 (l1.length : Int) (wrap64 (x37_1 + 1)) ((T106 l1 (ji7)).f0) ((T106 l1 (ji7)).f1) ((T106 l1 (ji7)).f2) t143 (wrap64 (t143 + a3)) y166) = some (r1, r2, r3) := by first | (rw [hy166]; with_reducible exact H) | (have H2_ := (Option.bind_some _ _).symm.trans H; rw [hy166]; with_reducible exact H2_) | (have H2_ := (Option.bind_some _ _).symm.trans H; with_reducible exact H2_) | with_reducible exact H | (rw [hy166]; exact H) | exact H
                  have Ny166 := am hy166
                  clear hy166
                  have H' := am H
                  clear H
                  have p147 : 0 ≤ (x37_1 : Int) := oa
                  have q147 : x37_1 < (l1.length : Int) := oa
                  obtain ⟨ad147, A147_2, c147_2, e147, hx147_0, hx147_1, hx147_2, hl147_2, hi147_2⟩ := at_T106 HR1.out x37_1 p147 q147
                  obtain rfl : ad142 = ad147 := (by injection e147)
                  replace hx147_0 := (HB.out.cell (World.block_lt_of_cell? w _ hx147_0)).trans hx147_0
                  replace hx147_1 := (HB.out.cell (World.block_lt_of_cell? w _ hx147_1)).trans hx147_1
                  replace hx147_2 := (HB.out.cell (World.block_lt_of_cell? w _ hx147_2)).trans hx147_2
                  have HR147_2 := am hi147_2
                  have HC147_2 := am hl147_2
                  clear hi147_2 hl147_2
                  replace p147 := eq_true p147
                  replace q147 := eq_true q147
                  try go_wp2_with (first | ((with_reducible refine gate_dst (N := 14) rfl ?_); refine box_event ?hg (N := 14) ?hd (cs := #[.int .i64 0, .int .i64 0, .slice none 0 0]) (t := 106) ?hr ?_; (case hd => rfl); (case hg => rfl); (case hr => first | (go_simp; done) | (go_simp; rfl)); intro gb148 hg w33 hbox hb; have n0_ := am (Kd.R_below (zr HO_147002.out) hb); have n1_ := am (blk_below (g := gb141) (o := .cells #[.int .i64 0, .int .i64 0, .slice none 0 0] 73 (0, 0)) (zk BK141.out) hb); have n2_ := am (blk_below (g := gb145) (o := .cells #[.int .i64 ((T106 l1 (ji7)).f0), .int .i64 ((T106 l1 (ji7)).f1), .slice A144_2 ((T106 l1 (ji7)).f2).length c144_2] 106 (0, 0)) (zk BK145.out) hb); have n3_ := am (blk_below (g := gb146) (o := .cells #[.int .i64 t143, .int .i64 (wrap64 (t143 + a3)), u147002] 73 (0, 0)) (zk BK146.out) hb); have n4_ := am (below_step (by repeat (first | (with_reducible first | exact HB.out | apply below_alloc | apply pw_below_drewN | apply below_drew1 | refine below_set ?_ GE141.out | refine below_set ?_ GE145.out | refine below_set ?_ GE146.out) | exact HB.out)) hb); have n5_ := am (hbox); have n6_ := am ((by rw [hg]; exact (below_size (by repeat (first | (with_reducible first | exact HB.out | apply below_alloc | apply pw_below_drewN | apply below_drew1 | refine below_set ?_ GE141.out | refine below_set ?_ GE145.out | refine below_set ?_ GE146.out) | exact HB.out))) : w.heap.size ≤ gb148)); have n7_ := am ((by rw [hg]; exact (below_size (by repeat (first | (with_reducible first | exact HB.out | apply below_alloc | apply pw_below_drewN | apply below_drew1 | refine below_set ?_ GE141.out | refine below_set ?_ GE145.out | refine below_set ?_ GE146.out) | exact HB.out))) : w.heap.size ≤ gb148)); have n8_ := am ((by rw [hg]; exact Nat.ne_of_lt (blk_lt (g := gb141) (o := .cells #[.int .i64 0, .int .i64 0, .slice none 0 0] 73 (0, 0)) (zk BK141.out)) : gb141 ≠ gb148)); have n9_ := am ((by rw [hg]; exact Nat.ne_of_gt (blk_lt (g := gb141) (o := .cells #[.int .i64 0, .int .i64 0, .slice none 0 0] 73 (0, 0)) (zk BK141.out)) : gb148 ≠ gb141)); have n10_ := am ((by rw [hg]; exact Nat.ne_of_lt (blk_lt (g := gb145) (o := .cells #[.int .i64 ((T106 l1 (ji7)).f0), .int .i64 ((T106 l1 (ji7)).f1), .slice A144_2 ((T106 l1 (ji7)).f2).length c144_2] 106 (0, 0)) (zk BK145.out)) : gb145 ≠ gb148)); have n11_ := am ((by rw [hg]; exact Nat.ne_of_gt (blk_lt (g := gb145) (o := .cells #[.int .i64 ((T106 l1 (ji7)).f0), .int .i64 ((T106 l1 (ji7)).f1), .slice A144_2 ((T106 l1 (ji7)).f2).length c144_2] 106 (0, 0)) (zk BK145.out)) : gb148 ≠ gb145)); have n12_ := am ((by rw [hg]; exact Nat.ne_of_lt (blk_lt (g := gb146) (o := .cells #[.int .i64 t143, .int .i64 (wrap64 (t143 + a3)), u147002] 73 (0, 0)) (zk BK146.out)) : gb146 ≠ gb148)); have n13_ := am ((by rw [hg]; exact Nat.ne_of_gt (blk_lt (g := gb146) (o := .cells #[.int .i64 t143, .int .i64 (wrap64 (t143 + a3)), u147002] 73 (0, 0)) (zk BK146.out)) : gb148 ≠ gb146)); clear HO_147002; clear BK141; clear BK145; clear BK146; clear HB; have HO_147002 := n0_; have BK141 := n1_; have BK145 := n2_; have BK146 := n3_; have HB := n4_; have BK148 := n5_; have GW148 := n6_; have GE148 := n7_; have NB141_148 := n8_; have NB148_141 := n9_; have NB145_148 := n10_; have NB148_145 := n11_; have NB146_148 := n12_; have NB148_146 := n13_; clear n0_ n1_ n2_ n3_ n4_ n5_ n6_ n7_ n8_ n9_ n10_ n11_ n12_ n13_; clear hb hbox hg; have hnb34 := NB148_141.out; have hnc34 := NB141_148.out; have hnb35 := NB148_145.out; have hnc35 := NB145_148.out; have hnb36 := NB148_146.out; have hnc36 := NB146_148.out; have hcz37_0 : w33.cell? ⟨gb148, 0, none⟩ = some (.int .i64 0) := (blk_cell BK148.out 0).trans rfl; have hcz37_1 : w33.cell? ⟨gb148, 1, none⟩ = some (.int .i64 0) := (blk_cell BK148.out 1).trans rfl; have hcz37_2 : w33.cell? ⟨gb148, 2, none⟩ = some (.slice none 0 0) := (blk_cell BK148.out 2).trans rfl; have hfz37_0 := blk_frozen BK148.out 0; have hfz37_1 := blk_frozen BK148.out 1; have hfz37_2 := blk_frozen BK148.out 2))
                  have n0_ : Aside0 (Kd.R k140 140 (((w33.setCell ⟨gb148, 0, none⟩ (.int .i64 ((T106 l1 x37_1).f0))).setCell ⟨gb148, 1, none⟩ (.int .i64 ((T106 l1 x37_1).f1))).setCell ⟨gb148, 2, none⟩ (.slice A147_2 ((T106 l1 x37_1).f2).length c147_2)) w.heap.size (fun _ => True) u147002 x147002_1) := ⟨by (with_reducible repeat (first | apply Kd.R_alloc | apply Kd.R_drewN | apply Kd.R_drew)); exact Kd.R_mono (Kd.R_far (p := ⟨gb148, 2, none⟩) (Kd.R_far (p := ⟨gb148, 1, none⟩) (Kd.R_far (p := ⟨gb148, 0, none⟩) (Kd.R_types HO_147002.out BK148.out (by decide)) (fun _ hk => hk.2) (.int .i64 ((T106 l1 x37_1).f0))) (fun _ hk => hk.2) (.int .i64 ((T106 l1 x37_1).f1))) (fun _ hk => hk.2) (.slice A147_2 ((T106 l1 x37_1).f2).length c147_2)) (fun _ hk => trivial)⟩
                  have n1_ : Aside0 ((((w33.setCell ⟨gb148, 0, none⟩ (.int .i64 ((T106 l1 x37_1).f0))).setCell ⟨gb148, 1, none⟩ (.int .i64 ((T106 l1 x37_1).f1))).setCell ⟨gb148, 2, none⟩ (.slice A147_2 ((T106 l1 x37_1).f2).length c147_2)).heap[gb141]? = some (.cells #[.int .i64 0, .int .i64 0, .slice none 0 0] 73 (0, 0))) := ⟨by (with_reducible repeat (first | refine blk_drewN ?_ _ | refine blk_drew ?_ | refine blk_alloc ?_ _)); refine blk_far ?_ NB141_148.out _; (with_reducible repeat (first | refine blk_drewN ?_ _ | refine blk_drew ?_ | refine blk_alloc ?_ _)); refine blk_far ?_ NB141_148.out _; (with_reducible repeat (first | refine blk_drewN ?_ _ | refine blk_drew ?_ | refine blk_alloc ?_ _)); refine blk_far ?_ NB141_148.out _; (with_reducible repeat (first | refine blk_drewN ?_ _ | refine blk_drew ?_ | refine blk_alloc ?_ _)); exact BK141.out⟩
                  have n2_ : Aside0 ((((w33.setCell ⟨gb148, 0, none⟩ (.int .i64 ((T106 l1 x37_1).f0))).setCell ⟨gb148, 1, none⟩ (.int .i64 ((T106 l1 x37_1).f1))).setCell ⟨gb148, 2, none⟩ (.slice A147_2 ((T106 l1 x37_1).f2).length c147_2)).heap[gb145]? = some (.cells #[.int .i64 ((T106 l1 (ji7)).f0), .int .i64 ((T106 l1 (ji7)).f1), .slice A144_2 ((T106 l1 (ji7)).f2).length c144_2] 106 (0, 0))) := ⟨by (with_reducible repeat (first | refine blk_drewN ?_ _ | refine blk_drew ?_ | refine blk_alloc ?_ _)); refine blk_far ?_ NB145_148.out _; (with_reducible repeat (first | refine blk_drewN ?_ _ | refine blk_drew ?_ | refine blk_alloc ?_ _)); refine blk_far ?_ NB145_148.out _; (with_reducible repeat (first | refine blk_drewN ?_ _ | refine blk_drew ?_ | refine blk_alloc ?_ _)); refine blk_far ?_ NB145_148.out _; (with_reducible repeat (first | refine blk_drewN ?_ _ | refine blk_drew ?_ | refine blk_alloc ?_ _)); exact BK145.out⟩
                  have n3_ : Aside0 ((((w33.setCell ⟨gb148, 0, none⟩ (.int .i64 ((T106 l1 x37_1).f0))).setCell ⟨gb148, 1, none⟩ (.int .i64 ((T106 l1 x37_1).f1))).setCell ⟨gb148, 2, none⟩ (.slice A147_2 ((T106 l1 x37_1).f2).length c147_2)).heap[gb146]? = some (.cells #[.int .i64 t143, .int .i64 (wrap64 (t143 + a3)), u147002] 73 (0, 0))) := ⟨by (with_reducible repeat (first | refine blk_drewN ?_ _ | refine blk_drew ?_ | refine blk_alloc ?_ _)); refine blk_far ?_ NB146_148.out _; (with_reducible repeat (first | refine blk_drewN ?_ _ | refine blk_drew ?_ | refine blk_alloc ?_ _)); refine blk_far ?_ NB146_148.out _; (with_reducible repeat (first | refine blk_drewN ?_ _ | refine blk_drew ?_ | refine blk_alloc ?_ _)); refine blk_far ?_ NB146_148.out _; (with_reducible repeat (first | refine blk_drewN ?_ _ | refine blk_drew ?_ | refine blk_alloc ?_ _)); exact BK146.out⟩
                  have n4_ : Aside0 ((((w33.setCell ⟨gb148, 0, none⟩ (.int .i64 ((T106 l1 x37_1).f0))).setCell ⟨gb148, 1, none⟩ (.int .i64 ((T106 l1 x37_1).f1))).setCell ⟨gb148, 2, none⟩ (.slice A147_2 ((T106 l1 x37_1).f2).length c147_2)).heap[gb148]? = some (.cells #[.int .i64 ((T106 l1 x37_1).f0), .int .i64 ((T106 l1 x37_1).f1), .slice A147_2 ((T106 l1 x37_1).f2).length c147_2] 106 (0, 0))) := ⟨by (with_reducible repeat (first | refine blk_drewN ?_ _ | refine blk_drew ?_ | refine blk_alloc ?_ _)); refine blk_put (cs := #[.int .i64 ((T106 l1 x37_1).f0), .int .i64 ((T106 l1 x37_1).f1), .slice none 0 0]) ?_ 2 _ rfl; (with_reducible repeat (first | refine blk_drewN ?_ _ | refine blk_drew ?_ | refine blk_alloc ?_ _)); refine blk_put (cs := #[.int .i64 ((T106 l1 x37_1).f0), .int .i64 0, .slice none 0 0]) ?_ 1 _ rfl; (with_reducible repeat (first | refine blk_drewN ?_ _ | refine blk_drew ?_ | refine blk_alloc ?_ _)); refine blk_put (cs := #[.int .i64 0, .int .i64 0, .slice none 0 0]) ?_ 0 _ rfl; (with_reducible repeat (first | refine blk_drewN ?_ _ | refine blk_drew ?_ | refine blk_alloc ?_ _)); exact BK148.out⟩
                  have n5_ : Aside0 (Below w.heap.size w (((w33.setCell ⟨gb148, 0, none⟩ (.int .i64 ((T106 l1 x37_1).f0))).setCell ⟨gb148, 1, none⟩ (.int .i64 ((T106 l1 x37_1).f1))).setCell ⟨gb148, 2, none⟩ (.slice A147_2 ((T106 l1 x37_1).f2).length c147_2))) := ⟨by repeat (first | (with_reducible first | exact HB.out | apply below_alloc | apply pw_below_drewN | apply below_drew1 | refine below_set ?_ GE141.out | refine below_set ?_ GE145.out | refine below_set ?_ GE146.out | refine below_set ?_ GE148.out) | exact HB.out)⟩
                  (try clear HO_147002)
                  (try clear BK141)
                  (try clear BK145)
                  (try clear BK146)
                  (try clear BK148)
                  (try clear HB)
                  (try simp only [show ∀ (w_ : World) (n_ : Nat) (p_ : Addr) (v_ : Value), (w_.drewN n_).setCell p_ v_ = (w_.setCell p_ v_).drewN n_ from fun _ _ _ _ => rfl])
                  generalize (((w33.setCell ⟨gb148, 0, none⟩ (.int .i64 ((T106 l1 x37_1).f0))).setCell ⟨gb148, 1, none⟩ (.int .i64 ((T106 l1 x37_1).f1))).setCell ⟨gb148, 2, none⟩ (.slice A147_2 ((T106 l1 x37_1).f2).length c147_2)) = w38 at n0_ n1_ n2_ n3_ n4_ n5_ ⊢
                  have HO_147002 := n0_
                  have BK141 := n1_
                  have BK145 := n2_
                  have BK146 := n3_
                  have BK148 := n4_
                  have HB := n5_
                  clear n0_ n1_ n2_ n3_ n4_ n5_
                  have n0_ := am (Kd.R_drew HO_147002.out)
                  have n1_ := am (blk_drew BK141.out)
                  have n2_ := am (blk_drew BK145.out)
                  have n3_ := am (blk_drew BK146.out)
                  have n4_ := am (blk_drew BK148.out)
                  have n5_ := am (below_drew1 HB.out)
                  clear HO_147002
                  clear BK141
                  clear BK145
                  clear BK146
                  clear BK148
                  clear HB
                  have HO_147002 := n0_
                  have BK141 := n1_
                  have BK145 := n2_
                  have BK146 := n3_
                  have BK148 := n4_
                  have HB := n5_
                  clear n0_ n1_ n2_ n3_ n4_ n5_
                  obtain ⟨i040, hi040, _, hsz40, _⟩ := info_parts info9
                  obtain ⟨A40, hcut40, hA40, hC40⟩ := print_mid_of (P := Try.prog) Value.string (⟨#[]⟩ : ByteArray) 24 9 .i64 .i64 Try.underlying24 hi040 hsz40 A0 c0 l0 x12_1 ((T106 l1 x37_1).f0) oa (by first | omega | exact oa) oa HC0.out
                  have HR149 := am (Kd.C_of_reads (h1 := fun _ => rfl) (hA40 _ (Kd.reads_of_C HR0.out)))
                  have HC149 := am hC40
                  clear hA40 hC40 hi040 hsz40
                  refine start_ (n := 11) (S := fun w' => w'.cell? ⟨gb146, 0, none⟩ = some (.int .i64 t143) ∧ w'.cell? ⟨gb146, 1, none⟩ = some (.int .i64 (wrap64 (t143 + a3))) ∧ w'.cell? ⟨gb146, 2, none⟩ = some (u147002) ∧ w'.cell? ⟨gb148, 0, none⟩ = some (.int .i64 ((T106 l1 x37_1).f0)) ∧ w'.cell? ⟨gb148, 1, none⟩ = some (.int .i64 ((T106 l1 x37_1).f1)) ∧ w'.cell? ⟨gb148, 2, none⟩ = some (.slice A147_2 ((T106 l1 x37_1).f2).length c147_2)) (ds := [10]) #[O,O,O,O,O,O,O,O,O,O,O] (by kernel_rfl) rfl rfl ⟨(blk_cell BK146.out 0).trans rfl, (blk_cell BK146.out 1).trans rfl, (blk_cell BK146.out 2).trans rfl, (blk_cell BK148.out 0).trans rfl, (blk_cell BK148.out 1).trans rfl, (blk_cell BK148.out 2).trans rfl⟩ (fun hHeld => ?_); refine with_tabW spec_l6One.tab8 spec_l6One.bits8 (fun HT_ HW_ => ?_)
                  generalize w38.drew = w39 at HO_147002 BK141 BK145 BK146 BK148 HB HR149 hHeld ⊢
                  refine pure_ (i := 0) (N := some 41) (v := ?_) (a' := ?_) #[Y,O,O,O,O,O,O,O,O,O,O] rfl rfl zx (fun _ _ _ h => h) (Or.inl ⟨by rfl, ?_⟩) ?_ ?_
                  rotate_left; (intro w'; go_simp; with_reducible rfl); rotate_left; (simp only [Act.put,qa,qb,qc,i64_w,i32_w]; rfl)
                  refine pure_ (i := 2) (N := some 43) (v := ?_) (a' := ?_) #[Y,O,Y,O,O,O,O,O,O,O,O] rfl rfl zx (fun _ _ _ h => h) (Or.inl ⟨by rfl, ?_⟩) ?_ ?_
                  rotate_left; (intro w'; go_simp; with_reducible rfl); rotate_left; (simp only [Act.put,qa,qb,qc,i64_w,i32_w]; rfl)
                  refine pure_ (i := 3) (N := some 44) (v := ?_) (a' := ?_) #[Y,O,Y,Y,O,O,O,O,O,O,O] rfl rfl zx (fun _ _ _ h => h) (Or.inl ⟨by rfl, ?_⟩) ?_ ?_
                  rotate_left; (intro w'; go_simp; with_reducible rfl); rotate_left; (simp only [Act.put,qa,qb,qc,i64_w,i32_w]; rfl)
                  refine pure_ (i := 4) (N := some 45) (v := ?_) (a' := ?_) #[Y,O,Y,Y,Y,O,O,O,O,O,O] rfl rfl zx (fun _ _ _ h => h) (Or.inl ⟨by rfl, ?_⟩) ?_ ?_
                  rotate_left; (intro w'; go_simp; with_reducible rfl); rotate_left; (simp only [Act.put,qa,qb,qc,i64_w,i32_w]; rfl)
                  refine take_ (i := 1) (N := some 42) (v := ?_) (a' := ?_) #[Y,Y,Y,Y,Y,O,O,O,O,O,O] rfl rfl (take_ofW HT_.out HW_.out (by kernel_rfl)) (fun _ _ _ h => h) (Or.inl ⟨by rfl, ?_⟩) hHeld ?_ ?_
                  rotate_left; (rintro w' ⟨s0, s1, s2, s3, s4, s5⟩; go_simp; with_reducible rfl); rotate_left; (simp only [Act.put,qa,qb,qc,i64_w,i32_w]; rfl)
                  refine take_ (i := 5) (N := some 46) (v := ?_) (a' := ?_) #[Y,Y,Y,Y,Y,Y,O,O,O,O,O] rfl rfl (take_ofW HT_.out HW_.out (by kernel_rfl)) (fun _ _ _ h => h) (Or.inl ⟨by rfl, ?_⟩) hHeld ?_ ?_
                  rotate_left; (rintro w' ⟨s0, s1, s2, s3, s4, s5⟩; go_simp; with_reducible rfl); rotate_left; (simp only [Act.put,qa,qb,qc,i64_w,i32_w]; rfl)
                  refine pure_ (i := 6) (N := some 47) (v := ?_) (a' := ?_) #[Y,Y,Y,Y,Y,Y,Y,O,O,O,O] rfl rfl zx (fun _ _ _ h => h) (Or.inl ⟨by rfl, ?_⟩) ?_ ?_
                  rotate_left; (intro w'; go_simp; with_reducible rfl); rotate_left; (simp only [Act.put,qa,qb,qc,i64_w,i32_w]; rfl)
                  refine one_ (i := 7) (N := some 48) #[Y,Y,Y,Y,Y,Y,Y,Y,O,O,O] rfl rfl (one_of HT_.out (by kernel_rfl)) (by decide) (fun K hK => ?_)
                  refine goes_ Try.func156 (by kernel_rfl) rfl #[.int .i64 1, .slice A40 ((l0.take (((T106 l1 x37_1).f0) : Int).toNat).drop (x12_1 : Int).toNat).length (c0 - x12_1.toNat)] (by rfl) rfl rfl (by (try simp only [List.map_toArray, List.map_cons, List.map_nil]); first | done | (rw [show ((l0.take (((T106 l1 x37_1).f0) : Int).toNat).drop (x12_1 : Int).toNat).length = (((T106 l1 x37_1).f0).toNat - x12_1.toNat) from (by rw [List.length_drop, List.length_take]; have h_ : (((T106 l1 x37_1).f0) : Int) ≤ (l0.length : Int) := oa; omega)] <;> rfl) | rfl | (simp only [List.length_drop, List.length_take]; rfl)) ?_
                  with_reducible refine (spec_l6Rows.calls k1 1 _ _ ((l0.take (((T106 l1 x37_1).f0) : Int).toNat).drop (x12_1 : Int).toNat) t150 _ ?side1 ?side2 A24.out).mono ?_
                  (case side1 => exact zq (Kd.C_below HR149.out HB.out))
                  (case side2 => exact HC149.out)
                  rintro e w41 ⟨v151, rfl, ho0, hb⟩
                  refine ⟨_, rfl, ?_⟩
                  have n0_ := am (Kd.R_elder' (zr HO_147002.out) (Kd.R_base ho0) hb)
                  have n1_ := am (Kd.R_lower (Kd.R_new' ho0 (Kd.R_lt (zr HO_147002.out))) (below_size (by repeat (first | (with_reducible first | exact HB.out | apply below_alloc | apply pw_below_drewN | apply below_drew1 | refine below_set ?_ GE141.out | refine below_set ?_ GE145.out | refine below_set ?_ GE146.out | refine below_set ?_ GE148.out) | exact HB.out))))
                  have n2_ := am (blk_below (g := gb141) (o := .cells #[.int .i64 0, .int .i64 0, .slice none 0 0] 73 (0, 0)) (zk BK141.out) hb)
                  have n3_ := am (blk_below (g := gb145) (o := .cells #[.int .i64 ((T106 l1 (ji7)).f0), .int .i64 ((T106 l1 (ji7)).f1), .slice A144_2 ((T106 l1 (ji7)).f2).length c144_2] 106 (0, 0)) (zk BK145.out) hb)
                  have n4_ := am (blk_below (g := gb146) (o := .cells #[.int .i64 t143, .int .i64 (wrap64 (t143 + a3)), u147002] 73 (0, 0)) (zk BK146.out) hb)
                  have n5_ := am (blk_below (g := gb148) (o := .cells #[.int .i64 ((T106 l1 x37_1).f0), .int .i64 ((T106 l1 x37_1).f1), .slice A147_2 ((T106 l1 x37_1).f2).length c147_2] 106 (0, 0)) (zk BK148.out) hb)
                  have n6_ := am (below_step (by repeat (first | (with_reducible first | exact HB.out | apply below_alloc | apply pw_below_drewN | apply below_drew1 | refine below_set ?_ GE141.out | refine below_set ?_ GE145.out | refine below_set ?_ GE146.out | refine below_set ?_ GE148.out) | exact HB.out)) hb)
                  clear HO_147002
                  clear BK141
                  clear BK145
                  clear BK146
                  clear BK148
                  clear HB
                  have HO_147002 := n0_
                  have HO152 := n1_
                  have BK141 := n2_
                  have BK145 := n3_
                  have BK146 := n4_
                  have BK148 := n5_
                  have HB := n6_
                  clear n0_ n1_ n2_ n3_ n4_ n5_ n6_
                  (try clear hb)
                  (try clear hb2)
                  (try clear hk)
                  (try clear hi)
                  (try clear ho0)
                  obtain ⟨Ao43, co43, eo43⟩ := Kd.R_slice HO152.out
                  (first | subst eo43 | (injection eo43 with f1_ f2_ f3_; have f4_ := f1_.symm; have f5_ := f3_.symm; clear f1_ f2_ f3_; subst f4_; subst f5_))
                  refine hK.out _ _ ⟨(blk_cell BK146.out 0).trans rfl, (blk_cell BK146.out 1).trans rfl, (blk_cell BK146.out 2).trans rfl, (blk_cell BK148.out 0).trans rfl, (blk_cell BK148.out 1).trans rfl, (blk_cell BK148.out 2).trans rfl⟩ (fun hHeld => ?_)
                  clear hK K
                  refine norm_ (a' := ?_) ?_ ?_
                  rotate_left
                  ·show Act.put _ (some 48) _ = _
                   simp only [Act.put,qa,qb,qc,i64_w,i32_w]
                   rfl
                  refine one_ (i := 8) (N := some 49) #[Y,Y,Y,Y,Y,Y,Y,Y,Y,O,O] rfl rfl (one_of HT_.out (by kernel_rfl)) (by decide) (fun K hK => ?_)
                  refine Kd.R_append_rows_step k140 (w0 := w) w.heap.size (by rfl) (.tmp 42) (.tmp 48) 71 140 (.agg #[(.int .i64 0), (.string ⟨#[]⟩)]) 24 rfl Try.underlying71 info140 rfl (by decide) (by omega) u147002 x147002_1 t150 _ _ _ (fun k_ => some k_ ≠ (.slice Ao43 t150.length co43 : Value).ownBlock) (fun _ => False) rfl rfl ?aO ?aR (fun _ _ h => h) (fun _ h => h.elim) ?aF ?aB ?aS ?aL ?_
                  (case aR => repeat (first | exact (Kd.R_reads' HO152.out).2.2 | (with_reducible refine Kd.C_alloc ?_ _) | (with_reducible refine Kd.C_drewN ?_ _) | (with_reducible refine Kd.C_drew ?_)))
                  (case aB => exact (by repeat (first | (with_reducible first | exact HB.out | apply below_alloc | apply pw_below_drewN | apply below_drew1 | refine below_set ?_ GE141.out | refine below_set ?_ GE145.out | refine below_set ?_ GE146.out | refine below_set ?_ GE148.out) | exact HB.out)))
                  (case aF => exact (fun k_ hk => Kd.fresh' (Kd.R_lt (zr HO152.out)) k_ hk))
                  (case aO => exact (by (with_reducible repeat (first | apply Kd.R_alloc | apply Kd.R_drewN | apply Kd.R_drew)); exact Kd.R_mono HO_147002.out (fun _ hk => hk.2)))
                  (case aS => exact (below_size (by repeat (first | (with_reducible first | exact HB.out | apply below_alloc | apply pw_below_drewN | apply below_drew1 | refine below_set ?_ GE141.out | refine below_set ?_ GE145.out | refine below_set ?_ GE146.out | refine below_set ?_ GE148.out) | exact HB.out))))
                  (case aL => have := LMc25.out; omega)
                  intro v154 w42 ho hb hg hat
                  rw [← Ny153.out] at ho
                  have n0_ := am (blk_grown (g := gb141) (o := .cells #[.int .i64 0, .int .i64 0, .slice none 0 0] 73 (0, 0)) (zk BK141.out) hg (Kd.R_ne HO_147002.out BK141.out (by decide)))
                  have n1_ := am (blk_grown (g := gb145) (o := .cells #[.int .i64 ((T106 l1 (ji7)).f0), .int .i64 ((T106 l1 (ji7)).f1), .slice A144_2 ((T106 l1 (ji7)).f2).length c144_2] 106 (0, 0)) (zk BK145.out) hg (Kd.R_ne HO_147002.out BK145.out (by decide)))
                  have n2_ := am (blk_grown (g := gb146) (o := .cells #[.int .i64 t143, .int .i64 (wrap64 (t143 + a3)), u147002] 73 (0, 0)) (zk BK146.out) hg (Kd.R_ne HO_147002.out BK146.out (by decide)))
                  have n3_ := am (blk_grown (g := gb148) (o := .cells #[.int .i64 ((T106 l1 x37_1).f0), .int .i64 ((T106 l1 x37_1).f1), .slice A147_2 ((T106 l1 x37_1).f2).length c147_2] 106 (0, 0)) (zk BK148.out) hg (Kd.R_ne HO_147002.out BK148.out (by decide)))
                  have n4_ := am (Kd.R_after (ok := (fun _ => True)) (zr HO152.out) hg hat)
                  have n5_ := am (hb)
                  have n6_ := am (ho)
                  clear BK141
                  clear BK145
                  clear BK146
                  clear BK148
                  clear HO152
                  clear HB
                  clear HO_147002
                  have BK141 := n0_
                  have BK145 := n1_
                  have BK146 := n2_
                  have BK148 := n3_
                  have HO152 := n4_
                  have HB := n5_
                  have HO155 := n6_
                  clear n0_ n1_ n2_ n3_ n4_ n5_ n6_
                  clear ho hb hg hat
                  obtain ⟨Ao44, co44, eo44⟩ := Kd.R_slice HO155.out
                  (first | subst eo44 | (injection eo44 with f1_ f2_ f3_; have f4_ := f1_.symm; have f5_ := f3_.symm; clear f1_ f2_ f3_; subst f4_; subst f5_))
                  refine hK.out _ _ ⟨(blk_cell BK146.out 0).trans rfl, (blk_cell BK146.out 1).trans rfl, (blk_cell BK146.out 2).trans rfl, (blk_cell BK148.out 0).trans rfl, (blk_cell BK148.out 1).trans rfl, (blk_cell BK148.out 2).trans rfl⟩ (fun hHeld => ?_)
                  clear hK K
                  refine norm_ (a' := ?_) ?_ ?_
                  rotate_left
                  ·show Act.put _ (some 49) _ = _
                   simp only [Act.put,qa,qb,qc,i64_w,i32_w]
                   rfl
                  refine pure_ (i := 9) (N := some 50) (v := ?_) (a' := ?_) #[Y,Y,Y,Y,Y,Y,Y,Y,Y,Y,O] rfl rfl zx (fun _ _ _ h => h) (Or.inl ⟨by rfl, ?_⟩) ?_ ?_
                  rotate_left; (intro w'; go_simp; with_reducible rfl); rotate_left; (simp only [Act.put,qa,qb,qc,i64_w,i32_w]; rfl)
                  refine last_ (i := 10) (N := none) #[Y,Y,Y,Y,Y,Y,Y,Y,Y,Y,Y] rfl rfl (one_of HT_.out (by kernel_rfl)) (by decide) (fun K hK => ?_)
                  have hs45 : w42.cell? ⟨gb146, 2, none⟩ = some (u147002) := (blk_cell BK146.out 2).trans rfl
                  have hfs45 := blk_frozen BK146.out 2
                  have hns45_0 := NB141_146.out
                  have hns45_1 := NB145_146.out
                  have hns45_3 := NB148_146.out
                  have hms45_0 := NB146_141.out
                  have hms45_1 := NB146_145.out
                  have hms45_3 := NB146_148.out
                  refine skip_ (w1 := ?_) (by rfl) rfl ?_ ?_
                  rotate_left
                  ·go_simp
                   rfl
                  refine hK.out _ _ ?_
                  clear hK K
                  refine done_ (done_of HT_.out (by kernel_rfl)) ?_
                  try go_wp2
                  have n0_ : Aside0 (Kd.R k140 140 (w42.setCell ⟨gb146, 2, none⟩ (.slice Ao44 y153.length co44)) w.heap.size (fun k_ => some k_ ≠ (.slice Ao44 y153.length co44 : Value).ownBlock) (.slice Ao43 t150.length co43) t150) := ⟨by (with_reducible repeat (first | apply Kd.R_alloc | apply Kd.R_drewN | apply Kd.R_drew)); exact Kd.R_mono (Kd.R_far (p := ⟨gb146, 2, none⟩) (Kd.R_types HO152.out BK146.out (by decide)) (fun _ hk => hk.2) (.slice Ao44 y153.length co44)) (fun _ hk => hk.1.2)⟩
                  have n1_ : Aside0 (Kd.R k140 140 (w42.setCell ⟨gb146, 2, none⟩ (.slice Ao44 y153.length co44)) w.heap.size (fun k_ => some k_ ≠ (.slice Ao43 t150.length co43 : Value).ownBlock) (.slice Ao44 y153.length co44) y153) := ⟨by (with_reducible repeat (first | apply Kd.R_alloc | apply Kd.R_drewN | apply Kd.R_drew)); exact Kd.R_mono (Kd.R_far (p := ⟨gb146, 2, none⟩) (Kd.R_types HO155.out BK146.out (by decide)) (fun _ hk => hk.2) (.slice Ao44 y153.length co44)) (fun _ hk => hk.1)⟩
                  have n2_ : Aside0 ((w42.setCell ⟨gb146, 2, none⟩ (.slice Ao44 y153.length co44)).heap[gb141]? = some (.cells #[.int .i64 0, .int .i64 0, .slice none 0 0] 73 (0, 0))) := ⟨by (with_reducible repeat (first | refine blk_drewN ?_ _ | refine blk_drew ?_ | refine blk_alloc ?_ _)); refine blk_far ?_ NB141_146.out _; (with_reducible repeat (first | refine blk_drewN ?_ _ | refine blk_drew ?_ | refine blk_alloc ?_ _)); exact BK141.out⟩
                  have n3_ : Aside0 ((w42.setCell ⟨gb146, 2, none⟩ (.slice Ao44 y153.length co44)).heap[gb145]? = some (.cells #[.int .i64 ((T106 l1 (ji7)).f0), .int .i64 ((T106 l1 (ji7)).f1), .slice A144_2 ((T106 l1 (ji7)).f2).length c144_2] 106 (0, 0))) := ⟨by (with_reducible repeat (first | refine blk_drewN ?_ _ | refine blk_drew ?_ | refine blk_alloc ?_ _)); refine blk_far ?_ NB145_146.out _; (with_reducible repeat (first | refine blk_drewN ?_ _ | refine blk_drew ?_ | refine blk_alloc ?_ _)); exact BK145.out⟩
                  have n4_ : Aside0 ((w42.setCell ⟨gb146, 2, none⟩ (.slice Ao44 y153.length co44)).heap[gb146]? = some (.cells #[.int .i64 t143, .int .i64 (wrap64 (t143 + a3)), .slice Ao44 y153.length co44] 73 (0, 0))) := ⟨by (with_reducible repeat (first | refine blk_drewN ?_ _ | refine blk_drew ?_ | refine blk_alloc ?_ _)); refine blk_put (cs := #[.int .i64 t143, .int .i64 (wrap64 (t143 + a3)), u147002]) ?_ 2 _ rfl; (with_reducible repeat (first | refine blk_drewN ?_ _ | refine blk_drew ?_ | refine blk_alloc ?_ _)); exact BK146.out⟩
                  have n5_ : Aside0 ((w42.setCell ⟨gb146, 2, none⟩ (.slice Ao44 y153.length co44)).heap[gb148]? = some (.cells #[.int .i64 ((T106 l1 x37_1).f0), .int .i64 ((T106 l1 x37_1).f1), .slice A147_2 ((T106 l1 x37_1).f2).length c147_2] 106 (0, 0))) := ⟨by (with_reducible repeat (first | refine blk_drewN ?_ _ | refine blk_drew ?_ | refine blk_alloc ?_ _)); refine blk_far ?_ NB148_146.out _; (with_reducible repeat (first | refine blk_drewN ?_ _ | refine blk_drew ?_ | refine blk_alloc ?_ _)); exact BK148.out⟩
                  have n6_ : Aside0 (Below w.heap.size w (w42.setCell ⟨gb146, 2, none⟩ (.slice Ao44 y153.length co44))) := ⟨by repeat (first | (with_reducible first | exact HB.out | apply below_alloc | apply pw_below_drewN | apply below_drew1 | refine below_set ?_ GE141.out | refine below_set ?_ GE145.out | refine below_set ?_ GE146.out | refine below_set ?_ GE148.out) | exact HB.out)⟩
                  (try clear HO152)
                  (try clear HO155)
                  (try clear BK141)
                  (try clear BK145)
                  (try clear BK146)
                  (try clear BK148)
                  (try clear HB)
                  (try simp only [show ∀ (w_ : World) (n_ : Nat) (p_ : Addr) (v_ : Value), (w_.drewN n_).setCell p_ v_ = (w_.setCell p_ v_).drewN n_ from fun _ _ _ _ => rfl])
                  generalize (w42.setCell ⟨gb146, 2, none⟩ (.slice Ao44 y153.length co44)) = w46 at n0_ n1_ n2_ n3_ n4_ n5_ n6_ ⊢
                  have HO152 := n0_
                  have HO155 := n1_
                  have BK141 := n2_
                  have BK145 := n3_
                  have BK146 := n4_
                  have BK148 := n5_
                  have HB := n6_
                  clear n0_ n1_ n2_ n3_ n4_ n5_ n6_
                  have n0_ := am (Kd.R_drew HO152.out)
                  have n1_ := am (Kd.R_drew HO155.out)
                  have n2_ := am (blk_drew BK141.out)
                  have n3_ := am (blk_drew BK145.out)
                  have n4_ := am (blk_drew BK146.out)
                  have n5_ := am (blk_drew BK148.out)
                  have n6_ := am (below_drew1 HB.out)
                  clear HO152
                  clear HO155
                  clear BK141
                  clear BK145
                  clear BK146
                  clear BK148
                  clear HB
                  have HO152 := n0_
                  have HO155 := n1_
                  have BK141 := n2_
                  have BK145 := n3_
                  have BK146 := n4_
                  have BK148 := n5_
                  have HB := n6_
                  clear n0_ n1_ n2_ n3_ n4_ n5_ n6_
                  obtain ⟨i048, hi048, _, hsz48, _⟩ := info_parts info9
                  obtain ⟨A48, hcut48, hA48, hC48⟩ := print_mid_of (P := Try.prog) Value.string (⟨#[]⟩ : ByteArray) 24 9 .i64 .i64 Try.underlying24 hi048 hsz48 A0 c0 l0 ((T106 l1 x37_1).f0) (wrap64 (((T106 l1 x37_1).f0) + ((T106 l1 x37_1).f1))) oa (by first | omega | exact oa) oa HC0.out
                  have HR156 := am (Kd.C_of_reads (h1 := fun _ => rfl) (hA48 _ (Kd.reads_of_C HR0.out)))
                  have HC156 := am hC48
                  clear hA48 hC48 hi048 hsz48
                  refine start_ (n := 15) (S := fun w' => w'.cell? ⟨gb146, 0, none⟩ = some (.int .i64 t143) ∧ w'.cell? ⟨gb146, 1, none⟩ = some (.int .i64 (wrap64 (t143 + a3))) ∧ w'.cell? ⟨gb146, 2, none⟩ = some (.slice Ao44 y153.length co44) ∧ w'.cell? ⟨gb148, 0, none⟩ = some (.int .i64 ((T106 l1 x37_1).f0)) ∧ w'.cell? ⟨gb148, 1, none⟩ = some (.int .i64 ((T106 l1 x37_1).f1)) ∧ w'.cell? ⟨gb148, 2, none⟩ = some (.slice A147_2 ((T106 l1 x37_1).f2).length c147_2)) (ds := [14]) #[O,O,O,O,O,O,O,O,O,O,O,O,O,O,O] (by kernel_rfl) rfl rfl ⟨(blk_cell BK146.out 0).trans rfl, (blk_cell BK146.out 1).trans rfl, (blk_cell BK146.out 2).trans rfl, (blk_cell BK148.out 0).trans rfl, (blk_cell BK148.out 1).trans rfl, (blk_cell BK148.out 2).trans rfl⟩ (fun hHeld => ?_); refine with_tabW spec_l6One.tab9 spec_l6One.bits9 (fun HT_ HW_ => ?_)
                  generalize w46.drew = w47 at HO152 HO155 BK141 BK145 BK146 BK148 HB HR156 hHeld ⊢
                  refine pure_ (i := 0) (N := some 51) (v := ?_) (a' := ?_) #[Y,O,O,O,O,O,O,O,O,O,O,O,O,O,O] rfl rfl zx (fun _ _ _ h => h) (Or.inl ⟨by rfl, ?_⟩) ?_ ?_
                  rotate_left; (intro w'; go_simp; with_reducible rfl); rotate_left; (simp only [Act.put,qa,qb,qc,i64_w,i32_w]; rfl)
                  refine pure_ (i := 2) (N := some 53) (v := ?_) (a' := ?_) #[Y,O,Y,O,O,O,O,O,O,O,O,O,O,O,O] rfl rfl zx (fun _ _ _ h => h) (Or.inl ⟨by rfl, ?_⟩) ?_ ?_
                  rotate_left; (intro w'; go_simp; with_reducible rfl); rotate_left; (simp only [Act.put,qa,qb,qc,i64_w,i32_w]; rfl)
                  refine pure_ (i := 3) (N := some 54) (v := ?_) (a' := ?_) #[Y,O,Y,Y,O,O,O,O,O,O,O,O,O,O,O] rfl rfl zx (fun _ _ _ h => h) (Or.inl ⟨by rfl, ?_⟩) ?_ ?_
                  rotate_left; (intro w'; go_simp; with_reducible rfl); rotate_left; (simp only [Act.put,qa,qb,qc,i64_w,i32_w]; rfl)
                  refine pure_ (i := 5) (N := some 56) (v := ?_) (a' := ?_) #[Y,O,Y,Y,O,Y,O,O,O,O,O,O,O,O,O] rfl rfl zx (fun _ _ _ h => h) (Or.inl ⟨by rfl, ?_⟩) ?_ ?_
                  rotate_left; (intro w'; go_simp; with_reducible rfl); rotate_left; (simp only [Act.put,qa,qb,qc,i64_w,i32_w]; rfl)
                  refine pure_ (i := 7) (N := some 58) (v := ?_) (a' := ?_) #[Y,O,Y,Y,O,Y,O,Y,O,O,O,O,O,O,O] rfl rfl zx (fun _ _ _ h => h) (Or.inl ⟨by rfl, ?_⟩) ?_ ?_
                  rotate_left; (intro w'; go_simp; with_reducible rfl); rotate_left; (simp only [Act.put,qa,qb,qc,i64_w,i32_w]; rfl)
                  refine take_ (i := 1) (N := some 52) (v := ?_) (a' := ?_) #[Y,Y,Y,Y,O,Y,O,Y,O,O,O,O,O,O,O] rfl rfl (take_ofW HT_.out HW_.out (by kernel_rfl)) (fun _ _ _ h => h) (Or.inl ⟨by rfl, ?_⟩) hHeld ?_ ?_
                  rotate_left; (rintro w' ⟨s0, s1, s2, s3, s4, s5⟩; go_simp; with_reducible rfl); rotate_left; (simp only [Act.put,qa,qb,qc,i64_w,i32_w]; rfl)
                  refine take_ (i := 4) (N := some 55) (v := ?_) (a' := ?_) #[Y,Y,Y,Y,Y,Y,O,Y,O,O,O,O,O,O,O] rfl rfl (take_ofW HT_.out HW_.out (by kernel_rfl)) (fun _ _ _ h => h) (Or.inl ⟨by rfl, ?_⟩) hHeld ?_ ?_
                  rotate_left; (rintro w' ⟨s0, s1, s2, s3, s4, s5⟩; go_simp; with_reducible rfl); rotate_left; (simp only [Act.put,qa,qb,qc,i64_w,i32_w]; rfl)
                  refine take_ (i := 6) (N := some 57) (v := ?_) (a' := ?_) #[Y,Y,Y,Y,Y,Y,Y,Y,O,O,O,O,O,O,O] rfl rfl (take_ofW HT_.out HW_.out (by kernel_rfl)) (fun _ _ _ h => h) (Or.inl ⟨by rfl, ?_⟩) hHeld ?_ ?_
                  rotate_left; (rintro w' ⟨s0, s1, s2, s3, s4, s5⟩; go_simp; with_reducible rfl); rotate_left; (simp only [Act.put,qa,qb,qc,i64_w,i32_w]; rfl)
                  refine take_ (i := 8) (N := some 59) (v := ?_) (a' := ?_) #[Y,Y,Y,Y,Y,Y,Y,Y,Y,O,O,O,O,O,O] rfl rfl (take_ofW HT_.out HW_.out (by kernel_rfl)) (fun _ _ _ h => h) (Or.inl ⟨by rfl, ?_⟩) hHeld ?_ ?_
                  rotate_left; (rintro w' ⟨s0, s1, s2, s3, s4, s5⟩; go_simp; with_reducible rfl); rotate_left; (simp only [Act.put,qa,qb,qc,i64_w,i32_w]; rfl)
                  refine pure_ (i := 9) (N := some 60) (v := ?_) (a' := ?_) #[Y,Y,Y,Y,Y,Y,Y,Y,Y,Y,O,O,O,O,O] rfl rfl zx (fun _ _ _ h => h) (Or.inl ⟨by rfl, ?_⟩) ?_ ?_
                  rotate_left; (intro w'; go_simp; with_reducible rfl); rotate_left; (simp only [Act.put,qa,qb,qc,i64_w,i32_w]; rfl)
                  refine pure_ (i := 10) (N := some 61) (v := ?_) (a' := ?_) #[Y,Y,Y,Y,Y,Y,Y,Y,Y,Y,Y,O,O,O,O] rfl rfl zx (fun _ _ _ h => h) (Or.inl ⟨by rfl, ?_⟩) ?_ ?_
                  rotate_left; (intro w'; go_simp; with_reducible rfl); rotate_left; (simp only [Act.put,qa,qb,qc,i64_w,i32_w]; rfl)
                  refine one_ (i := 11) (N := some 62) #[Y,Y,Y,Y,Y,Y,Y,Y,Y,Y,Y,Y,O,O,O] rfl rfl (one_of HT_.out (by kernel_rfl)) (by decide) (fun K hK => ?_)
                  refine goes_ Try.func156 (by kernel_rfl) rfl #[.int .i64 2, .slice A48 ((l0.take ((wrap64 (((T106 l1 x37_1).f0) + ((T106 l1 x37_1).f1))) : Int).toNat).drop (((T106 l1 x37_1).f0) : Int).toNat).length (c0 - ((T106 l1 x37_1).f0).toNat)] (by rfl) rfl rfl (by (try simp only [List.map_toArray, List.map_cons, List.map_nil]); first | done | (rw [show ((l0.take ((wrap64 (((T106 l1 x37_1).f0) + ((T106 l1 x37_1).f1))) : Int).toNat).drop (((T106 l1 x37_1).f0) : Int).toNat).length = ((wrap64 (((T106 l1 x37_1).f0) + ((T106 l1 x37_1).f1))).toNat - ((T106 l1 x37_1).f0).toNat) from (by rw [List.length_drop, List.length_take]; have h_ : ((wrap64 (((T106 l1 x37_1).f0) + ((T106 l1 x37_1).f1))) : Int) ≤ (l0.length : Int) := oa; omega)] <;> rfl) | rfl | (simp only [List.length_drop, List.length_take]; rfl)) ?_
                  with_reducible refine (spec_l6Rows.calls k1 2 _ _ ((l0.take ((wrap64 (((T106 l1 x37_1).f0) + ((T106 l1 x37_1).f1))) : Int).toNat).drop (((T106 l1 x37_1).f0) : Int).toNat) t157 _ ?side1 ?side2 A29.out).mono ?_
                  (case side1 => exact zq (Kd.C_below HR156.out HB.out))
                  (case side2 => exact HC156.out)
                  rintro e w49 ⟨v158, rfl, ho0, hb⟩
                  refine ⟨_, rfl, ?_⟩
                  have n0_ := am (Kd.R_elder' (zr HO152.out) (Kd.R_base ho0) hb)
                  have n1_ := am (Kd.R_elder' (zr HO155.out) (Kd.R_base ho0) hb)
                  have n2_ := am (Kd.R_lower (Kd.R_new' (Kd.R_new' ho0 (Kd.R_lt (zr HO152.out))) (Kd.R_lt (zr HO155.out))) (below_size (by repeat (first | (with_reducible first | exact HB.out | apply below_alloc | apply pw_below_drewN | apply below_drew1 | refine below_set ?_ GE141.out | refine below_set ?_ GE145.out | refine below_set ?_ GE146.out | refine below_set ?_ GE148.out) | exact HB.out))))
                  have n3_ := am (blk_below (g := gb141) (o := .cells #[.int .i64 0, .int .i64 0, .slice none 0 0] 73 (0, 0)) (zk BK141.out) hb)
                  have n4_ := am (blk_below (g := gb145) (o := .cells #[.int .i64 ((T106 l1 (ji7)).f0), .int .i64 ((T106 l1 (ji7)).f1), .slice A144_2 ((T106 l1 (ji7)).f2).length c144_2] 106 (0, 0)) (zk BK145.out) hb)
                  have n5_ := am (blk_below (g := gb146) (o := .cells #[.int .i64 t143, .int .i64 (wrap64 (t143 + a3)), .slice Ao44 y153.length co44] 73 (0, 0)) (zk BK146.out) hb)
                  have n6_ := am (blk_below (g := gb148) (o := .cells #[.int .i64 ((T106 l1 x37_1).f0), .int .i64 ((T106 l1 x37_1).f1), .slice A147_2 ((T106 l1 x37_1).f2).length c147_2] 106 (0, 0)) (zk BK148.out) hb)
                  have n7_ := am (below_step (by repeat (first | (with_reducible first | exact HB.out | apply below_alloc | apply pw_below_drewN | apply below_drew1 | refine below_set ?_ GE141.out | refine below_set ?_ GE145.out | refine below_set ?_ GE146.out | refine below_set ?_ GE148.out) | exact HB.out)) hb)
                  clear HO152
                  clear HO155
                  clear BK141
                  clear BK145
                  clear BK146
                  clear BK148
                  clear HB
                  have HO152 := n0_
                  have HO155 := n1_
                  have HO159 := n2_
                  have BK141 := n3_
                  have BK145 := n4_
                  have BK146 := n5_
                  have BK148 := n6_
                  have HB := n7_
                  clear n0_ n1_ n2_ n3_ n4_ n5_ n6_ n7_
                  (try clear hb)
                  (try clear hb2)
                  (try clear hk)
                  (try clear hi)
                  (try clear ho0)
                  obtain ⟨Ao51, co51, eo51⟩ := Kd.R_slice HO159.out
                  (first | subst eo51 | (injection eo51 with f1_ f2_ f3_; have f4_ := f1_.symm; have f5_ := f3_.symm; clear f1_ f2_ f3_; subst f4_; subst f5_))
                  refine hK.out _ _ ⟨(blk_cell BK146.out 0).trans rfl, (blk_cell BK146.out 1).trans rfl, (blk_cell BK146.out 2).trans rfl, (blk_cell BK148.out 0).trans rfl, (blk_cell BK148.out 1).trans rfl, (blk_cell BK148.out 2).trans rfl⟩ (fun hHeld => ?_)
                  clear hK K
                  refine norm_ (a' := ?_) ?_ ?_
                  rotate_left
                  ·show Act.put _ (some 62) _ = _
                   simp only [Act.put,qa,qb,qc,i64_w,i32_w]
                   rfl
                  refine one_ (i := 12) (N := some 63) #[Y,Y,Y,Y,Y,Y,Y,Y,Y,Y,Y,Y,Y,O,O] rfl rfl (one_of HT_.out (by kernel_rfl)) (by decide) (fun K hK => ?_)
                  refine Kd.R_append_rows_step k140 (w0 := w) w.heap.size (by rfl) (.tmp 52) (.tmp 62) 71 140 (.agg #[(.int .i64 0), (.string ⟨#[]⟩)]) 24 rfl Try.underlying71 info140 rfl (by decide) (by omega) (.slice Ao44 y153.length co44) y153 t157 _ _ _ (fun k_ => some k_ ≠ (.slice Ao43 t150.length co43 : Value).ownBlock ∧ some k_ ≠ (.slice Ao51 t157.length co51 : Value).ownBlock) (fun _ => False) rfl rfl ?aO ?aR (fun _ _ h => h) (fun _ h => h.elim) ?aF ?aB ?aS ?aL ?_
                  (case aR => repeat (first | exact (Kd.R_reads' HO159.out).2.2 | (with_reducible refine Kd.C_alloc ?_ _) | (with_reducible refine Kd.C_drewN ?_ _) | (with_reducible refine Kd.C_drew ?_)))
                  (case aB => exact (by repeat (first | (with_reducible first | exact HB.out | apply below_alloc | apply pw_below_drewN | apply below_drew1 | refine below_set ?_ GE141.out | refine below_set ?_ GE145.out | refine below_set ?_ GE146.out | refine below_set ?_ GE148.out) | exact HB.out)))
                  (case aF => exact (fun k_ hk => ⟨Kd.fresh' (Kd.R_lt (zr HO152.out)) k_ hk, Kd.fresh' (Kd.R_lt (zr HO159.out)) k_ hk⟩))
                  (case aO => exact (zr HO155.out))
                  (case aS => exact (below_size (by repeat (first | (with_reducible first | exact HB.out | apply below_alloc | apply pw_below_drewN | apply below_drew1 | refine below_set ?_ GE141.out | refine below_set ?_ GE145.out | refine below_set ?_ GE146.out | refine below_set ?_ GE148.out) | exact HB.out))))
                  (case aL => have := LMc30.out; omega)
                  intro v161 w50 ho hb hg hat
                  rw [← Ny160.out] at ho
                  have n0_ := am (blk_grown (g := gb141) (o := .cells #[.int .i64 0, .int .i64 0, .slice none 0 0] 73 (0, 0)) (zk BK141.out) hg (Kd.R_ne HO155.out BK141.out (by decide)))
                  have n1_ := am (blk_grown (g := gb145) (o := .cells #[.int .i64 ((T106 l1 (ji7)).f0), .int .i64 ((T106 l1 (ji7)).f1), .slice A144_2 ((T106 l1 (ji7)).f2).length c144_2] 106 (0, 0)) (zk BK145.out) hg (Kd.R_ne HO155.out BK145.out (by decide)))
                  have n2_ := am (blk_grown (g := gb146) (o := .cells #[.int .i64 t143, .int .i64 (wrap64 (t143 + a3)), .slice Ao44 y153.length co44] 73 (0, 0)) (zk BK146.out) hg (Kd.R_ne HO155.out BK146.out (by decide)))
                  have n3_ := am (blk_grown (g := gb148) (o := .cells #[.int .i64 ((T106 l1 x37_1).f0), .int .i64 ((T106 l1 x37_1).f1), .slice A147_2 ((T106 l1 x37_1).f2).length c147_2] 106 (0, 0)) (zk BK148.out) hg (Kd.R_ne HO155.out BK148.out (by decide)))
                  have n4_ := am (Kd.R_after (ok := (fun k_ => some k_ ≠ (.slice Ao51 t157.length co51 : Value).ownBlock)) (by (with_reducible repeat (first | apply Kd.R_alloc | apply Kd.R_drewN | apply Kd.R_drew)); exact Kd.R_mono HO152.out (fun _ hk => ⟨hk.2, hk.1⟩)) hg hat)
                  have n5_ := am (Kd.R_after (ok := (fun k_ => some k_ ≠ (.slice Ao43 t150.length co43 : Value).ownBlock)) (by (with_reducible repeat (first | apply Kd.R_alloc | apply Kd.R_drewN | apply Kd.R_drew)); exact Kd.R_mono HO159.out (fun _ hk => ⟨hk.1.2, hk.2⟩)) hg hat)
                  have n6_ := am (hb)
                  have n7_ := am (ho)
                  clear BK141
                  clear BK145
                  clear BK146
                  clear BK148
                  clear HO152
                  clear HO159
                  clear HB
                  clear HO155
                  have BK141 := n0_
                  have BK145 := n1_
                  have BK146 := n2_
                  have BK148 := n3_
                  have HO152 := n4_
                  have HO159 := n5_
                  have HB := n6_
                  have HO162 := n7_
                  clear n0_ n1_ n2_ n3_ n4_ n5_ n6_ n7_
                  clear ho hb hg hat
                  obtain ⟨Ao52, co52, eo52⟩ := Kd.R_slice HO162.out
                  (first | subst eo52 | (injection eo52 with f1_ f2_ f3_; have f4_ := f1_.symm; have f5_ := f3_.symm; clear f1_ f2_ f3_; subst f4_; subst f5_))
                  refine hK.out _ _ ⟨(blk_cell BK146.out 0).trans rfl, (blk_cell BK146.out 1).trans rfl, (blk_cell BK146.out 2).trans rfl, (blk_cell BK148.out 0).trans rfl, (blk_cell BK148.out 1).trans rfl, (blk_cell BK148.out 2).trans rfl⟩ (fun hHeld => ?_)
                  clear hK K
                  refine norm_ (a' := ?_) ?_ ?_
                  rotate_left
                  ·show Act.put _ (some 63) _ = _
                   simp only [Act.put,qa,qb,qc,i64_w,i32_w]
                   rfl
                  refine pure_ (i := 13) (N := some 64) (v := ?_) (a' := ?_) #[Y,Y,Y,Y,Y,Y,Y,Y,Y,Y,Y,Y,Y,Y,O] rfl rfl zx (fun _ _ _ h => h) (Or.inl ⟨by rfl, ?_⟩) ?_ ?_
                  rotate_left; (intro w'; go_simp; with_reducible rfl); rotate_left; (simp only [Act.put,qa,qb,qc,i64_w,i32_w]; rfl)
                  refine last_ (i := 14) (N := none) #[Y,Y,Y,Y,Y,Y,Y,Y,Y,Y,Y,Y,Y,Y,Y] rfl rfl (one_of HT_.out (by kernel_rfl)) (by decide) (fun K hK => ?_)
                  have hs53 : w50.cell? ⟨gb146, 2, none⟩ = some (.slice Ao44 y153.length co44) := (blk_cell BK146.out 2).trans rfl
                  have hfs53 := blk_frozen BK146.out 2
                  have hns53_0 := NB141_146.out
                  have hns53_1 := NB145_146.out
                  have hns53_3 := NB148_146.out
                  have hms53_0 := NB146_141.out
                  have hms53_1 := NB146_145.out
                  have hms53_3 := NB146_148.out
                  refine skip_ (w1 := ?_) (by rfl) rfl ?_ ?_
                  rotate_left
                  ·go_simp
                   rfl
                  refine hK.out _ _ ?_
                  clear hK K
                  refine done_ (done_of HT_.out (by kernel_rfl)) ?_
                  try go_wp2
                  have n0_ : Aside0 (Kd.R k140 140 (w50.setCell ⟨gb146, 2, none⟩ (.slice Ao52 y160.length co52)) w.heap.size (fun k_ => some k_ ≠ (.slice Ao51 t157.length co51 : Value).ownBlock ∧ some k_ ≠ (.slice Ao52 y160.length co52 : Value).ownBlock) (.slice Ao43 t150.length co43) t150) := ⟨by (with_reducible repeat (first | apply Kd.R_alloc | apply Kd.R_drewN | apply Kd.R_drew)); exact Kd.R_mono (Kd.R_far (p := ⟨gb146, 2, none⟩) (Kd.R_types HO152.out BK146.out (by decide)) (fun _ hk => hk.2) (.slice Ao52 y160.length co52)) (fun _ hk => ⟨hk.1.1, hk.1.2⟩)⟩
                  have n1_ : Aside0 (Kd.R k140 140 (w50.setCell ⟨gb146, 2, none⟩ (.slice Ao52 y160.length co52)) w.heap.size (fun k_ => some k_ ≠ (.slice Ao43 t150.length co43 : Value).ownBlock ∧ some k_ ≠ (.slice Ao52 y160.length co52 : Value).ownBlock) (.slice Ao51 t157.length co51) t157) := ⟨by (with_reducible repeat (first | apply Kd.R_alloc | apply Kd.R_drewN | apply Kd.R_drew)); exact Kd.R_mono (Kd.R_far (p := ⟨gb146, 2, none⟩) (Kd.R_types HO159.out BK146.out (by decide)) (fun _ hk => hk.2) (.slice Ao52 y160.length co52)) (fun _ hk => ⟨hk.1.1, hk.1.2⟩)⟩
                  have n2_ : Aside0 (Kd.R k140 140 (w50.setCell ⟨gb146, 2, none⟩ (.slice Ao52 y160.length co52)) w.heap.size (fun k_ => some k_ ≠ (.slice Ao43 t150.length co43 : Value).ownBlock ∧ some k_ ≠ (.slice Ao51 t157.length co51 : Value).ownBlock) (.slice Ao52 y160.length co52) y160) := ⟨by (with_reducible repeat (first | apply Kd.R_alloc | apply Kd.R_drewN | apply Kd.R_drew)); exact Kd.R_mono (Kd.R_far (p := ⟨gb146, 2, none⟩) (Kd.R_types HO162.out BK146.out (by decide)) (fun _ hk => hk.2) (.slice Ao52 y160.length co52)) (fun _ hk => ⟨hk.1.1, hk.1.2⟩)⟩
                  have n3_ : Aside0 ((w50.setCell ⟨gb146, 2, none⟩ (.slice Ao52 y160.length co52)).heap[gb141]? = some (.cells #[.int .i64 0, .int .i64 0, .slice none 0 0] 73 (0, 0))) := ⟨by (with_reducible repeat (first | refine blk_drewN ?_ _ | refine blk_drew ?_ | refine blk_alloc ?_ _)); refine blk_far ?_ NB141_146.out _; (with_reducible repeat (first | refine blk_drewN ?_ _ | refine blk_drew ?_ | refine blk_alloc ?_ _)); exact BK141.out⟩
                  have n4_ : Aside0 ((w50.setCell ⟨gb146, 2, none⟩ (.slice Ao52 y160.length co52)).heap[gb145]? = some (.cells #[.int .i64 ((T106 l1 (ji7)).f0), .int .i64 ((T106 l1 (ji7)).f1), .slice A144_2 ((T106 l1 (ji7)).f2).length c144_2] 106 (0, 0))) := ⟨by (with_reducible repeat (first | refine blk_drewN ?_ _ | refine blk_drew ?_ | refine blk_alloc ?_ _)); refine blk_far ?_ NB145_146.out _; (with_reducible repeat (first | refine blk_drewN ?_ _ | refine blk_drew ?_ | refine blk_alloc ?_ _)); exact BK145.out⟩
                  have n5_ : Aside0 ((w50.setCell ⟨gb146, 2, none⟩ (.slice Ao52 y160.length co52)).heap[gb146]? = some (.cells #[.int .i64 t143, .int .i64 (wrap64 (t143 + a3)), .slice Ao52 y160.length co52] 73 (0, 0))) := ⟨by (with_reducible repeat (first | refine blk_drewN ?_ _ | refine blk_drew ?_ | refine blk_alloc ?_ _)); refine blk_put (cs := #[.int .i64 t143, .int .i64 (wrap64 (t143 + a3)), .slice Ao44 y153.length co44]) ?_ 2 _ rfl; (with_reducible repeat (first | refine blk_drewN ?_ _ | refine blk_drew ?_ | refine blk_alloc ?_ _)); exact BK146.out⟩
                  have n6_ : Aside0 ((w50.setCell ⟨gb146, 2, none⟩ (.slice Ao52 y160.length co52)).heap[gb148]? = some (.cells #[.int .i64 ((T106 l1 x37_1).f0), .int .i64 ((T106 l1 x37_1).f1), .slice A147_2 ((T106 l1 x37_1).f2).length c147_2] 106 (0, 0))) := ⟨by (with_reducible repeat (first | refine blk_drewN ?_ _ | refine blk_drew ?_ | refine blk_alloc ?_ _)); refine blk_far ?_ NB148_146.out _; (with_reducible repeat (first | refine blk_drewN ?_ _ | refine blk_drew ?_ | refine blk_alloc ?_ _)); exact BK148.out⟩
                  have n7_ : Aside0 (Below w.heap.size w (w50.setCell ⟨gb146, 2, none⟩ (.slice Ao52 y160.length co52))) := ⟨by repeat (first | (with_reducible first | exact HB.out | apply below_alloc | apply pw_below_drewN | apply below_drew1 | refine below_set ?_ GE141.out | refine below_set ?_ GE145.out | refine below_set ?_ GE146.out | refine below_set ?_ GE148.out) | exact HB.out)⟩
                  (try clear HO152)
                  (try clear HO159)
                  (try clear HO162)
                  (try clear BK141)
                  (try clear BK145)
                  (try clear BK146)
                  (try clear BK148)
                  (try clear HB)
                  (try simp only [show ∀ (w_ : World) (n_ : Nat) (p_ : Addr) (v_ : Value), (w_.drewN n_).setCell p_ v_ = (w_.setCell p_ v_).drewN n_ from fun _ _ _ _ => rfl])
                  generalize (w50.setCell ⟨gb146, 2, none⟩ (.slice Ao52 y160.length co52)) = w54 at n0_ n1_ n2_ n3_ n4_ n5_ n6_ n7_ ⊢
                  have HO152 := n0_
                  have HO159 := n1_
                  have HO162 := n2_
                  have BK141 := n3_
                  have BK145 := n4_
                  have BK146 := n5_
                  have BK148 := n6_
                  have HB := n7_
                  clear n0_ n1_ n2_ n3_ n4_ n5_ n6_ n7_
                  have n0_ := am (Kd.R_drew HO152.out)
                  have n1_ := am (Kd.R_drew HO159.out)
                  have n2_ := am (Kd.R_drew HO162.out)
                  have n3_ := am (blk_drew BK141.out)
                  have n4_ := am (blk_drew BK145.out)
                  have n5_ := am (blk_drew BK146.out)
                  have n6_ := am (blk_drew BK148.out)
                  have n7_ := am (below_drew1 HB.out)
                  clear HO152
                  clear HO159
                  clear HO162
                  clear BK141
                  clear BK145
                  clear BK146
                  clear BK148
                  clear HB
                  have HO152 := n0_
                  have HO159 := n1_
                  have HO162 := n2_
                  have BK141 := n3_
                  have BK145 := n4_
                  have BK146 := n5_
                  have BK148 := n6_
                  have HB := n7_
                  clear n0_ n1_ n2_ n3_ n4_ n5_ n6_ n7_
                  refine start_ (n := 8) (S := fun w' => w'.cell? ⟨gb146, 0, none⟩ = some (.int .i64 t143) ∧ w'.cell? ⟨gb146, 1, none⟩ = some (.int .i64 (wrap64 (t143 + a3))) ∧ w'.cell? ⟨gb146, 2, none⟩ = some (.slice Ao52 y160.length co52) ∧ w'.cell? ⟨gb148, 0, none⟩ = some (.int .i64 ((T106 l1 x37_1).f0)) ∧ w'.cell? ⟨gb148, 1, none⟩ = some (.int .i64 ((T106 l1 x37_1).f1)) ∧ w'.cell? ⟨gb148, 2, none⟩ = some (.slice A147_2 ((T106 l1 x37_1).f2).length c147_2)) (ds := [7]) #[O,O,O,O,O,O,O,O] (by kernel_rfl) rfl rfl ⟨(blk_cell BK146.out 0).trans rfl, (blk_cell BK146.out 1).trans rfl, (blk_cell BK146.out 2).trans rfl, (blk_cell BK148.out 0).trans rfl, (blk_cell BK148.out 1).trans rfl, (blk_cell BK148.out 2).trans rfl⟩ (fun hHeld => ?_); refine with_tabW spec_l6One.tab10 spec_l6One.bits10 (fun HT_ HW_ => ?_)
                  generalize w54.drew = w55 at HO152 HO159 HO162 BK141 BK145 BK146 BK148 HB hHeld ⊢
                  refine pure_ (i := 0) (N := some 65) (v := ?_) (a' := ?_) #[Y,O,O,O,O,O,O,O] rfl rfl zx (fun _ _ _ h => h) (Or.inl ⟨by rfl, ?_⟩) ?_ ?_
                  rotate_left; (intro w'; go_simp; with_reducible rfl); rotate_left; (simp only [Act.put,qa,qb,qc,i64_w,i32_w]; rfl)
                  refine pure_ (i := 2) (N := some 67) (v := ?_) (a' := ?_) #[Y,O,Y,O,O,O,O,O] rfl rfl zx (fun _ _ _ h => h) (Or.inl ⟨by rfl, ?_⟩) ?_ ?_
                  rotate_left; (intro w'; go_simp; with_reducible rfl); rotate_left; (simp only [Act.put,qa,qb,qc,i64_w,i32_w]; rfl)
                  refine take_ (i := 1) (N := some 66) (v := ?_) (a' := ?_) #[Y,Y,Y,O,O,O,O,O] rfl rfl (take_ofW HT_.out HW_.out (by kernel_rfl)) (fun _ _ _ h => h) (Or.inl ⟨by rfl, ?_⟩) hHeld ?_ ?_
                  rotate_left; (rintro w' ⟨s0, s1, s2, s3, s4, s5⟩; go_simp; with_reducible rfl); rotate_left; (simp only [Act.put,qa,qb,qc,i64_w,i32_w]; rfl)
                  refine take_ (i := 3) (N := some 68) (v := ?_) (a' := ?_) #[Y,Y,Y,Y,O,O,O,O] rfl rfl (take_ofW HT_.out HW_.out (by kernel_rfl)) (fun _ _ _ h => h) (Or.inl ⟨by rfl, ?_⟩) hHeld ?_ ?_
                  rotate_left; (rintro w' ⟨s0, s1, s2, s3, s4, s5⟩; go_simp; with_reducible rfl); rotate_left; (simp only [Act.put,qa,qb,qc,i64_w,i32_w]; rfl)
                  refine one_ (i := 4) (N := some 69) #[Y,Y,Y,Y,Y,O,O,O] rfl rfl (one_of HT_.out (by kernel_rfl)) (by decide) (fun K hK => ?_)
                  refine goes_ Try.func156 (by kernel_rfl) rfl #[.int .i64 3, .slice A147_2 ((T106 l1 x37_1).f2).length c147_2] (by rfl) rfl rfl zm ?_
                  with_reducible refine (spec_l6Rows.calls k1 3 _ _ ((T106 l1 x37_1).f2) t163 _ ?side1 ?side2 A31.out).mono ?_
                  (case side1 => exact zq (Kd.C_below HR147_2.out HB.out))
                  (case side2 => exact HC147_2.out)
                  rintro e w56 ⟨v164, rfl, ho0, hb⟩
                  refine ⟨_, rfl, ?_⟩
                  have n0_ := am (Kd.R_elder' (zr HO152.out) (Kd.R_base ho0) hb)
                  have n1_ := am (Kd.R_elder' (zr HO159.out) (Kd.R_base ho0) hb)
                  have n2_ := am (Kd.R_elder' (zr HO162.out) (Kd.R_base ho0) hb)
                  have n3_ := am (Kd.R_lower (Kd.R_new' (Kd.R_new' (Kd.R_new' ho0 (Kd.R_lt (zr HO152.out))) (Kd.R_lt (zr HO159.out))) (Kd.R_lt (zr HO162.out))) (below_size (by repeat (first | (with_reducible first | exact HB.out | apply below_alloc | apply pw_below_drewN | apply below_drew1 | refine below_set ?_ GE141.out | refine below_set ?_ GE145.out | refine below_set ?_ GE146.out | refine below_set ?_ GE148.out) | exact HB.out))))
                  have n4_ := am (blk_below (g := gb141) (o := .cells #[.int .i64 0, .int .i64 0, .slice none 0 0] 73 (0, 0)) (zk BK141.out) hb)
                  have n5_ := am (blk_below (g := gb145) (o := .cells #[.int .i64 ((T106 l1 (ji7)).f0), .int .i64 ((T106 l1 (ji7)).f1), .slice A144_2 ((T106 l1 (ji7)).f2).length c144_2] 106 (0, 0)) (zk BK145.out) hb)
                  have n6_ := am (blk_below (g := gb146) (o := .cells #[.int .i64 t143, .int .i64 (wrap64 (t143 + a3)), .slice Ao52 y160.length co52] 73 (0, 0)) (zk BK146.out) hb)
                  have n7_ := am (blk_below (g := gb148) (o := .cells #[.int .i64 ((T106 l1 x37_1).f0), .int .i64 ((T106 l1 x37_1).f1), .slice A147_2 ((T106 l1 x37_1).f2).length c147_2] 106 (0, 0)) (zk BK148.out) hb)
                  have n8_ := am (below_step (by repeat (first | (with_reducible first | exact HB.out | apply below_alloc | apply pw_below_drewN | apply below_drew1 | refine below_set ?_ GE141.out | refine below_set ?_ GE145.out | refine below_set ?_ GE146.out | refine below_set ?_ GE148.out) | exact HB.out)) hb)
                  clear HO152
                  clear HO159
                  clear HO162
                  clear BK141
                  clear BK145
                  clear BK146
                  clear BK148
                  clear HB
                  have HO152 := n0_
                  have HO159 := n1_
                  have HO162 := n2_
                  have HO165 := n3_
                  have BK141 := n4_
                  have BK145 := n5_
                  have BK146 := n6_
                  have BK148 := n7_
                  have HB := n8_
                  clear n0_ n1_ n2_ n3_ n4_ n5_ n6_ n7_ n8_
                  (try clear hb)
                  (try clear hb2)
                  (try clear hk)
                  (try clear hi)
                  (try clear ho0)
                  obtain ⟨Ao58, co58, eo58⟩ := Kd.R_slice HO165.out
                  (first | subst eo58 | (injection eo58 with f1_ f2_ f3_; have f4_ := f1_.symm; have f5_ := f3_.symm; clear f1_ f2_ f3_; subst f4_; subst f5_))
                  refine hK.out _ _ ⟨(blk_cell BK146.out 0).trans rfl, (blk_cell BK146.out 1).trans rfl, (blk_cell BK146.out 2).trans rfl, (blk_cell BK148.out 0).trans rfl, (blk_cell BK148.out 1).trans rfl, (blk_cell BK148.out 2).trans rfl⟩ (fun hHeld => ?_)
                  clear hK K
                  refine norm_ (a' := ?_) ?_ ?_
                  rotate_left
                  ·show Act.put _ (some 69) _ = _
                   simp only [Act.put,qa,qb,qc,i64_w,i32_w]
                   rfl
                  refine one_ (i := 5) (N := some 70) #[Y,Y,Y,Y,Y,Y,O,O] rfl rfl (one_of HT_.out (by kernel_rfl)) (by decide) (fun K hK => ?_)
                  refine Kd.R_append_rows_step k140 (w0 := w) w.heap.size (by rfl) (.tmp 66) (.tmp 69) 71 140 (.agg #[(.int .i64 0), (.string ⟨#[]⟩)]) 24 rfl Try.underlying71 info140 rfl (by decide) (by omega) (.slice Ao52 y160.length co52) y160 t163 _ _ _ (fun k_ => some k_ ≠ (.slice Ao43 t150.length co43 : Value).ownBlock ∧ some k_ ≠ (.slice Ao51 t157.length co51 : Value).ownBlock ∧ some k_ ≠ (.slice Ao58 t163.length co58 : Value).ownBlock) (fun _ => False) rfl rfl ?aO ?aR (fun _ _ h => h) (fun _ h => h.elim) ?aF ?aB ?aS ?aL ?_
                  (case aR => repeat (first | exact (Kd.R_reads' HO165.out).2.2 | (with_reducible refine Kd.C_alloc ?_ _) | (with_reducible refine Kd.C_drewN ?_ _) | (with_reducible refine Kd.C_drew ?_)))
                  (case aB => exact (by repeat (first | (with_reducible first | exact HB.out | apply below_alloc | apply pw_below_drewN | apply below_drew1 | refine below_set ?_ GE141.out | refine below_set ?_ GE145.out | refine below_set ?_ GE146.out | refine below_set ?_ GE148.out) | exact HB.out)))
                  (case aF => exact (fun k_ hk => ⟨Kd.fresh' (Kd.R_lt (zr HO152.out)) k_ hk, Kd.fresh' (Kd.R_lt (zr HO159.out)) k_ hk, Kd.fresh' (Kd.R_lt (zr HO165.out)) k_ hk⟩))
                  (case aO => exact (by (with_reducible repeat (first | apply Kd.R_alloc | apply Kd.R_drewN | apply Kd.R_drew)); exact Kd.R_mono HO162.out (fun _ hk => ⟨hk.1.1, ⟨hk.1.2, hk.2⟩⟩)))
                  (case aS => exact (below_size (by repeat (first | (with_reducible first | exact HB.out | apply below_alloc | apply pw_below_drewN | apply below_drew1 | refine below_set ?_ GE141.out | refine below_set ?_ GE145.out | refine below_set ?_ GE146.out | refine below_set ?_ GE148.out) | exact HB.out))))
                  (case aL => have := LMc32.out; omega)
                  intro v167 w57 ho hb hg hat
                  rw [← Ny166.out] at ho
                  have n0_ := am (blk_grown (g := gb141) (o := .cells #[.int .i64 0, .int .i64 0, .slice none 0 0] 73 (0, 0)) (zk BK141.out) hg (Kd.R_ne HO162.out BK141.out (by decide)))
                  have n1_ := am (blk_grown (g := gb145) (o := .cells #[.int .i64 ((T106 l1 (ji7)).f0), .int .i64 ((T106 l1 (ji7)).f1), .slice A144_2 ((T106 l1 (ji7)).f2).length c144_2] 106 (0, 0)) (zk BK145.out) hg (Kd.R_ne HO162.out BK145.out (by decide)))
                  have n2_ := am (blk_grown (g := gb146) (o := .cells #[.int .i64 t143, .int .i64 (wrap64 (t143 + a3)), .slice Ao52 y160.length co52] 73 (0, 0)) (zk BK146.out) hg (Kd.R_ne HO162.out BK146.out (by decide)))
                  have n3_ := am (blk_grown (g := gb148) (o := .cells #[.int .i64 ((T106 l1 x37_1).f0), .int .i64 ((T106 l1 x37_1).f1), .slice A147_2 ((T106 l1 x37_1).f2).length c147_2] 106 (0, 0)) (zk BK148.out) hg (Kd.R_ne HO162.out BK148.out (by decide)))
                  have n4_ := am (Kd.R_after (ok := (fun k_ => some k_ ≠ (.slice Ao51 t157.length co51 : Value).ownBlock ∧ some k_ ≠ (.slice Ao58 t163.length co58 : Value).ownBlock)) (by (with_reducible repeat (first | apply Kd.R_alloc | apply Kd.R_drewN | apply Kd.R_drew)); exact Kd.R_mono HO152.out (fun _ hk => ⟨⟨hk.1.1, hk.2⟩, hk.1.2⟩)) hg hat)
                  have n5_ := am (Kd.R_after (ok := (fun k_ => some k_ ≠ (.slice Ao43 t150.length co43 : Value).ownBlock ∧ some k_ ≠ (.slice Ao58 t163.length co58 : Value).ownBlock)) (by (with_reducible repeat (first | apply Kd.R_alloc | apply Kd.R_drewN | apply Kd.R_drew)); exact Kd.R_mono HO159.out (fun _ hk => ⟨⟨hk.1.1, hk.2⟩, hk.1.2⟩)) hg hat)
                  have n6_ := am (Kd.R_after (ok := (fun k_ => some k_ ≠ (.slice Ao43 t150.length co43 : Value).ownBlock ∧ some k_ ≠ (.slice Ao51 t157.length co51 : Value).ownBlock)) (by (with_reducible repeat (first | apply Kd.R_alloc | apply Kd.R_drewN | apply Kd.R_drew)); exact Kd.R_mono HO165.out (fun _ hk => ⟨⟨hk.1.1.2, hk.1.2⟩, hk.2⟩)) hg hat)
                  have n7_ := am (hb)
                  have n8_ := am (ho)
                  clear BK141
                  clear BK145
                  clear BK146
                  clear BK148
                  clear HO152
                  clear HO159
                  clear HO165
                  clear HB
                  clear HO162
                  have BK141 := n0_
                  have BK145 := n1_
                  have BK146 := n2_
                  have BK148 := n3_
                  have HO152 := n4_
                  have HO159 := n5_
                  have HO165 := n6_
                  have HB := n7_
                  have HO168 := n8_
                  clear n0_ n1_ n2_ n3_ n4_ n5_ n6_ n7_ n8_
                  clear ho hb hg hat
                  obtain ⟨Ao59, co59, eo59⟩ := Kd.R_slice HO168.out
                  (first | subst eo59 | (injection eo59 with f1_ f2_ f3_; have f4_ := f1_.symm; have f5_ := f3_.symm; clear f1_ f2_ f3_; subst f4_; subst f5_))
                  refine hK.out _ _ ⟨(blk_cell BK146.out 0).trans rfl, (blk_cell BK146.out 1).trans rfl, (blk_cell BK146.out 2).trans rfl, (blk_cell BK148.out 0).trans rfl, (blk_cell BK148.out 1).trans rfl, (blk_cell BK148.out 2).trans rfl⟩ (fun hHeld => ?_)
                  clear hK K
                  refine norm_ (a' := ?_) ?_ ?_
                  rotate_left
                  ·show Act.put _ (some 70) _ = _
                   simp only [Act.put,qa,qb,qc,i64_w,i32_w]
                   rfl
                  refine pure_ (i := 6) (N := some 71) (v := ?_) (a' := ?_) #[Y,Y,Y,Y,Y,Y,Y,O] rfl rfl zx (fun _ _ _ h => h) (Or.inl ⟨by rfl, ?_⟩) ?_ ?_
                  rotate_left; (intro w'; go_simp; with_reducible rfl); rotate_left; (simp only [Act.put,qa,qb,qc,i64_w,i32_w]; rfl)
                  refine last_ (i := 7) (N := none) #[Y,Y,Y,Y,Y,Y,Y,Y] rfl rfl (one_of HT_.out (by kernel_rfl)) (by decide) (fun K hK => ?_)
                  have hs60 : w57.cell? ⟨gb146, 2, none⟩ = some (.slice Ao52 y160.length co52) := (blk_cell BK146.out 2).trans rfl
                  have hfs60 := blk_frozen BK146.out 2
                  have hns60_0 := NB141_146.out
                  have hns60_1 := NB145_146.out
                  have hns60_3 := NB148_146.out
                  have hms60_0 := NB146_141.out
                  have hms60_1 := NB146_145.out
                  have hms60_3 := NB146_148.out
                  refine skip_ (w1 := ?_) (by rfl) rfl ?_ ?_
                  rotate_left
                  ·go_simp
                   rfl
                  refine hK.out _ _ ?_
                  clear hK K
                  refine done_ (done_of HT_.out (by kernel_rfl)) ?_
                  have hcz61_0 : w57.cell? ⟨gb148, 0, none⟩ = some (.int .i64 ((T106 l1 x37_1).f0)) := (blk_cell BK148.out 0).trans rfl
                  have hcz61_1 : w57.cell? ⟨gb148, 1, none⟩ = some (.int .i64 ((T106 l1 x37_1).f1)) := (blk_cell BK148.out 1).trans rfl
                  have hcz61_2 : w57.cell? ⟨gb148, 2, none⟩ = some (.slice A147_2 ((T106 l1 x37_1).f2).length c147_2) := (blk_cell BK148.out 2).trans rfl
                  have hfz61_0 := blk_frozen BK148.out 0
                  have hfz61_1 := blk_frozen BK148.out 1
                  have hfz61_2 := blk_frozen BK148.out 2
                  try go_wp2
                  go_roundg k1
                  case measure => have := HK1.out; omega
                  case rel => exact ⟨(wrap64 (((T106 l1 x37_1).f0) + ((T106 l1 x37_1).f1))), (wrap64 (x37_1 + 1)), (y166), (.slice Ao59 y166.length co59), zf, zf, H', ⟨by have := HK1.out; omega⟩, ⟨by (with_reducible repeat (first | apply Kd.R_alloc | apply Kd.R_drewN | apply Kd.R_drew)); exact Kd.R_mono (Kd.R_far (p := ⟨gb146, 2, none⟩) (Kd.R_types HO168.out BK146.out (by decide)) (fun _ hk => hk.2) (.slice Ao59 y166.length co59)) (fun _ hk => trivial)⟩, ⟨by (with_reducible repeat (first | refine blk_drewN ?_ _ | refine blk_drew ?_ | refine blk_alloc ?_ _)); refine blk_far ?_ NB141_146.out _; (with_reducible repeat (first | refine blk_drewN ?_ _ | refine blk_drew ?_ | refine blk_alloc ?_ _)); exact BK141.out⟩, ⟨by (with_reducible repeat (first | refine blk_drewN ?_ _ | refine blk_drew ?_ | refine blk_alloc ?_ _)); refine blk_far ?_ NB145_146.out _; (with_reducible repeat (first | refine blk_drewN ?_ _ | refine blk_drew ?_ | refine blk_alloc ?_ _)); exact BK145.out⟩, ⟨by (with_reducible repeat (first | refine blk_drewN ?_ _ | refine blk_drew ?_ | refine blk_alloc ?_ _)); refine blk_put (cs := #[.int .i64 t143, .int .i64 (wrap64 (t143 + a3)), .slice Ao52 y160.length co52]) ?_ 2 _ rfl; (with_reducible repeat (first | refine blk_drewN ?_ _ | refine blk_drew ?_ | refine blk_alloc ?_ _)); exact BK146.out⟩, ⟨by repeat (first | (with_reducible first | exact HB.out | apply below_alloc | apply pw_below_drewN | apply below_drew1 | refine below_set ?_ GE141.out | refine below_set ?_ GE145.out | refine below_set ?_ GE146.out | refine below_set ?_ GE148.out) | exact HB.out)⟩⟩
                 ·rw [if_neg c32] at H
                  exact absurd H (by simp)
                ·rw [if_neg c30] at H
                 exact absurd H (by simp)
               ·rw [if_neg c28] at H
                exact absurd H (by simp)
              ·rw [if_neg c27] at H
               exact absurd H (by simp)
             ·rw [if_neg c26] at H
              exact absurd H (by simp)
            ·rw [if_neg c25] at H
             exact absurd H (by simp)
           ·rw [if_neg c23] at H
            exact absurd H (by simp)
          ·rw [if_neg c22] at H
           exact absurd H (by simp)
         ·rw [if_neg c21] at H
          exact absurd H (by simp)
        ·rw [if_neg c20] at H
         exact absurd H (by simp)
       ·rw [if_neg c19] at H
        exact absurd H (by simp)
      ·rw [if_neg c18] at H
       have c18b0 : decide (x37_1 < (l1.length : Int)) = false := decide_eq_false c18
       clear c18
       replace H := Option.bind_eq_some_iff.mp H
       obtain ⟨t169, A620, H⟩ := H
       replace H : (if 0 ≤ x12_1 then (if x12_1 ≤ t169 then (if t169 ≤ (l0.length : Int) then ((spec_l6Rows.f k1 1 ((l0.take (t169 : Int).toNat).drop (x12_1 : Int).toNat)).bind fun t171 => (if x147002_1.length + t171.length < 5864062014805 then (some (t143, (wrap64 (t143 + a3)), (x147002_1 ++ t171))) else (none))) else (none)) else (none)) else (none)) = some (r1, r2, r3) := H
       have A62 := am A620
       clear A620
       by_cases c63 : 0 ≤ x12_1
       ·rw [if_pos c63] at H
        have c63b0 := eq_true c63
        have c63b1 : decide (0 ≤ x12_1) = true := decide_eq_true c63
        clear c63
        by_cases c64 : x12_1 ≤ t169
        ·rw [if_pos c64] at H
         have c64b0 := eq_true c64
         have c64b1 : decide (x12_1 ≤ t169) = true := decide_eq_true c64
         clear c64
         by_cases c65 : t169 ≤ (l0.length : Int)
         ·rw [if_pos c65] at H
          have c65b0 := eq_true c65
          have c65b1 : decide (t169 ≤ (l0.length : Int)) = true := decide_eq_true c65
          clear c65
          replace H := Option.bind_eq_some_iff.mp H
          obtain ⟨t171, A660, H⟩ := H
          replace H : (if x147002_1.length + t171.length < 5864062014805 then (some (t143, (wrap64 (t143 + a3)), (x147002_1 ++ t171))) else (none)) = some (r1, r2, r3) := H
          have A66 := am A660
          clear A660
          by_cases c67 : x147002_1.length + t171.length < 5864062014805
          ·rw [if_pos c67] at H
           have LMc67 := am c67
           clear c67
           obtain ⟨y174, hy174⟩ : ∃ y_ : List (S140), y_ = (x147002_1 ++ t171) := ⟨_, rfl⟩
           replace H : (some (t143, (wrap64 (t143 + a3)), y174)) = some (r1, r2, r3) := by first | (rw [hy174]; with_reducible exact H) | (have H2_ := (Option.bind_some _ _).symm.trans H; rw [hy174]; with_reducible exact H2_) | (have H2_ := (Option.bind_some _ _).symm.trans H; with_reducible exact H2_) | with_reducible exact H | (rw [hy174]; exact H) | exact H
           have Ny174 := am hy174
           clear hy174
           simp only [Option.some.injEq, Prod.mk.injEq] at H
           obtain ⟨rfl, rfl, rfl⟩ := H
           have hnb68 := NB145_141.out
           have hnc68 := NB141_145.out
           have hnb69 := NB145_146.out
           have hnc69 := NB146_145.out
           have hcz70_0 : wr.cell? ⟨gb145, 0, none⟩ = some (.int .i64 ((T106 l1 (ji7)).f0)) := (blk_cell BK145.out 0).trans rfl
           have hcz70_1 : wr.cell? ⟨gb145, 1, none⟩ = some (.int .i64 ((T106 l1 (ji7)).f1)) := (blk_cell BK145.out 1).trans rfl
           have hcz70_2 : wr.cell? ⟨gb145, 2, none⟩ = some (.slice A144_2 ((T106 l1 (ji7)).f2).length c144_2) := (blk_cell BK145.out 2).trans rfl
           have hfz70_0 := blk_frozen BK145.out 0
           have hfz70_1 := blk_frozen BK145.out 1
           have hfz70_2 := blk_frozen BK145.out 2
           try go_wp2_with (first | ((with_reducible refine gateC (f := 155) rfl ?_); refine goesL_ (some 87) rfl rfl Try.func155 (by kernel_rfl) rfl #[.int .i64 (l0.length : Int), .int .i64 (wrap64 ((wrap64 (((T106 l1 (ji7)).f0) + ((T106 l1 (ji7)).f1))) + a2))] rfl (by (try simp only [List.map_toArray, List.map_cons, List.map_nil]); first | done | (simp only [hji7]; rfl) | rfl | (simp only [List.length_drop, List.length_take]; rfl)) ?_; (with_reducible refine (spec_l1Least.calls (l0.length : Int) (wrap64 ((wrap64 (((T106 l1 (ji7)).f0) + ((T106 l1 (ji7)).f1))) + a2)) t169 _ A62.out).mono ?_); rintro e w' ⟨rfl, ⟨nd, rfl⟩⟩; refine ⟨_, rfl, ?_⟩; (try (rw [drewN_self wr]; generalize hq_ : World.drewN wr _ = wr; have n0_ : Aside0 (Kd.R k140 140 wr w.heap.size (fun _ => True) u147002 x147002_1) := ⟨by rw [← hq_]; exact (zr HO_147002.out)⟩; have n1_ : Aside0 (wr.heap[gb141]? = some (.cells #[.int .i64 0, .int .i64 0, .slice none 0 0] 73 (0, 0))) := ⟨by rw [← hq_]; exact (zk BK141.out)⟩; have n2_ : Aside0 (wr.heap[gb145]? = some (.cells #[.int .i64 ((T106 l1 (ji7)).f0), .int .i64 ((T106 l1 (ji7)).f1), .slice A144_2 ((T106 l1 (ji7)).f2).length c144_2] 106 (0, 0))) := ⟨by rw [← hq_]; exact (zk BK145.out)⟩; have n3_ : Aside0 (wr.heap[gb146]? = some (.cells #[.int .i64 t143, .int .i64 (wrap64 (t143 + a3)), u147002] 73 (0, 0))) := ⟨by rw [← hq_]; exact (zk BK146.out)⟩; have n4_ : Aside0 (Below w.heap.size w wr) := ⟨by rw [← hq_]; exact (by repeat (first | (with_reducible first | exact HB.out | apply below_alloc | apply pw_below_drewN | apply below_drew1 | refine below_set ?_ GE141.out | refine below_set ?_ GE145.out | refine below_set ?_ GE146.out) | exact HB.out))⟩; clear HO_147002 BK141 BK145 BK146 HB hq_; have HO_147002 := n0_; have BK141 := n1_; have BK145 := n2_; have BK146 := n3_; have HB := n4_; clear n0_ n1_ n2_ n3_ n4_))))
           have n0_ := am (Kd.R_drew HO_147002.out)
           have n1_ := am (blk_drew BK141.out)
           have n2_ := am (blk_drew BK145.out)
           have n3_ := am (blk_drew BK146.out)
           have n4_ := am (below_drew1 HB.out)
           clear HO_147002
           clear BK141
           clear BK145
           clear BK146
           clear HB
           have HO_147002 := n0_
           have BK141 := n1_
           have BK145 := n2_
           have BK146 := n3_
           have HB := n4_
           clear n0_ n1_ n2_ n3_ n4_
           obtain ⟨i072, hi072, _, hsz72, _⟩ := info_parts info9
           obtain ⟨A72, hcut72, hA72, hC72⟩ := print_mid_of (P := Try.prog) Value.string (⟨#[]⟩ : ByteArray) 24 9 .i64 .i64 Try.underlying24 hi072 hsz72 A0 c0 l0 x12_1 t169 oa (by first | omega | exact oa) oa HC0.out
           have HR170 := am (Kd.C_of_reads (h1 := fun _ => rfl) (hA72 _ (Kd.reads_of_C HR0.out)))
           have HC170 := am hC72
           clear hA72 hC72 hi072 hsz72
           refine start_ (n := 10) (S := fun w' => w'.cell? ⟨gb146, 0, none⟩ = some (.int .i64 t143) ∧ w'.cell? ⟨gb146, 1, none⟩ = some (.int .i64 (wrap64 (t143 + a3))) ∧ w'.cell? ⟨gb146, 2, none⟩ = some (u147002)) (ds := [9]) #[O,O,O,O,O,O,O,O,O,O] (by kernel_rfl) rfl rfl ⟨(blk_cell BK146.out 0).trans rfl, (blk_cell BK146.out 1).trans rfl, (blk_cell BK146.out 2).trans rfl⟩ (fun hHeld => ?_); refine with_tabW spec_l6One.tab14 spec_l6One.bits14 (fun HT_ HW_ => ?_)
           generalize wr.drew = w71 at HO_147002 BK141 BK145 BK146 HB HR170 hHeld ⊢
           refine pure_ (i := 0) (N := some 88) (v := ?_) (a' := ?_) #[Y,O,O,O,O,O,O,O,O,O] rfl rfl zx (fun _ _ _ h => h) (Or.inl ⟨by rfl, ?_⟩) ?_ ?_
           rotate_left; (intro w'; go_simp; with_reducible rfl); rotate_left; (simp only [Act.put,qa,qb,qc,i64_w,i32_w]; rfl)
           refine pure_ (i := 2) (N := some 90) (v := ?_) (a' := ?_) #[Y,O,Y,O,O,O,O,O,O,O] rfl rfl zx (fun _ _ _ h => h) (Or.inl ⟨by rfl, ?_⟩) ?_ ?_
           rotate_left; (intro w'; go_simp; with_reducible rfl); rotate_left; (simp only [Act.put,qa,qb,qc,i64_w,i32_w]; rfl)
           refine pure_ (i := 3) (N := some 91) (v := ?_) (a' := ?_) #[Y,O,Y,Y,O,O,O,O,O,O] rfl rfl zx (fun _ _ _ h => h) (Or.inl ⟨by rfl, ?_⟩) ?_ ?_
           rotate_left; (intro w'; go_simp; with_reducible rfl); rotate_left; (simp only [Act.put,qa,qb,qc,i64_w,i32_w]; rfl)
           refine pure_ (i := 4) (N := some 92) (v := ?_) (a' := ?_) #[Y,O,Y,Y,Y,O,O,O,O,O] rfl rfl zx (fun _ _ _ h => h) (Or.inl ⟨by rfl, ?_⟩) ?_ ?_
           rotate_left; (intro w'; go_simp; with_reducible rfl); rotate_left; (simp only [Act.put,qa,qb,qc,i64_w,i32_w]; rfl)
           refine pure_ (i := 5) (N := some 93) (v := ?_) (a' := ?_) #[Y,O,Y,Y,Y,Y,O,O,O,O] rfl rfl zx (fun _ _ _ h => h) (Or.inl ⟨by rfl, ?_⟩) ?_ ?_
           rotate_left; (intro w'; go_simp; with_reducible rfl); rotate_left; (simp only [Act.put,qa,qb,qc,i64_w,i32_w]; rfl)
           refine take_ (i := 1) (N := some 89) (v := ?_) (a' := ?_) #[Y,Y,Y,Y,Y,Y,O,O,O,O] rfl rfl (take_ofW HT_.out HW_.out (by kernel_rfl)) (fun _ _ _ h => h) (Or.inl ⟨by rfl, ?_⟩) hHeld ?_ ?_
           rotate_left; (rintro w' ⟨s0, s1, s2⟩; go_simp; with_reducible rfl); rotate_left; (simp only [Act.put,qa,qb,qc,i64_w,i32_w]; rfl)
           refine one_ (i := 6) (N := some 94) #[Y,Y,Y,Y,Y,Y,Y,O,O,O] rfl rfl (one_of HT_.out (by kernel_rfl)) (by decide) (fun K hK => ?_)
           refine goes_ Try.func156 (by kernel_rfl) rfl #[.int .i64 1, .slice A72 ((l0.take (t169 : Int).toNat).drop (x12_1 : Int).toNat).length (c0 - x12_1.toNat)] (by rfl) rfl rfl (by (try simp only [List.map_toArray, List.map_cons, List.map_nil]); first | done | (rw [show ((l0.take (t169 : Int).toNat).drop (x12_1 : Int).toNat).length = (t169.toNat - x12_1.toNat) from (by rw [List.length_drop, List.length_take]; have h_ : (t169 : Int) ≤ (l0.length : Int) := oa; omega)] <;> rfl) | rfl | (simp only [List.length_drop, List.length_take]; rfl)) ?_
           with_reducible refine (spec_l6Rows.calls k1 1 _ _ ((l0.take (t169 : Int).toNat).drop (x12_1 : Int).toNat) t171 _ ?side1 ?side2 A66.out).mono ?_
           (case side1 => exact zq (Kd.C_below HR170.out HB.out))
           (case side2 => exact HC170.out)
           rintro e w73 ⟨v172, rfl, ho0, hb⟩
           refine ⟨_, rfl, ?_⟩
           have n0_ := am (Kd.R_elder' (zr HO_147002.out) (Kd.R_base ho0) hb)
           have n1_ := am (Kd.R_lower (Kd.R_new' ho0 (Kd.R_lt (zr HO_147002.out))) (below_size (by repeat (first | (with_reducible first | exact HB.out | apply below_alloc | apply pw_below_drewN | apply below_drew1 | refine below_set ?_ GE141.out | refine below_set ?_ GE145.out | refine below_set ?_ GE146.out) | exact HB.out))))
           have n2_ := am (blk_below (g := gb141) (o := .cells #[.int .i64 0, .int .i64 0, .slice none 0 0] 73 (0, 0)) (zk BK141.out) hb)
           have n3_ := am (blk_below (g := gb145) (o := .cells #[.int .i64 ((T106 l1 (ji7)).f0), .int .i64 ((T106 l1 (ji7)).f1), .slice A144_2 ((T106 l1 (ji7)).f2).length c144_2] 106 (0, 0)) (zk BK145.out) hb)
           have n4_ := am (blk_below (g := gb146) (o := .cells #[.int .i64 t143, .int .i64 (wrap64 (t143 + a3)), u147002] 73 (0, 0)) (zk BK146.out) hb)
           have n5_ := am (below_step (by repeat (first | (with_reducible first | exact HB.out | apply below_alloc | apply pw_below_drewN | apply below_drew1 | refine below_set ?_ GE141.out | refine below_set ?_ GE145.out | refine below_set ?_ GE146.out) | exact HB.out)) hb)
           clear HO_147002
           clear BK141
           clear BK145
           clear BK146
           clear HB
           have HO_147002 := n0_
           have HO173 := n1_
           have BK141 := n2_
           have BK145 := n3_
           have BK146 := n4_
           have HB := n5_
           clear n0_ n1_ n2_ n3_ n4_ n5_
           (try clear hb)
           (try clear hb2)
           (try clear hk)
           (try clear hi)
           (try clear ho0)
           obtain ⟨Ao75, co75, eo75⟩ := Kd.R_slice HO173.out
           (first | subst eo75 | (injection eo75 with f1_ f2_ f3_; have f4_ := f1_.symm; have f5_ := f3_.symm; clear f1_ f2_ f3_; subst f4_; subst f5_))
           refine hK.out _ _ ⟨(blk_cell BK146.out 0).trans rfl, (blk_cell BK146.out 1).trans rfl, (blk_cell BK146.out 2).trans rfl⟩ (fun hHeld => ?_)
           clear hK K
           refine norm_ (a' := ?_) ?_ ?_
           rotate_left
           ·show Act.put _ (some 94) _ = _
            simp only [Act.put,qa,qb,qc,i64_w,i32_w]
            rfl
           refine one_ (i := 7) (N := some 95) #[Y,Y,Y,Y,Y,Y,Y,Y,O,O] rfl rfl (one_of HT_.out (by kernel_rfl)) (by decide) (fun K hK => ?_)
           refine Kd.R_append_rows_step k140 (w0 := w) w.heap.size (by rfl) (.tmp 89) (.tmp 94) 71 140 (.agg #[(.int .i64 0), (.string ⟨#[]⟩)]) 24 rfl Try.underlying71 info140 rfl (by decide) (by omega) u147002 x147002_1 t171 _ _ _ (fun k_ => some k_ ≠ (.slice Ao75 t171.length co75 : Value).ownBlock) (fun _ => False) rfl rfl ?aO ?aR (fun _ _ h => h) (fun _ h => h.elim) ?aF ?aB ?aS ?aL ?_
           (case aR => repeat (first | exact (Kd.R_reads' HO173.out).2.2 | (with_reducible refine Kd.C_alloc ?_ _) | (with_reducible refine Kd.C_drewN ?_ _) | (with_reducible refine Kd.C_drew ?_)))
           (case aB => exact (by repeat (first | (with_reducible first | exact HB.out | apply below_alloc | apply pw_below_drewN | apply below_drew1 | refine below_set ?_ GE141.out | refine below_set ?_ GE145.out | refine below_set ?_ GE146.out) | exact HB.out)))
           (case aF => exact (fun k_ hk => Kd.fresh' (Kd.R_lt (zr HO173.out)) k_ hk))
           (case aO => exact (by (with_reducible repeat (first | apply Kd.R_alloc | apply Kd.R_drewN | apply Kd.R_drew)); exact Kd.R_mono HO_147002.out (fun _ hk => hk.2)))
           (case aS => exact (below_size (by repeat (first | (with_reducible first | exact HB.out | apply below_alloc | apply pw_below_drewN | apply below_drew1 | refine below_set ?_ GE141.out | refine below_set ?_ GE145.out | refine below_set ?_ GE146.out) | exact HB.out))))
           (case aL => have := LMc67.out; omega)
           intro v175 w74 ho hb hg hat
           rw [← Ny174.out] at ho
           have n0_ := am (blk_grown (g := gb141) (o := .cells #[.int .i64 0, .int .i64 0, .slice none 0 0] 73 (0, 0)) (zk BK141.out) hg (Kd.R_ne HO_147002.out BK141.out (by decide)))
           have n1_ := am (blk_grown (g := gb145) (o := .cells #[.int .i64 ((T106 l1 (ji7)).f0), .int .i64 ((T106 l1 (ji7)).f1), .slice A144_2 ((T106 l1 (ji7)).f2).length c144_2] 106 (0, 0)) (zk BK145.out) hg (Kd.R_ne HO_147002.out BK145.out (by decide)))
           have n2_ := am (blk_grown (g := gb146) (o := .cells #[.int .i64 t143, .int .i64 (wrap64 (t143 + a3)), u147002] 73 (0, 0)) (zk BK146.out) hg (Kd.R_ne HO_147002.out BK146.out (by decide)))
           have n3_ := am (Kd.R_after (ok := (fun _ => True)) (zr HO173.out) hg hat)
           have n4_ := am (hb)
           have n5_ := am (ho)
           clear BK141
           clear BK145
           clear BK146
           clear HO173
           clear HB
           clear HO_147002
           have BK141 := n0_
           have BK145 := n1_
           have BK146 := n2_
           have HO173 := n3_
           have HB := n4_
           have HO176 := n5_
           clear n0_ n1_ n2_ n3_ n4_ n5_
           clear ho hb hg hat
           obtain ⟨Ao76, co76, eo76⟩ := Kd.R_slice HO176.out
           (first | subst eo76 | (injection eo76 with f1_ f2_ f3_; have f4_ := f1_.symm; have f5_ := f3_.symm; clear f1_ f2_ f3_; subst f4_; subst f5_))
           refine hK.out _ _ ⟨(blk_cell BK146.out 0).trans rfl, (blk_cell BK146.out 1).trans rfl, (blk_cell BK146.out 2).trans rfl⟩ (fun hHeld => ?_)
           clear hK K
           refine norm_ (a' := ?_) ?_ ?_
           rotate_left
           ·show Act.put _ (some 95) _ = _
            simp only [Act.put,qa,qb,qc,i64_w,i32_w]
            rfl
           refine pure_ (i := 8) (N := some 96) (v := ?_) (a' := ?_) #[Y,Y,Y,Y,Y,Y,Y,Y,Y,O] rfl rfl zx (fun _ _ _ h => h) (Or.inl ⟨by rfl, ?_⟩) ?_ ?_
           rotate_left; (intro w'; go_simp; with_reducible rfl); rotate_left; (simp only [Act.put,qa,qb,qc,i64_w,i32_w]; rfl)
           refine last_ (i := 9) (N := none) #[Y,Y,Y,Y,Y,Y,Y,Y,Y,Y] rfl rfl (one_of HT_.out (by kernel_rfl)) (by decide) (fun K hK => ?_)
           have hs77 : w74.cell? ⟨gb146, 2, none⟩ = some (u147002) := (blk_cell BK146.out 2).trans rfl
           have hfs77 := blk_frozen BK146.out 2
           have hns77_0 := NB141_146.out
           have hns77_1 := NB145_146.out
           have hms77_0 := NB146_141.out
           have hms77_1 := NB146_145.out
           refine skip_ (w1 := ?_) (by rfl) rfl ?_ ?_
           rotate_left
           ·go_simp
            rfl
           refine hK.out _ _ ?_
           clear hK K
           refine done_ (done_of HT_.out (by kernel_rfl)) ?_
           have hnb78 := NB146_141.out
           have hnc78 := NB141_146.out
           have hcz79_0 : w74.cell? ⟨gb146, 0, none⟩ = some (.int .i64 t143) := (blk_cell BK146.out 0).trans rfl
           have hcz79_1 : w74.cell? ⟨gb146, 1, none⟩ = some (.int .i64 (wrap64 (t143 + a3))) := (blk_cell BK146.out 1).trans rfl
           have hcz79_2 : w74.cell? ⟨gb146, 2, none⟩ = some (u147002) := (blk_cell BK146.out 2).trans rfl
           have hfz79_0 := blk_frozen BK146.out 0
           have hfz79_1 := blk_frozen BK146.out 1
           have hfz79_2 := blk_frozen BK146.out 2
           have hcz80_0 : w74.cell? ⟨gb141, 0, none⟩ = some (.int .i64 0) := (blk_cell BK141.out 0).trans rfl
           have hcz80_1 : w74.cell? ⟨gb141, 1, none⟩ = some (.int .i64 0) := (blk_cell BK141.out 1).trans rfl
           have hcz80_2 : w74.cell? ⟨gb141, 2, none⟩ = some (.slice none 0 0) := (blk_cell BK141.out 2).trans rfl
           have hfz80_0 := blk_frozen BK141.out 0
           have hfz80_1 := blk_frozen BK141.out 1
           have hfz80_2 := blk_frozen BK141.out 2
           try go_wp2
           refine bodyPost_ret (results_cell_row rfl _ _ gb141 73 #[.int .i64 t143, .int .i64 (wrap64 (t143 + a3)), .slice Ao76 y174.length co76] (0, 0) _ rfl (by (with_reducible repeat (first | refine blk_drewN ?_ _ | refine blk_drew ?_ | refine blk_alloc ?_ _)); refine blk_put (cs := #[.int .i64 t143, .int .i64 (wrap64 (t143 + a3)), .slice none 0 0]) ?_ 2 _ rfl; (with_reducible repeat (first | refine blk_drewN ?_ _ | refine blk_drew ?_ | refine blk_alloc ?_ _)); refine blk_put (cs := #[.int .i64 t143, .int .i64 0, .slice none 0 0]) ?_ 1 _ rfl; (with_reducible repeat (first | refine blk_drewN ?_ _ | refine blk_drew ?_ | refine blk_alloc ?_ _)); refine blk_put (cs := #[.int .i64 0, .int .i64 0, .slice none 0 0]) ?_ 0 _ rfl; (with_reducible repeat (first | refine blk_drewN ?_ _ | refine blk_drew ?_ | refine blk_alloc ?_ _)); refine blk_far ?_ NB141_146.out _; (with_reducible repeat (first | refine blk_drewN ?_ _ | refine blk_drew ?_ | refine blk_alloc ?_ _)); exact BK141.out) Try.underlying73 rfl (by kernel_rfl)) rfl ?_
           exact ⟨_, by first | rfl | (simp [errW_none, errW_some] <;> rfl) | (simp only [← hji7]; first | rfl | (simp [errW_none, errW_some] <;> rfl)) | (simp [*, errW_none, errW_some] <;> rfl), by (with_reducible repeat (first | apply Kd.R_alloc | apply Kd.R_drewN | apply Kd.R_drew)); exact Kd.R_mono (Kd.R_far (p := ⟨gb141, 2, none⟩) (Kd.R_far (p := ⟨gb141, 1, none⟩) (Kd.R_far (p := ⟨gb141, 0, none⟩) (Kd.R_far (p := ⟨gb146, 2, none⟩) (Kd.R_types (Kd.R_types HO176.out BK146.out (by decide)) BK141.out (by decide)) (fun _ hk => hk.1.2) (.slice Ao76 y174.length co76)) (fun _ hk => hk.2) (.int .i64 t143)) (fun _ hk => hk.2) (.int .i64 (wrap64 (t143 + a3)))) (fun _ hk => hk.2) (.slice Ao76 y174.length co76)) (fun _ hk => trivial), by repeat (first | (with_reducible first | exact HB.out | apply below_alloc | apply pw_below_drewN | apply below_drew1 | refine below_set ?_ GE141.out | refine below_set ?_ GE145.out | refine below_set ?_ GE146.out) | exact HB.out)⟩
          ·rw [if_neg c67] at H
           exact absurd H (by simp)
         ·rw [if_neg c65] at H
          exact absurd H (by simp)
        ·rw [if_neg c64] at H
         exact absurd H (by simp)
       ·rw [if_neg c63] at H
        exact absurd H (by simp)
   ·rw [if_neg c9] at H
    exact absurd H (by simp)
  ·rw [if_neg c8] at H
   exact absurd H (by simp)
 ·rw [if_neg c5] at H
  exact absurd H (by simp)
end Go.Proofs.Ytmcldkobejhaeaa.My