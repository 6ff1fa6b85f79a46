/- Part 2 of 6 of a proof of this sentence: The Go function loop.example/g00825/laws.FnExactGroupHunks returns true for every input, and each argument reads afterwards as it read before. No condition. -/
import Derived.Test.YtmcldkobejhaeaaProg
import Derived.Below
import Derived.Deep.Draws
import Derived.Deep.AppendLies
import Derived.Maps.AppendAt
import Derived.OwnWalk
import Derived.Laws.BytesArg
import Derived.Laws.MakeOwn
import Derived.Laws.OwnMore
import Derived.Deep.OwnRows
import Derived.Tactics
import Derived.Lib.ConvBytes
import Derived.Laws.Slices
import Derived.WalkKit
import Derived.KernelRfl
import Derived.RowKit3
import Derived.Deep.LoopGhost
import Derived.Deep.QuietTactic
import Derived.BigQuiet
import Derived.WideLaws
import Derived.Deep.DeepCutAuto
import Derived.Deep.CutBlock
import Derived.Deep.RegionHeld3
import Derived.Laws.Rows
import Derived.Lib.AppendStr
import Derived.ArgAppend
import Derived.Laws.IdiomCopy
import Derived.OrdersHeld
import Derived.Laws.BitsLemmas
import Derived.RowKit
import Derived.Lib.LazyBuf
import Derived.Laws.Sem
import Derived.DataReads
import Derived.ChangeArms
import Derived.ChangeSame
import Derived.Deep.Slices
import Derived.Test.YtmcldkobejhaeaaCFnExactGroupHunks1
namespace Go.Proofs.Ytmcldkobejhaeaa.My
open Go.RowKit Go.Proofs.YtmcldkobejhaeaaW.PrintWords Go.Proofs.YtmcldkobejhaeaaW.PrintLast Go.Proofs.YtmcldkobejhaeaaW.PrintMore
attribute [local go_sem] max2_int min2_int max_two min_two max_three min_three max_four min_four
set_option linter.unusedVariables false
set_option linter.unusedSimpArgs false
theorem am {p : Prop} (h : p) : Aside0 p := ⟨h⟩
theorem zN {q p : Prop} (b : q) (h : q → p := by intro hz_; (with_reducible repeat (first | apply Kd.N_alloc | apply Kd.N_drewN | apply Kd.N_drew)); exact hz_) : p := h b
def errW : Option Int → Value
  | none => .nilIface
  | some c => .iface 0 (.int .i64 c)
theorem errW_none : errW none = .nilIface := rfl
theorem errW_some (c : Int) : errW (some c) = .iface 0 (.int .i64 c) := rfl
theorem info9 : (Try.prog.info? 9).map (fun i => (i.zero, i.size, i.bytes)) = some (some (.string ⟨#[]⟩), 1, 16) := by kernel_rfl
theorem info73 : (Try.prog.info? 73).map (fun i => (i.zero, i.size, i.bytes)) = some (some (.agg #[(.int .i64 0), (.int .i64 0), (.slice none 0 0)]), 3, 40) := by kernel_rfl
theorem info106 : (Try.prog.info? 106).map (fun i => (i.zero, i.size, i.bytes)) = some (some (.agg #[(.int .i64 0), (.int .i64 0), (.slice none 0 0)]), 3, 40) := by kernel_rfl
theorem info140 : (Try.prog.info? 140).map (fun i => (i.zero, i.size, i.bytes)) = some (some (.agg #[(.int .i64 0), (.string ⟨#[]⟩)]), 2, 24) := by kernel_rfl
abbrev Y : Bool := true
abbrev O : Bool := false
theorem qa {α : Type} (xs : List α) (i : Nat) (v : α) : xs.toArray.setIfInBounds i v = (xs.set i v).toArray := List.setIfInBounds_toArray ..
theorem qb {α : Type} (x v : α) (xs : List α) : (x :: xs).set 0 v = v :: xs := rfl
theorem qc {α : Type} (x v : α) (xs : List α) (i : Nat) : (x :: xs).set (i + 1) v = x :: xs.set i v := rfl
theorem zb {p : Prop} (h : p := by repeat (first | (with_reducible first | exact HB.out | apply below_alloc | apply pw_below_drewN | apply below_drew1) | exact HB.out)) : p := h
theorem zk {q p : Prop} (b : q) (h : q → p := by intro hz_; (with_reducible repeat (first | refine blk_drewN ?_ _ | refine blk_drew ?_ | refine blk_alloc ?_ _)); exact hz_) : p := h b
theorem zs {q p : Prop} (b : q) (h : q → p := by intro hz_; (with_reducible repeat (first | apply Kd.S_alloc | apply Kd.S_drewN | apply Kd.S_drew)); exact hz_) : p := h b
theorem zr {q p : Prop} (b : q) (h : q → p := by intro hz_; (with_reducible repeat (first | apply Kd.R_alloc | apply Kd.R_drewN | apply Kd.R_drew)); exact hz_) : p := h b
theorem zf {p : Prop} (h : p := by first | rfl | (simp; done) | (simp [*]; done)) : p := h
theorem zq {q p : Prop} (b : q) (h : q → p := by intro hz_; repeat (first | exact hz_ | (with_reducible refine Kd.C_alloc ?_ _) | (with_reducible refine Kd.C_drewN ?_ _) | (with_reducible refine Kd.C_drew ?_))) : p := h b
theorem zm {p : Prop} (h : p := by (try simp only [List.map_toArray, List.map_cons, List.map_nil]); first | done | rfl | (simp only [List.length_drop, List.length_take]; rfl)) : p := h
theorem zx {p : Prop} (h : p := by exact any_of HT_.out (by kernel_rfl)) : p := h
theorem gateC {P : Program} {ops : Array Oper} {Q : Exit → Act → World → Prop} {rest : List Oper} {o : Oper} {a : Act} {W : World} {f : FuncId} {xs : Array Operand} {ts : Array TypeId} (_ : o.op = .call { callee := .value (.func f), args := xs, argTypes := ts }) (h : wpList P ops Q (o :: rest) a W) : wpList P ops Q (o :: rest) a W := h
theorem gateB {P : Program} {ops : Array Oper} {Q : Exit → Act → World → Prop} {rest : List Oper} {o : Oper} {a : Act} {W : World} {b : Builtin} {xs : Array Operand} {ts : Array TypeId} (_ : o.op = .call { callee := .builtin b, args := xs, argTypes := ts }) (h : wpList P ops Q (o :: rest) a W) : wpList P ops Q (o :: rest) a W := h
theorem oa {p : Prop} [Decidable p] (h : decide p = true := by first | (with_reducible assumption) | assumption) : p := of_decide_eq_true h
structure S115 where
  f0 : Int
  f1 : Int
  f2 : (List ByteArray)
def z115 : S115 := ⟨(0 : Int), (0 : Int), ([] : List ByteArray)⟩
def k115 : Kd S115 := Kd.iso (Kd.pair (Kd.int .i64) (Kd.pair (Kd.int .i64) (Kd.slice 9 Kd.string))) (fun x : S115 => (x.f0, x.f1, x.f2))
theorem k115_open {w : World} {x : S115} {cs : List Value} (h : k115.K w x cs) : ∃ A2 c2, cs = [.int .i64 x.f0, .int .i64 x.f1, .slice A2 x.f2.length c2] ∧ x.f2.length ≤ c2 ∧ Kd.string.C w A2 x.f2.length x.f2 := by
  obtain ⟨_, _, rfl, rfl, ⟨_, _, rfl, rfl, ⟨A2, c2, rfl, l2, g2⟩⟩⟩ := h
  exact ⟨A2, c2, rfl, l2, g2⟩
def T115 (xs : List S115) (i : Int) : S115 := xs.getD i.toNat z115
theorem at_T115 {w : World} {A : Option Addr} {n : Nat} {xs : List S115} (h : Kd.C k115 w A n xs) (i : Int) (h0 : 0 ≤ i) (h1 : i < n) : ∃ ad A2 c2, A = some ad ∧ w.cell? (ad.add (i.toNat * 3)) = some (.int .i64 (T115 xs i).f0) ∧ w.cell? ⟨(ad.add (i.toNat * 3)).block, (ad.add (i.toNat * 3)).off + 1, none⟩ = some (.int .i64 (T115 xs i).f1) ∧ w.cell? ⟨(ad.add (i.toNat * 3)).block, (ad.add (i.toNat * 3)).off + 2, none⟩ = some (.slice A2 (T115 xs i).f2.length c2) ∧ (T115 xs i).f2.length ≤ c2 ∧ Kd.string.C w A2 (T115 xs i).f2.length (T115 xs i).f2 := by
  obtain ⟨ad, c, e, _, hK, hc0⟩ := Kd.C_get h z115 i h0 h1
  have hc : ∀ j u, c[j]? = some u → w.cell? (ad.add (i.toNat * 3 + j)) = some u := hc0
  obtain ⟨A2, c2, rfl, l2, g2⟩ := k115_open hK
  exact ⟨ad, A2, c2, e, hc 0 _ rfl, by rw [← add_field _ _ 1 (by omega)]; exact hc 1 _ rfl, by rw [← add_field _ _ 2 (by omega)]; exact hc 2 _ rfl, l2, g2⟩
structure S106 where
  f0 : Int
  f1 : Int
  f2 : (List ByteArray)
def z106 : S106 := ⟨(0 : Int), (0 : Int), ([] : List ByteArray)⟩
def k106 : Kd S106 := Kd.iso (Kd.pair (Kd.int .i64) (Kd.pair (Kd.int .i64) (Kd.slice 9 Kd.string))) (fun x : S106 => (x.f0, x.f1, x.f2))
theorem k106_open {w : World} {x : S106} {cs : List Value} (h : k106.K w x cs) : ∃ A2 c2, cs = [.int .i64 x.f0, .int .i64 x.f1, .slice A2 x.f2.length c2] ∧ x.f2.length ≤ c2 ∧ Kd.string.C w A2 x.f2.length x.f2 := by
  obtain ⟨_, _, rfl, rfl, ⟨_, _, rfl, rfl, ⟨A2, c2, rfl, l2, g2⟩⟩⟩ := h
  exact ⟨A2, c2, rfl, l2, g2⟩
theorem k106_openM {w : World} {base : Nat} {ok : Nat → Prop} {x : S106} {cs : List Value} (h : k106.M w base ok x cs) : ∃ v2, cs = [.int .i64 x.f0, .int .i64 x.f1, v2] ∧ Kd.string.R 9 w base ok v2 x.f2 := by
  obtain ⟨_, _, rfl, rfl, ⟨_, _, rfl, rfl, ⟨v2, rfl, g2⟩⟩⟩ := h
  exact ⟨v2, rfl, g2⟩
theorem k106_mkM (w : World) (base : Nat) (ok : Nat → Prop) (x : S106) {v2 : Value} (g2 : Kd.string.R 9 w base ok v2 x.f2) : k106.M w base ok x [.int .i64 x.f0, .int .i64 x.f1, v2] := ⟨[.int .i64 x.f0], [.int .i64 x.f1, v2], rfl, rfl, ⟨[.int .i64 x.f1], [v2], rfl, rfl, ⟨v2, rfl, g2⟩⟩⟩
def T106 (xs : List S106) (i : Int) : S106 := xs.getD i.toNat z106
theorem at_T106 {w : World} {A : Option Addr} {n : Nat} {xs : List S106} (h : Kd.C k106 w A n xs) (i : Int) (h0 : 0 ≤ i) (h1 : i < n) : ∃ ad A2 c2, A = some ad ∧ w.cell? (ad.add (i.toNat * 3)) = some (.int .i64 (T106 xs i).f0) ∧ w.cell? ⟨(ad.add (i.toNat * 3)).block, (ad.add (i.toNat * 3)).off + 1, none⟩ = some (.int .i64 (T106 xs i).f1) ∧ w.cell? ⟨(ad.add (i.toNat * 3)).block, (ad.add (i.toNat * 3)).off + 2, none⟩ = some (.slice A2 (T106 xs i).f2.length c2) ∧ (T106 xs i).f2.length ≤ c2 ∧ Kd.string.C w A2 (T106 xs i).f2.length (T106 xs i).f2 := by
  obtain ⟨ad, c, e, _, hK, hc0⟩ := Kd.C_get h z106 i h0 h1
  have hc : ∀ j u, c[j]? = some u → w.cell? (ad.add (i.toNat * 3 + j)) = some u := hc0
  obtain ⟨A2, c2, rfl, l2, g2⟩ := k106_open hK
  exact ⟨ad, A2, c2, e, hc 0 _ rfl, by rw [← add_field _ _ 1 (by omega)]; exact hc 1 _ rfl, by rw [← add_field _ _ 2 (by omega)]; exact hc 2 _ rfl, l2, g2⟩
structure S140 where
  f0 : Int
  f1 : ByteArray
def z140 : S140 := ⟨(0 : Int), (⟨#[]⟩ : ByteArray)⟩
def k140 : Kd S140 := Kd.iso (Kd.pair (Kd.int .i64) Kd.string) (fun x : S140 => (x.f0, x.f1))
theorem k140_open {w : World} {x : S140} {cs : List Value} (h : k140.K w x cs) : cs = [.int .i64 x.f0, .string x.f1] := by
  obtain ⟨_, _, rfl, rfl, rfl⟩ := h
  exact rfl
theorem k140_openM {w : World} {base : Nat} {ok : Nat → Prop} {x : S140} {cs : List Value} (h : k140.M w base ok x cs) : cs = [.int .i64 x.f0, .string x.f1] := by
  obtain ⟨_, _, rfl, rfl, rfl⟩ := h
  exact rfl
theorem k140_mkM (w : World) (base : Nat) (ok : Nat → Prop) (x : S140)  : k140.M w base ok x [.int .i64 x.f0, .string x.f1] := ⟨[.int .i64 x.f0], [.string x.f1], rfl, rfl, rfl⟩
def T140 (xs : List S140) (i : Int) : S140 := xs.getD i.toNat z140
theorem at_T140 {w : World} {A : Option Addr} {n : Nat} {xs : List S140} (h : Kd.C k140 w A n xs) (i : Int) (h0 : 0 ≤ i) (h1 : i < n) : ∃ ad , A = some ad ∧ w.cell? (ad.add (i.toNat * 2)) = some (.int .i64 (T140 xs i).f0) ∧ w.cell? ⟨(ad.add (i.toNat * 2)).block, (ad.add (i.toNat * 2)).off + 1, none⟩ = some (.string (T140 xs i).f1) := by
  obtain ⟨ad, c, e, _, hK, hc0⟩ := Kd.C_get h z140 i h0 h1
  have hc : ∀ j u, c[j]? = some u → w.cell? (ad.add (i.toNat * 2 + j)) = some u := hc0
  obtain rfl := k140_open hK
  exact ⟨ad, e, hc 0 _ rfl, by rw [← add_field _ _ 1 (by omega)]; exact hc 1 _ rfl⟩
structure S73 where
  f0 : Int
  f1 : Int
  f2 : (List S140)
def z73 : S73 := ⟨(0 : Int), (0 : Int), ([] : List S140)⟩
def k73 : Kd S73 := Kd.iso (Kd.pair (Kd.int .i64) (Kd.pair (Kd.int .i64) (Kd.slice 140 k140))) (fun x : S73 => (x.f0, x.f1, x.f2))
theorem k73_open {w : World} {x : S73} {cs : List Value} (h : k73.K w x cs) : ∃ A2 c2, cs = [.int .i64 x.f0, .int .i64 x.f1, .slice A2 x.f2.length c2] ∧ x.f2.length ≤ c2 ∧ k140.C w A2 x.f2.length x.f2 := by
  obtain ⟨_, _, rfl, rfl, ⟨_, _, rfl, rfl, ⟨A2, c2, rfl, l2, g2⟩⟩⟩ := h
  exact ⟨A2, c2, rfl, l2, g2⟩
theorem k73_openM {w : World} {base : Nat} {ok : Nat → Prop} {x : S73} {cs : List Value} (h : k73.M w base ok x cs) : ∃ v2, cs = [.int .i64 x.f0, .int .i64 x.f1, v2] ∧ k140.R 140 w base ok v2 x.f2 := by
  obtain ⟨_, _, rfl, rfl, ⟨_, _, rfl, rfl, ⟨v2, rfl, g2⟩⟩⟩ := h
  exact ⟨v2, rfl, g2⟩
theorem k73_mkM (w : World) (base : Nat) (ok : Nat → Prop) (x : S73) {v2 : Value} (g2 : k140.R 140 w base ok v2 x.f2) : k73.M w base ok x [.int .i64 x.f0, .int .i64 x.f1, v2] := ⟨[.int .i64 x.f0], [.int .i64 x.f1, v2], rfl, rfl, ⟨[.int .i64 x.f1], [v2], rfl, rfl, ⟨v2, rfl, g2⟩⟩⟩
def T73 (xs : List S73) (i : Int) : S73 := xs.getD i.toNat z73
theorem at_T73 {w : World} {A : Option Addr} {n : Nat} {xs : List S73} (h : Kd.C k73 w A n xs) (i : Int) (h0 : 0 ≤ i) (h1 : i < n) : ∃ ad A2 c2, A = some ad ∧ w.cell? (ad.add (i.toNat * 3)) = some (.int .i64 (T73 xs i).f0) ∧ w.cell? ⟨(ad.add (i.toNat * 3)).block, (ad.add (i.toNat * 3)).off + 1, none⟩ = some (.int .i64 (T73 xs i).f1) ∧ w.cell? ⟨(ad.add (i.toNat * 3)).block, (ad.add (i.toNat * 3)).off + 2, none⟩ = some (.slice A2 (T73 xs i).f2.length c2) ∧ (T73 xs i).f2.length ≤ c2 ∧ k140.C w A2 (T73 xs i).f2.length (T73 xs i).f2 := by
  obtain ⟨ad, c, e, _, hK, hc0⟩ := Kd.C_get h z73 i h0 h1
  have hc : ∀ j u, c[j]? = some u → w.cell? (ad.add (i.toNat * 3 + j)) = some u := hc0
  obtain ⟨A2, c2, rfl, l2, g2⟩ := k73_open hK
  exact ⟨ad, A2, c2, e, hc 0 _ rfl, by rw [← add_field _ _ 1 (by omega)]; exact hc 1 _ rfl, by rw [← add_field _ _ 2 (by omega)]; exact hc 2 _ rfl, l2, g2⟩
structure S143 where
  f0 : Int
  f1 : ByteArray
def z143 : S143 := ⟨(0 : Int), (⟨#[]⟩ : ByteArray)⟩
def k143 : Kd S143 := Kd.iso (Kd.pair (Kd.int .i64) Kd.string) (fun x : S143 => (x.f0, x.f1))
theorem k143_open {w : World} {x : S143} {cs : List Value} (h : k143.K w x cs) : cs = [.int .i64 x.f0, .string x.f1] := by
  obtain ⟨_, _, rfl, rfl, rfl⟩ := h
  exact rfl
def T143 (xs : List S143) (i : Int) : S143 := xs.getD i.toNat z143
theorem at_T143 {w : World} {A : Option Addr} {n : Nat} {xs : List S143} (h : Kd.C k143 w A n xs) (i : Int) (h0 : 0 ≤ i) (h1 : i < n) : ∃ ad , A = some ad ∧ w.cell? (ad.add (i.toNat * 2)) = some (.int .i64 (T143 xs i).f0) ∧ w.cell? ⟨(ad.add (i.toNat * 2)).block, (ad.add (i.toNat * 2)).off + 1, none⟩ = some (.string (T143 xs i).f1) := by
  obtain ⟨ad, c, e, _, hK, hc0⟩ := Kd.C_get h z143 i h0 h1
  have hc : ∀ j u, c[j]? = some u → w.cell? (ad.add (i.toNat * 2 + j)) = some u := hc0
  obtain rfl := k143_open hK
  exact ⟨ad, e, hc 0 _ rfl, by rw [← add_field _ _ 1 (by omega)]; exact hc 1 _ rfl⟩
structure S68 where
  f0 : Int
  f1 : Int
  f2 : (List S143)
def z68 : S68 := ⟨(0 : Int), (0 : Int), ([] : List S143)⟩
def k68 : Kd S68 := Kd.iso (Kd.pair (Kd.int .i64) (Kd.pair (Kd.int .i64) (Kd.slice 143 k143))) (fun x : S68 => (x.f0, x.f1, x.f2))
theorem k68_open {w : World} {x : S68} {cs : List Value} (h : k68.K w x cs) : ∃ A2 c2, cs = [.int .i64 x.f0, .int .i64 x.f1, .slice A2 x.f2.length c2] ∧ x.f2.length ≤ c2 ∧ k143.C w A2 x.f2.length x.f2 := by
  obtain ⟨_, _, rfl, rfl, ⟨_, _, rfl, rfl, ⟨A2, c2, rfl, l2, g2⟩⟩⟩ := h
  exact ⟨A2, c2, rfl, l2, g2⟩
def T68 (xs : List S68) (i : Int) : S68 := xs.getD i.toNat z68
theorem at_T68 {w : World} {A : Option Addr} {n : Nat} {xs : List S68} (h : Kd.C k68 w A n xs) (i : Int) (h0 : 0 ≤ i) (h1 : i < n) : ∃ ad A2 c2, A = some ad ∧ w.cell? (ad.add (i.toNat * 3)) = some (.int .i64 (T68 xs i).f0) ∧ w.cell? ⟨(ad.add (i.toNat * 3)).block, (ad.add (i.toNat * 3)).off + 1, none⟩ = some (.int .i64 (T68 xs i).f1) ∧ w.cell? ⟨(ad.add (i.toNat * 3)).block, (ad.add (i.toNat * 3)).off + 2, none⟩ = some (.slice A2 (T68 xs i).f2.length c2) ∧ (T68 xs i).f2.length ≤ c2 ∧ k143.C w A2 (T68 xs i).f2.length (T68 xs i).f2 := by
  obtain ⟨ad, c, e, _, hK, hc0⟩ := Kd.C_get h z68 i h0 h1
  have hc : ∀ j u, c[j]? = some u → w.cell? (ad.add (i.toNat * 3 + j)) = some u := hc0
  obtain ⟨A2, c2, rfl, l2, g2⟩ := k68_open hK
  exact ⟨ad, A2, c2, e, hc 0 _ rfl, by rw [← add_field _ _ 1 (by omega)]; exact hc 1 _ rfl, by rw [← add_field _ _ 2 (by omega)]; exact hc 2 _ rfl, l2, g2⟩
theorem zn {q p : Prop} (b : q) (h : q → p := by intro hz_; first | (rw [add_block]; exact hz_) | (show (Addr.add _ _).block ≠ _; rw [add_block]; exact hz_) | exact hz_) : p := h b
theorem zl {q p : Prop} (b : q) (h : q → p := by intro hz_; have := World.block_lt_of_cell? _ _ hz_; first | rwa [add_block] at this | exact this) : p := h b
theorem zw {p : Prop} (h : p := by repeat (first | (with_reducible first | exact HB.out | apply below_alloc | apply pw_below_drewN | apply below_drew1 | refine below_set ?_ (Aside0.out (by assumption))) | exact HB.out)) : p := h
theorem itn {α : Type} {c : Prop} {d : Decidable c} {a : Option α} {r : α} (h : (if c then a else none) = some r) : c ∧ a = some r := by
 split at h
 · exact ⟨‹_›, h⟩
 · cases h
theorem bc {w W : World} {a : Addr} {v : Value} (hb : Below w.heap.size w W) (h : w.cell? a = some v) : W.cell? a = some v := (hb.cell (World.block_lt_of_cell? w _ h)).trans h
theorem fz2 {w : World} {g : Nat} {t : TypeId} {cs : Array Value} (h : w.heap[g]? = some (.cells cs t (0, 0))) : w.frozen? ⟨g, 0, none⟩ = false ∧ w.frozen? ⟨g, 1, none⟩ = false := ⟨blk_frozen h 0, blk_frozen h 1⟩
theorem cz2 {w : World} {g : Nat} {t : TypeId} {a b : Value} (h : w.heap[g]? = some (.cells #[a, b] t (0, 0))) : w.cell? ⟨g, 0, none⟩ = some a ∧ w.cell? ⟨g, 1, none⟩ = some b := ⟨(blk_cell h 0).trans rfl, (blk_cell h 1).trans rfl⟩
theorem fz3 {w : World} {g : Nat} {t : TypeId} {cs : Array Value} (h : w.heap[g]? = some (.cells cs t (0, 0))) : w.frozen? ⟨g, 0, none⟩ = false ∧ w.frozen? ⟨g, 1, none⟩ = false ∧ w.frozen? ⟨g, 2, none⟩ = false := ⟨blk_frozen h 0, blk_frozen h 1, blk_frozen h 2⟩
theorem cz3 {w : World} {g : Nat} {t : TypeId} {a b c : Value} (h : w.heap[g]? = some (.cells #[a, b, c] t (0, 0))) : w.cell? ⟨g, 0, none⟩ = some a ∧ w.cell? ⟨g, 1, none⟩ = some b ∧ w.cell? ⟨g, 2, none⟩ = some c := ⟨(blk_cell h 0).trans rfl, (blk_cell h 1).trans rfl, (blk_cell h 2).trans rfl⟩
theorem pu (i : Nat) (N : Option Tmp) {P : Program} {ops : Array Oper} {Q : Exit → Act → World → Prop} {md : Region.Mode} {S : World → Prop} {ds : List Nat} {oi : Oper} {v : Value} {fuel : Nat} {l : Array Bool} {a : Act} {w : World} {l' : Array Bool} {a' : Act} (h : wpAnyLast P md ops Q S ds fuel l' a' w) (hl : l.setIfInBounds i true = l' := by simp only [List.setIfInBounds_toArray, List.set_cons_zero, List.set_cons_succ]; rfl) (hi : ops[i]? = some oi := by rfl) (hN : oi.dst = N := by rfl) (hc : anyB md ops l l' i = true := by exact any_of HT_.out (by kernel_rfl)) (hQ : ∀ (c : List PanicEntry) (a : Act) (w : World), Q (Exit.panic c) (a.put oi.dst v) w → Q (Exit.panic c) a w := by exact fun _ _ _ h => h)
 (h0 : Region.wanted oi (yielded ops a.tmps) = true := by rfl) (hy : ∀ w' : World, Sem.run P (execOp a.eval oi) w' = Result.ok (Next.value v) w' := by intro w'; go_simp; with_reducible rfl) (ha : a.put N v = a' := by simp only [Act.put,qa,qb,qc,i64_w,i32_w]; rfl) : wpAnyLast P md ops Q S ds (fuel + 1) l a w := pure_ l' hi hN hc hQ (Or.inl ⟨h0, hy⟩) ha h
theorem ta (i : Nat) (N : Option Tmp) {P : Program} {ops : Array Oper} {Q : Exit → Act → World → Prop} {md : Region.Mode} {S : World → Prop} {ds : List Nat} {oi : Oper} {v : Value} {fuel : Nat} {l : Array Bool} {a : Act} {w : World} {l' : Array Bool} {a' : Act} (h : wpAnyLast P md ops Q S ds fuel l' a' w) (hl : l.setIfInBounds i true = l' := by simp only [List.setIfInBounds_toArray, List.set_cons_zero, List.set_cons_succ]; rfl) (hi : ops[i]? = some oi := by rfl) (hN : oi.dst = N := by rfl) (hc : takeB md ops ds l l' i = true := by exact take_ofW HT_.out HW_.out (by kernel_rfl)) (hQ : ∀ (c : List PanicEntry) (a : Act) (w : World), Q (Exit.panic c) (a.put oi.dst v) w → Q (Exit.panic c) a w := by exact fun _ _ _ h => h)
 (h0 : Region.wanted oi (yielded ops a.tmps) = true := by rfl) (hS : S w := by exact hHeld) (hy : ∀ w' : World, S w' → Sem.run P (execOp a.eval oi) w' = Result.ok (Next.value v) w' := by intro w' s_; (repeat (have := And.left s_; replace s_ := And.right s_)); go_simp; with_reducible rfl) (ha : a.put N v = a' := by simp only [Act.put,qa,qb,qc,i64_w,i32_w]; rfl) : wpAnyLast P md ops Q S ds (fuel + 1) l a w := take_ l' hi hN hc hQ (Or.inl ⟨h0, hy⟩) hS ha h
end Go.Proofs.Ytmcldkobejhaeaa.My
namespace Go.Proofs.Ytmcldkobejhaeaa.Opens
open Go.ChangeShapes Go.WideShapes Go.Proofs.YtmcldkobejhaeaaW.PrintWords
set_option linter.unusedVariables false
set_option linter.unusedSimpArgs false
def Opens {α : Type} (P : Program) (t : TypeId) (d : Kd α) (Q : α → Prop) : Prop :=
  ∀ (H : Type) (enc : TypeId × Value → H) (w : World) (base : Nat) (spare : Nat → Bool) (held : Bool) (n : Nat) (cs : List Value) (x : DataW H × List MemPlace),
    DataW.trod enc P w base spare held n t cs = some x → ∃ a : α, d.K w a cs ∧ Q a
theorem opens_int {P : Program} {t : TypeId} (k : IntKind) (ht : P.underlying t = some (.int k)) : Opens P t (Kd.int k) (fun z => (Lit.int k z).wf = true) := by
  intro H enc w base spare held n cs x h
  obtain ⟨z, rfl, _, hw⟩ := DataW.trod_int ht h
  exact ⟨z, rfl, hw⟩
theorem opens_string {P : Program} {t : TypeId} (ht : P.underlying t = some .string) : Opens P t Kd.string (fun s => s.size ≤ maxLen) := by
  intro H enc w base spare held n cs x h
  obtain ⟨s, rfl, _, hs⟩ := DataW.trod_string ht h
  exact ⟨s, rfl, hs⟩
theorem add_add (ad : Addr) (i j : Nat) : (ad.add i).add j = ad.add (i + j) := by
  unfold Addr.add
  by_cases h1 : i = 0 <;> by_cases h2 : j = 0 <;> simp [h1, h2, Nat.add_assoc]
theorem opens_slice {α : Type} {P : Program} {t e : TypeId} {d : Kd α} {Q : α → Prop} (ht : P.underlying t = some (.slice e)) (hc : P.cellsOf e = d.sz) (ho : Opens P e d Q) :
    Opens P t (Kd.slice e d) (fun xs => xs.length ≤ maxLen ∧ ∀ a ∈ xs, Q a) := by
  intro H enc w base spare held n cs x h
  rcases Go.Deep.open_slice ht h with ⟨rfl, _⟩ | ⟨a, len, cap, m, n', D, Pl, rfl, hb, hl, hm, hmm, rfl, hx⟩
  · refine ⟨[], ⟨none, 0, rfl, Nat.le_refl _, rfl, Nat.zero_le _, fun h => absurd h (Nat.lt_irrefl 0)⟩, by simp⟩
  · have hlm : len ≤ m := by rw [hmm]; split <;> omega
    have h1 : ∀ i, i < len → ∃ b : α × List Value, b.2.length = d.sz ∧ d.K w b.1 b.2 ∧ Q b.1 ∧ ∀ j u, b.2[j]? = some u → w.cell? (a.add (i * d.sz + j)) = some u := by
      intro i hi
      obtain ⟨cs', hcs, htr⟩ := hx i (by omega)
      rw [hc] at hcs
      obtain ⟨_, hlen, hcell⟩ := World.cells?_some hcs
      obtain ⟨b, hK, hQ⟩ := ho H enc w base spare held n' cs' _ htr
      refine ⟨(b, cs'), hlen, hK, hQ, fun j u hu => ?_⟩
      have hj : j < d.sz := by
        rw [← hlen]
        exact (List.getElem?_eq_some_iff.1 hu).1
      rw [← add_add, hcell j hj]
      exact hu
    have hne : ∀ i, i < len → Nonempty (α × List Value) := fun i hi => ⟨(h1 i hi).choose⟩
    rcases Nat.eq_zero_or_pos len with h0 | h0
    · subst h0
      exact ⟨[], ⟨some a, cap, rfl, Nat.zero_le _, rfl, Nat.zero_le _, fun h => absurd h (Nat.lt_irrefl 0)⟩, by simp⟩
    · haveI : Inhabited (α × List Value) := ⟨(h1 0 h0).choose⟩
      obtain ⟨f, hf⟩ := Go.Deep.choose_lt (p := fun i (b : α × List Value) => b.2.length = d.sz ∧ d.K w b.1 b.2 ∧ Q b.1 ∧ ∀ j u, b.2[j]? = some u → w.cell? (a.add (i * d.sz + j)) = some u) h1
      have hlen : ((List.range len).map fun i => (f i).1).length = len := by simp
      refine ⟨(List.range len).map fun i => (f i).1, ⟨some a, cap, by rw [hlen], by rw [hlen]; exact hl, by rw [hlen], by rw [hlen]; unfold maxLen at hm; omega, fun _ => ⟨a, rfl, fun j p hj => ?_⟩⟩, by rw [hlen]; omega, fun b hb => ?_⟩
      · have hjl : j < len := by
          have := (List.getElem?_eq_some_iff.1 hj).1
          simpa using this
        have hp : (f j).1 = p := by
          simp [List.getElem?_map, List.getElem?_range hjl] at hj
          exact hj
        obtain ⟨g1, g2, g3, g4⟩ := hf j hjl
        exact ⟨(f j).2, g1, hp ▸ g2, g4⟩
      · obtain ⟨i, hi, rfl⟩ := List.mem_map.1 hb
        exact (hf i (by simpa using hi)).2.2.1
def OpensL {α : Type} (P : Program) (fs : List Field) (o : Nat) (d : Kd α) (Q : α → Prop) : Prop :=
  ∀ (H : Type) (enc : TypeId × Value → H) (w : World) (base : Nat) (spare : Nat → Bool) (held : Bool) (n : Nat) (cs : List Value),
    cs.length = o + d.sz → (∀ f ∈ fs, ∃ x : DataW H × List MemPlace, DataW.trod enc P w base spare held n f.type ((cs.drop f.offset).take (P.cellsOf f.type)) = some x) → ∃ a : α, d.K w a (cs.drop o) ∧ Q a
theorem opensL_one {α : Type} {P : Program} {f : Field} {o : Nat} {d : Kd α} {Q : α → Prop} (ho : f.offset = o) (hc : P.cellsOf f.type = d.sz) (h : Opens P f.type d Q) : OpensL P [f] o d Q := by
  intro H enc w base spare held n cs hl hf
  obtain ⟨x, hx⟩ := hf f (by simp)
  rw [ho, hc, List.take_of_length_le (by rw [List.length_drop]; omega)] at hx
  exact h H enc w base spare held n _ x hx
theorem opensL_cons {α β : Type} {P : Program} {f : Field} {fs : List Field} {o : Nat} {d : Kd α} {d' : Kd β} {Q : α → Prop} {Q' : β → Prop} (ho : f.offset = o) (hc : P.cellsOf f.type = d.sz) (h : Opens P f.type d Q)
    (hs : OpensL P fs (o + d.sz) d' Q') : OpensL P (f :: fs) o (Kd.pair d d') (fun x => Q x.1 ∧ Q' x.2) := by
  intro H enc w base spare held n cs hl hf
  have hl' : cs.length = o + (d.sz + d'.sz) := hl
  obtain ⟨x, hx⟩ := hf f (by simp)
  rw [ho, hc] at hx
  obtain ⟨a, hK, hQ⟩ := h H enc w base spare held n _ x hx
  obtain ⟨b, hK', hQ'⟩ := hs H enc w base spare held n cs (by omega) (fun g hg => hf g (by simp [hg]))
  refine ⟨(a, b), ⟨_, _, ?_, hK, hK'⟩, hQ, hQ'⟩
  rw [← List.drop_drop, List.take_append_drop]
theorem opens_struct {α β : Type} {P : Program} {t : TypeId} {fs : Array Field} {d : Kd α} {Q : α → Prop} (ht : P.underlying t = some (.struct fs)) (hc : P.cellsOf t = d.sz) (g : β → α) (mk : α → β) (hg : ∀ a, g (mk a) = a)
    (hs : OpensL P fs.toList 0 d Q) : Opens P t (Kd.iso d g) (fun x => Q (g x)) := by
  intro H enc w base spare held n cs x h
  obtain ⟨xs, n', _, rfl, hl, hlen, hf⟩ := DataW.trod_struct ht h
  obtain ⟨a, hK, hQ⟩ := hs H enc w base spare held n' cs (by rw [hl, hc, Nat.zero_add]) (fun f hf' => by
    obtain ⟨i, hi, rfl⟩ := List.mem_iff_getElem.1 hf'
    have hi' : i < xs.length := by rw [hlen]; simpa using hi
    refine ⟨xs[i], ?_⟩
    have := hf i fs.toList[i] (by simp [List.getElem?_eq_getElem hi])
    simpa [List.getElem?_eq_getElem hi'] using this)
  rw [List.drop_zero] at hK
  exact ⟨mk a, by show d.K w (g (mk a)) cs; rw [hg]; exact hK, by show Q (g (mk a)); rw [hg]; exact hQ⟩
theorem Opens.row {α : Type} {P : Program} {t e : TypeId} {d : Kd α} {Q : List α → Prop} (h : Opens P t (Kd.slice e d) Q) {H : Type} {enc : TypeId × Value → H} {w : World} {base : Nat} {spare : Nat → Bool} {held : Bool} {a : Option Addr} {len cap : Nat} {x : DataW H} {p : List MemPlace}
    (hr : ∃ m, DataW.trod enc P w base spare held m t (Value.slice a len cap).cells.toList = some (x, p)) :
    ∃ l : List α, l.length = len ∧ l.length ≤ cap ∧ Kd.C d w a l.length l ∧ Q l := by
  obtain ⟨m, hm⟩ := hr
  obtain ⟨l, ⟨A, c, e1, hl, hC⟩, hQ⟩ := h _ _ _ _ _ _ _ _ _ hm
  simp [Value.cells] at e1
  obtain ⟨rfl, rfl, rfl⟩ := e1
  exact ⟨l, rfl, hl, hC, hQ⟩
end Go.Proofs.Ytmcldkobejhaeaa.Opens
namespace Go.Proofs.Ytmcldkobejhaeaa.My
open Go.RowKit Go.Proofs.YtmcldkobejhaeaaW.PrintWords Go.Proofs.YtmcldkobejhaeaaW.PrintLast Go.Proofs.YtmcldkobejhaeaaW.PrintMore
attribute [local go_sem] max2_int min2_int max_two min_two max_three min_three max_four min_four
set_option linter.unusedVariables false
set_option linter.unusedSimpArgs false
open Go.Proofs.Ytmcldkobejhaeaa.Opens
def Wint (z : Int) : Prop := (Lit.int .i64 z).wf = true
def Wstr (s : ByteArray) : Prop := s.size ≤ maxLen
def WL {α : Type} (Q : α → Prop) (xs : List α) : Prop := xs.length ≤ maxLen ∧ ∀ a ∈ xs, Q a
def W143 (x : S143) : Prop := Wint x.f0 ∧ (Wstr x.f1)
theorem opens143 : Opens Try.prog 143 k143 W143 := opens_struct Try.underlying143 (by kernel_rfl) (fun x : S143 => (x.f0, x.f1)) (fun a => ⟨a.1, a.2⟩) (fun _ => rfl) (opensL_cons rfl (by kernel_rfl) (opens_int .i64 Try.underlying3) (opensL_one rfl (by kernel_rfl) (opens_string Try.underlying9)))
def W68 (x : S68) : Prop := Wint x.f0 ∧ (Wint x.f1 ∧ ((WL W143) x.f2))
theorem opens68 : Opens Try.prog 68 k68 W68 := opens_struct Try.underlying68 (by kernel_rfl) (fun x : S68 => (x.f0, x.f1, x.f2)) (fun a => ⟨a.1, a.2.1, a.2.2⟩) (fun _ => rfl) (opensL_cons rfl (by kernel_rfl) (opens_int .i64 Try.underlying3) (opensL_cons rfl (by kernel_rfl) (opens_int .i64 Try.underlying3) (opensL_one rfl (by kernel_rfl) (opens_slice Try.underlying66 (by kernel_rfl) opens143))))
end Go.Proofs.Ytmcldkobejhaeaa.My
namespace Go.Proofs.Ytmcldkobejhaeaa.My
open Go.RowKit Go.Proofs.YtmcldkobejhaeaaW.PrintWords Go.Proofs.YtmcldkobejhaeaaW.PrintLast Go.Proofs.YtmcldkobejhaeaaW.PrintMore
attribute [local go_sem] max2_int min2_int max_two min_two max_three min_three max_four min_four
set_option linter.unusedVariables false
set_option linter.unusedSimpArgs false
def spec_l1Ends.f (a0 : ByteArray) : Option (Bool) := if 0 ≤ (wrap64 ((a0.size : Int) - 1)) then (if (wrap64 ((a0.size : Int) - 1)) < (a0.size : Int) then (some ((bt a0 (wrap64 ((a0.size : Int) - 1))) == 10)) else (none)) else (none)
set_option maxHeartbeats 8000000 in
set_option maxRecDepth 100000 in
theorem spec_l1Ends.calls (a0 : ByteArray) (r : Bool) (w : World) (h : spec_l1Ends.f a0 = some r) :
  Calls Try.prog 127 #[.string a0] w fun e w' => e = .returned (.bool r) ∧ Drawn0 w w' := by
 have H : (if 0 ≤ (wrap64 ((a0.size : Int) - 1)) then (if (wrap64 ((a0.size : Int) - 1)) < (a0.size : Int) then (some ((bt a0 (wrap64 ((a0.size : Int) - 1))) == 10)) else (none)) else (none)) = some r := h
 clear h
 obtain ⟨ji2, hji2⟩ : ∃ j_ : Int, (wrap64 ((a0.size : Int) - 1)) = j_ := ⟨_, rfl⟩
 replace H : (if 0 ≤ (ji2) then (if (ji2) < (a0.size : Int) then (some ((bt a0 (ji2)) == 10)) else (none)) else (none)) = some r := by first | (rw [hji2] at H; exact H) | (simp only [hji2] at H ⊢; exact H)
 have hji2w : (IntKind.i64.wrap ((a0.size : Int) - 1)) = ji2 := (i64_w _).trans hji2
 by_cases c3 : 0 ≤ (ji2)
 ·rw [if_pos c3] at H
  have c3b0 : decide (0 ≤ (ji2)) = true := decide_eq_true c3
  clear c3
  by_cases c4 : (ji2) < (a0.size : Int)
  ·rw [if_pos c4] at H
   have c4b0 : decide ((ji2) < (a0.size : Int)) = true := decide_eq_true c4
   clear c4
   obtain rfl := Option.some.inj H
   have p5 : 0 ≤ ((ji2) : Int) := oa
   have q5 : (ji2) < (a0.size : Int) := oa
   have hx5 := bt_at a0 (ji2)
   replace p5 := eq_true p5
   replace q5 := eq_true q5
   go_enter Try.func127, Try.ntmps127
   go_wp2
   go_ret
   exact ⟨by first | rfl | (simp; done) | (simp only [← hji2] <;> (first | rfl | simp)) | (simp [*]; done), by repeat (first | exact Drawn0.refl _ | apply Drawn0.step)⟩
  ·rw [if_neg c4] at H
   exact absurd H (by simp)
 ·rw [if_neg c3] at H
  exact absurd H (by simp)

def spec_l1In.f (a0 : Int) (a1 : Int) (a2 : Int) : Option (Bool) := if a0 ≥ a1 then (some (decide (a0 ≤ a2))) else (some false)
set_option maxHeartbeats 8000000 in
set_option maxRecDepth 100000 in
theorem spec_l1In.calls (a0 : Int) (a1 : Int) (a2 : Int) (r : Bool) (w : World) (h : spec_l1In.f a0 a1 a2 = some r) :
  Calls Try.prog 67 #[.int .i64 a0, .int .i64 a1, .int .i64 a2] w fun e w' => e = .returned (.bool r) ∧ Drawn0 w w' := by
 have H : (if a0 ≥ a1 then (some (decide (a0 ≤ a2))) else (some false)) = some r := h
 clear h
 by_cases c4 : a0 ≥ a1
 ·rw [if_pos c4] at H
  have c4b0 : decide (a1 ≤ a0) = true := decide_eq_true c4
  clear c4
  obtain rfl := Option.some.inj H
  go_enter Try.func67, Try.ntmps67
  go_wp2
  go_ret
  exact ⟨by first | rfl | (simp; done) | (simp [*]; done), by repeat (first | exact Drawn0.refl _ | apply Drawn0.step)⟩
 ·rw [if_neg c4] at H
  have c4b0 : decide (a1 ≤ a0) = false := decide_eq_false c4
  clear c4
  obtain rfl := Option.some.inj H
  go_enter Try.func67, Try.ntmps67
  go_wp2
  go_ret
  exact ⟨by first | rfl | (simp; done) | (simp [*]; done), by repeat (first | exact Drawn0.refl _ | apply Drawn0.step)⟩

def spec_l1Line.l0 : Nat → ByteArray → Int → Option (Bool)
 | 0, _, _ => none
 | k + 1, x0, x3 => if x3 < (wrap64 ((x0.size : Int) - 1)) then (if 0 ≤ x3 then (if x3 < (x0.size : Int) then (if (bt x0 x3) = 10 then (some false) else (spec_l1Line.l0 k x0 (wrap64 (x3 + 1)))) else (none)) else (none)) else ((spec_l1In.f (x0.size : Int) 1 30).bind fun t106 => (some t106))
def spec_l1Line.f (k : Nat) (a0 : ByteArray) : Option (Bool) := spec_l1Line.l0 k a0 0
set_option maxHeartbeats 8000000 in
set_option maxRecDepth 100000 in
theorem spec_l1Line.calls (k : Nat) (a0 : ByteArray) (r : Bool) (w : World) (h : spec_l1Line.f k a0 = some r) :
  Calls Try.prog 73 #[.string a0] w fun e w' => e = .returned (.bool r) ∧ Drawn0 w w' := by
 have H : (spec_l1Line.l0 k a0 0) = some r := h
 clear h
 have H' := am H
 clear H
 go_enter Try.func73, Try.ntmps73
 go_wp2
 go_loopg [3] k (fun kq v3 w' => ∃ (x3_1 : Int), v3 = .int .i64 x3_1 ∧ Aside0 (spec_l1Line.l0 kq a0 x3_1 = some r) ∧ Aside0 (kq ≤ k) ∧ Drawn0 w w')
 case atStart => exact ⟨(0), zf, H', ⟨Nat.le_refl _⟩, by repeat (first | exact Drawn0.refl _ | apply Drawn0.step)⟩
 case round =>
  clear H'
  obtain ⟨x3_1, rfl, HA, HK1, ⟨m1, rfl⟩⟩ := hrel
  cases gk with
  | zero => exact absurd HA.out (by simp [spec_l1Line.l0])
  | succ k1 =>
   have H := HA.out
   clear HA
   simp only [spec_l1Line.l0] at H
   by_cases c2 : x3_1 < (wrap64 ((a0.size : Int) - 1))
   ·rw [if_pos c2] at H
    have c2b0 : decide (x3_1 < (wrap64 ((a0.size : Int) - 1))) = true := decide_eq_true c2
    clear c2
    by_cases c3 : 0 ≤ x3_1
    ·rw [if_pos c3] at H
     have c3b0 : decide (0 ≤ x3_1) = true := decide_eq_true c3
     clear c3
     by_cases c4 : x3_1 < (a0.size : Int)
     ·rw [if_pos c4] at H
      have c4b0 : decide (x3_1 < (a0.size : Int)) = true := decide_eq_true c4
      clear c4
      by_cases c6 : (bt a0 x3_1) = 10
      ·rw [if_pos c6] at H
       have c6b0 : ((bt a0 x3_1) == 10) = true := beq_iff_eq.mpr c6
       have c6b1 : ((bt a0 x3_1) != 10) = false := bne_eq_false_iff_eq.mpr c6
       clear c6
       obtain rfl := Option.some.inj H
       have p5 : 0 ≤ (x3_1 : Int) := oa
       have q5 : x3_1 < (a0.size : Int) := oa
       have hx5 := bt_at a0 x3_1
       replace p5 := eq_true p5
       replace q5 := eq_true q5
       go_wp2
       go_ret
       exact ⟨by first | rfl | (simp; done) | (simp [*]; done), by repeat (first | exact Drawn0.refl _ | apply Drawn0.step)⟩
      ·rw [if_neg c6] at H
       have c6b0 : ((bt a0 x3_1) == 10) = false := beq_eq_false_iff_ne.mpr c6
       have c6b1 : ((bt a0 x3_1) != 10) = true := bne_iff_ne.mpr c6
       have H' := am H
       clear H
       have p5 : 0 ≤ (x3_1 : Int) := oa
       have q5 : x3_1 < (a0.size : Int) := oa
       have hx5 := bt_at a0 x3_1
       replace p5 := eq_true p5
       replace q5 := eq_true q5
       go_wp2
       go_roundg k1
       case measure => have := HK1.out; omega
       case rel => exact ⟨(wrap64 (x3_1 + 1)), zf, H', ⟨by have := HK1.out; omega⟩, by repeat (first | exact Drawn0.refl _ | apply Drawn0.step)⟩
     ·rw [if_neg c4] at H
      exact absurd H (by simp)
    ·rw [if_neg c3] at H
     exact absurd H (by simp)
   ·rw [if_neg c2] at H
    have c2b0 : decide (x3_1 < (wrap64 ((a0.size : Int) - 1))) = false := decide_eq_false c2
    clear c2
    replace H := Option.bind_eq_some_iff.mp H
    obtain ⟨t106, A70, H⟩ := H
    replace H : (some t106) = some r := H
    have A7 := am A70
    clear A70
    obtain rfl := Option.some.inj H
    go_wp2_with (first | ((with_reducible refine gateC (f := 67) rfl ?_); refine goesL_ (some 17) rfl rfl Try.func67 (by kernel_rfl) rfl #[.int .i64 (a0.size : Int), .int .i64 1, .int .i64 30] rfl zm ?_; (with_reducible refine (spec_l1In.calls (a0.size : Int) 1 30 t106 _ A7.out).mono ?_); rintro e w' ⟨rfl, ⟨nd, rfl⟩⟩; refine ⟨_, rfl, ?_⟩))
    go_ret
    exact ⟨by first | rfl | (simp; done) | (simp [*]; done), by repeat (first | exact Drawn0.refl _ | apply Drawn0.step)⟩

def spec_l1Good.l0 : Nat → List ByteArray → List ByteArray → Int → Int → Option (Bool)
 | 0, _, _, _, _ => none
 | k + 1, x0, x5, x6, x7 => if x7 < x6 then (if 0 ≤ x7 then (if x7 < (x5.length : Int) then ((spec_l1Line.f k (rdOf ByteArray.empty x5 x7)).bind fun t108 => (if t108 = true then (if x7 < (wrap64 ((x0.length : Int) - 1)) then ((spec_l1Ends.f (rdOf ByteArray.empty x5 x7)).bind fun t109 => (if t109 = true then (spec_l1Good.l0 k x0 x5 x6 (wrap64 (x7 + 1))) else (some false))) else (spec_l1Good.l0 k x0 x5 x6 (wrap64 (x7 + 1)))) else (some false))) else (none)) else (none)) else (some (decide ((x0.length : Int) ≤ 40)))
def spec_l1Good.f (k : Nat) (l0 : List ByteArray) : Option (Bool) := spec_l1Good.l0 k l0 l0 (l0.length : Int) 0
set_option maxHeartbeats 8000000 in
set_option maxRecDepth 100000 in
theorem spec_l1Good.calls (k : Nat) (A0 : Option Addr) (c0 : Nat) (l0 : List ByteArray) (r : Bool) (w : World) (hr0 : Kd.C Kd.string w A0 l0.length l0) (hc0 : l0.length ≤ c0) (h : spec_l1Good.f k l0 = some r) :
  Calls Try.prog 66 #[.slice A0 l0.length c0] w fun e w' => e = .returned (.bool r) ∧ Drawn0 w w' := by
 have HR0 := am hr0
 have HC0 := am hc0
 clear hr0 hc0
 have H : (spec_l1Good.l0 k l0 l0 (l0.length : Int) 0) = some r := h
 clear h
 have H' := am H
 clear H
 go_enter Try.func66, Try.ntmps66
 go_wp2
 go_loopg [7] k (fun kq v7 w' => ∃ (x7_1 : Int), v7 = .int .i64 x7_1 ∧ Aside0 (spec_l1Good.l0 kq l0 l0 (l0.length : Int) x7_1 = some r) ∧ Aside0 (kq ≤ k) ∧ Drawn0 w w')
 case atStart => exact ⟨(0), zf, H', ⟨Nat.le_refl _⟩, by repeat (first | exact Drawn0.refl _ | apply Drawn0.step)⟩
 case round =>
  clear H'
  obtain ⟨x7_1, rfl, HA, HK1, ⟨m1, rfl⟩⟩ := hrel
  cases gk with
  | zero => exact absurd HA.out (by simp [spec_l1Good.l0])
  | succ k1 =>
   have H := HA.out
   clear HA
   simp only [spec_l1Good.l0] at H
   by_cases c2 : x7_1 < (l0.length : Int)
   ·rw [if_pos c2] at H
    have c2b0 : decide (x7_1 < (l0.length : Int)) = true := decide_eq_true c2
    clear c2
    by_cases c3 : 0 ≤ x7_1
    ·rw [if_pos c3] at H
     have c3b0 : decide (0 ≤ x7_1) = true := decide_eq_true c3
     clear c3
     by_cases c4 : x7_1 < (l0.length : Int)
     ·rw [if_pos c4] at H
      have c4b0 : decide (x7_1 < (l0.length : Int)) = true := decide_eq_true c4
      clear c4
      replace H := Option.bind_eq_some_iff.mp H
      obtain ⟨t108, A50, H⟩ := H
      replace H : (if t108 = true then (if x7_1 < (wrap64 ((l0.length : Int) - 1)) then ((spec_l1Ends.f (rdOf ByteArray.empty l0 x7_1)).bind fun t109 => (if t109 = true then (spec_l1Good.l0 k1 l0 l0 (l0.length : Int) (wrap64 (x7_1 + 1))) else (some false))) else (spec_l1Good.l0 k1 l0 l0 (l0.length : Int) (wrap64 (x7_1 + 1)))) else (some false)) = some r := H
      have A5 := am A50
      clear A50
      by_cases c6 : t108 = true
      ·subst c6
       have H1 : (if x7_1 < (wrap64 ((l0.length : Int) - 1)) then ((spec_l1Ends.f (rdOf ByteArray.empty l0 x7_1)).bind fun t109 => (if t109 = true then (spec_l1Good.l0 k1 l0 l0 (l0.length : Int) (wrap64 (x7_1 + 1))) else (some false))) else (spec_l1Good.l0 k1 l0 l0 (l0.length : Int) (wrap64 (x7_1 + 1)))) = some r := by rw [if_pos rfl] at H; exact H
       clear H
       have H := H1
       clear H1
       by_cases c7 : x7_1 < (wrap64 ((l0.length : Int) - 1))
       ·rw [if_pos c7] at H
        have c7b0 : decide (x7_1 < (wrap64 ((l0.length : Int) - 1))) = true := decide_eq_true c7
        clear c7
        replace H := Option.bind_eq_some_iff.mp H
        obtain ⟨t109, A80, H⟩ := H
        replace H : (if t109 = true then (spec_l1Good.l0 k1 l0 l0 (l0.length : Int) (wrap64 (x7_1 + 1))) else (some false)) = some r := H
        have A8 := am A80
        clear A80
        by_cases c9 : t109 = true
        ·subst c9
         have H1 : (spec_l1Good.l0 k1 l0 l0 (l0.length : Int) (wrap64 (x7_1 + 1))) = some r := by rw [if_pos rfl] at H; exact H
         clear H
         have H := H1
         clear H1
         have H' := am H
         clear H
         have p107 : 0 ≤ (x7_1 : Int) := oa
         have q107 : x7_1 < (l0.length : Int) := oa
         obtain ⟨ad107, e107, hx107_0⟩ := Kd.at_string HR0.out x7_1 p107 q107
         cases e107
         replace p107 := eq_true p107
         replace q107 := eq_true q107
         go_wp2_with (first | ((with_reducible refine gateC (f := 73) rfl ?_); refine goesL_ (some 13) rfl rfl Try.func73 (by kernel_rfl) rfl #[.string (rdOf ByteArray.empty l0 x7_1)] rfl zm ?_; (with_reducible refine (spec_l1Line.calls k1 (rdOf ByteArray.empty l0 x7_1) true _ A5.out).mono ?_); rintro e w' ⟨rfl, ⟨nd, rfl⟩⟩; refine ⟨_, rfl, ?_⟩) | (go_at_call 127; (with_reducible refine (spec_l1Ends.calls (rdOf ByteArray.empty l0 x7_1) true _ A8.out).mono ?_); rintro e w' ⟨rfl, ⟨nd, rfl⟩⟩))
         go_roundg k1
         case measure => have := HK1.out; omega
         case rel => exact ⟨(wrap64 (x7_1 + 1)), zf, H', ⟨by have := HK1.out; omega⟩, by repeat (first | exact Drawn0.refl _ | apply Drawn0.step)⟩
        ·replace c9 := Bool.eq_false_iff.mpr c9
         subst c9
         have H1 : (some false) = some r := by rw [if_neg (show ¬ (false = true) by decide)] at H; exact H
         clear H
         have H := H1
         clear H1
         obtain rfl := Option.some.inj H
         have p107 : 0 ≤ (x7_1 : Int) := oa
         have q107 : x7_1 < (l0.length : Int) := oa
         obtain ⟨ad107, e107, hx107_0⟩ := Kd.at_string HR0.out x7_1 p107 q107
         cases e107
         replace p107 := eq_true p107
         replace q107 := eq_true q107
         go_wp2_with (first | ((with_reducible refine gateC (f := 73) rfl ?_); refine goesL_ (some 13) rfl rfl Try.func73 (by kernel_rfl) rfl #[.string (rdOf ByteArray.empty l0 x7_1)] rfl zm ?_; (with_reducible refine (spec_l1Line.calls k1 (rdOf ByteArray.empty l0 x7_1) true _ A5.out).mono ?_); rintro e w' ⟨rfl, ⟨nd, rfl⟩⟩; refine ⟨_, rfl, ?_⟩) | (go_at_call 127; (with_reducible refine (spec_l1Ends.calls (rdOf ByteArray.empty l0 x7_1) false _ A8.out).mono ?_); rintro e w' ⟨rfl, ⟨nd, rfl⟩⟩))
         go_ret
         exact ⟨by first | rfl | (simp; done) | (simp [*]; done), by repeat (first | exact Drawn0.refl _ | apply Drawn0.step)⟩
       ·rw [if_neg c7] at H
        have c7b0 : decide (x7_1 < (wrap64 ((l0.length : Int) - 1))) = false := decide_eq_false c7
        clear c7
        have H' := am H
        clear H
        have p107 : 0 ≤ (x7_1 : Int) := oa
        have q107 : x7_1 < (l0.length : Int) := oa
        obtain ⟨ad107, e107, hx107_0⟩ := Kd.at_string HR0.out x7_1 p107 q107
        cases e107
        replace p107 := eq_true p107
        replace q107 := eq_true q107
        go_wp2_with (first | ((with_reducible refine gateC (f := 73) rfl ?_); refine goesL_ (some 13) rfl rfl Try.func73 (by kernel_rfl) rfl #[.string (rdOf ByteArray.empty l0 x7_1)] rfl zm ?_; (with_reducible refine (spec_l1Line.calls k1 (rdOf ByteArray.empty l0 x7_1) true _ A5.out).mono ?_); rintro e w' ⟨rfl, ⟨nd, rfl⟩⟩; refine ⟨_, rfl, ?_⟩))
        go_roundg k1
        case measure => have := HK1.out; omega
        case rel => exact ⟨(wrap64 (x7_1 + 1)), zf, H', ⟨by have := HK1.out; omega⟩, by repeat (first | exact Drawn0.refl _ | apply Drawn0.step)⟩
      ·replace c6 := Bool.eq_false_iff.mpr c6
       subst c6
       have H1 : (some false) = some r := by rw [if_neg (show ¬ (false = true) by decide)] at H; exact H
       clear H
       have H := H1
       clear H1
       obtain rfl := Option.some.inj H
       have p107 : 0 ≤ (x7_1 : Int) := oa
       have q107 : x7_1 < (l0.length : Int) := oa
       obtain ⟨ad107, e107, hx107_0⟩ := Kd.at_string HR0.out x7_1 p107 q107
       cases e107
       replace p107 := eq_true p107
       replace q107 := eq_true q107
       go_wp2_with (first | ((with_reducible refine gateC (f := 73) rfl ?_); refine goesL_ (some 13) rfl rfl Try.func73 (by kernel_rfl) rfl #[.string (rdOf ByteArray.empty l0 x7_1)] rfl zm ?_; (with_reducible refine (spec_l1Line.calls k1 (rdOf ByteArray.empty l0 x7_1) false _ A5.out).mono ?_); rintro e w' ⟨rfl, ⟨nd, rfl⟩⟩; refine ⟨_, rfl, ?_⟩))
       go_ret
       exact ⟨by first | rfl | (simp; done) | (simp [*]; done), by repeat (first | exact Drawn0.refl _ | apply Drawn0.step)⟩
     ·rw [if_neg c4] at H
      exact absurd H (by simp)
    ·rw [if_neg c3] at H
     exact absurd H (by simp)
   ·rw [if_neg c2] at H
    have c2b0 : decide (x7_1 < (l0.length : Int)) = false := decide_eq_false c2
    clear c2
    obtain rfl := Option.some.inj H
    go_wp2
    go_ret
    exact ⟨by first | rfl | (simp; done) | (simp [*]; done), by repeat (first | exact Drawn0.refl _ | apply Drawn0.step)⟩

def spec_l1SameT.l0 : Nat → List ByteArray → List ByteArray → Int → Int → Option (Bool)
 | 0, _, _, _, _ => none
 | k + 1, x0, x1, x12, x13 => if x13 < x12 then (if 0 ≤ x13 then (if x13 < (x0.length : Int) then (if x13 < (x1.length : Int) then (if (rdOf ByteArray.empty x0 x13).toList = (rdOf ByteArray.empty x1 x13).toList then (spec_l1SameT.l0 k x0 x1 x12 (wrap64 (x13 + 1))) else (some false)) else (none)) else (none)) else (none)) else (some true)
def spec_l1SameT.f (k : Nat) (l0 : List ByteArray) (l1 : List ByteArray) : Option (Bool) := if (l0.length : Int) = (l1.length : Int) then (spec_l1SameT.l0 k l0 l1 (l0.length : Int) 0) else (some false)
set_option maxHeartbeats 8000000 in
set_option maxRecDepth 100000 in
theorem spec_l1SameT.calls (k : Nat) (A0 : Option Addr) (c0 : Nat) (l0 : List ByteArray) (A1 : Option Addr) (c1 : Nat) (l1 : List ByteArray) (r : Bool) (w : World) (hr0 : Kd.C Kd.string w A0 l0.length l0) (hc0 : l0.length ≤ c0) (hr1 : Kd.C Kd.string w A1 l1.length l1) (hc1 : l1.length ≤ c1) (h : spec_l1SameT.f k l0 l1 = some r) :
  Calls Try.prog 145 #[.slice A0 l0.length c0, .slice A1 l1.length c1] w fun e w' => e = .returned (.bool r) ∧ Drawn0 w w' := by
 have HR0 := am hr0
 have HC0 := am hc0
 clear hr0 hc0
 have HR1 := am hr1
 have HC1 := am hc1
 clear hr1 hc1
 have H : (if (l0.length : Int) = (l1.length : Int) then (spec_l1SameT.l0 k l0 l1 (l0.length : Int) 0) else (some false)) = some r := h
 clear h
 by_cases c3 : (l0.length : Int) = (l1.length : Int)
 ·rw [if_pos c3] at H
  have c3b0 : ((l0.length : Int) == (l1.length : Int)) = true := beq_iff_eq.mpr c3
  have c3b1 : ((l0.length : Int) != (l1.length : Int)) = false := bne_eq_false_iff_eq.mpr c3
  have c3b2 : (l0.length == l1.length) = true := by first | simpa using c3 | (simp at c3 ⊢; omega)
  clear c3
  have H' := am H
  clear H
  go_enter Try.func145, Try.ntmps145
  go_wp2
  repeat (go_quiet (fail); try go_wp2)
  go_loopg [13] k (fun kq v13 w' => ∃ (x13_1 : Int), v13 = .int .i64 x13_1 ∧ Aside0 (spec_l1SameT.l0 kq l0 l1 (l0.length : Int) x13_1 = some r) ∧ Aside0 (kq ≤ k) ∧ Drawn0 w w')
  case atStart => exact ⟨(0), zf, H', ⟨Nat.le_refl _⟩, by repeat (first | exact Drawn0.refl _ | apply Drawn0.step)⟩
  case round =>
   clear H'
   try clear c1
   try clear p2
   try clear c3
   try clear c3b0
   try clear c3b1
   try clear c3b2
   obtain ⟨x13_1, rfl, HA, HK1, ⟨m1, rfl⟩⟩ := hrel
   cases gk with
   | zero => exact absurd HA.out (by simp [spec_l1SameT.l0])
   | succ k1 =>
    have H := HA.out
    clear HA
    simp only [spec_l1SameT.l0] at H
    by_cases c4 : x13_1 < (l0.length : Int)
    ·rw [if_pos c4] at H
     have c4b0 : decide (x13_1 < (l0.length : Int)) = true := decide_eq_true c4
     clear c4
     by_cases c5 : 0 ≤ x13_1
     ·rw [if_pos c5] at H
      have c5b0 : decide (0 ≤ x13_1) = true := decide_eq_true c5
      clear c5
      by_cases c6 : x13_1 < (l0.length : Int)
      ·rw [if_pos c6] at H
       have c6b0 : decide (x13_1 < (l0.length : Int)) = true := decide_eq_true c6
       clear c6
       by_cases c7 : x13_1 < (l1.length : Int)
       ·rw [if_pos c7] at H
        have c7b0 : decide (x13_1 < (l1.length : Int)) = true := decide_eq_true c7
        clear c7
        by_cases c8 : (rdOf ByteArray.empty l0 x13_1).toList = (rdOf ByteArray.empty l1 x13_1).toList
        ·rw [if_pos c8] at H
         have c8b0 : ((rdOf ByteArray.empty l0 x13_1).toList == (rdOf ByteArray.empty l1 x13_1).toList) = true := beq_iff_eq.mpr c8
         have c8b1 : ((rdOf ByteArray.empty l0 x13_1).toList != (rdOf ByteArray.empty l1 x13_1).toList) = false := bne_eq_false_iff_eq.mpr c8
         clear c8
         have H' := am H
         clear H
         have p611 : 0 ≤ (x13_1 : Int) := oa
         have q611 : x13_1 < (l0.length : Int) := oa
         obtain ⟨ad611, e611, hx611_0⟩ := Kd.at_string HR0.out x13_1 p611 q611
         cases e611
         replace p611 := eq_true p611
         replace q611 := eq_true q611
         have p612 : 0 ≤ (x13_1 : Int) := oa
         have q612 : x13_1 < (l1.length : Int) := oa
         obtain ⟨ad612, e612, hx612_0⟩ := Kd.at_string HR1.out x13_1 p612 q612
         cases e612
         replace p612 := eq_true p612
         replace q612 := eq_true q612
         go_wp2
         repeat (go_quiet (fail); try go_wp2)
         go_roundg k1
         case measure => have := HK1.out; omega
         case rel => exact ⟨(wrap64 (x13_1 + 1)), zf, H', ⟨by have := HK1.out; omega⟩, by repeat (first | exact Drawn0.refl _ | apply Drawn0.step)⟩
        ·rw [if_neg c8] at H
         have c8b0 : ((rdOf ByteArray.empty l0 x13_1).toList == (rdOf ByteArray.empty l1 x13_1).toList) = false := beq_eq_false_iff_ne.mpr c8
         have c8b1 : ((rdOf ByteArray.empty l0 x13_1).toList != (rdOf ByteArray.empty l1 x13_1).toList) = true := bne_iff_ne.mpr c8
         obtain rfl := Option.some.inj H
         have p611 : 0 ≤ (x13_1 : Int) := oa
         have q611 : x13_1 < (l0.length : Int) := oa
         obtain ⟨ad611, e611, hx611_0⟩ := Kd.at_string HR0.out x13_1 p611 q611
         cases e611
         replace p611 := eq_true p611
         replace q611 := eq_true q611
         have p612 : 0 ≤ (x13_1 : Int) := oa
         have q612 : x13_1 < (l1.length : Int) := oa
         obtain ⟨ad612, e612, hx612_0⟩ := Kd.at_string HR1.out x13_1 p612 q612
         cases e612
         replace p612 := eq_true p612
         replace q612 := eq_true q612
         go_wp2
         repeat (go_quiet (fail); try go_wp2)
         go_ret
         exact ⟨by first | rfl | (simp; done) | (simp [*]; done), by repeat (first | exact Drawn0.refl _ | apply Drawn0.step)⟩
       ·rw [if_neg c7] at H
        exact absurd H (by simp)
      ·rw [if_neg c6] at H
       exact absurd H (by simp)
     ·rw [if_neg c5] at H
      exact absurd H (by simp)
    ·rw [if_neg c4] at H
     have c4b0 : decide (x13_1 < (l0.length : Int)) = false := decide_eq_false c4
     clear c4
     obtain rfl := Option.some.inj H
     go_wp2
     repeat (go_quiet (fail); try go_wp2)
     go_ret
     exact ⟨by first | rfl | (simp; done) | (simp [*]; done), by repeat (first | exact Drawn0.refl _ | apply Drawn0.step)⟩
 ·rw [if_neg c3] at H
  have c3b0 : ((l0.length : Int) == (l1.length : Int)) = false := beq_eq_false_iff_ne.mpr c3
  have c3b1 : ((l0.length : Int) != (l1.length : Int)) = true := bne_iff_ne.mpr c3
  have c3b2 : (l0.length == l1.length) = false := by first | simpa using c3 | (simp at c3 ⊢; omega)
  obtain rfl := Option.some.inj H
  go_enter Try.func145, Try.ntmps145
  go_wp2
  repeat (go_quiet (fail); try go_wp2)
  go_ret
  exact ⟨by first | rfl | (simp; done) | (simp [*]; done), by repeat (first | exact Drawn0.refl _ | apply Drawn0.step)⟩

def spec_l6Hunks.l0 : Nat → List (S106) → Int → Bool → List (S140) → Int → Int → Option ((List (S106)))
 | 0, _, _, _, _, _, _ => none
 | k + 1, x3, x4, x5, x12, x13, x14 => if x14 < x13 then (if 0 ≤ x14 then (if x14 < (x12.length : Int) then (if ((T140 x12 x14).f0) = 1 then (spec_l6Hunks.l0 k x3 (wrap64 (x4 + 1)) false x12 x13 (wrap64 (x14 + 1))) else (if x5 = true then (if 0 ≤ (wrap64 ((x3.length : Int) - 1)) then (if (wrap64 ((x3.length : Int) - 1)) < (x3.length : Int) then (if ((T140 x12 x14).f0) = 2 then (spec_l6Hunks.l0 k (x3.set ((wrap64 ((x3.length : Int) - 1)) : Int).toNat (⟨(T106 x3 (wrap64 ((x3.length : Int) - 1))).f0, wrap64 (((T106 x3 (wrap64 ((x3.length : Int) - 1))).f1) + 1), (T106 x3 (wrap64 ((x3.length : Int) - 1))).f2⟩ : S106)) (wrap64 (x4 + 1)) x5 x12 x13 (wrap64 (x14 + 1))) else (if ((T106 x3 (wrap64 ((x3.length : Int) - 1))).f2).length < 8796093022208 then (spec_l6Hunks.l0 k (x3.set ((wrap64 ((x3.length : Int) - 1)) : Int).toNat (⟨(T106 x3 (wrap64 ((x3.length : Int) - 1))).f0, (T106 x3 (wrap64 ((x3.length : Int) - 1))).f1, (((T106 x3 (wrap64 ((x3.length : Int) - 1))).f2) ++ [(T140 x12 x14).f1])⟩ : S106)) x4 x5 x12 x13 (wrap64 (x14 + 1))) else (none))) else (none)) else (none)) else (if x3.length < 3518437208883 then ((some (x3 ++ [(⟨x4, 0, ([] : List ByteArray)⟩ : S106)] : List (S106))).bind fun y430 => (if 0 ≤ (wrap64 ((y430.length : Int) - 1)) then (if (wrap64 ((y430.length : Int) - 1)) < (y430.length : Int) then (if ((T140 x12 x14).f0) = 2 then (spec_l6Hunks.l0 k (y430.set ((wrap64 ((y430.length : Int) - 1)) : Int).toNat (⟨(T106 y430 (wrap64 ((y430.length : Int) - 1))).f0, wrap64 (((T106 y430 (wrap64 ((y430.length : Int) - 1))).f1) + 1), (T106 y430 (wrap64 ((y430.length : Int) - 1))).f2⟩ : S106)) (wrap64 (x4 + 1)) true x12 x13 (wrap64 (x14 + 1))) else (if ((T106 y430 (wrap64 ((y430.length : Int) - 1))).f2).length < 8796093022208 then (spec_l6Hunks.l0 k (y430.set ((wrap64 ((y430.length : Int) - 1)) : Int).toNat (⟨(T106 y430 (wrap64 ((y430.length : Int) - 1))).f0, (T106 y430 (wrap64 ((y430.length : Int) - 1))).f1, (((T106 y430 (wrap64 ((y430.length : Int) - 1))).f2) ++ [(T140 x12 x14).f1])⟩ : S106)) x4 true x12 x13 (wrap64 (x14 + 1))) else (none))) else (none)) else (none))) else (none)))) else (none)) else (none)) else (some x3)
def spec_l6Hunks.f (k : Nat) (a0_0 : Int) (a0_1 : Int) (l0_2 : List (S140)) : Option ((List (S106))) := spec_l6Hunks.l0 k ([] : List (S106)) a0_0 false l0_2 (l0_2.length : Int) 0
def spec_l6Hunks.T17 : Bool × List (List Nat × List Nat) := (true, [([], []), ([], []), ([1], [1]), ([2], [2]), ([3], [3]), ([], []), ([5], [5]), ([6], [6]), ([4, 7], [4, 7]), ([0, 0, 1, 2, 3, 4, 5, 6, 7, 8], [0]), ([9, 0, 1, 2, 3, 4, 5, 6, 7, 8], [9]), ([10, 8, 8, 0, 1, 2, 3, 4, 5, 6, 7, 8], [8, 10])])
def spec_l6Hunks.B17 : List Nat := [0, 0, 2, 6, 14, 0, 32, 96, 254, 511, 1023, 2047]
theorem spec_l6Hunks.tab17 : rtab .any (opsOf Try.f109 17) = spec_l6Hunks.T17 := by kernel_rfl
theorem spec_l6Hunks.bits17 : waitsOk spec_l6Hunks.T17.2 spec_l6Hunks.B17 = true := by kernel_rfl
set_option maxHeartbeats 8000000 in
set_option maxRecDepth 100000 in
theorem spec_l6Hunks.calls (k : Nat) (a0_0 : Int) (a0_1 : Int) (A0_2 : Option Addr) (c0_2 : Nat) (l0_2 : List (S140)) (r : List (S106)) (w : World) (hr0_2 : Kd.C k140 w A0_2 l0_2.length l0_2) (hc0_2 : l0_2.length ≤ c0_2) (h : spec_l6Hunks.f k a0_0 a0_1 l0_2 = some r) :
  Calls Try.prog 109 #[.agg #[.int .i64 a0_0, .int .i64 a0_1, .slice A0_2 l0_2.length c0_2]] w fun e w' => ∃ v0_ : Value, e = .returned (v0_) ∧ Kd.S k106 106 w' w.heap.size (fun _ => True) v0_ r ∧ Below w.heap.size w w' := by
 have hu73 := Try.underlying73
 have hu140 := Try.underlying140
 have hu106 := Try.underlying106
 have HR0_2 := am hr0_2
 have HC0_2 := am hc0_2
 clear hr0_2 hc0_2
 have HB := am (Below.refl w.heap.size w)
 have H := h
 clear h
 unfold spec_l6Hunks.f at H
 have H' := am H
 clear H
 go_enter Try.func109, Try.ntmps109
 go_wp2_with (((with_reducible refine gate_dst (N := 1) rfl ?_); refine box_event ?hg (N := 1) ?hd (cs := #[.int .i64 a0_0, .int .i64 a0_1, .slice A0_2 l0_2.length c0_2]) (t := 73) ?hr ?_; (case hd => rfl); (case hg => rfl); (case hr => (go_simp; done)); intro gb419 hg w2 hbox hb; have BK419 := am (hbox); have GW419 := am ((by rw [hg]; exact (below_size zb) : w.heap.size ≤ gb419)); have GE419 := am ((by rw [hg]; exact (below_size zb) : w.heap.size ≤ gb419)); replace HB := am (below_step zb hb); clear hb hbox hg; obtain ⟨hcz3_0, hcz3_1, hcz3_2⟩ := cz3 BK419.out; obtain ⟨hfz3_0, hfz3_1, hfz3_2⟩ := fz3 BK419.out))
 go_loopg [3, 4, 5, 14] k (fun kq v3 v4 v5 v14 w' => ∃ (x3_1 : List (S106)) (x4_1 : Int) (x5_1 : Bool) (x14_1 : Int), v4 = .int .i64 x4_1 ∧ v5 = .bool x5_1 ∧ v14 = .int .i64 x14_1 ∧ Aside0 (spec_l6Hunks.l0 kq x3_1 x4_1 x5_1 l0_2 (l0_2.length : Int) x14_1 = some r) ∧ Aside0 (kq ≤ k) ∧ Aside0 (Kd.S k106 106 w' w.heap.size (fun _ => True) v3 x3_1) ∧ Aside0 (w'.heap[gb419]? = some (.cells #[.int .i64 a0_0, .int .i64 a0_1, (.slice A0_2 l0_2.length c0_2)] 73 (0, 0))) ∧ Aside0 (Below w.heap.size w w'))
 case atStart => exact ⟨(([] : List (S106))), (a0_0), (false), (0), zf, zf, zf, H', ⟨Nat.le_refl _⟩, ⟨by exact Kd.S_nil _ _ _ _ _⟩, ⟨by exact BK419.out⟩, ⟨by repeat ((with_reducible exact HB.out))⟩⟩
 case round =>
  clear H'
  try clear hcz3_0
  try clear hcz3_1
  try clear hcz3_2
  try clear hfz3_0
  try clear hfz3_1
  try clear hfz3_2
  obtain ⟨x3_1, x4_1, x5_1, x14_1, rfl, rfl, rfl, HA, HK1, HO_3, BK419, HB⟩ := hrel
  cases gk with
  | zero => exact absurd HA.out (by simp [spec_l6Hunks.l0])
  | succ k1 =>
   have H := HA.out
   clear HA
   simp only [spec_l6Hunks.l0] at H
   by_cases c4 : x14_1 < (l0_2.length : Int)
   ·rw [if_pos c4] at H
    have c4b0 : decide (x14_1 < (l0_2.length : Int)) = true := decide_eq_true c4
    clear c4
    obtain ⟨c5, H⟩ := itn H
    have c5b0 := decide_eq_true c5
    clear c5
    obtain ⟨c6, H⟩ := itn H
    have c6b0 := decide_eq_true c6
    clear c6
    by_cases c7 : ((T140 l0_2 x14_1).f0) = 1
    ·rw [if_pos c7] at H
     have c7b0 : (((T140 l0_2 x14_1).f0) == 1) = true := beq_iff_eq.mpr c7
     have c7b1 : (((T140 l0_2 x14_1).f0) != 1) = false := bne_eq_false_iff_eq.mpr c7
     clear c7
     have H' := am H
     clear H
     have p420 : 0 ≤ (x14_1 : Int) := oa
     have q420 : x14_1 < (l0_2.length : Int) := oa
     obtain ⟨ad420, e420, hx420_0, hx420_1⟩ := at_T140 HR0_2.out x14_1 p420 q420
     cases e420
     replace hx420_0 := bc HB.out hx420_0
     replace hx420_1 := bc HB.out hx420_1
     replace p420 := eq_true p420
     replace q420 := eq_true q420
     go_wp2_with (((with_reducible refine gate_dst (N := 7) rfl ?_); refine box_event ?hg (N := 7) ?hd (cs := #[.int .i64 0, .string (⟨#[]⟩ : ByteArray)]) (t := 140) ?hr ?_; (case hd => rfl); (case hg => rfl); (case hr => (go_simp; done)); intro gb421 hg w8 hbox hb; replace HO_3 := am (Kd.S_below (zs HO_3.out) hb); have BK421 := am (hbox); have GW421 := am ((by rw [hg]; exact (below_size (by repeat ((with_reducible exact HB.out)))) : w.heap.size ≤ gb421)); have GE421 := am ((by rw [hg]; exact (below_size (by repeat ((with_reducible exact HB.out)))) : w.heap.size ≤ gb421)); replace HB := am (below_step (by repeat ((with_reducible exact HB.out))) hb); have NB419_421 := am ((by rw [hg]; exact Nat.ne_of_lt (blk_lt (g := gb419) (o := .cells #[.int .i64 a0_0, .int .i64 a0_1, .slice (some ad420) l0_2.length c0_2] 73 (0, 0)) (zk BK419.out)) : gb419 ≠ gb421)); have NB421_419 := am ((by rw [hg]; exact Nat.ne_of_gt (blk_lt (g := gb419) (o := .cells #[.int .i64 a0_0, .int .i64 a0_1, .slice (some ad420) l0_2.length c0_2] 73 (0, 0)) (zk BK419.out)) : gb421 ≠ gb419)); replace BK419 := am (blk_below (g := gb419) (o := .cells #[.int .i64 a0_0, .int .i64 a0_1, .slice (some ad420) l0_2.length c0_2] 73 (0, 0)) (zk BK419.out) hb); clear hb hbox hg; have hnb9 := NB421_419.out; have hnc9 := NB419_421.out; obtain ⟨hcz10_0, hcz10_1⟩ := cz2 BK421.out; obtain ⟨hfz10_0, hfz10_1⟩ := fz2 BK421.out))
     go_roundg k1
     case measure => have := HK1.out; omega
     case rel => exact ⟨(x3_1), (wrap64 (x4_1 + 1)), (false), (wrap64 (x14_1 + 1)), zf, zf, zf, H', ⟨by have := HK1.out; omega⟩, ⟨by exact Kd.S_mono (Kd.S_far (p := ⟨gb421, 1, none⟩) (Kd.S_far (p := ⟨gb421, 0, none⟩) (Kd.S_types HO_3.out BK421.out (by decide)) (fun _ hk => hk.2) (.int .i64 ((T140 l0_2 x14_1).f0))) (fun _ hk => hk.2) (.string ((T140 l0_2 x14_1).f1))) (fun _ hk => trivial)⟩, ⟨by refine blk_far ?_ NB419_421.out _; refine blk_far ?_ NB419_421.out _; exact BK419.out⟩, ⟨by repeat ((with_reducible first | exact HB.out | refine below_set ?_ GE421.out))⟩⟩
    ·rw [if_neg c7] at H
     have c7b0 : (((T140 l0_2 x14_1).f0) == 1) = false := beq_eq_false_iff_ne.mpr c7
     have c7b1 : (((T140 l0_2 x14_1).f0) != 1) = true := bne_iff_ne.mpr c7
     by_cases c11 : x5_1 = true
     ·subst c11
      rw [if_pos rfl] at H
      obtain ⟨ji12, hji12⟩ : ∃ j_ : Int, (wrap64 ((x3_1.length : Int) - 1)) = j_ := ⟨_, rfl⟩
      rw [hji12] at H
      have hji12w : (IntKind.i64.wrap ((x3_1.length : Int) - 1)) = ji12 := (i64_w _).trans hji12
      obtain ⟨c13, H⟩ := itn H
      have c13b0 := decide_eq_true c13
      clear c13
      obtain ⟨c14, H⟩ := itn H
      have c14b0 := decide_eq_true c14
      clear c14
      by_cases c15 : ((T140 l0_2 x14_1).f0) = 2
      ·rw [if_pos c15] at H
       have c15b0 : (((T140 l0_2 x14_1).f0) == 2) = true := beq_iff_eq.mpr c15
       have c15b1 : (((T140 l0_2 x14_1).f0) != 2) = false := bne_eq_false_iff_eq.mpr c15
       clear c15
       obtain ⟨y424, hy424⟩ : ∃ y_ : List (S106), y_ = (x3_1.set ((ji12) : Int).toNat (⟨(T106 x3_1 (ji12)).f0, wrap64 (((T106 x3_1 (ji12)).f1) + 1), (T106 x3_1 (ji12)).f2⟩ : S106)) := ⟨_, rfl⟩
       rw [← hy424] at H
       have Ny424 := am hy424
       clear hy424
       have H' := am H
       clear H
       have p420 : 0 ≤ (x14_1 : Int) := oa
       have q420 : x14_1 < (l0_2.length : Int) := oa
       obtain ⟨ad420, e420, hx420_0, hx420_1⟩ := at_T140 HR0_2.out x14_1 p420 q420
       cases e420
       replace hx420_0 := bc HB.out hx420_0
       replace hx420_1 := bc HB.out hx420_1
       replace p420 := eq_true p420
       replace q420 := eq_true q420
       go_wp2_with (first | ((with_reducible refine gate_dst (N := 7) rfl ?_); refine box_event ?hg (N := 7) ?hd (cs := #[.int .i64 0, .string (⟨#[]⟩ : ByteArray)]) (t := 140) ?hr ?_; (case hd => rfl); (case hg => rfl); (case hr => (go_simp; done)); intro gb421 hg w17 hbox hb; replace HO_3 := am (Kd.S_below (zs HO_3.out) hb); have BK421 := am (hbox); have GW421 := am ((by rw [hg]; exact (below_size (by repeat ((with_reducible exact HB.out)))) : w.heap.size ≤ gb421)); have GE421 := am ((by rw [hg]; exact (below_size (by repeat ((with_reducible exact HB.out)))) : w.heap.size ≤ gb421)); replace HB := am (below_step (by repeat ((with_reducible exact HB.out))) hb); have NB419_421 := am ((by rw [hg]; exact Nat.ne_of_lt (blk_lt (g := gb419) (o := .cells #[.int .i64 a0_0, .int .i64 a0_1, .slice (some ad420) l0_2.length c0_2] 73 (0, 0)) (zk BK419.out)) : gb419 ≠ gb421)); have NB421_419 := am ((by rw [hg]; exact Nat.ne_of_gt (blk_lt (g := gb419) (o := .cells #[.int .i64 a0_0, .int .i64 a0_1, .slice (some ad420) l0_2.length c0_2] 73 (0, 0)) (zk BK419.out)) : gb421 ≠ gb419)); replace BK419 := am (blk_below (g := gb419) (o := .cells #[.int .i64 a0_0, .int .i64 a0_1, .slice (some ad420) l0_2.length c0_2] 73 (0, 0)) (zk BK419.out) hb); clear hb hbox hg; have hnb18 := NB421_419.out; have hnc18 := NB419_421.out; obtain ⟨hcz19_0, hcz19_1⟩ := cz2 BK421.out; obtain ⟨hfz19_0, hfz19_1⟩ := fz2 BK421.out) | ((with_reducible refine gate_store (t := 140) (p := 7) rfl ?_); refine store_event (t := 140) (p := 7) (v := ?vo_w20) (w1 := ((w17.setCell ⟨gb421, 0, none⟩ (.int .i64 ((T140 l0_2 x14_1).f0))).setCell ⟨gb421, 1, none⟩ (.string ((T140 l0_2 x14_1).f1)))) ?hg ?ho ?hn ?hr ?_; (case ho => rfl); (case hg => rfl); (case hn => rfl); (case hr => (go_simp; done)); intro w20 hw; have n0_ : Aside0 (Kd.S k106 106 w20 w.heap.size (fun _ => True) u3 x3_1) := ⟨(by rw [hw]; exact (by exact Kd.S_mono (Kd.S_far (p := ⟨gb421, 1, none⟩) (Kd.S_far (p := ⟨gb421, 0, none⟩) (Kd.S_types HO_3.out BK421.out (by decide)) (fun _ hk => hk.2) (.int .i64 ((T140 l0_2 x14_1).f0))) (fun _ hk => hk.2) (.string ((T140 l0_2 x14_1).f1))) (fun _ hk => trivial)))⟩; have n1_ : Aside0 (w20.heap[gb419]? = some (.cells #[.int .i64 a0_0, .int .i64 a0_1, .slice (some ad420) l0_2.length c0_2] 73 (0, 0))) := ⟨(by rw [hw]; exact (by refine blk_far ?_ NB419_421.out _; refine blk_far ?_ NB419_421.out _; exact BK419.out))⟩; have n2_ : Aside0 (w20.heap[gb421]? = some (.cells #[.int .i64 ((T140 l0_2 x14_1).f0), .string ((T140 l0_2 x14_1).f1)] 140 (0, 0))) := ⟨(by rw [hw]; exact (by refine blk_put (cs := #[.int .i64 ((T140 l0_2 x14_1).f0), .string (⟨#[]⟩ : ByteArray)]) ?_ 1 _ rfl; refine blk_put (cs := #[.int .i64 0, .string (⟨#[]⟩ : ByteArray)]) ?_ 0 _ rfl; exact BK421.out))⟩; have n3_ : Aside0 (Below w.heap.size w w20) := ⟨(by rw [hw]; exact (by repeat ((with_reducible first | exact HB.out | refine below_set ?_ GE421.out))))⟩; clear hw; clear HO_3; clear BK419; clear BK421; clear HB; have HO_3 := n0_; have BK419 := n1_; have BK421 := n2_; have HB := n3_; clear n0_ n1_ n2_ n3_; obtain ⟨hcz21_0, hcz21_1⟩ := cz2 BK421.out; obtain ⟨hfz21_0, hfz21_1⟩ := fz2 BK421.out; obtain ⟨Ao22, co22, eo22⟩ := Kd.S_slice HO_3.out; subst eo22; have p422 : 0 ≤ ((ji12) : Int) := oa; have q422 : (ji12) < (x3_1.length : Int) := oa; obtain ⟨ad422, A422_2, c422_2, e422, hx422_0, hx422_1, hx422_2, hl422_2, hi422_2⟩ := at_T106 (Kd.S_reads' HO_3.out).2.2 (ji12) p422 q422; cases e422; obtain ⟨ce422, hce422, hMe422, hcc422⟩ := Kd.S_get HO_3.out z106 (ji12) p422 (by exact q422); obtain ⟨ve422_2, rfl, ge422_2⟩ := k106_openM hMe422; have hv422_2 := hcc422 2 _ rfl; rw [add_field _ _ 2 (by omega)] at hv422_2; replace hv422_2 := Option.some.inj (hv422_2.symm.trans hx422_2); rw [hv422_2] at ge422_2; have HL422_2 := am (show Kd.R Kd.string 9 _ _ _ _ ((T106 x3_1 (ji12)).f2) from ge422_2); clear hv422_2 ge422_2; have HX422_2 := am hx422_2; clear hcc422 hce422; have HR422_2 := am hi422_2; have HC422_2 := am hl422_2; clear hi422_2 hl422_2; replace p422 := eq_true p422; replace q422 := eq_true q422; have p423 : 0 ≤ ((ji12) : Int) := oa; have q423 : (ji12) < (x3_1.length : Int) := oa; obtain ⟨ad423, A423_2, c423_2, e423, hx423_0, hx423_1, hx423_2, hl423_2, hi423_2⟩ := at_T106 (Kd.S_reads' HO_3.out).2.2 (ji12) p423 q423; obtain rfl : ad422 = ad423 := (by injection e423); obtain ⟨ce423, hce423, hMe423, hcc423⟩ := Kd.S_get HO_3.out z106 (ji12) p423 (by exact q423); obtain ⟨ve423_2, rfl, ge423_2⟩ := k106_openM hMe423; have hv423_2 := hcc423 2 _ rfl; rw [add_field _ _ 2 (by omega)] at hv423_2; replace hv423_2 := Option.some.inj (hv423_2.symm.trans hx423_2); rw [hv423_2] at ge423_2; have HL423_2 := am (show Kd.R Kd.string 9 _ _ _ _ ((T106 x3_1 (ji12)).f2) from ge423_2); clear hv423_2 ge423_2; have HX423_2 := am hx423_2; clear hcc423 hce423; have HR423_2 := am hi423_2; have HC423_2 := am hl423_2; clear hi423_2 hl423_2; replace p423 := eq_true p423; replace q423 := eq_true q423; have ea_ := Option.some.inj (hx422_2.symm.trans hx423_2); injection ea_ with ea_ en_ ec_; subst ea_; subst ec_; clear en_; have p16 : 0 ≤ ((ji12) : Int) := oa; have q16 : ((ji12) : Int) < ((x3_1.length : Int) : Int) := oa; obtain ⟨go16, co16, eo16, gb16, gl16, cl16, HG16⟩ := Kd.S_form HO_3.out (by omega); (cases eo16); have GB16 := am gb16; have GG16 := am HG16; clear gb16 gl16 HG16; (simp only [add_plain] at hx422_0); (simp only [add_plain] at hx422_1); (simp only [add_plain] at hx422_2); (simp only [add_plain] at hx423_0); (simp only [add_plain] at hx423_1); (simp only [add_plain] at hx423_2); obtain ⟨_, ce16, hcl16, hM16, hcc16, hfr16, _, _⟩ := Kd.S_elem HO_3.out z106 ((ji12) : Int) p16 q16; obtain ⟨ve16_2, rfl, ge16_2⟩ := k106_openM hM16; have hx16_0 : w20.cell? ⟨go16, ((ji12) : Int).toNat * 3, none⟩ = some (.int .i64 ((T106 x3_1 (ji12)).f0)) := hcc16 0 _ rfl; have hx16_1 : w20.cell? ⟨go16, ((ji12) : Int).toNat * 3 + 1, none⟩ = some (.int .i64 ((T106 x3_1 (ji12)).f1)) := hcc16 1 _ rfl; have hx16_2 : w20.cell? ⟨go16, ((ji12) : Int).toNat * 3 + 2, none⟩ = some (ve16_2) := hcc16 2 _ rfl; have hf16_0 : w20.frozen? ⟨go16, ((ji12) : Int).toNat * 3, none⟩ = false := hfr16 0; have hf16_1 : w20.frozen? ⟨go16, ((ji12) : Int).toNat * 3 + 1, none⟩ = false := hfr16 1; have hf16_2 : w20.frozen? ⟨go16, ((ji12) : Int).toNat * 3 + 2, none⟩ = false := hfr16 2; clear hcl16 hcc16 hfr16; (try clear hM16); replace p16 := eq_true p16; replace q16 := eq_true q16; have HX23 := am (show Kd.S k106 106 w20 w.heap.size (fun k_ => ((fun _ => True)) k_ ∧ ¬ ((fun _ => False)) k_) (.slice (some ⟨go16, 0, none⟩) x3_1.length co22) x3_1 from (by exact Kd.S_mono HO_3.out (fun k_ hk => ⟨trivial, fun e_ => e_⟩))); obtain ⟨oki23, ce23, hcl23, hM23, hcc23, hfr23, hoki23, hH23⟩ := Kd.S_elem HX23.out z106 ((ji12) : Int) oa (by have h_ : ((ji12) : Int) < ((x3_1.length : Int) : Int) := oa; exact h_); obtain ⟨ve23_2, rfl, ge23_2⟩ := k106_openM hM23; have HP23 := Kd.S_seg hH23 oa (by have h_ : ((ji12) : Int) < ((x3_1.length : Int) : Int) := oa; exact h_) (seg := [.int .i64 (wrap64 (((T106 x3_1 (ji12)).f1) + 1))]) (j := 1) (show 2 ≤ 3 from by decide) (x' := (⟨(T106 x3_1 (ji12)).f0, wrap64 (((T106 x3_1 (ji12)).f1) + 1), (T106 x3_1 (ji12)).f2⟩ : S106)) (k106_mkM _ _ _ (⟨(T106 x3_1 (ji12)).f0, wrap64 (((T106 x3_1 (ji12)).f1) + 1), (T106 x3_1 (ji12)).f2⟩ : S106) (Kd.R_mono ge23_2 (fun _ h_ => Or.inl h_))) (fun _ hk => hk) (fun k_ hk_ => hk_.elim); have hx23_1 := hcc23 1 _ rfl; (try simp only [show (k106).sz = 3 from rfl, Nat.mul_one, Nat.add_zero] at hx23_1); have hf23_1 := hfr23 1; (try simp only [show (k106).sz = 3 from rfl, Nat.mul_one, Nat.add_zero] at hf23_1); clear hcl23 hcc23 hfr23 hoki23 hH23; (try clear hM23)) | ((with_reducible refine gate_store (t := 3) (p := 44) rfl ?_); refine store_event (t := 3) (p := 44) (v := ?vo_w24) (w1 := (w20.setCell ⟨go16, ((ji12) : Int).toNat * 3 + 1, none⟩ (.int .i64 (wrap64 (((T106 x3_1 (ji12)).f1) + 1))))) ?hg ?ho ?hn ?hr ?_; (case ho => rfl); (case hg => rfl); (case hn => rfl); (case hr => (go_simp; done)); intro w24 hw; have hg : w20.grownBy w24 (some go16) := (by rw [hw]; exact HP23.2); have hp_ : Kd.S k106 106 w24 w.heap.size (fun _ => True) (.slice (some ⟨go16, 0, none⟩) x3_1.length co22) y424 := (by rw [hw, Ny424.out]; exact HP23.1); clear HP23; replace BK419 := am (blk_grown (g := gb419) (o := .cells #[.int .i64 a0_0, .int .i64 a0_1, .slice (some ad420) l0_2.length c0_2] 73 (0, 0)) (zk BK419.out) hg (Kd.S_ne HO_3.out BK419.out (by decide))); replace BK421 := am (blk_grown (g := gb421) (o := .cells #[.int .i64 ((T140 l0_2 x14_1).f0), .string ((T140 l0_2 x14_1).f1)] 140 (0, 0)) (zk BK421.out) hg (Kd.S_ne HO_3.out BK421.out (by decide))); replace HO_3 := am (hp_); replace HL422_2 := am (Kd.R_after (v := (.slice (some ⟨go16, 0, none⟩) x3_1.length co22)) (v1 := (.slice (some ⟨go16, 0, none⟩) x3_1.length co22)) (ok := (fun _ => True)) (zr HL422_2.out) hg (.inl rfl)); replace HL423_2 := am (Kd.R_after (v := (.slice (some ⟨go16, 0, none⟩) x3_1.length co22)) (v1 := (.slice (some ⟨go16, 0, none⟩) x3_1.length co22)) (ok := (fun _ => True)) (zr HL423_2.out) hg (.inl rfl)); replace HB := am ((by rw [hw]; exact below_set (HB.out) GB16.out : Below w.heap.size w w24)); clear hg hw hp_))
       go_roundg k1
       case measure => have := HK1.out; omega
       case rel => exact ⟨(y424), (wrap64 (x4_1 + 1)), (true), (wrap64 (x14_1 + 1)), zf, zf, zf, H', ⟨by have := HK1.out; omega⟩, ⟨by exact HO_3.out⟩, ⟨by exact BK419.out⟩, ⟨by repeat ((with_reducible exact HB.out))⟩⟩
      ·rw [if_neg c15] at H
       have c15b0 : (((T140 l0_2 x14_1).f0) == 2) = false := beq_eq_false_iff_ne.mpr c15
       have c15b1 : (((T140 l0_2 x14_1).f0) != 2) = true := bne_iff_ne.mpr c15
       obtain ⟨c25, H⟩ := itn H
       have LMc25 := am c25
       clear c25
       obtain ⟨y426, hy426⟩ : ∃ y_ : List ByteArray, y_ = (((T106 x3_1 (ji12)).f2) ++ [(T140 l0_2 x14_1).f1]) := ⟨_, rfl⟩
       rw [← hy426] at H
       have Ny426 := am hy426
       clear hy426
       obtain ⟨y429, hy429⟩ : ∃ y_ : List (S106), y_ = (x3_1.set ((ji12) : Int).toNat (⟨(T106 x3_1 (ji12)).f0, (T106 x3_1 (ji12)).f1, y426⟩ : S106)) := ⟨_, rfl⟩
       rw [← hy429] at H
       have Ny429 := am hy429
       clear hy429
       have H' := am H
       clear H
       have p420 : 0 ≤ (x14_1 : Int) := oa
       have q420 : x14_1 < (l0_2.length : Int) := oa
       obtain ⟨ad420, e420, hx420_0, hx420_1⟩ := at_T140 HR0_2.out x14_1 p420 q420
       cases e420
       replace hx420_0 := bc HB.out hx420_0
       replace hx420_1 := bc HB.out hx420_1
       replace p420 := eq_true p420
       replace q420 := eq_true q420
       try go_wp2_with (first | ((with_reducible refine gate_dst (N := 7) rfl ?_); refine box_event ?hg (N := 7) ?hd (cs := #[.int .i64 0, .string (⟨#[]⟩ : ByteArray)]) (t := 140) ?hr ?_; (case hd => rfl); (case hg => rfl); (case hr => (go_simp; done)); intro gb421 hg w27 hbox hb; replace HO_3 := am (Kd.S_below (zs HO_3.out) hb); have BK421 := am (hbox); have GW421 := am ((by rw [hg]; exact (below_size (by repeat ((with_reducible exact HB.out)))) : w.heap.size ≤ gb421)); have GE421 := am ((by rw [hg]; exact (below_size (by repeat ((with_reducible exact HB.out)))) : w.heap.size ≤ gb421)); replace HB := am (below_step (by repeat ((with_reducible exact HB.out))) hb); have NB419_421 := am ((by rw [hg]; exact Nat.ne_of_lt (blk_lt (g := gb419) (o := .cells #[.int .i64 a0_0, .int .i64 a0_1, .slice (some ad420) l0_2.length c0_2] 73 (0, 0)) (zk BK419.out)) : gb419 ≠ gb421)); have NB421_419 := am ((by rw [hg]; exact Nat.ne_of_gt (blk_lt (g := gb419) (o := .cells #[.int .i64 a0_0, .int .i64 a0_1, .slice (some ad420) l0_2.length c0_2] 73 (0, 0)) (zk BK419.out)) : gb421 ≠ gb419)); replace BK419 := am (blk_below (g := gb419) (o := .cells #[.int .i64 a0_0, .int .i64 a0_1, .slice (some ad420) l0_2.length c0_2] 73 (0, 0)) (zk BK419.out) hb); clear hb hbox hg; have hnb28 := NB421_419.out; have hnc28 := NB419_421.out; obtain ⟨hcz29_0, hcz29_1⟩ := cz2 BK421.out; obtain ⟨hfz29_0, hfz29_1⟩ := fz2 BK421.out) | ((with_reducible refine gate_store (t := 140) (p := 7) rfl ?_); refine store_event (t := 140) (p := 7) (v := ?vo_w30) (w1 := ((w27.setCell ⟨gb421, 0, none⟩ (.int .i64 ((T140 l0_2 x14_1).f0))).setCell ⟨gb421, 1, none⟩ (.string ((T140 l0_2 x14_1).f1)))) ?hg ?ho ?hn ?hr ?_; (case ho => rfl); (case hg => rfl); (case hn => rfl); (case hr => (go_simp; done)); intro w30 hw; have n0_ : Aside0 (Kd.S k106 106 w30 w.heap.size (fun _ => True) u3 x3_1) := ⟨(by rw [hw]; exact (by exact Kd.S_mono (Kd.S_far (p := ⟨gb421, 1, none⟩) (Kd.S_far (p := ⟨gb421, 0, none⟩) (Kd.S_types HO_3.out BK421.out (by decide)) (fun _ hk => hk.2) (.int .i64 ((T140 l0_2 x14_1).f0))) (fun _ hk => hk.2) (.string ((T140 l0_2 x14_1).f1))) (fun _ hk => trivial)))⟩; have n1_ : Aside0 (w30.heap[gb419]? = some (.cells #[.int .i64 a0_0, .int .i64 a0_1, .slice (some ad420) l0_2.length c0_2] 73 (0, 0))) := ⟨(by rw [hw]; exact (by refine blk_far ?_ NB419_421.out _; refine blk_far ?_ NB419_421.out _; exact BK419.out))⟩; have n2_ : Aside0 (w30.heap[gb421]? = some (.cells #[.int .i64 ((T140 l0_2 x14_1).f0), .string ((T140 l0_2 x14_1).f1)] 140 (0, 0))) := ⟨(by rw [hw]; exact (by refine blk_put (cs := #[.int .i64 ((T140 l0_2 x14_1).f0), .string (⟨#[]⟩ : ByteArray)]) ?_ 1 _ rfl; refine blk_put (cs := #[.int .i64 0, .string (⟨#[]⟩ : ByteArray)]) ?_ 0 _ rfl; exact BK421.out))⟩; have n3_ : Aside0 (Below w.heap.size w w30) := ⟨(by rw [hw]; exact (by repeat ((with_reducible first | exact HB.out | refine below_set ?_ GE421.out))))⟩; clear hw; clear HO_3; clear BK419; clear BK421; clear HB; have HO_3 := n0_; have BK419 := n1_; have BK421 := n2_; have HB := n3_; clear n0_ n1_ n2_ n3_; obtain ⟨hcz31_0, hcz31_1⟩ := cz2 BK421.out; obtain ⟨hfz31_0, hfz31_1⟩ := fz2 BK421.out; obtain ⟨Ao32, co32, eo32⟩ := Kd.S_slice HO_3.out; subst eo32; have p422 : 0 ≤ ((ji12) : Int) := oa; have q422 : (ji12) < (x3_1.length : Int) := oa; obtain ⟨ad422, A422_2, c422_2, e422, hx422_0, hx422_1, hx422_2, hl422_2, hi422_2⟩ := at_T106 (Kd.S_reads' HO_3.out).2.2 (ji12) p422 q422; cases e422; obtain ⟨ce422, hce422, hMe422, hcc422⟩ := Kd.S_get HO_3.out z106 (ji12) p422 (by exact q422); obtain ⟨ve422_2, rfl, ge422_2⟩ := k106_openM hMe422; have hv422_2 := hcc422 2 _ rfl; rw [add_field _ _ 2 (by omega)] at hv422_2; replace hv422_2 := Option.some.inj (hv422_2.symm.trans hx422_2); rw [hv422_2] at ge422_2; have HL422_2 := am (show Kd.R Kd.string 9 _ _ _ _ ((T106 x3_1 (ji12)).f2) from ge422_2); clear hv422_2 ge422_2; have HX422_2 := am hx422_2; clear hcc422 hce422; have HR422_2 := am hi422_2; have HC422_2 := am hl422_2; clear hi422_2 hl422_2; replace p422 := eq_true p422; replace q422 := eq_true q422))
       replace HO_3 := am (Kd.S_drew HO_3.out)
       replace HL422_2 := am (Kd.R_drew HL422_2.out)
       replace BK419 := am (blk_drew BK419.out)
       replace BK421 := am (blk_drew BK421.out)
       replace HR422_2 := am (Kd.C_drew HR422_2.out)
       replace HB := am (below_drew1 HB.out)
       have p425 : 0 ≤ ((ji12) : Int) := oa
       have q425 : (ji12) < (x3_1.length : Int) := oa
       obtain ⟨ad425, A425_2, c425_2, e425, hx425_0, hx425_1, hx425_2, hl425_2, hi425_2⟩ := at_T106 (Kd.S_reads' HO_3.out).2.2 (ji12) p425 q425
       obtain rfl : ad422 = ad425 := (by injection e425)
       obtain ⟨ce425, hce425, hMe425, hcc425⟩ := Kd.S_get HO_3.out z106 (ji12) p425 (by exact q425)
       obtain ⟨ve425_2, rfl, ge425_2⟩ := k106_openM hMe425
       have hv425_2 := hcc425 2 _ rfl
       rw [add_field _ _ 2 (by omega)] at hv425_2
       replace hv425_2 := Option.some.inj (hv425_2.symm.trans hx425_2)
       rw [hv425_2] at ge425_2
       have HL425_2 := am (show Kd.R Kd.string 9 _ _ _ _ ((T106 x3_1 (ji12)).f2) from ge425_2)
       clear hv425_2 ge425_2
       have HX425_2 := am hx425_2
       clear hcc425 hce425
       have HR425_2 := am hi425_2
       have HC425_2 := am hl425_2
       clear hi425_2 hl425_2
       replace p425 := eq_true p425
       replace q425 := eq_true q425
       obtain ⟨go34, co34, eo34, gb34, gl34, cl34, HG34⟩ := Kd.S_form HO_3.out (by have h_ : ((ji12) : Int) < ((x3_1.length : Int) : Int) := oa; have h2_ : 0 ≤ ((ji12) : Int) := oa; omega)
       (cases eo34)
       have GB34 := am gb34
       have GG34 := am HG34
       clear gb34 gl34 HG34
       (simp only [add_plain] at hx422_0)
       (simp only [add_plain] at hx422_1)
       (simp only [add_plain] at hx422_2)
       (simp only [add_plain] at hx425_0)
       (simp only [add_plain] at hx425_1)
       (simp only [add_plain] at hx425_2)
       obtain ⟨oki34, ce34, hcl34, hM34, hcc34, _, _, hH34⟩ := Kd.S_elem HO_3.out z106 ((ji12) : Int) oa (by have h_ : ((ji12) : Int) < ((x3_1.length : Int) : Int) := oa; exact h_)
       obtain ⟨ve34_2, rfl, ge34_2⟩ := k106_openM hM34
       have hv34 := hcc34 2 _ rfl
       have hX34 := HX425_2.out
       (try simp only [add_plain] at hX34)
       replace hv34 := Option.some.inj (hv34.symm.trans hX34)
       subst hv34
       clear hX34 hcc34 hcl34
       have UU34 := am (show Kd.R Kd.string 9 _ w.heap.size oki34 (.slice A425_2 ((T106 x3_1 (ji12)).f2).length c425_2) ((T106 x3_1 (ji12)).f2) from ge34_2)
       have HH34 := am hH34
       have HN34 := am (Kd.S_reads' HO_3.out).1
       clear hH34 ge34_2
       refine start_ (n := 12) (S := fun w' => w'.cell? ⟨gb421, 0, none⟩ = some (.int .i64 ((T140 l0_2 x14_1).f0)) ∧ w'.cell? ⟨gb421, 1, none⟩ = some (.string ((T140 l0_2 x14_1).f1)) ∧ w'.cell? ⟨go34, (ji12).toNat * 3, none⟩ = some (.int .i64 ((T106 x3_1 (ji12)).f0)) ∧ w'.cell? ⟨go34, (ji12).toNat * 3 + 1, none⟩ = some (.int .i64 ((T106 x3_1 (ji12)).f1)) ∧ w'.cell? ⟨go34, (ji12).toNat * 3 + 2, none⟩ = some (.slice A425_2 ((T106 x3_1 (ji12)).f2).length c425_2)) (ds := [11]) #[O,O,O,O,O,O,O,O,O,O,O,O] (by kernel_rfl) rfl rfl ⟨(blk_cell BK421.out 0).trans rfl, (blk_cell BK421.out 1).trans rfl, hx425_0, hx425_1, hx425_2⟩ (fun hHeld => ?_); refine with_tabW spec_l6Hunks.tab17 spec_l6Hunks.bits17 (fun HT_ HW_ => ?_)
       generalize w30.drew = w33 at HO_3 HL422_2 BK419 BK421 HR422_2 HB GG34 HH34 HL425_2 HR425_2 HX425_2 UU34 hx422_0 hx422_1 hx422_2 hx425_0 hx425_1 hx425_2 hHeld ⊢
       refine pu 0 (some 47) ?_
       refine pu 1 (some 48) ?_
       refine pu 2 (some 49) ?_
       refine pu 3 (some 50) ?_
       refine pu 5 (some 52) ?_
       refine ta 4 (some 51) ?_
       refine ta 6 (some 53) ?_
       refine one_ (i := 7) (N := some 54) #[Y,Y,Y,Y,Y,Y,Y,Y,O,O,O,O] rfl rfl (one_of HT_.out (by kernel_rfl)) (by decide) (fun K hK => ?_)
       refine value_ (w1 := ?_) (v := ?_) (by rfl) rfl ?_ ?_
       rotate_left 2
       ·go_simp
        constructor
        ·rfl
        ·rfl
       refine hK.out _ _ ⟨(blk_cell (blk_alloc BK421.out _) 0).trans rfl, (blk_cell (blk_alloc BK421.out _) 1).trans rfl, (World.cell?_alloc_lt _ _ _ (World.block_lt_of_cell? _ _ (hHeld.2.2.1))).trans (hHeld.2.2.1), (World.cell?_alloc_lt _ _ _ (World.block_lt_of_cell? _ _ (hHeld.2.2.2.1))).trans (hHeld.2.2.2.1), (World.cell?_alloc_lt _ _ _ (World.block_lt_of_cell? _ _ (hHeld.2.2.2.2))).trans (hHeld.2.2.2.2)⟩ (fun hHeld => ?_)
       clear hK K
       refine norm_ (a' := ?_) ?_ ?_
       rotate_left
       ·show Act.put _ (some 54) _ = _
        simp only [Act.put,qa,qb,qc,i64_w,i32_w]
        rfl
       refine one_ (i := 8) (N := some 55) #[Y,Y,Y,Y,Y,Y,Y,Y,Y,O,O,O] rfl rfl (one_of HT_.out (by kernel_rfl)) (by decide) (fun K hK => ?_)
       refine Kd.R_append_step Kd.string (w0 := w) w.heap.size (by rfl) (.tmp 51) (.tmp 54) 24 9 (.string ⟨#[]⟩) 16 rfl Try.underlying24 info9 rfl (by decide) (by omega) (.slice A425_2 ((T106 x3_1 (ji12)).f2).length c425_2) ((T106 x3_1 (ji12)).f2) ((T140 l0_2 x14_1).f1) [.string ((T140 l0_2 x14_1).f1)] (fun k_ => oki34 k_ ∨ ((fun _ => True)) k_ ∧ w33.heap.size ≤ k_) (fun _ => False) rfl rfl ?aP (fun _ hk => hk.elim) ?aF ?aO ?aB ?aS ?aL ?_
       (case aP => exact rfl)
       (case aB => exact (by repeat ((with_reducible exact HB.out))))
       (case aF => exact (fun k_ hk => .inr ⟨trivial, hk⟩))
       (case aO => exact (by exact Kd.R_mono UU34.out (fun _ hk => .inl hk)))
       (case aS => exact (below_size (by repeat ((with_reducible exact HB.out)))))
       (case aL => have := LMc25.out; omega)
       intro v427 w35 ho hb hg hat
       (have HS2_ := cell_grown hg (cell_unalloc (hHeld.2.2.1) (by exact Kd.S_lt HO_3.out _ rfl)) (by exact (fun e_ => ((HL425_2.out.1 _ e_.symm).2) rfl)))
       (have HS3_ := cell_grown hg (cell_unalloc (hHeld.2.2.2.1) (by exact Kd.S_lt HO_3.out _ rfl)) (by exact (fun e_ => ((HL425_2.out.1 _ e_.symm).2) rfl)))
       (have HS4_ := cell_grown hg (cell_unalloc (hHeld.2.2.2.2) (by exact Kd.S_lt HO_3.out _ rfl)) (by exact (fun e_ => ((HL425_2.out.1 _ e_.symm).2) rfl)))
       rw [← Ny426.out] at ho
       replace BK419 := am (blk_grown (g := gb419) (o := .cells #[.int .i64 a0_0, .int .i64 a0_1, .slice (some ad420) l0_2.length c0_2] 73 (0, 0)) (zk BK419.out) hg (Kd.R_ne HL425_2.out BK419.out (by decide)))
       replace BK421 := am (blk_grown (g := gb421) (o := .cells #[.int .i64 ((T140 l0_2 x14_1).f0), .string ((T140 l0_2 x14_1).f1)] 140 (0, 0)) (zk BK421.out) hg (Kd.R_ne HL425_2.out BK421.out (by decide)))
       replace HB := am (hb)
       replace HH34 := am (Kd.H_grown (Kd.H_widen (by repeat (exact HH34.out))) hg (fun k_ e_ => .inl (UU34.out.1 k_ e_)))
       have HO428 := am (ho)
       clear HO_3
       clear UU34
       clear HL422_2
       clear HL425_2
       clear ho hb hg hat
       have p26 : 0 ≤ ((ji12) : Int) := oa
       have q26 : ((ji12) : Int) < ((x3_1.length : Int) : Int) := oa
       replace p26 := eq_true p26
       replace q26 := eq_true q26
       obtain ⟨Ao38, co38, eo38⟩ := Kd.R_slice HO428.out
       (subst eo38)
       obtain ⟨_, _, hraw36, _, _, hcc36, _⟩ := Kd.H_raw HH34.out oa (by have h_ : ((ji12) : Int) < ((x3_1.length : Int) : Int) := oa; exact h_)
       obtain ⟨_, hfr36⟩ := Kd.H_at HH34.out oa (by have h_ : ((ji12) : Int) < ((x3_1.length : Int) : Int) := oa; exact h_)
       have hx36_0 := hcc36 2 _ rfl
       have hf36_0 := hfr36 2
       (try rw [show (k106).sz = 3 from rfl] at hx36_0)
       (try rw [show (k106).sz = 3 from rfl] at hf36_0)
       have HP36 := Kd.S_seg0 HH34.out oa (by have h_ : ((ji12) : Int) < ((x3_1.length : Int) : Int) := oa; exact h_) (seg := [.slice Ao38 y426.length co38]) (j := 2) (show 3 ≤ 3 from by decide) (x' := (⟨(T106 x3_1 (ji12)).f0, (T106 x3_1 (ji12)).f1, y426⟩ : S106)) (k106_mkM _ _ _ (⟨(T106 x3_1 (ji12)).f0, (T106 x3_1 (ji12)).f1, y426⟩ : S106) HO428.out) (fun _ hk => hk)
       clear hcc36 hfr36
       have HNB419_go34 := am (show gb419 ≠ go34 from by have h_ := Kd.R_ne hraw36 BK419.out (by decide); intro e_; exact h_ (by rw [e_]; rfl))
       have HNB421_go34 := am (show gb421 ≠ go34 from by have h_ := Kd.R_ne hraw36 BK421.out (by decide); intro e_; exact h_ (by rw [e_]; rfl))
       have HS36 := HP36.1
       rw [← Ny429.out] at HS36
       have HQ36 := am HS36
       obtain ⟨_, hgg36⟩ := Kd.R_typed hraw36 go34 rfl
       have GG36_ := am hgg36
       clear HP36 HS36 hgg36
       refine hK.out _ _ ⟨(blk_cell BK421.out 0).trans rfl, (blk_cell BK421.out 1).trans rfl, HS2_, HS3_, HS4_⟩ (fun hHeld => ?_)
       clear hK K
       refine norm_ (a' := ?_) ?_ ?_
       rotate_left
       ·show Act.put _ (some 55) _ = _
        simp only [Act.put,qa,qb,qc,i64_w,i32_w]
        rfl
       refine pu 9 (some 56) ?_
       refine pu 10 (some 57) ?_
       refine last_ (i := 11) (N := none) #[Y,Y,Y,Y,Y,Y,Y,Y,Y,Y,Y,Y] rfl rfl (one_of HT_.out (by kernel_rfl)) (by decide) (fun K hK => ?_)
       refine skip_ (w1 := ?_) (by rfl) rfl ?_ ?_
       rotate_left
       ·go_simp
        rfl
       refine hK.out _ _ ?_
       clear hK K
       refine done_ (done_of HT_.out (by kernel_rfl)) ?_
       try go_wp2
       go_roundg k1
       case measure => have := HK1.out; omega
       case rel => exact ⟨(y429), (x4_1), (true), (wrap64 (x14_1 + 1)), zf, zf, zf, H', ⟨by have := HK1.out; omega⟩, ⟨by exact HQ36.out⟩, ⟨by refine blk_far ?_ HNB419_go34.out _; exact BK419.out⟩, ⟨by repeat ((with_reducible first | exact HB.out | refine below_set ?_ GB34.out))⟩⟩
     ·replace c11 := Bool.eq_false_iff.mpr c11
      subst c11
      rw [if_neg nofun] at H
      obtain ⟨c39, H⟩ := itn H
      have LMc39 := am c39
      clear c39
      obtain ⟨y430, hy430⟩ : ∃ y_ : List (S106), y_ = (x3_1 ++ [(⟨x4_1, 0, ([] : List ByteArray)⟩ : S106)]) := ⟨_, rfl⟩
      replace H : (if 0 ≤ (wrap64 ((y430.length : Int) - 1)) then (if (wrap64 ((y430.length : Int) - 1)) < (y430.length : Int) then (if ((T140 l0_2 x14_1).f0) = 2 then (spec_l6Hunks.l0 k1 (y430.set ((wrap64 ((y430.length : Int) - 1)) : Int).toNat (⟨(T106 y430 (wrap64 ((y430.length : Int) - 1))).f0, wrap64 (((T106 y430 (wrap64 ((y430.length : Int) - 1))).f1) + 1), (T106 y430 (wrap64 ((y430.length : Int) - 1))).f2⟩ : S106)) (wrap64 (x4_1 + 1)) true l0_2 (l0_2.length : Int) (wrap64 (x14_1 + 1))) else (if ((T106 y430 (wrap64 ((y430.length : Int) - 1))).f2).length < 8796093022208 then (spec_l6Hunks.l0 k1 (y430.set ((wrap64 ((y430.length : Int) - 1)) : Int).toNat (⟨(T106 y430 (wrap64 ((y430.length : Int) - 1))).f0, (T106 y430 (wrap64 ((y430.length : Int) - 1))).f1, (((T106 y430 (wrap64 ((y430.length : Int) - 1))).f2) ++ [(T140 l0_2 x14_1).f1])⟩ : S106)) x4_1 true l0_2 (l0_2.length : Int) (wrap64 (x14_1 + 1))) else (none))) else (none)) else (none)) = some r := by (have H2_ := (Option.bind_some _ _).symm.trans H; rw [hy430]; with_reducible exact H2_)
      have Ny430 := am hy430
      clear hy430
      obtain ⟨ji40, hji40⟩ : ∃ j_ : Int, (wrap64 ((y430.length : Int) - 1)) = j_ := ⟨_, rfl⟩
      rw [hji40] at H
      have hji40w : (IntKind.i64.wrap ((y430.length : Int) - 1)) = ji40 := (i64_w _).trans hji40
      obtain ⟨c41, H⟩ := itn H
      have c41b0 := decide_eq_true c41
      clear c41
      obtain ⟨c42, H⟩ := itn H
      have c42b0 := decide_eq_true c42
      clear c42
      by_cases c43 : ((T140 l0_2 x14_1).f0) = 2
      ·rw [if_pos c43] at H
       have c43b0 : (((T140 l0_2 x14_1).f0) == 2) = true := beq_iff_eq.mpr c43
       have c43b1 : (((T140 l0_2 x14_1).f0) != 2) = false := bne_eq_false_iff_eq.mpr c43
       clear c43
       obtain ⟨y435, hy435⟩ : ∃ y_ : List (S106), y_ = (y430.set ((ji40) : Int).toNat (⟨(T106 y430 (ji40)).f0, wrap64 (((T106 y430 (ji40)).f1) + 1), (T106 y430 (ji40)).f2⟩ : S106)) := ⟨_, rfl⟩
       rw [← hy435] at H
       have Ny435 := am hy435
       clear hy435
       have H' := am H
       clear H
       have p420 : 0 ≤ (x14_1 : Int) := oa
       have q420 : x14_1 < (l0_2.length : Int) := oa
       obtain ⟨ad420, e420, hx420_0, hx420_1⟩ := at_T140 HR0_2.out x14_1 p420 q420
       cases e420
       replace hx420_0 := bc HB.out hx420_0
       replace hx420_1 := bc HB.out hx420_1
       replace p420 := eq_true p420
       replace q420 := eq_true q420
       go_wp2_with (first | ((with_reducible refine gate_dst (N := 7) rfl ?_); refine box_event ?hg (N := 7) ?hd (cs := #[.int .i64 0, .string (⟨#[]⟩ : ByteArray)]) (t := 140) ?hr ?_; (case hd => rfl); (case hg => rfl); (case hr => (go_simp; done)); intro gb421 hg w45 hbox hb; replace HO_3 := am (Kd.S_below (zs HO_3.out) hb); have BK421 := am (hbox); have GW421 := am ((by rw [hg]; exact (below_size (by repeat ((with_reducible exact HB.out)))) : w.heap.size ≤ gb421)); have GE421 := am ((by rw [hg]; exact (below_size (by repeat ((with_reducible exact HB.out)))) : w.heap.size ≤ gb421)); replace HB := am (below_step (by repeat ((with_reducible exact HB.out))) hb); have NB419_421 := am ((by rw [hg]; exact Nat.ne_of_lt (blk_lt (g := gb419) (o := .cells #[.int .i64 a0_0, .int .i64 a0_1, .slice (some ad420) l0_2.length c0_2] 73 (0, 0)) (zk BK419.out)) : gb419 ≠ gb421)); have NB421_419 := am ((by rw [hg]; exact Nat.ne_of_gt (blk_lt (g := gb419) (o := .cells #[.int .i64 a0_0, .int .i64 a0_1, .slice (some ad420) l0_2.length c0_2] 73 (0, 0)) (zk BK419.out)) : gb421 ≠ gb419)); replace BK419 := am (blk_below (g := gb419) (o := .cells #[.int .i64 a0_0, .int .i64 a0_1, .slice (some ad420) l0_2.length c0_2] 73 (0, 0)) (zk BK419.out) hb); clear hb hbox hg; have hnb46 := NB421_419.out; have hnc46 := NB419_421.out; obtain ⟨hcz47_0, hcz47_1⟩ := cz2 BK421.out; obtain ⟨hfz47_0, hfz47_1⟩ := fz2 BK421.out) | ((with_reducible refine gateB (b := .append) (xs := #[.tmp 25, .tmp 28]) rfl ?_); at_builtin; refine Kd.S_append k106 (w0 := w) w.heap.size rfl (.tmp 25) (.tmp 28) 42 106 (.agg #[(.int .i64 0), (.int .i64 0), (.slice none 0 0)]) 40 rfl Try.underlying42 info106 rfl (by decide) (by omega) u3 x3_1 (⟨x4_1, 0, ([] : List ByteArray)⟩ : S106) [.int .i64 x4_1, .int .i64 0, .slice none 0 0] (fun _ => True) (fun _ => False) rfl (by (go_simp; done)) ?aP (fun k_ hk_ => hk_.elim) ?aF ?aO ?aB ?aS ?aL ?_; (case aP => exact k106_mkM _ _ _ (⟨x4_1, 0, ([] : List ByteArray)⟩ : S106) (Kd.R_nil _ _ _ _ _)); (case aB => exact (by repeat ((with_reducible first | exact HB.out | refine below_set ?_ GE421.out)))); (case aF => exact (fun _ _ => trivial)); (case aO => exact (by exact Kd.S_mono (Kd.S_far (p := ⟨gb421, 1, none⟩) (Kd.S_far (p := ⟨gb421, 0, none⟩) (Kd.S_types HO_3.out BK421.out (by decide)) (fun _ hk => hk.2) (.int .i64 ((T140 l0_2 x14_1).f0))) (fun _ hk => hk.2) (.string ((T140 l0_2 x14_1).f1))) (fun k_ hk => ⟨trivial, fun e_ => e_⟩))); (case aS => exact (below_size (by repeat ((with_reducible first | exact HB.out | refine below_set ?_ GE421.out))))); (case aL => have := LMc39.out; omega); intro v431 w48 ho hb hg hat; rw [← Ny430.out] at ho; replace BK419 := am (blk_grown (g := gb419) (o := .cells #[.int .i64 a0_0, .int .i64 a0_1, .slice (some ad420) l0_2.length c0_2] 73 (0, 0)) (by refine blk_far ?_ NB419_421.out _; refine blk_far ?_ NB419_421.out _; exact BK419.out) hg (Kd.S_ne HO_3.out BK419.out (by decide))); replace BK421 := am (blk_grown (g := gb421) (o := .cells #[.int .i64 ((T140 l0_2 x14_1).f0), .string ((T140 l0_2 x14_1).f1)] 140 (0, 0)) (by refine blk_put (cs := #[.int .i64 ((T140 l0_2 x14_1).f0), .string (⟨#[]⟩ : ByteArray)]) ?_ 1 _ rfl; refine blk_put (cs := #[.int .i64 0, .string (⟨#[]⟩ : ByteArray)]) ?_ 0 _ rfl; exact BK421.out) hg (Kd.S_ne HO_3.out BK421.out (by decide))); replace HB := am (hb); have HO432 := am (ho); clear HO_3; clear ho hb hg hat; obtain ⟨Ao49, co49, eo49⟩ := Kd.S_slice HO432.out; subst eo49; have p433 : 0 ≤ ((ji40) : Int) := oa; have q433 : (ji40) < (y430.length : Int) := oa; obtain ⟨ad433, A433_2, c433_2, e433, hx433_0, hx433_1, hx433_2, hl433_2, hi433_2⟩ := at_T106 (Kd.S_reads' HO432.out).2.2 (ji40) p433 q433; cases e433; obtain ⟨ce433, hce433, hMe433, hcc433⟩ := Kd.S_get HO432.out z106 (ji40) p433 (by exact q433); obtain ⟨ve433_2, rfl, ge433_2⟩ := k106_openM hMe433; have hv433_2 := hcc433 2 _ rfl; rw [add_field _ _ 2 (by omega)] at hv433_2; replace hv433_2 := Option.some.inj (hv433_2.symm.trans hx433_2); rw [hv433_2] at ge433_2; have HL433_2 := am (show Kd.R Kd.string 9 _ _ _ _ ((T106 y430 (ji40)).f2) from ge433_2); clear hv433_2 ge433_2; have HX433_2 := am hx433_2; clear hcc433 hce433; have HR433_2 := am hi433_2; have HC433_2 := am hl433_2; clear hi433_2 hl433_2; replace p433 := eq_true p433; replace q433 := eq_true q433; obtain ⟨hcz50_0, hcz50_1⟩ := cz2 BK421.out; obtain ⟨hfz50_0, hfz50_1⟩ := fz2 BK421.out; have p434 : 0 ≤ ((ji40) : Int) := oa; have q434 : (ji40) < (y430.length : Int) := oa; obtain ⟨ad434, A434_2, c434_2, e434, hx434_0, hx434_1, hx434_2, hl434_2, hi434_2⟩ := at_T106 (Kd.S_reads' HO432.out).2.2 (ji40) p434 q434; obtain rfl : ad433 = ad434 := (by injection e434); obtain ⟨ce434, hce434, hMe434, hcc434⟩ := Kd.S_get HO432.out z106 (ji40) p434 (by exact q434); obtain ⟨ve434_2, rfl, ge434_2⟩ := k106_openM hMe434; have hv434_2 := hcc434 2 _ rfl; rw [add_field _ _ 2 (by omega)] at hv434_2; replace hv434_2 := Option.some.inj (hv434_2.symm.trans hx434_2); rw [hv434_2] at ge434_2; have HL434_2 := am (show Kd.R Kd.string 9 _ _ _ _ ((T106 y430 (ji40)).f2) from ge434_2); clear hv434_2 ge434_2; have HX434_2 := am hx434_2; clear hcc434 hce434; have HR434_2 := am hi434_2; have HC434_2 := am hl434_2; clear hi434_2 hl434_2; replace p434 := eq_true p434; replace q434 := eq_true q434; have ea_ := Option.some.inj (hx433_2.symm.trans hx434_2); injection ea_ with ea_ en_ ec_; subst ea_; subst ec_; clear en_; have p44 : 0 ≤ ((ji40) : Int) := oa; have q44 : ((ji40) : Int) < ((y430.length : Int) : Int) := oa; obtain ⟨go44, co44, eo44, gb44, gl44, cl44, HG44⟩ := Kd.S_form HO432.out (by omega); (cases eo44); have GB44 := am gb44; have GG44 := am HG44; clear gb44 gl44 HG44; (simp only [add_plain] at hx433_0); (simp only [add_plain] at hx433_1); (simp only [add_plain] at hx433_2); (simp only [add_plain] at hx434_0); (simp only [add_plain] at hx434_1); (simp only [add_plain] at hx434_2); obtain ⟨_, ce44, hcl44, hM44, hcc44, hfr44, _, _⟩ := Kd.S_elem HO432.out z106 ((ji40) : Int) p44 q44; obtain ⟨ve44_2, rfl, ge44_2⟩ := k106_openM hM44; have hx44_0 : w48.cell? ⟨go44, ((ji40) : Int).toNat * 3, none⟩ = some (.int .i64 ((T106 y430 (ji40)).f0)) := hcc44 0 _ rfl; have hx44_1 : w48.cell? ⟨go44, ((ji40) : Int).toNat * 3 + 1, none⟩ = some (.int .i64 ((T106 y430 (ji40)).f1)) := hcc44 1 _ rfl; have hx44_2 : w48.cell? ⟨go44, ((ji40) : Int).toNat * 3 + 2, none⟩ = some (ve44_2) := hcc44 2 _ rfl; have hf44_0 : w48.frozen? ⟨go44, ((ji40) : Int).toNat * 3, none⟩ = false := hfr44 0; have hf44_1 : w48.frozen? ⟨go44, ((ji40) : Int).toNat * 3 + 1, none⟩ = false := hfr44 1; have hf44_2 : w48.frozen? ⟨go44, ((ji40) : Int).toNat * 3 + 2, none⟩ = false := hfr44 2; clear hcl44 hcc44 hfr44; (try clear hM44); replace p44 := eq_true p44; replace q44 := eq_true q44; have HX51 := am (show Kd.S k106 106 w48 w.heap.size (fun k_ => ((fun _ => True)) k_ ∧ ¬ ((fun _ => False)) k_) (.slice (some ⟨go44, 0, none⟩) y430.length co49) y430 from (by exact Kd.S_mono HO432.out (fun k_ hk => ⟨trivial, fun e_ => e_⟩))); obtain ⟨oki51, ce51, hcl51, hM51, hcc51, hfr51, hoki51, hH51⟩ := Kd.S_elem HX51.out z106 ((ji40) : Int) oa (by have h_ : ((ji40) : Int) < ((y430.length : Int) : Int) := oa; exact h_); obtain ⟨ve51_2, rfl, ge51_2⟩ := k106_openM hM51; have HP51 := Kd.S_seg hH51 oa (by have h_ : ((ji40) : Int) < ((y430.length : Int) : Int) := oa; exact h_) (seg := [.int .i64 (wrap64 (((T106 y430 (ji40)).f1) + 1))]) (j := 1) (show 2 ≤ 3 from by decide) (x' := (⟨(T106 y430 (ji40)).f0, wrap64 (((T106 y430 (ji40)).f1) + 1), (T106 y430 (ji40)).f2⟩ : S106)) (k106_mkM _ _ _ (⟨(T106 y430 (ji40)).f0, wrap64 (((T106 y430 (ji40)).f1) + 1), (T106 y430 (ji40)).f2⟩ : S106) (Kd.R_mono ge51_2 (fun _ h_ => Or.inl h_))) (fun _ hk => hk) (fun k_ hk_ => hk_.elim); have hx51_1 := hcc51 1 _ rfl; (try simp only [show (k106).sz = 3 from rfl, Nat.mul_one, Nat.add_zero] at hx51_1); have hf51_1 := hfr51 1; (try simp only [show (k106).sz = 3 from rfl, Nat.mul_one, Nat.add_zero] at hf51_1); clear hcl51 hcc51 hfr51 hoki51 hH51; (try clear hM51)) | ((with_reducible refine gate_store (t := 3) (p := 44) rfl ?_); refine store_event (t := 3) (p := 44) (v := ?vo_w52) (w1 := (w48.setCell ⟨go44, ((ji40) : Int).toNat * 3 + 1, none⟩ (.int .i64 (wrap64 (((T106 y430 (ji40)).f1) + 1))))) ?hg ?ho ?hn ?hr ?_; (case ho => rfl); (case hg => rfl); (case hn => rfl); (case hr => (go_simp; done)); intro w52 hw; have hg : w48.grownBy w52 (some go44) := (by rw [hw]; exact HP51.2); have hp_ : Kd.S k106 106 w52 w.heap.size (fun _ => True) (.slice (some ⟨go44, 0, none⟩) y430.length co49) y435 := (by rw [hw, Ny435.out]; exact HP51.1); clear HP51; replace BK419 := am (blk_grown (g := gb419) (o := .cells #[.int .i64 a0_0, .int .i64 a0_1, .slice (some ad420) l0_2.length c0_2] 73 (0, 0)) (zk BK419.out) hg (Kd.S_ne HO432.out BK419.out (by decide))); replace BK421 := am (blk_grown (g := gb421) (o := .cells #[.int .i64 ((T140 l0_2 x14_1).f0), .string ((T140 l0_2 x14_1).f1)] 140 (0, 0)) (zk BK421.out) hg (Kd.S_ne HO432.out BK421.out (by decide))); replace HO432 := am (hp_); replace HL433_2 := am (Kd.R_after (v := (.slice (some ⟨go44, 0, none⟩) y430.length co49)) (v1 := (.slice (some ⟨go44, 0, none⟩) y430.length co49)) (ok := (fun _ => True)) (zr HL433_2.out) hg (.inl rfl)); replace HL434_2 := am (Kd.R_after (v := (.slice (some ⟨go44, 0, none⟩) y430.length co49)) (v1 := (.slice (some ⟨go44, 0, none⟩) y430.length co49)) (ok := (fun _ => True)) (zr HL434_2.out) hg (.inl rfl)); replace HB := am ((by rw [hw]; exact below_set (HB.out) GB44.out : Below w.heap.size w w52)); clear hg hw hp_))
       go_roundg k1
       case measure => have := HK1.out; omega
       case rel => exact ⟨(y435), (wrap64 (x4_1 + 1)), (true), (wrap64 (x14_1 + 1)), zf, zf, zf, H', ⟨by have := HK1.out; omega⟩, ⟨by exact HO432.out⟩, ⟨by exact BK419.out⟩, ⟨by repeat ((with_reducible exact HB.out))⟩⟩
      ·rw [if_neg c43] at H
       have c43b0 : (((T140 l0_2 x14_1).f0) == 2) = false := beq_eq_false_iff_ne.mpr c43
       have c43b1 : (((T140 l0_2 x14_1).f0) != 2) = true := bne_iff_ne.mpr c43
       obtain ⟨c53, H⟩ := itn H
       have LMc53 := am c53
       clear c53
       obtain ⟨y437, hy437⟩ : ∃ y_ : List ByteArray, y_ = (((T106 y430 (ji40)).f2) ++ [(T140 l0_2 x14_1).f1]) := ⟨_, rfl⟩
       rw [← hy437] at H
       have Ny437 := am hy437
       clear hy437
       obtain ⟨y440, hy440⟩ : ∃ y_ : List (S106), y_ = (y430.set ((ji40) : Int).toNat (⟨(T106 y430 (ji40)).f0, (T106 y430 (ji40)).f1, y437⟩ : S106)) := ⟨_, rfl⟩
       rw [← hy440] at H
       have Ny440 := am hy440
       clear hy440
       have H' := am H
       clear H
       have p420 : 0 ≤ (x14_1 : Int) := oa
       have q420 : x14_1 < (l0_2.length : Int) := oa
       obtain ⟨ad420, e420, hx420_0, hx420_1⟩ := at_T140 HR0_2.out x14_1 p420 q420
       cases e420
       replace hx420_0 := bc HB.out hx420_0
       replace hx420_1 := bc HB.out hx420_1
       replace p420 := eq_true p420
       replace q420 := eq_true q420
       try go_wp2_with (first | ((with_reducible refine gate_dst (N := 7) rfl ?_); refine box_event ?hg (N := 7) ?hd (cs := #[.int .i64 0, .string (⟨#[]⟩ : ByteArray)]) (t := 140) ?hr ?_; (case hd => rfl); (case hg => rfl); (case hr => (go_simp; done)); intro gb421 hg w55 hbox hb; replace HO_3 := am (Kd.S_below (zs HO_3.out) hb); have BK421 := am (hbox); have GW421 := am ((by rw [hg]; exact (below_size (by repeat ((with_reducible exact HB.out)))) : w.heap.size ≤ gb421)); have GE421 := am ((by rw [hg]; exact (below_size (by repeat ((with_reducible exact HB.out)))) : w.heap.size ≤ gb421)); replace HB := am (below_step (by repeat ((with_reducible exact HB.out))) hb); have NB419_421 := am ((by rw [hg]; exact Nat.ne_of_lt (blk_lt (g := gb419) (o := .cells #[.int .i64 a0_0, .int .i64 a0_1, .slice (some ad420) l0_2.length c0_2] 73 (0, 0)) (zk BK419.out)) : gb419 ≠ gb421)); have NB421_419 := am ((by rw [hg]; exact Nat.ne_of_gt (blk_lt (g := gb419) (o := .cells #[.int .i64 a0_0, .int .i64 a0_1, .slice (some ad420) l0_2.length c0_2] 73 (0, 0)) (zk BK419.out)) : gb421 ≠ gb419)); replace BK419 := am (blk_below (g := gb419) (o := .cells #[.int .i64 a0_0, .int .i64 a0_1, .slice (some ad420) l0_2.length c0_2] 73 (0, 0)) (zk BK419.out) hb); clear hb hbox hg; have hnb56 := NB421_419.out; have hnc56 := NB419_421.out; obtain ⟨hcz57_0, hcz57_1⟩ := cz2 BK421.out; obtain ⟨hfz57_0, hfz57_1⟩ := fz2 BK421.out) | ((with_reducible refine gateB (b := .append) (xs := #[.tmp 25, .tmp 28]) rfl ?_); at_builtin; refine Kd.S_append k106 (w0 := w) w.heap.size rfl (.tmp 25) (.tmp 28) 42 106 (.agg #[(.int .i64 0), (.int .i64 0), (.slice none 0 0)]) 40 rfl Try.underlying42 info106 rfl (by decide) (by omega) u3 x3_1 (⟨x4_1, 0, ([] : List ByteArray)⟩ : S106) [.int .i64 x4_1, .int .i64 0, .slice none 0 0] (fun _ => True) (fun _ => False) rfl (by (go_simp; done)) ?aP (fun k_ hk_ => hk_.elim) ?aF ?aO ?aB ?aS ?aL ?_; (case aP => exact k106_mkM _ _ _ (⟨x4_1, 0, ([] : List ByteArray)⟩ : S106) (Kd.R_nil _ _ _ _ _)); (case aB => exact (by repeat ((with_reducible first | exact HB.out | refine below_set ?_ GE421.out)))); (case aF => exact (fun _ _ => trivial)); (case aO => exact (by exact Kd.S_mono (Kd.S_far (p := ⟨gb421, 1, none⟩) (Kd.S_far (p := ⟨gb421, 0, none⟩) (Kd.S_types HO_3.out BK421.out (by decide)) (fun _ hk => hk.2) (.int .i64 ((T140 l0_2 x14_1).f0))) (fun _ hk => hk.2) (.string ((T140 l0_2 x14_1).f1))) (fun k_ hk => ⟨trivial, fun e_ => e_⟩))); (case aS => exact (below_size (by repeat ((with_reducible first | exact HB.out | refine below_set ?_ GE421.out))))); (case aL => have := LMc39.out; omega); intro v431 w58 ho hb hg hat; rw [← Ny430.out] at ho; replace BK419 := am (blk_grown (g := gb419) (o := .cells #[.int .i64 a0_0, .int .i64 a0_1, .slice (some ad420) l0_2.length c0_2] 73 (0, 0)) (by refine blk_far ?_ NB419_421.out _; refine blk_far ?_ NB419_421.out _; exact BK419.out) hg (Kd.S_ne HO_3.out BK419.out (by decide))); replace BK421 := am (blk_grown (g := gb421) (o := .cells #[.int .i64 ((T140 l0_2 x14_1).f0), .string ((T140 l0_2 x14_1).f1)] 140 (0, 0)) (by refine blk_put (cs := #[.int .i64 ((T140 l0_2 x14_1).f0), .string (⟨#[]⟩ : ByteArray)]) ?_ 1 _ rfl; refine blk_put (cs := #[.int .i64 0, .string (⟨#[]⟩ : ByteArray)]) ?_ 0 _ rfl; exact BK421.out) hg (Kd.S_ne HO_3.out BK421.out (by decide))); replace HB := am (hb); have HO432 := am (ho); clear HO_3; clear ho hb hg hat; obtain ⟨Ao59, co59, eo59⟩ := Kd.S_slice HO432.out; subst eo59; have p433 : 0 ≤ ((ji40) : Int) := oa; have q433 : (ji40) < (y430.length : Int) := oa; obtain ⟨ad433, A433_2, c433_2, e433, hx433_0, hx433_1, hx433_2, hl433_2, hi433_2⟩ := at_T106 (Kd.S_reads' HO432.out).2.2 (ji40) p433 q433; cases e433; obtain ⟨ce433, hce433, hMe433, hcc433⟩ := Kd.S_get HO432.out z106 (ji40) p433 (by exact q433); obtain ⟨ve433_2, rfl, ge433_2⟩ := k106_openM hMe433; have hv433_2 := hcc433 2 _ rfl; rw [add_field _ _ 2 (by omega)] at hv433_2; replace hv433_2 := Option.some.inj (hv433_2.symm.trans hx433_2); rw [hv433_2] at ge433_2; have HL433_2 := am (show Kd.R Kd.string 9 _ _ _ _ ((T106 y430 (ji40)).f2) from ge433_2); clear hv433_2 ge433_2; have HX433_2 := am hx433_2; clear hcc433 hce433; have HR433_2 := am hi433_2; have HC433_2 := am hl433_2; clear hi433_2 hl433_2; replace p433 := eq_true p433; replace q433 := eq_true q433; obtain ⟨hcz60_0, hcz60_1⟩ := cz2 BK421.out; obtain ⟨hfz60_0, hfz60_1⟩ := fz2 BK421.out))
       replace HO432 := am (Kd.S_drew HO432.out)
       replace HL433_2 := am (Kd.R_drew HL433_2.out)
       replace BK419 := am (blk_drew BK419.out)
       replace BK421 := am (blk_drew BK421.out)
       replace HR433_2 := am (Kd.C_drew HR433_2.out)
       replace HB := am (below_drew1 HB.out)
       have p436 : 0 ≤ ((ji40) : Int) := oa
       have q436 : (ji40) < (y430.length : Int) := oa
       obtain ⟨ad436, A436_2, c436_2, e436, hx436_0, hx436_1, hx436_2, hl436_2, hi436_2⟩ := at_T106 (Kd.S_reads' HO432.out).2.2 (ji40) p436 q436
       obtain rfl : ad433 = ad436 := (by injection e436)
       obtain ⟨ce436, hce436, hMe436, hcc436⟩ := Kd.S_get HO432.out z106 (ji40) p436 (by exact q436)
       obtain ⟨ve436_2, rfl, ge436_2⟩ := k106_openM hMe436
       have hv436_2 := hcc436 2 _ rfl
       rw [add_field _ _ 2 (by omega)] at hv436_2
       replace hv436_2 := Option.some.inj (hv436_2.symm.trans hx436_2)
       rw [hv436_2] at ge436_2
       have HL436_2 := am (show Kd.R Kd.string 9 _ _ _ _ ((T106 y430 (ji40)).f2) from ge436_2)
       clear hv436_2 ge436_2
       have HX436_2 := am hx436_2
       clear hcc436 hce436
       have HR436_2 := am hi436_2
       have HC436_2 := am hl436_2
       clear hi436_2 hl436_2
       replace p436 := eq_true p436
       replace q436 := eq_true q436
       obtain ⟨go62, co62, eo62, gb62, gl62, cl62, HG62⟩ := Kd.S_form HO432.out (by have h_ : ((ji40) : Int) < ((y430.length : Int) : Int) := oa; have h2_ : 0 ≤ ((ji40) : Int) := oa; omega)
       (cases eo62)
       have GB62 := am gb62
       have GG62 := am HG62
       clear gb62 gl62 HG62
       (simp only [add_plain] at hx433_0)
       (simp only [add_plain] at hx433_1)
       (simp only [add_plain] at hx433_2)
       (simp only [add_plain] at hx436_0)
       (simp only [add_plain] at hx436_1)
       (simp only [add_plain] at hx436_2)
       obtain ⟨oki62, ce62, hcl62, hM62, hcc62, _, _, hH62⟩ := Kd.S_elem HO432.out z106 ((ji40) : Int) oa (by have h_ : ((ji40) : Int) < ((y430.length : Int) : Int) := oa; exact h_)
       obtain ⟨ve62_2, rfl, ge62_2⟩ := k106_openM hM62
       have hv62 := hcc62 2 _ rfl
       have hX62 := HX436_2.out
       (try simp only [add_plain] at hX62)
       replace hv62 := Option.some.inj (hv62.symm.trans hX62)
       subst hv62
       clear hX62 hcc62 hcl62
       have UU62 := am (show Kd.R Kd.string 9 _ w.heap.size oki62 (.slice A436_2 ((T106 y430 (ji40)).f2).length c436_2) ((T106 y430 (ji40)).f2) from ge62_2)
       have HH62 := am hH62
       have HN62 := am (Kd.S_reads' HO432.out).1
       clear hH62 ge62_2
       refine start_ (n := 12) (S := fun w' => w'.cell? ⟨gb421, 0, none⟩ = some (.int .i64 ((T140 l0_2 x14_1).f0)) ∧ w'.cell? ⟨gb421, 1, none⟩ = some (.string ((T140 l0_2 x14_1).f1)) ∧ w'.cell? ⟨go62, (ji40).toNat * 3, none⟩ = some (.int .i64 ((T106 y430 (ji40)).f0)) ∧ w'.cell? ⟨go62, (ji40).toNat * 3 + 1, none⟩ = some (.int .i64 ((T106 y430 (ji40)).f1)) ∧ w'.cell? ⟨go62, (ji40).toNat * 3 + 2, none⟩ = some (.slice A436_2 ((T106 y430 (ji40)).f2).length c436_2)) (ds := [11]) #[O,O,O,O,O,O,O,O,O,O,O,O] (by kernel_rfl) rfl rfl ⟨(blk_cell BK421.out 0).trans rfl, (blk_cell BK421.out 1).trans rfl, hx436_0, hx436_1, hx436_2⟩ (fun hHeld => ?_); refine with_tabW spec_l6Hunks.tab17 spec_l6Hunks.bits17 (fun HT_ HW_ => ?_)
       generalize w58.drew = w61 at HO432 HL433_2 BK419 BK421 HR433_2 HB GG62 HH62 HL436_2 HR436_2 HX436_2 UU62 hx433_0 hx433_1 hx433_2 hx436_0 hx436_1 hx436_2 hHeld ⊢
       refine pu 0 (some 47) ?_
       refine pu 1 (some 48) ?_
       refine pu 2 (some 49) ?_
       refine pu 3 (some 50) ?_
       refine pu 5 (some 52) ?_
       refine ta 4 (some 51) ?_
       refine ta 6 (some 53) ?_
       refine one_ (i := 7) (N := some 54) #[Y,Y,Y,Y,Y,Y,Y,Y,O,O,O,O] rfl rfl (one_of HT_.out (by kernel_rfl)) (by decide) (fun K hK => ?_)
       refine value_ (w1 := ?_) (v := ?_) (by rfl) rfl ?_ ?_
       rotate_left 2
       ·go_simp
        constructor
        ·rfl
        ·rfl
       refine hK.out _ _ ⟨(blk_cell (blk_alloc BK421.out _) 0).trans rfl, (blk_cell (blk_alloc BK421.out _) 1).trans rfl, (World.cell?_alloc_lt _ _ _ (World.block_lt_of_cell? _ _ (hHeld.2.2.1))).trans (hHeld.2.2.1), (World.cell?_alloc_lt _ _ _ (World.block_lt_of_cell? _ _ (hHeld.2.2.2.1))).trans (hHeld.2.2.2.1), (World.cell?_alloc_lt _ _ _ (World.block_lt_of_cell? _ _ (hHeld.2.2.2.2))).trans (hHeld.2.2.2.2)⟩ (fun hHeld => ?_)
       clear hK K
       refine norm_ (a' := ?_) ?_ ?_
       rotate_left
       ·show Act.put _ (some 54) _ = _
        simp only [Act.put,qa,qb,qc,i64_w,i32_w]
        rfl
       refine one_ (i := 8) (N := some 55) #[Y,Y,Y,Y,Y,Y,Y,Y,Y,O,O,O] rfl rfl (one_of HT_.out (by kernel_rfl)) (by decide) (fun K hK => ?_)
       refine Kd.R_append_step Kd.string (w0 := w) w.heap.size (by rfl) (.tmp 51) (.tmp 54) 24 9 (.string ⟨#[]⟩) 16 rfl Try.underlying24 info9 rfl (by decide) (by omega) (.slice A436_2 ((T106 y430 (ji40)).f2).length c436_2) ((T106 y430 (ji40)).f2) ((T140 l0_2 x14_1).f1) [.string ((T140 l0_2 x14_1).f1)] (fun k_ => oki62 k_ ∨ ((fun _ => True)) k_ ∧ w61.heap.size ≤ k_) (fun _ => False) rfl rfl ?aP (fun _ hk => hk.elim) ?aF ?aO ?aB ?aS ?aL ?_
       (case aP => exact rfl)
       (case aB => exact (by repeat ((with_reducible exact HB.out))))
       (case aF => exact (fun k_ hk => .inr ⟨trivial, hk⟩))
       (case aO => exact (by exact Kd.R_mono UU62.out (fun _ hk => .inl hk)))
       (case aS => exact (below_size (by repeat ((with_reducible exact HB.out)))))
       (case aL => have := LMc53.out; omega)
       intro v438 w63 ho hb hg hat
       (have HS2_ := cell_grown hg (cell_unalloc (hHeld.2.2.1) (by exact Kd.S_lt HO432.out _ rfl)) (by exact (fun e_ => ((HL436_2.out.1 _ e_.symm).2) rfl)))
       (have HS3_ := cell_grown hg (cell_unalloc (hHeld.2.2.2.1) (by exact Kd.S_lt HO432.out _ rfl)) (by exact (fun e_ => ((HL436_2.out.1 _ e_.symm).2) rfl)))
       (have HS4_ := cell_grown hg (cell_unalloc (hHeld.2.2.2.2) (by exact Kd.S_lt HO432.out _ rfl)) (by exact (fun e_ => ((HL436_2.out.1 _ e_.symm).2) rfl)))
       rw [← Ny437.out] at ho
       replace BK419 := am (blk_grown (g := gb419) (o := .cells #[.int .i64 a0_0, .int .i64 a0_1, .slice (some ad420) l0_2.length c0_2] 73 (0, 0)) (zk BK419.out) hg (Kd.R_ne HL436_2.out BK419.out (by decide)))
       replace BK421 := am (blk_grown (g := gb421) (o := .cells #[.int .i64 ((T140 l0_2 x14_1).f0), .string ((T140 l0_2 x14_1).f1)] 140 (0, 0)) (zk BK421.out) hg (Kd.R_ne HL436_2.out BK421.out (by decide)))
       replace HB := am (hb)
       replace HH62 := am (Kd.H_grown (Kd.H_widen (by repeat (exact HH62.out))) hg (fun k_ e_ => .inl (UU62.out.1 k_ e_)))
       have HO439 := am (ho)
       clear HO432
       clear UU62
       clear HL433_2
       clear HL436_2
       clear ho hb hg hat
       have p54 : 0 ≤ ((ji40) : Int) := oa
       have q54 : ((ji40) : Int) < ((y430.length : Int) : Int) := oa
       replace p54 := eq_true p54
       replace q54 := eq_true q54
       obtain ⟨Ao66, co66, eo66⟩ := Kd.R_slice HO439.out
       (subst eo66)
       obtain ⟨_, _, hraw64, _, _, hcc64, _⟩ := Kd.H_raw HH62.out oa (by have h_ : ((ji40) : Int) < ((y430.length : Int) : Int) := oa; exact h_)
       obtain ⟨_, hfr64⟩ := Kd.H_at HH62.out oa (by have h_ : ((ji40) : Int) < ((y430.length : Int) : Int) := oa; exact h_)
       have hx64_0 := hcc64 2 _ rfl
       have hf64_0 := hfr64 2
       (try rw [show (k106).sz = 3 from rfl] at hx64_0)
       (try rw [show (k106).sz = 3 from rfl] at hf64_0)
       have HP64 := Kd.S_seg0 HH62.out oa (by have h_ : ((ji40) : Int) < ((y430.length : Int) : Int) := oa; exact h_) (seg := [.slice Ao66 y437.length co66]) (j := 2) (show 3 ≤ 3 from by decide) (x' := (⟨(T106 y430 (ji40)).f0, (T106 y430 (ji40)).f1, y437⟩ : S106)) (k106_mkM _ _ _ (⟨(T106 y430 (ji40)).f0, (T106 y430 (ji40)).f1, y437⟩ : S106) HO439.out) (fun _ hk => hk)
       clear hcc64 hfr64
       have HNB419_go62 := am (show gb419 ≠ go62 from by have h_ := Kd.R_ne hraw64 BK419.out (by decide); intro e_; exact h_ (by rw [e_]; rfl))
       have HNB421_go62 := am (show gb421 ≠ go62 from by have h_ := Kd.R_ne hraw64 BK421.out (by decide); intro e_; exact h_ (by rw [e_]; rfl))
       have HS64 := HP64.1
       rw [← Ny440.out] at HS64
       have HQ64 := am HS64
       obtain ⟨_, hgg64⟩ := Kd.R_typed hraw64 go62 rfl
       have GG64_ := am hgg64
       clear HP64 HS64 hgg64
       refine hK.out _ _ ⟨(blk_cell BK421.out 0).trans rfl, (blk_cell BK421.out 1).trans rfl, HS2_, HS3_, HS4_⟩ (fun hHeld => ?_)
       clear hK K
       refine norm_ (a' := ?_) ?_ ?_
       rotate_left
       ·show Act.put _ (some 55) _ = _
        simp only [Act.put,qa,qb,qc,i64_w,i32_w]
        rfl
       refine pu 9 (some 56) ?_
       refine pu 10 (some 57) ?_
       refine last_ (i := 11) (N := none) #[Y,Y,Y,Y,Y,Y,Y,Y,Y,Y,Y,Y] rfl rfl (one_of HT_.out (by kernel_rfl)) (by decide) (fun K hK => ?_)
       refine skip_ (w1 := ?_) (by rfl) rfl ?_ ?_
       rotate_left
       ·go_simp
        rfl
       refine hK.out _ _ ?_
       clear hK K
       refine done_ (done_of HT_.out (by kernel_rfl)) ?_
       try go_wp2
       go_roundg k1
       case measure => have := HK1.out; omega
       case rel => exact ⟨(y440), (x4_1), (true), (wrap64 (x14_1 + 1)), zf, zf, zf, H', ⟨by have := HK1.out; omega⟩, ⟨by exact HQ64.out⟩, ⟨by refine blk_far ?_ HNB419_go62.out _; exact BK419.out⟩, ⟨by repeat ((with_reducible first | exact HB.out | refine below_set ?_ GB62.out))⟩⟩
   ·rw [if_neg c4] at H
    have c4b0 : decide (x14_1 < (l0_2.length : Int)) = false := decide_eq_false c4
    clear c4
    obtain rfl := Option.some.inj H
    go_wp2
    go_ret
    exact ⟨_, by rfl, by exact HO_3.out, by repeat ((with_reducible exact HB.out))⟩

def spec_l6New.l0 : Nat → List ByteArray → List (S140) → Int → Int → Option (List ByteArray)
 | 0, _, _, _, _ => none
 | k + 1, x3, x7, x8, x9 => if x9 < x8 then (if 0 ≤ x9 then (if x9 < (x7.length : Int) then (if ((T140 x7 x9).f0) = 2 then (spec_l6New.l0 k x3 x7 x8 (wrap64 (x9 + 1))) else (if x3.length < 8796093022208 then (spec_l6New.l0 k (x3 ++ [(T140 x7 x9).f1]) x7 x8 (wrap64 (x9 + 1))) else (none))) else (none)) else (none)) else (some x3)
def spec_l6New.f (k : Nat) (a0_0 : Int) (a0_1 : Int) (l0_2 : List (S140)) : Option (List ByteArray) := spec_l6New.l0 k ([] : List ByteArray) l0_2 (l0_2.length : Int) 0
set_option maxHeartbeats 8000000 in
set_option maxRecDepth 100000 in
theorem spec_l6New.calls (k : Nat) (a0_0 : Int) (a0_1 : Int) (A0_2 : Option Addr) (c0_2 : Nat) (l0_2 : List (S140)) (r : List ByteArray) (w : World) (hr0_2 : Kd.C k140 w A0_2 l0_2.length l0_2) (hc0_2 : l0_2.length ≤ c0_2) (h : spec_l6New.f k a0_0 a0_1 l0_2 = some r) :
  Calls Try.prog 140 #[.agg #[.int .i64 a0_0, .int .i64 a0_1, .slice A0_2 l0_2.length c0_2]] w fun e w' => ∃ v0_ : Value, e = .returned (v0_) ∧ Kd.R Kd.string 9 w' w.heap.size (fun _ => True) v0_ r ∧ Below w.heap.size w w' := by
 have hu73 := Try.underlying73
 have hu140 := Try.underlying140
 have HR0_2 := am hr0_2
 have HC0_2 := am hc0_2
 clear hr0_2 hc0_2
 have HB := am (Below.refl w.heap.size w)
 have H := h
 clear h
 unfold spec_l6New.f at H
 have H' := am H
 clear H
 go_enter Try.func140, Try.ntmps140
 go_wp2_with (first | ((with_reducible refine gate_dst (N := 1) rfl ?_); refine box_event ?hg (N := 1) ?hd (cs := #[.int .i64 a0_0, .int .i64 a0_1, .slice A0_2 l0_2.length c0_2]) (t := 73) ?hr ?_; (case hd => rfl); (case hg => rfl); (case hr => first | (go_simp; done) | (go_simp; rfl)); intro gb388 hg w2 hbox hb; have BK388 := am (hbox); have GW388 := am ((by rw [hg]; exact (below_size zb) : w.heap.size ≤ gb388)); have GE388 := am ((by rw [hg]; exact (below_size zb) : w.heap.size ≤ gb388)); replace HB := am (below_step zb hb); clear hb hbox hg; obtain ⟨hcz3_0, hcz3_1, hcz3_2⟩ := cz3 BK388.out; obtain ⟨hfz3_0, hfz3_1, hfz3_2⟩ := fz3 BK388.out))
 go_loopg [3, 9] k (fun kq v3 v9 w' => ∃ (x3_1 : List ByteArray) (x9_1 : Int), v9 = .int .i64 x9_1 ∧ Aside0 (spec_l6New.l0 kq x3_1 l0_2 (l0_2.length : Int) x9_1 = some r) ∧ Aside0 (kq ≤ k) ∧ Aside0 (Kd.R Kd.string 9 w' w.heap.size (fun _ => True) v3 x3_1) ∧ Aside0 (w'.heap[gb388]? = some (.cells #[.int .i64 a0_0, .int .i64 a0_1, (.slice A0_2 l0_2.length c0_2)] 73 (0, 0))) ∧ Aside0 (Below w.heap.size w w'))
 case atStart => exact ⟨(([] : List ByteArray)), (0), zf, H', ⟨Nat.le_refl _⟩, ⟨by first | exact Kd.R_nil _ _ _ _ _ | exact Kd.Q_nil _ _ _ _ _ | exact Kd.S_nil _ _ _ _ _⟩, ⟨zk BK388.out⟩, ⟨zw⟩⟩
 case round =>
  clear H'
  try clear c1
  try clear p2
  try clear hcz3_0
  try clear hcz3_1
  try clear hcz3_2
  try clear hfz3_0
  try clear hfz3_1
  try clear hfz3_2
  obtain ⟨x3_1, x9_1, rfl, HA, HK1, HO_3, BK388, HB⟩ := hrel
  cases gk with
  | zero => exact absurd HA.out (by simp [spec_l6New.l0])
  | succ k1 =>
   have H := HA.out
   clear HA
   simp only [spec_l6New.l0] at H
   by_cases c4 : x9_1 < (l0_2.length : Int)
   ·rw [if_pos c4] at H
    have c4b0 : decide (x9_1 < (l0_2.length : Int)) = true := decide_eq_true c4
    clear c4
    obtain ⟨c5, H⟩ := itn H
    have c5b0 := decide_eq_true c5
    clear c5
    obtain ⟨c6, H⟩ := itn H
    have c6b0 := decide_eq_true c6
    clear c6
    by_cases c7 : ((T140 l0_2 x9_1).f0) = 2
    ·rw [if_pos c7] at H
     have c7b0 : (((T140 l0_2 x9_1).f0) == 2) = true := beq_iff_eq.mpr c7
     have c7b1 : (((T140 l0_2 x9_1).f0) != 2) = false := bne_eq_false_iff_eq.mpr c7
     clear c7
     have H' := am H
     clear H
     have p389 : 0 ≤ (x9_1 : Int) := oa
     have q389 : x9_1 < (l0_2.length : Int) := oa
     obtain ⟨ad389, e389, hx389_0, hx389_1⟩ := at_T140 HR0_2.out x9_1 p389 q389
     cases e389
     replace hx389_0 := bc HB.out hx389_0
     replace hx389_1 := bc HB.out hx389_1
     replace p389 := eq_true p389
     replace q389 := eq_true q389
     go_wp2_with (first | ((with_reducible refine gate_dst (N := 5) rfl ?_); refine box_event ?hg (N := 5) ?hd (cs := #[.int .i64 0, .string (⟨#[]⟩ : ByteArray)]) (t := 140) ?hr ?_; (case hd => rfl); (case hg => rfl); (case hr => first | (go_simp; done) | (go_simp; rfl)); intro gb390 hg w8 hbox hb; replace HO_3 := am (Kd.R_below (zr HO_3.out) hb); have BK390 := am (hbox); have GW390 := am ((by rw [hg]; exact (below_size zw) : w.heap.size ≤ gb390)); have GE390 := am ((by rw [hg]; exact (below_size zw) : w.heap.size ≤ gb390)); replace HB := am (below_step zw hb); have NB388_390 := am ((by rw [hg]; exact Nat.ne_of_lt (blk_lt (g := gb388) (o := .cells #[.int .i64 a0_0, .int .i64 a0_1, .slice (some ad389) l0_2.length c0_2] 73 (0, 0)) (zk BK388.out)) : gb388 ≠ gb390)); have NB390_388 := am ((by rw [hg]; exact Nat.ne_of_gt (blk_lt (g := gb388) (o := .cells #[.int .i64 a0_0, .int .i64 a0_1, .slice (some ad389) l0_2.length c0_2] 73 (0, 0)) (zk BK388.out)) : gb390 ≠ gb388)); replace BK388 := am (blk_below (g := gb388) (o := .cells #[.int .i64 a0_0, .int .i64 a0_1, .slice (some ad389) l0_2.length c0_2] 73 (0, 0)) (zk BK388.out) hb); clear hb hbox hg; have hnb9 := NB390_388.out; have hnc9 := NB388_390.out; obtain ⟨hcz10_0, hcz10_1⟩ := cz2 BK390.out; obtain ⟨hfz10_0, hfz10_1⟩ := fz2 BK390.out))
     go_roundg k1
     case measure => have := HK1.out; omega
     case rel => exact ⟨(x3_1), (wrap64 (x9_1 + 1)), zf, H', ⟨by have := HK1.out; omega⟩, ⟨by (with_reducible repeat (first | apply Kd.R_alloc | apply Kd.R_drewN | apply Kd.R_drew)); exact Kd.R_mono (Kd.R_far (p := ⟨gb390, 1, none⟩) (Kd.R_far (p := ⟨gb390, 0, none⟩) (Kd.R_types HO_3.out BK390.out (by decide)) (fun _ hk => hk.2) (.int .i64 ((T140 l0_2 x9_1).f0))) (fun _ hk => hk.2) (.string ((T140 l0_2 x9_1).f1))) (fun _ hk => trivial)⟩, ⟨by (with_reducible repeat (first | refine blk_drewN ?_ _ | refine blk_drew ?_ | refine blk_alloc ?_ _)); refine blk_far ?_ NB388_390.out _; (with_reducible repeat (first | refine blk_drewN ?_ _ | refine blk_drew ?_ | refine blk_alloc ?_ _)); refine blk_far ?_ NB388_390.out _; (with_reducible repeat (first | refine blk_drewN ?_ _ | refine blk_drew ?_ | refine blk_alloc ?_ _)); exact BK388.out⟩, ⟨zw⟩⟩
    ·rw [if_neg c7] at H
     have c7b0 : (((T140 l0_2 x9_1).f0) == 2) = false := beq_eq_false_iff_ne.mpr c7
     have c7b1 : (((T140 l0_2 x9_1).f0) != 2) = true := bne_iff_ne.mpr c7
     obtain ⟨c11, H⟩ := itn H
     have LMc11 := am c11
     clear c11
     obtain ⟨y391, hy391⟩ : ∃ y_ : List ByteArray, y_ = (x3_1 ++ [(T140 l0_2 x9_1).f1]) := ⟨_, rfl⟩
     replace H : (spec_l6New.l0 k1 y391 l0_2 (l0_2.length : Int) (wrap64 (x9_1 + 1))) = some r := by first | (rw [hy391]; with_reducible exact H) | (have H2_ := (Option.bind_some _ _).symm.trans H; rw [hy391]; with_reducible exact H2_) | (have H2_ := (Option.bind_some _ _).symm.trans H; with_reducible exact H2_) | with_reducible exact H | (rw [hy391]; exact H) | exact H
     have Ny391 := am hy391
     clear hy391
     have H' := am H
     clear H
     have p389 : 0 ≤ (x9_1 : Int) := oa
     have q389 : x9_1 < (l0_2.length : Int) := oa
     obtain ⟨ad389, e389, hx389_0, hx389_1⟩ := at_T140 HR0_2.out x9_1 p389 q389
     cases e389
     replace hx389_0 := bc HB.out hx389_0
     replace hx389_1 := bc HB.out hx389_1
     replace p389 := eq_true p389
     replace q389 := eq_true q389
     go_wp2_with (first | ((with_reducible refine gate_dst (N := 5) rfl ?_); refine box_event ?hg (N := 5) ?hd (cs := #[.int .i64 0, .string (⟨#[]⟩ : ByteArray)]) (t := 140) ?hr ?_; (case hd => rfl); (case hg => rfl); (case hr => first | (go_simp; done) | (go_simp; rfl)); intro gb390 hg w12 hbox hb; replace HO_3 := am (Kd.R_below (zr HO_3.out) hb); have BK390 := am (hbox); have GW390 := am ((by rw [hg]; exact (below_size zw) : w.heap.size ≤ gb390)); have GE390 := am ((by rw [hg]; exact (below_size zw) : w.heap.size ≤ gb390)); replace HB := am (below_step zw hb); have NB388_390 := am ((by rw [hg]; exact Nat.ne_of_lt (blk_lt (g := gb388) (o := .cells #[.int .i64 a0_0, .int .i64 a0_1, .slice (some ad389) l0_2.length c0_2] 73 (0, 0)) (zk BK388.out)) : gb388 ≠ gb390)); have NB390_388 := am ((by rw [hg]; exact Nat.ne_of_gt (blk_lt (g := gb388) (o := .cells #[.int .i64 a0_0, .int .i64 a0_1, .slice (some ad389) l0_2.length c0_2] 73 (0, 0)) (zk BK388.out)) : gb390 ≠ gb388)); replace BK388 := am (blk_below (g := gb388) (o := .cells #[.int .i64 a0_0, .int .i64 a0_1, .slice (some ad389) l0_2.length c0_2] 73 (0, 0)) (zk BK388.out) hb); clear hb hbox hg; have hnb13 := NB390_388.out; have hnc13 := NB388_390.out; obtain ⟨hcz14_0, hcz14_1⟩ := cz2 BK390.out; obtain ⟨hfz14_0, hfz14_1⟩ := fz2 BK390.out) | ((with_reducible refine gateB (b := .append) (xs := #[.tmp 16, .tmp 19]) rfl ?_); at_builtin; refine Kd.R_append Kd.string (w0 := w) w.heap.size rfl (.tmp 16) (.tmp 19) 24 9 (.string ⟨#[]⟩) 16 rfl Try.underlying24 info9 rfl (by decide) (by omega) u3 x3_1 ((T140 l0_2 x9_1).f1) [.string ((T140 l0_2 x9_1).f1)] (fun _ => True) (fun _ => False) rfl (by first | (go_simp; done) | (go_simp; rfl)) ?aP (fun _ hk => hk.elim) ?aF ?aO ?aB ?aS ?aL ?_; (case aP => exact rfl); (case aB => exact zw); (case aF => exact (fun _ _ => trivial)); (case aO => exact (by (with_reducible repeat (first | apply Kd.R_alloc | apply Kd.R_drewN | apply Kd.R_drew)); exact Kd.R_mono (Kd.R_far (p := ⟨gb390, 1, none⟩) (Kd.R_far (p := ⟨gb390, 0, none⟩) (Kd.R_types HO_3.out BK390.out (by decide)) (fun _ hk => hk.2) (.int .i64 ((T140 l0_2 x9_1).f0))) (fun _ hk => hk.2) (.string ((T140 l0_2 x9_1).f1))) (fun _ hk => trivial))); (case aS => exact (below_size zw)); (case aL => have := LMc11.out; omega); intro v392 w15 ho hb hg hat; rw [← Ny391.out] at ho; replace BK388 := am (blk_grown (g := gb388) (o := .cells #[.int .i64 a0_0, .int .i64 a0_1, .slice (some ad389) l0_2.length c0_2] 73 (0, 0)) (by (with_reducible repeat (first | refine blk_drewN ?_ _ | refine blk_drew ?_ | refine blk_alloc ?_ _)); refine blk_far ?_ NB388_390.out _; (with_reducible repeat (first | refine blk_drewN ?_ _ | refine blk_drew ?_ | refine blk_alloc ?_ _)); refine blk_far ?_ NB388_390.out _; (with_reducible repeat (first | refine blk_drewN ?_ _ | refine blk_drew ?_ | refine blk_alloc ?_ _)); exact BK388.out) hg (Kd.R_ne HO_3.out BK388.out (by decide))); replace BK390 := am (blk_grown (g := gb390) (o := .cells #[.int .i64 ((T140 l0_2 x9_1).f0), .string ((T140 l0_2 x9_1).f1)] 140 (0, 0)) (by (with_reducible repeat (first | refine blk_drewN ?_ _ | refine blk_drew ?_ | refine blk_alloc ?_ _)); refine blk_put (cs := #[.int .i64 ((T140 l0_2 x9_1).f0), .string (⟨#[]⟩ : ByteArray)]) ?_ 1 _ rfl; (with_reducible repeat (first | refine blk_drewN ?_ _ | refine blk_drew ?_ | refine blk_alloc ?_ _)); refine blk_put (cs := #[.int .i64 0, .string (⟨#[]⟩ : ByteArray)]) ?_ 0 _ rfl; (with_reducible repeat (first | refine blk_drewN ?_ _ | refine blk_drew ?_ | refine blk_alloc ?_ _)); exact BK390.out) hg (Kd.R_ne HO_3.out BK390.out (by decide))); replace HB := am (hb); have HO393 := am (ho); clear HO_3; clear ho hb hg hat))
     go_roundg k1
     case measure => have := HK1.out; omega
     case rel => exact ⟨(y391), (wrap64 (x9_1 + 1)), zf, H', ⟨by have := HK1.out; omega⟩, ⟨zr HO393.out⟩, ⟨zk BK388.out⟩, ⟨zw⟩⟩
   ·rw [if_neg c4] at H
    have c4b0 : decide (x9_1 < (l0_2.length : Int)) = false := decide_eq_false c4
    clear c4
    obtain rfl := Option.some.inj H
    go_wp2
    go_ret
    exact ⟨_, by first | rfl | (simp [errW_none, errW_some] <;> rfl) | (simp [*, errW_none, errW_some] <;> rfl), zr HO_3.out, zw⟩

def spec_l6Old.l0 : Nat → List ByteArray → List (S140) → Int → Int → Option (List ByteArray)
 | 0, _, _, _, _ => none
 | k + 1, x3, x7, x8, x9 => if x9 < x8 then (if 0 ≤ x9 then (if x9 < (x7.length : Int) then (if ((T140 x7 x9).f0) = 3 then (spec_l6Old.l0 k x3 x7 x8 (wrap64 (x9 + 1))) else (if x3.length < 8796093022208 then (spec_l6Old.l0 k (x3 ++ [(T140 x7 x9).f1]) x7 x8 (wrap64 (x9 + 1))) else (none))) else (none)) else (none)) else (some x3)
def spec_l6Old.f (k : Nat) (a0_0 : Int) (a0_1 : Int) (l0_2 : List (S140)) : Option (List ByteArray) := spec_l6Old.l0 k ([] : List ByteArray) l0_2 (l0_2.length : Int) 0
set_option maxHeartbeats 8000000 in
set_option maxRecDepth 100000 in
theorem spec_l6Old.calls (k : Nat) (a0_0 : Int) (a0_1 : Int) (A0_2 : Option Addr) (c0_2 : Nat) (l0_2 : List (S140)) (r : List ByteArray) (w : World) (hr0_2 : Kd.C k140 w A0_2 l0_2.length l0_2) (hc0_2 : l0_2.length ≤ c0_2) (h : spec_l6Old.f k a0_0 a0_1 l0_2 = some r) :
  Calls Try.prog 108 #[.agg #[.int .i64 a0_0, .int .i64 a0_1, .slice A0_2 l0_2.length c0_2]] w fun e w' => ∃ v0_ : Value, e = .returned (v0_) ∧ Kd.R Kd.string 9 w' w.heap.size (fun _ => True) v0_ r ∧ Below w.heap.size w w' := by
 have hu73 := Try.underlying73
 have hu140 := Try.underlying140
 have HR0_2 := am hr0_2
 have HC0_2 := am hc0_2
 clear hr0_2 hc0_2
 have HB := am (Below.refl w.heap.size w)
 have H := h
 clear h
 unfold spec_l6Old.f at H
 have H' := am H
 clear H
 go_enter Try.func108, Try.ntmps108
 go_wp2_with (first | ((with_reducible refine gate_dst (N := 1) rfl ?_); refine box_event ?hg (N := 1) ?hd (cs := #[.int .i64 a0_0, .int .i64 a0_1, .slice A0_2 l0_2.length c0_2]) (t := 73) ?hr ?_; (case hd => rfl); (case hg => rfl); (case hr => first | (go_simp; done) | (go_simp; rfl)); intro gb382 hg w2 hbox hb; have BK382 := am (hbox); have GW382 := am ((by rw [hg]; exact (below_size zb) : w.heap.size ≤ gb382)); have GE382 := am ((by rw [hg]; exact (below_size zb) : w.heap.size ≤ gb382)); replace HB := am (below_step zb hb); clear hb hbox hg; obtain ⟨hcz3_0, hcz3_1, hcz3_2⟩ := cz3 BK382.out; obtain ⟨hfz3_0, hfz3_1, hfz3_2⟩ := fz3 BK382.out))
 go_loopg [3, 9] k (fun kq v3 v9 w' => ∃ (x3_1 : List ByteArray) (x9_1 : Int), v9 = .int .i64 x9_1 ∧ Aside0 (spec_l6Old.l0 kq x3_1 l0_2 (l0_2.length : Int) x9_1 = some r) ∧ Aside0 (kq ≤ k) ∧ Aside0 (Kd.R Kd.string 9 w' w.heap.size (fun _ => True) v3 x3_1) ∧ Aside0 (w'.heap[gb382]? = some (.cells #[.int .i64 a0_0, .int .i64 a0_1, (.slice A0_2 l0_2.length c0_2)] 73 (0, 0))) ∧ Aside0 (Below w.heap.size w w'))
 case atStart => exact ⟨(([] : List ByteArray)), (0), zf, H', ⟨Nat.le_refl _⟩, ⟨by first | exact Kd.R_nil _ _ _ _ _ | exact Kd.Q_nil _ _ _ _ _ | exact Kd.S_nil _ _ _ _ _⟩, ⟨zk BK382.out⟩, ⟨zw⟩⟩
 case round =>
  clear H'
  try clear c1
  try clear p2
  try clear hcz3_0
  try clear hcz3_1
  try clear hcz3_2
  try clear hfz3_0
  try clear hfz3_1
  try clear hfz3_2
  obtain ⟨x3_1, x9_1, rfl, HA, HK1, HO_3, BK382, HB⟩ := hrel
  cases gk with
  | zero => exact absurd HA.out (by simp [spec_l6Old.l0])
  | succ k1 =>
   have H := HA.out
   clear HA
   simp only [spec_l6Old.l0] at H
   by_cases c4 : x9_1 < (l0_2.length : Int)
   ·rw [if_pos c4] at H
    have c4b0 : decide (x9_1 < (l0_2.length : Int)) = true := decide_eq_true c4
    clear c4
    obtain ⟨c5, H⟩ := itn H
    have c5b0 := decide_eq_true c5
    clear c5
    obtain ⟨c6, H⟩ := itn H
    have c6b0 := decide_eq_true c6
    clear c6
    by_cases c7 : ((T140 l0_2 x9_1).f0) = 3
    ·rw [if_pos c7] at H
     have c7b0 : (((T140 l0_2 x9_1).f0) == 3) = true := beq_iff_eq.mpr c7
     have c7b1 : (((T140 l0_2 x9_1).f0) != 3) = false := bne_eq_false_iff_eq.mpr c7
     clear c7
     have H' := am H
     clear H
     have p383 : 0 ≤ (x9_1 : Int) := oa
     have q383 : x9_1 < (l0_2.length : Int) := oa
     obtain ⟨ad383, e383, hx383_0, hx383_1⟩ := at_T140 HR0_2.out x9_1 p383 q383
     cases e383
     replace hx383_0 := bc HB.out hx383_0
     replace hx383_1 := bc HB.out hx383_1
     replace p383 := eq_true p383
     replace q383 := eq_true q383
     go_wp2_with (first | ((with_reducible refine gate_dst (N := 5) rfl ?_); refine box_event ?hg (N := 5) ?hd (cs := #[.int .i64 0, .string (⟨#[]⟩ : ByteArray)]) (t := 140) ?hr ?_; (case hd => rfl); (case hg => rfl); (case hr => first | (go_simp; done) | (go_simp; rfl)); intro gb384 hg w8 hbox hb; replace HO_3 := am (Kd.R_below (zr HO_3.out) hb); have BK384 := am (hbox); have GW384 := am ((by rw [hg]; exact (below_size zw) : w.heap.size ≤ gb384)); have GE384 := am ((by rw [hg]; exact (below_size zw) : w.heap.size ≤ gb384)); replace HB := am (below_step zw hb); have NB382_384 := am ((by rw [hg]; exact Nat.ne_of_lt (blk_lt (g := gb382) (o := .cells #[.int .i64 a0_0, .int .i64 a0_1, .slice (some ad383) l0_2.length c0_2] 73 (0, 0)) (zk BK382.out)) : gb382 ≠ gb384)); have NB384_382 := am ((by rw [hg]; exact Nat.ne_of_gt (blk_lt (g := gb382) (o := .cells #[.int .i64 a0_0, .int .i64 a0_1, .slice (some ad383) l0_2.length c0_2] 73 (0, 0)) (zk BK382.out)) : gb384 ≠ gb382)); replace BK382 := am (blk_below (g := gb382) (o := .cells #[.int .i64 a0_0, .int .i64 a0_1, .slice (some ad383) l0_2.length c0_2] 73 (0, 0)) (zk BK382.out) hb); clear hb hbox hg; have hnb9 := NB384_382.out; have hnc9 := NB382_384.out; obtain ⟨hcz10_0, hcz10_1⟩ := cz2 BK384.out; obtain ⟨hfz10_0, hfz10_1⟩ := fz2 BK384.out))
     go_roundg k1
     case measure => have := HK1.out; omega
     case rel => exact ⟨(x3_1), (wrap64 (x9_1 + 1)), zf, H', ⟨by have := HK1.out; omega⟩, ⟨by (with_reducible repeat (first | apply Kd.R_alloc | apply Kd.R_drewN | apply Kd.R_drew)); exact Kd.R_mono (Kd.R_far (p := ⟨gb384, 1, none⟩) (Kd.R_far (p := ⟨gb384, 0, none⟩) (Kd.R_types HO_3.out BK384.out (by decide)) (fun _ hk => hk.2) (.int .i64 ((T140 l0_2 x9_1).f0))) (fun _ hk => hk.2) (.string ((T140 l0_2 x9_1).f1))) (fun _ hk => trivial)⟩, ⟨by (with_reducible repeat (first | refine blk_drewN ?_ _ | refine blk_drew ?_ | refine blk_alloc ?_ _)); refine blk_far ?_ NB382_384.out _; (with_reducible repeat (first | refine blk_drewN ?_ _ | refine blk_drew ?_ | refine blk_alloc ?_ _)); refine blk_far ?_ NB382_384.out _; (with_reducible repeat (first | refine blk_drewN ?_ _ | refine blk_drew ?_ | refine blk_alloc ?_ _)); exact BK382.out⟩, ⟨zw⟩⟩
    ·rw [if_neg c7] at H
     have c7b0 : (((T140 l0_2 x9_1).f0) == 3) = false := beq_eq_false_iff_ne.mpr c7
     have c7b1 : (((T140 l0_2 x9_1).f0) != 3) = true := bne_iff_ne.mpr c7
     obtain ⟨c11, H⟩ := itn H
     have LMc11 := am c11
     clear c11
     obtain ⟨y385, hy385⟩ : ∃ y_ : List ByteArray, y_ = (x3_1 ++ [(T140 l0_2 x9_1).f1]) := ⟨_, rfl⟩
     replace H : (spec_l6Old.l0 k1 y385 l0_2 (l0_2.length : Int) (wrap64 (x9_1 + 1))) = some r := by first | (rw [hy385]; with_reducible exact H) | (have H2_ := (Option.bind_some _ _).symm.trans H; rw [hy385]; with_reducible exact H2_) | (have H2_ := (Option.bind_some _ _).symm.trans H; with_reducible exact H2_) | with_reducible exact H | (rw [hy385]; exact H) | exact H
     have Ny385 := am hy385
     clear hy385
     have H' := am H
     clear H
     have p383 : 0 ≤ (x9_1 : Int) := oa
     have q383 : x9_1 < (l0_2.length : Int) := oa
     obtain ⟨ad383, e383, hx383_0, hx383_1⟩ := at_T140 HR0_2.out x9_1 p383 q383
     cases e383
     replace hx383_0 := bc HB.out hx383_0
     replace hx383_1 := bc HB.out hx383_1
     replace p383 := eq_true p383
     replace q383 := eq_true q383
     go_wp2_with (first | ((with_reducible refine gate_dst (N := 5) rfl ?_); refine box_event ?hg (N := 5) ?hd (cs := #[.int .i64 0, .string (⟨#[]⟩ : ByteArray)]) (t := 140) ?hr ?_; (case hd => rfl); (case hg => rfl); (case hr => first | (go_simp; done) | (go_simp; rfl)); intro gb384 hg w12 hbox hb; replace HO_3 := am (Kd.R_below (zr HO_3.out) hb); have BK384 := am (hbox); have GW384 := am ((by rw [hg]; exact (below_size zw) : w.heap.size ≤ gb384)); have GE384 := am ((by rw [hg]; exact (below_size zw) : w.heap.size ≤ gb384)); replace HB := am (below_step zw hb); have NB382_384 := am ((by rw [hg]; exact Nat.ne_of_lt (blk_lt (g := gb382) (o := .cells #[.int .i64 a0_0, .int .i64 a0_1, .slice (some ad383) l0_2.length c0_2] 73 (0, 0)) (zk BK382.out)) : gb382 ≠ gb384)); have NB384_382 := am ((by rw [hg]; exact Nat.ne_of_gt (blk_lt (g := gb382) (o := .cells #[.int .i64 a0_0, .int .i64 a0_1, .slice (some ad383) l0_2.length c0_2] 73 (0, 0)) (zk BK382.out)) : gb384 ≠ gb382)); replace BK382 := am (blk_below (g := gb382) (o := .cells #[.int .i64 a0_0, .int .i64 a0_1, .slice (some ad383) l0_2.length c0_2] 73 (0, 0)) (zk BK382.out) hb); clear hb hbox hg; have hnb13 := NB384_382.out; have hnc13 := NB382_384.out; obtain ⟨hcz14_0, hcz14_1⟩ := cz2 BK384.out; obtain ⟨hfz14_0, hfz14_1⟩ := fz2 BK384.out) | ((with_reducible refine gateB (b := .append) (xs := #[.tmp 16, .tmp 19]) rfl ?_); at_builtin; refine Kd.R_append Kd.string (w0 := w) w.heap.size rfl (.tmp 16) (.tmp 19) 24 9 (.string ⟨#[]⟩) 16 rfl Try.underlying24 info9 rfl (by decide) (by omega) u3 x3_1 ((T140 l0_2 x9_1).f1) [.string ((T140 l0_2 x9_1).f1)] (fun _ => True) (fun _ => False) rfl (by first | (go_simp; done) | (go_simp; rfl)) ?aP (fun _ hk => hk.elim) ?aF ?aO ?aB ?aS ?aL ?_; (case aP => exact rfl); (case aB => exact zw); (case aF => exact (fun _ _ => trivial)); (case aO => exact (by (with_reducible repeat (first | apply Kd.R_alloc | apply Kd.R_drewN | apply Kd.R_drew)); exact Kd.R_mono (Kd.R_far (p := ⟨gb384, 1, none⟩) (Kd.R_far (p := ⟨gb384, 0, none⟩) (Kd.R_types HO_3.out BK384.out (by decide)) (fun _ hk => hk.2) (.int .i64 ((T140 l0_2 x9_1).f0))) (fun _ hk => hk.2) (.string ((T140 l0_2 x9_1).f1))) (fun _ hk => trivial))); (case aS => exact (below_size zw)); (case aL => have := LMc11.out; omega); intro v386 w15 ho hb hg hat; rw [← Ny385.out] at ho; replace BK382 := am (blk_grown (g := gb382) (o := .cells #[.int .i64 a0_0, .int .i64 a0_1, .slice (some ad383) l0_2.length c0_2] 73 (0, 0)) (by (with_reducible repeat (first | refine blk_drewN ?_ _ | refine blk_drew ?_ | refine blk_alloc ?_ _)); refine blk_far ?_ NB382_384.out _; (with_reducible repeat (first | refine blk_drewN ?_ _ | refine blk_drew ?_ | refine blk_alloc ?_ _)); refine blk_far ?_ NB382_384.out _; (with_reducible repeat (first | refine blk_drewN ?_ _ | refine blk_drew ?_ | refine blk_alloc ?_ _)); exact BK382.out) hg (Kd.R_ne HO_3.out BK382.out (by decide))); replace BK384 := am (blk_grown (g := gb384) (o := .cells #[.int .i64 ((T140 l0_2 x9_1).f0), .string ((T140 l0_2 x9_1).f1)] 140 (0, 0)) (by (with_reducible repeat (first | refine blk_drewN ?_ _ | refine blk_drew ?_ | refine blk_alloc ?_ _)); refine blk_put (cs := #[.int .i64 ((T140 l0_2 x9_1).f0), .string (⟨#[]⟩ : ByteArray)]) ?_ 1 _ rfl; (with_reducible repeat (first | refine blk_drewN ?_ _ | refine blk_drew ?_ | refine blk_alloc ?_ _)); refine blk_put (cs := #[.int .i64 0, .string (⟨#[]⟩ : ByteArray)]) ?_ 0 _ rfl; (with_reducible repeat (first | refine blk_drewN ?_ _ | refine blk_drew ?_ | refine blk_alloc ?_ _)); exact BK384.out) hg (Kd.R_ne HO_3.out BK384.out (by decide))); replace HB := am (hb); have HO387 := am (ho); clear HO_3; clear ho hb hg hat))
     go_roundg k1
     case measure => have := HK1.out; omega
     case rel => exact ⟨(y385), (wrap64 (x9_1 + 1)), zf, H', ⟨by have := HK1.out; omega⟩, ⟨zr HO387.out⟩, ⟨zk BK382.out⟩, ⟨zw⟩⟩
   ·rw [if_neg c4] at H
    have c4b0 : decide (x9_1 < (l0_2.length : Int)) = false := decide_eq_false c4
    clear c4
    obtain rfl := Option.some.inj H
    go_wp2
    go_ret
    exact ⟨_, by first | rfl | (simp [errW_none, errW_some] <;> rfl) | (simp [*, errW_none, errW_some] <;> rfl), zr HO_3.out, zw⟩

mutual
def spec_l6All.l0 : Nat → List ByteArray → List (S73) → List (S73) → Int → Int → Option ((List (S106)) × Int)
 | 0, _, _, _, _, _ => none
 | k + 1, x0, x1, x13, x14, x15 => if x15 < x14 then (if 0 ≤ x15 then (if x15 < (x13.length : Int) then ((spec_l6Old.f k ((T73 x13 x15).f0) ((T73 x13 x15).f1) ((T73 x13 x15).f2)).bind fun t615 => (if (wrap64 (((T73 x13 x15).f0) + (t615.length : Int))) > (x0.length : Int) then (some (([] : List (S106)), 3)) else (spec_l6All.l0 k x0 x1 x13 x14 (wrap64 (x15 + 1))))) else (none)) else (none)) else (spec_l6All.l1 k x0 0 ([] : List (S106)) x1 (x1.length : Int) 0)
def spec_l6All.l1 : Nat → List ByteArray → Int → List (S106) → List (S73) → Int → Int → Option ((List (S106)) × Int)
 | 0, _, _, _, _, _, _ => none
 | k + 1, x0, x8, x9, x29, x30, x31 => if x31 < x30 then (if 0 ≤ x31 then (if x31 < (x29.length : Int) then ((spec_l6Old.f k ((T73 x29 x31).f0) ((T73 x29 x31).f1) ((T73 x29 x31).f2)).bind fun t620 => (if 0 ≤ ((T73 x29 x31).f0) then (if ((T73 x29 x31).f0) ≤ (wrap64 (((T73 x29 x31).f0) + (t620.length : Int))) then (if (wrap64 (((T73 x29 x31).f0) + (t620.length : Int))) ≤ (x0.length : Int) then ((spec_l1SameT.f k ((x0.take ((wrap64 (((T73 x29 x31).f0) + (t620.length : Int))) : Int).toNat).drop (((T73 x29 x31).f0) : Int).toNat) t620).bind fun t624 => (if t624 = true then (spec_l6All.j2 k x0 x8 x9 t620 x29 x30 x31 (((T73 x29 x31).f1) != (wrap64 (((T73 x29 x31).f0) + x8))) ((T73 x29 x31).f0) ((T73 x29 x31).f1) ((T73 x29 x31).f2)) else (spec_l6All.j2 k x0 x8 x9 t620 x29 x30 x31 true ((T73 x29 x31).f0) ((T73 x29 x31).f1) ((T73 x29 x31).f2)))) else (none)) else (none)) else (none))) else (none)) else (none)) else (some (x9, 0))
def spec_l6All.j2 : Nat → List ByteArray → Int → List (S106) → List ByteArray → List (S73) → Int → Int → Bool → Int → Int → List (S140) → Option ((List (S106)) × Int)
 | 0, _, _, _, _, _, _, _, _, _, _, _ => none
 | k + 1, x0, x8, x9, x12, x29, x30, x31, x57, x620000, x620001, x620002 => if x57 = true then (some (([] : List (S106)), 2)) else ((spec_l6New.f k x620000 x620001 x620002).bind fun t625 => ((spec_l6Hunks.f k x620000 x620001 x620002).bind fun t628 => (if x9.length + t628.length < 3518437208883 then (spec_l6All.l1 k x0 (wrap64 (x8 + (wrap64 ((t625.length : Int) - (x12.length : Int))))) (x9 ++ t628) x29 x30 (wrap64 (x31 + 1))) else (none))))
end
def spec_l6All.f (k : Nat) (l0 : List ByteArray) (l1 : List (S73)) : Option ((List (S106)) × Int) := spec_l6All.l0 k l0 l1 l1 (l1.length : Int) 0
def spec_l6All.T4 : Bool × List (List Nat × List Nat) := (true, [([], []), ([0], [0]), ([], []), ([2], [2]), ([3], [3]), ([1, 4], [1, 4]), ([], []), ([6], [6]), ([5, 7], [5, 7])])
def spec_l6All.B4 : List Nat := [0, 1, 0, 4, 12, 31, 0, 64, 255]
theorem spec_l6All.tab4 : rtab .any (opsOf Try.f116 4) = spec_l6All.T4 := by kernel_rfl
theorem spec_l6All.bits4 : waitsOk spec_l6All.T4.2 spec_l6All.B4 = true := by kernel_rfl
set_option maxHeartbeats 8000000 in
set_option maxRecDepth 100000 in
theorem spec_l6All.calls (k : Nat) (A0 : Option Addr) (c0 : Nat) (l0 : List ByteArray) (A1 : Option Addr) (c1 : Nat) (l1 : List (S73)) (r1 : List (S106)) (r2 : Int) (w : World) (hr0 : Kd.C Kd.string w A0 l0.length l0) (hc0 : l0.length ≤ c0) (hr1 : Kd.C k73 w A1 l1.length l1) (hc1 : l1.length ≤ c1) (h : spec_l6All.f k l0 l1 = some (r1, r2)) :
  Calls Try.prog 116 #[.slice A0 l0.length c0, .slice A1 l1.length c1] w fun e w' => ∃ v0_ : Value, e = .returned (.tuple #[v0_, .int .i64 r2]) ∧ Kd.N k106 106 w' w.heap.size (fun k_ => (w.heap.size ≤ k_)) v0_ r1 ∧ Below w.heap.size w w' := by
 have hu73 := Try.underlying73
 have HR0 := am hr0
 have HC0 := am hc0
 clear hr0 hc0
 have HR1 := am hr1
 have HC1 := am hc1
 clear hr1 hc1
 have HB := am (Below.refl w.heap.size w)
 have H := h
 clear h
 unfold spec_l6All.f at H
 have H' := am H
 clear H
 go_enter Try.func116, Try.ntmps116
 go_wp2
 go_loopg [15] k (fun kq v15 w' => ∃ (x15_1 : Int), v15 = .int .i64 x15_1 ∧ Aside0 (spec_l6All.l0 kq l0 l1 l1 (l1.length : Int) x15_1 = some (r1, r2)) ∧ Aside0 (kq ≤ k) ∧ Aside0 (Below w.heap.size w w'))
 case atStart => exact ⟨(0), zf, H', ⟨Nat.le_refl _⟩, ⟨by repeat ((with_reducible exact HB.out))⟩⟩
 case round =>
  clear H'
  obtain ⟨x15_1, rfl, HA, HK1, HB⟩ := hrel
  cases gk with
  | zero => exact absurd HA.out (by simp [spec_l6All.l0])
  | succ k1 =>
   have H := HA.out
   clear HA
   simp only [spec_l6All.l0] at H
   by_cases c3 : x15_1 < (l1.length : Int)
   ·rw [if_pos c3] at H
    have c3b0 : decide (x15_1 < (l1.length : Int)) = true := decide_eq_true c3
    clear c3
    obtain ⟨c4, H⟩ := itn H
    have c4b0 := decide_eq_true c4
    clear c4
    obtain ⟨c5, H⟩ := itn H
    have c5b0 := decide_eq_true c5
    clear c5
    replace H := Option.bind_eq_some_iff.mp H
    obtain ⟨t615, A60, H⟩ := H
    replace H : (if (wrap64 (((T73 l1 x15_1).f0) + (t615.length : Int))) > (l0.length : Int) then (some (([] : List (S106)), 3)) else (spec_l6All.l0 k1 l0 l1 l1 (l1.length : Int) (wrap64 (x15_1 + 1)))) = some (r1, r2) := H
    have A6 := am A60
    clear A60
    by_cases c7 : (wrap64 (((T73 l1 x15_1).f0) + (t615.length : Int))) > (l0.length : Int)
    ·rw [if_pos c7] at H
     have c7b0 : decide ((l0.length : Int) < (wrap64 (((T73 l1 x15_1).f0) + (t615.length : Int)))) = true := decide_eq_true c7
     clear c7
     simp only [Option.some.injEq, Prod.mk.injEq] at H
     obtain ⟨rfl, rfl⟩ := H
     have p613 : 0 ≤ (x15_1 : Int) := oa
     have q613 : x15_1 < (l1.length : Int) := oa
     obtain ⟨ad613, A613_2, c613_2, e613, hx613_0, hx613_1, hx613_2, hl613_2, hi613_2⟩ := at_T73 HR1.out x15_1 p613 q613
     cases e613
     replace hx613_0 := bc HB.out hx613_0
     replace hx613_1 := bc HB.out hx613_1
     replace hx613_2 := bc HB.out hx613_2
     have HR613_2 := am hi613_2
     have HC613_2 := am hl613_2
     clear hi613_2 hl613_2
     replace p613 := eq_true p613
     replace q613 := eq_true q613
     try go_wp2_with (((with_reducible refine gate_dst (N := 7) rfl ?_); refine box_event ?hg (N := 7) ?hd (cs := #[.int .i64 0, .int .i64 0, .slice none 0 0]) (t := 73) ?hr ?_; (case hd => rfl); (case hg => rfl); (case hr => (go_simp; done)); intro gb614 hg w8 hbox hb; have BK614 := am (hbox); have GW614 := am ((by rw [hg]; exact (below_size zb) : w.heap.size ≤ gb614)); have GE614 := am ((by rw [hg]; exact (below_size zb) : w.heap.size ≤ gb614)); replace HB := am (below_step zb hb); clear hb hbox hg; obtain ⟨hcz9_0, hcz9_1, hcz9_2⟩ := cz3 BK614.out; obtain ⟨hfz9_0, hfz9_1, hfz9_2⟩ := fz3 BK614.out))
     have n0_ : Aside0 ((((w8.setCell ⟨gb614, 0, none⟩ (.int .i64 ((T73 l1 x15_1).f0))).setCell ⟨gb614, 1, none⟩ (.int .i64 ((T73 l1 x15_1).f1))).setCell ⟨gb614, 2, none⟩ (.slice A613_2 ((T73 l1 x15_1).f2).length c613_2)).heap[gb614]? = some (.cells #[.int .i64 ((T73 l1 x15_1).f0), .int .i64 ((T73 l1 x15_1).f1), .slice A613_2 ((T73 l1 x15_1).f2).length c613_2] 73 (0, 0))) := ⟨by refine blk_put (cs := #[.int .i64 ((T73 l1 x15_1).f0), .int .i64 ((T73 l1 x15_1).f1), .slice none 0 0]) ?_ 2 _ rfl; refine blk_put (cs := #[.int .i64 ((T73 l1 x15_1).f0), .int .i64 0, .slice none 0 0]) ?_ 1 _ rfl; refine blk_put (cs := #[.int .i64 0, .int .i64 0, .slice none 0 0]) ?_ 0 _ rfl; exact BK614.out⟩
     have n1_ : Aside0 (Below w.heap.size w (((w8.setCell ⟨gb614, 0, none⟩ (.int .i64 ((T73 l1 x15_1).f0))).setCell ⟨gb614, 1, none⟩ (.int .i64 ((T73 l1 x15_1).f1))).setCell ⟨gb614, 2, none⟩ (.slice A613_2 ((T73 l1 x15_1).f2).length c613_2))) := ⟨by repeat ((with_reducible first | exact HB.out | refine below_set ?_ GE614.out))⟩
     (try clear BK614)
     (try clear HB)
     generalize (((w8.setCell ⟨gb614, 0, none⟩ (.int .i64 ((T73 l1 x15_1).f0))).setCell ⟨gb614, 1, none⟩ (.int .i64 ((T73 l1 x15_1).f1))).setCell ⟨gb614, 2, none⟩ (.slice A613_2 ((T73 l1 x15_1).f2).length c613_2)) = w10 at n0_ n1_ ⊢
     have BK614 := n0_
     have HB := n1_
     clear n0_ n1_
     replace BK614 := am (blk_drew BK614.out)
     replace HB := am (below_drew1 HB.out)
     refine start_ (n := 9) (S := fun w' => w'.cell? ⟨gb614, 0, none⟩ = some (.int .i64 ((T73 l1 x15_1).f0)) ∧ w'.cell? ⟨gb614, 1, none⟩ = some (.int .i64 ((T73 l1 x15_1).f1)) ∧ w'.cell? ⟨gb614, 2, none⟩ = some (.slice A613_2 ((T73 l1 x15_1).f2).length c613_2)) (ds := []) #[O,O,O,O,O,O,O,O,O] (by kernel_rfl) rfl rfl ⟨(blk_cell BK614.out 0).trans rfl, (blk_cell BK614.out 1).trans rfl, (blk_cell BK614.out 2).trans rfl⟩ (fun hHeld => ?_); refine with_tabW spec_l6All.tab4 spec_l6All.bits4 (fun HT_ HW_ => ?_)
     generalize w10.drew = w11 at BK614 HB hHeld ⊢
     refine pu 0 (some 19) ?_
     refine pu 6 (some 25) ?_
     refine pu 7 (some 26) ?_
     refine ta 1 (some 20) ?_
     refine ta 2 (some 21) ?_
     refine one_ (i := 3) (N := some 22) #[Y,Y,Y,Y,O,O,Y,Y,O] rfl rfl (one_of HT_.out (by kernel_rfl)) (by decide) (fun K hK => ?_)
     refine goes_ Try.func108 (by kernel_rfl) rfl #[.agg #[.int .i64 ((T73 l1 x15_1).f0), .int .i64 ((T73 l1 x15_1).f1), .slice A613_2 ((T73 l1 x15_1).f2).length c613_2]] (by rfl) rfl rfl zm ?_
     with_reducible refine (spec_l6Old.calls k1 ((T73 l1 x15_1).f0) ((T73 l1 x15_1).f1) _ _ ((T73 l1 x15_1).f2) t615 _ ?side1 ?side2 A6.out).mono ?_
     (case side1 => exact zq (Kd.C_below HR613_2.out HB.out))
     (case side2 => exact HC613_2.out)
     rintro e w12 ⟨v616, rfl, ho0, hb⟩
     refine ⟨_, rfl, ?_⟩
     have HO617 := am (Kd.R_lower (Kd.R_newM (M := fun k_ => (w.heap.size ≤ k_)) ho0 (below_size (by repeat ((with_reducible exact HB.out)))) (fun k_ h_ => h_)) (below_size (by repeat ((with_reducible exact HB.out)))))
     replace BK614 := am (blk_below (g := gb614) (o := .cells #[.int .i64 ((T73 l1 x15_1).f0), .int .i64 ((T73 l1 x15_1).f1), .slice A613_2 ((T73 l1 x15_1).f2).length c613_2] 73 (0, 0)) (zk BK614.out) hb)
     replace HB := am (below_step (by repeat ((with_reducible exact HB.out))) hb)
     (try clear hb)
     (try clear ho0)
     obtain ⟨Ao13, co13, eo13⟩ := Kd.R_slice HO617.out
     (subst eo13)
     refine hK.out _ _ ⟨(blk_cell BK614.out 0).trans rfl, (blk_cell BK614.out 1).trans rfl, (blk_cell BK614.out 2).trans rfl⟩ (fun hHeld => ?_)
     clear hK K
     refine norm_ (a' := ?_) ?_ ?_
     rotate_left
     ·show Act.put _ (some 22) _ = _
      simp only [Act.put,qa,qb,qc,i64_w,i32_w]
      rfl
     refine pu 4 (some 23) ?_
     refine pu 5 (some 24) ?_
     refine pu 8 (some 27) ?_
     refine done_ (done_of HT_.out (by kernel_rfl)) ?_
     try go_wp2
     go_ret2
     exact ⟨_, by rfl, by exact Kd.N_nil _ _ _ _ _, by repeat ((with_reducible exact HB.out))⟩
    ·rw [if_neg c7] at H
     have c7b0 : decide ((l0.length : Int) < (wrap64 (((T73 l1 x15_1).f0) + (t615.length : Int)))) = false := decide_eq_false c7
     clear c7
     have H' := am H
     clear H
     have p613 : 0 ≤ (x15_1 : Int) := oa
     have q613 : x15_1 < (l1.length : Int) := oa
     obtain ⟨ad613, A613_2, c613_2, e613, hx613_0, hx613_1, hx613_2, hl613_2, hi613_2⟩ := at_T73 HR1.out x15_1 p613 q613
     cases e613
     replace hx613_0 := bc HB.out hx613_0
     replace hx613_1 := bc HB.out hx613_1
     replace hx613_2 := bc HB.out hx613_2
     have HR613_2 := am hi613_2
     have HC613_2 := am hl613_2
     clear hi613_2 hl613_2
     replace p613 := eq_true p613
     replace q613 := eq_true q613
     try go_wp2_with (((with_reducible refine gate_dst (N := 7) rfl ?_); refine box_event ?hg (N := 7) ?hd (cs := #[.int .i64 0, .int .i64 0, .slice none 0 0]) (t := 73) ?hr ?_; (case hd => rfl); (case hg => rfl); (case hr => (go_simp; done)); intro gb614 hg w14 hbox hb; have BK614 := am (hbox); have GW614 := am ((by rw [hg]; exact (below_size zb) : w.heap.size ≤ gb614)); have GE614 := am ((by rw [hg]; exact (below_size zb) : w.heap.size ≤ gb614)); replace HB := am (below_step zb hb); clear hb hbox hg; obtain ⟨hcz15_0, hcz15_1, hcz15_2⟩ := cz3 BK614.out; obtain ⟨hfz15_0, hfz15_1, hfz15_2⟩ := fz3 BK614.out))
     have n0_ : Aside0 ((((w14.setCell ⟨gb614, 0, none⟩ (.int .i64 ((T73 l1 x15_1).f0))).setCell ⟨gb614, 1, none⟩ (.int .i64 ((T73 l1 x15_1).f1))).setCell ⟨gb614, 2, none⟩ (.slice A613_2 ((T73 l1 x15_1).f2).length c613_2)).heap[gb614]? = some (.cells #[.int .i64 ((T73 l1 x15_1).f0), .int .i64 ((T73 l1 x15_1).f1), .slice A613_2 ((T73 l1 x15_1).f2).length c613_2] 73 (0, 0))) := ⟨by refine blk_put (cs := #[.int .i64 ((T73 l1 x15_1).f0), .int .i64 ((T73 l1 x15_1).f1), .slice none 0 0]) ?_ 2 _ rfl; refine blk_put (cs := #[.int .i64 ((T73 l1 x15_1).f0), .int .i64 0, .slice none 0 0]) ?_ 1 _ rfl; refine blk_put (cs := #[.int .i64 0, .int .i64 0, .slice none 0 0]) ?_ 0 _ rfl; exact BK614.out⟩
     have n1_ : Aside0 (Below w.heap.size w (((w14.setCell ⟨gb614, 0, none⟩ (.int .i64 ((T73 l1 x15_1).f0))).setCell ⟨gb614, 1, none⟩ (.int .i64 ((T73 l1 x15_1).f1))).setCell ⟨gb614, 2, none⟩ (.slice A613_2 ((T73 l1 x15_1).f2).length c613_2))) := ⟨by repeat ((with_reducible first | exact HB.out | refine below_set ?_ GE614.out))⟩
     (try clear BK614)
     (try clear HB)
     generalize (((w14.setCell ⟨gb614, 0, none⟩ (.int .i64 ((T73 l1 x15_1).f0))).setCell ⟨gb614, 1, none⟩ (.int .i64 ((T73 l1 x15_1).f1))).setCell ⟨gb614, 2, none⟩ (.slice A613_2 ((T73 l1 x15_1).f2).length c613_2)) = w16 at n0_ n1_ ⊢
     have BK614 := n0_
     have HB := n1_
     clear n0_ n1_
     replace BK614 := am (blk_drew BK614.out)
     replace HB := am (below_drew1 HB.out)
     refine start_ (n := 9) (S := fun w' => w'.cell? ⟨gb614, 0, none⟩ = some (.int .i64 ((T73 l1 x15_1).f0)) ∧ w'.cell? ⟨gb614, 1, none⟩ = some (.int .i64 ((T73 l1 x15_1).f1)) ∧ w'.cell? ⟨gb614, 2, none⟩ = some (.slice A613_2 ((T73 l1 x15_1).f2).length c613_2)) (ds := []) #[O,O,O,O,O,O,O,O,O] (by kernel_rfl) rfl rfl ⟨(blk_cell BK614.out 0).trans rfl, (blk_cell BK614.out 1).trans rfl, (blk_cell BK614.out 2).trans rfl⟩ (fun hHeld => ?_); refine with_tabW spec_l6All.tab4 spec_l6All.bits4 (fun HT_ HW_ => ?_)
     generalize w16.drew = w17 at BK614 HB hHeld ⊢
     refine pu 0 (some 19) ?_
     refine pu 6 (some 25) ?_
     refine pu 7 (some 26) ?_
     refine ta 1 (some 20) ?_
     refine ta 2 (some 21) ?_
     refine one_ (i := 3) (N := some 22) #[Y,Y,Y,Y,O,O,Y,Y,O] rfl rfl (one_of HT_.out (by kernel_rfl)) (by decide) (fun K hK => ?_)
     refine goes_ Try.func108 (by kernel_rfl) rfl #[.agg #[.int .i64 ((T73 l1 x15_1).f0), .int .i64 ((T73 l1 x15_1).f1), .slice A613_2 ((T73 l1 x15_1).f2).length c613_2]] (by rfl) rfl rfl zm ?_
     with_reducible refine (spec_l6Old.calls k1 ((T73 l1 x15_1).f0) ((T73 l1 x15_1).f1) _ _ ((T73 l1 x15_1).f2) t615 _ ?side1 ?side2 A6.out).mono ?_
     (case side1 => exact zq (Kd.C_below HR613_2.out HB.out))
     (case side2 => exact HC613_2.out)
     rintro e w18 ⟨v616, rfl, ho0, hb⟩
     refine ⟨_, rfl, ?_⟩
     have HO617 := am (Kd.R_lower (Kd.R_newM (M := fun k_ => (w.heap.size ≤ k_)) ho0 (below_size (by repeat ((with_reducible exact HB.out)))) (fun k_ h_ => h_)) (below_size (by repeat ((with_reducible exact HB.out)))))
     replace BK614 := am (blk_below (g := gb614) (o := .cells #[.int .i64 ((T73 l1 x15_1).f0), .int .i64 ((T73 l1 x15_1).f1), .slice A613_2 ((T73 l1 x15_1).f2).length c613_2] 73 (0, 0)) (zk BK614.out) hb)
     replace HB := am (below_step (by repeat ((with_reducible exact HB.out))) hb)
     (try clear hb)
     (try clear ho0)
     obtain ⟨Ao19, co19, eo19⟩ := Kd.R_slice HO617.out
     (subst eo19)
     refine hK.out _ _ ⟨(blk_cell BK614.out 0).trans rfl, (blk_cell BK614.out 1).trans rfl, (blk_cell BK614.out 2).trans rfl⟩ (fun hHeld => ?_)
     clear hK K
     refine norm_ (a' := ?_) ?_ ?_
     rotate_left
     ·show Act.put _ (some 22) _ = _
      simp only [Act.put,qa,qb,qc,i64_w,i32_w]
      rfl
     refine pu 4 (some 23) ?_
     refine pu 5 (some 24) ?_
     refine pu 8 (some 27) ?_
     refine done_ (done_of HT_.out (by kernel_rfl)) ?_
     try go_wp2
     go_roundg k1
     case measure => have := HK1.out; omega
     case rel => exact ⟨(wrap64 (x15_1 + 1)), zf, H', ⟨by have := HK1.out; omega⟩, ⟨by repeat ((with_reducible exact HB.out))⟩⟩
   ·rw [if_neg c3] at H
    have c3b0 : decide (x15_1 < (l1.length : Int)) = false := decide_eq_false c3
    clear c3
    have H' := am H
    clear H
    go_wp2
    go_loopg [8, 9, 31] k1 (fun kq v8 v9 v31 w' => ∃ (x8_2 : Int) (x9_2 : List (S106)) (x31_2 : Int), v8 = .int .i64 x8_2 ∧ v31 = .int .i64 x31_2 ∧ Aside0 (spec_l6All.l1 kq l0 x8_2 x9_2 l1 (l1.length : Int) x31_2 = some (r1, r2)) ∧ Aside0 (kq ≤ k1) ∧ Aside0 (Kd.N k106 106 w' w.heap.size (fun k_ => (w.heap.size ≤ k_)) v9 x9_2) ∧ Aside0 (Below w.heap.size w w'))
    case atStart => exact ⟨(0), (([] : List (S106))), (0), zf, zf, H', ⟨Nat.le_refl _⟩, ⟨by exact Kd.N_nil _ _ _ _ _⟩, ⟨by repeat ((with_reducible exact HB.out))⟩⟩
    case round =>
     clear H'
     try clear c3b0
     obtain ⟨x8_2, x9_2, x31_2, rfl, rfl, HA, HK2, HO_9, HB⟩ := hrel
     cases gk with
     | zero => exact absurd HA.out (by simp [spec_l6All.l1])
     | succ k2 =>
      have H := HA.out
      clear HA
      simp only [spec_l6All.l1] at H
      by_cases c20 : x31_2 < (l1.length : Int)
      ·rw [if_pos c20] at H
       have c20b0 : decide (x31_2 < (l1.length : Int)) = true := decide_eq_true c20
       clear c20
       obtain ⟨c21, H⟩ := itn H
       have c21b0 := decide_eq_true c21
       clear c21
       obtain ⟨c22, H⟩ := itn H
       have c22b0 := decide_eq_true c22
       clear c22
       replace H := Option.bind_eq_some_iff.mp H
       obtain ⟨t620, A230, H⟩ := H
       replace H : (if 0 ≤ ((T73 l1 x31_2).f0) then (if ((T73 l1 x31_2).f0) ≤ (wrap64 (((T73 l1 x31_2).f0) + (t620.length : Int))) then (if (wrap64 (((T73 l1 x31_2).f0) + (t620.length : Int))) ≤ (l0.length : Int) then ((spec_l1SameT.f k2 ((l0.take ((wrap64 (((T73 l1 x31_2).f0) + (t620.length : Int))) : Int).toNat).drop (((T73 l1 x31_2).f0) : Int).toNat) t620).bind fun t624 => (if t624 = true then (spec_l6All.j2 k2 l0 x8_2 x9_2 t620 l1 (l1.length : Int) x31_2 (((T73 l1 x31_2).f1) != (wrap64 (((T73 l1 x31_2).f0) + x8_2))) ((T73 l1 x31_2).f0) ((T73 l1 x31_2).f1) ((T73 l1 x31_2).f2)) else (spec_l6All.j2 k2 l0 x8_2 x9_2 t620 l1 (l1.length : Int) x31_2 true ((T73 l1 x31_2).f0) ((T73 l1 x31_2).f1) ((T73 l1 x31_2).f2)))) else (none)) else (none)) else (none)) = some (r1, r2) := H
       have A23 := am A230
       clear A230
       have HC24 := am H
       clear H
       have p618 : 0 ≤ (x31_2 : Int) := oa
       have q618 : x31_2 < (l1.length : Int) := oa
       obtain ⟨ad618, A618_2, c618_2, e618, hx618_0, hx618_1, hx618_2, hl618_2, hi618_2⟩ := at_T73 HR1.out x31_2 p618 q618
       cases e618
       replace hx618_0 := bc HB.out hx618_0
       replace hx618_1 := bc HB.out hx618_1
       replace hx618_2 := bc HB.out hx618_2
       have HR618_2 := am hi618_2
       have HC618_2 := am hl618_2
       clear hi618_2 hl618_2
       replace p618 := eq_true p618
       replace q618 := eq_true q618
       go_upto_region 13 with (first | ((with_reducible refine gate_dst (N := 11) rfl ?_); refine box_event ?hg (N := 11) ?hd (cs := #[.int .i64 0, .int .i64 0, .slice none 0 0]) (t := 73) ?hr ?_; (case hd => rfl); (case hg => rfl); (case hr => (go_simp; done)); intro gb619 hg w25 hbox hb; replace HO_9 := am (Kd.N_below (Kd.N_elderB (by exact HO_9.out) gb619 (Nat.le_of_eq hg.symm)) hb); have BK619 := am (hbox); have GW619 := am ((by rw [hg]; exact (below_size zb) : w.heap.size ≤ gb619)); have GE619 := am ((by rw [hg]; exact (below_size zb) : w.heap.size ≤ gb619)); replace HB := am (below_step zb hb); clear hb hbox hg; obtain ⟨hcz26_0, hcz26_1, hcz26_2⟩ := cz3 BK619.out; obtain ⟨hfz26_0, hfz26_1, hfz26_2⟩ := fz3 BK619.out) | ((with_reducible refine gateC (f := 108) rfl ?_); refine goesL_ (some 36) rfl rfl Try.func108 (by kernel_rfl) rfl #[.agg #[.int .i64 ((T73 l1 x31_2).f0), .int .i64 ((T73 l1 x31_2).f1), .slice A618_2 ((T73 l1 x31_2).f2).length c618_2]] rfl zm ?_; (with_reducible refine (spec_l6Old.calls k2 ((T73 l1 x31_2).f0) ((T73 l1 x31_2).f1) _ _ ((T73 l1 x31_2).f2) t620 _ ?side1 ?side2 A23.out).mono ?_); (case side1 => exact Kd.C_below HR618_2.out (by repeat ((with_reducible first | exact HB.out | refine below_set ?_ GE619.out)))); (case side2 => exact HC618_2.out); rintro e w27 ⟨v621, rfl, ho0, hb⟩; refine ⟨_, rfl, ?_⟩; replace HO_9 := am (Kd.N_elder' (by exact (Kd.N_mono (Kd.N_far (p := ⟨gb619, 2, none⟩) (Kd.N_far (p := ⟨gb619, 1, none⟩) (Kd.N_far (p := ⟨gb619, 0, none⟩) (Kd.N_mono HO_9.out (fun k_ hk => (⟨hk, hk.2⟩ : _ ∧ k_ ≠ gb619))) (fun _ hk => hk.2) (.int .i64 ((T73 l1 x31_2).f0))) (fun _ hk => hk.2) (.int .i64 ((T73 l1 x31_2).f1))) (fun _ hk => hk.2) (.slice A618_2 ((T73 l1 x31_2).f2).length c618_2)) (fun _ h_ => h_.1))) (Kd.R_base ho0) hb); have HO622 := am (Kd.R_lower (Kd.R_newM (M := fun k_ => (w.heap.size ≤ k_)) ho0 (below_size (by repeat ((with_reducible first | exact HB.out | refine below_set ?_ GE619.out)))) (fun k_ h_ => h_)) (below_size (by repeat ((with_reducible first | exact HB.out | refine below_set ?_ GE619.out))))); replace BK619 := am (blk_below (g := gb619) (o := .cells #[.int .i64 ((T73 l1 x31_2).f0), .int .i64 ((T73 l1 x31_2).f1), .slice A618_2 ((T73 l1 x31_2).f2).length c618_2] 73 (0, 0)) (by refine blk_put (cs := #[.int .i64 ((T73 l1 x31_2).f0), .int .i64 ((T73 l1 x31_2).f1), .slice none 0 0]) ?_ 2 _ rfl; refine blk_put (cs := #[.int .i64 ((T73 l1 x31_2).f0), .int .i64 0, .slice none 0 0]) ?_ 1 _ rfl; refine blk_put (cs := #[.int .i64 0, .int .i64 0, .slice none 0 0]) ?_ 0 _ rfl; exact BK619.out) hb); replace HB := am (below_step (by repeat ((with_reducible first | exact HB.out | refine below_set ?_ GE619.out))) hb); (try clear hb); (try clear ho0)))
       go_cut [57] (fun v57 wc => ∃ (kq : Nat) (x57_23 : Bool), v57 = .bool x57_23 ∧ Aside0 (spec_l6All.j2 kq l0 x8_2 x9_2 t620 l1 (l1.length : Int) x31_2 x57_23 ((T73 l1 x31_2).f0) ((T73 l1 x31_2).f1) ((T73 l1 x31_2).f2) = some (r1, r2)) ∧ Aside0 (kq ≤ k2) ∧ Aside0 (Kd.N k106 106 wc w.heap.size (fun k_ => (w.heap.size ≤ k_) ∧ some k_ ≠ (v621 : Value).ownBlock ∧ k_ ≠ gb619) u9 x9_2) ∧ Aside0 (Kd.R Kd.string 9 wc w.heap.size (fun k_ => (w.heap.size ≤ k_)) v621 t620) ∧ Aside0 (wc.heap[gb619]? = some (.cells #[.int .i64 ((T73 l1 x31_2).f0), .int .i64 ((T73 l1 x31_2).f1), (.slice A618_2 ((T73 l1 x31_2).f2).length c618_2)] 73 (0, 0))) ∧ Aside0 (Below w.heap.size w wc))
       case first =>
        have H := HC24.out
        clear HC24
        obtain ⟨c28, H⟩ := itn H
        have c28b0 := eq_true c28
        have c28b1 := decide_eq_true c28
        clear c28
        obtain ⟨c29, H⟩ := itn H
        have c29b0 := eq_true c29
        have c29b1 := decide_eq_true c29
        obtain ⟨c30, H⟩ := itn H
        have c30b0 := eq_true c30
        have c30b1 := decide_eq_true c30
        replace H := Option.bind_eq_some_iff.mp H
        obtain ⟨t624, A310, H⟩ := H
        replace H : (if t624 = true then (spec_l6All.j2 k2 l0 x8_2 x9_2 t620 l1 (l1.length : Int) x31_2 (((T73 l1 x31_2).f1) != (wrap64 (((T73 l1 x31_2).f0) + x8_2))) ((T73 l1 x31_2).f0) ((T73 l1 x31_2).f1) ((T73 l1 x31_2).f2)) else (spec_l6All.j2 k2 l0 x8_2 x9_2 t620 l1 (l1.length : Int) x31_2 true ((T73 l1 x31_2).f0) ((T73 l1 x31_2).f1) ((T73 l1 x31_2).f2))) = some (r1, r2) := H
        have A31 := am A310
        clear A310
        by_cases c32 : t624 = true
        ·subst c32
         rw [if_pos rfl] at H
         have H' := am H
         clear H
         obtain ⟨hcz33_0, hcz33_1, hcz33_2⟩ := cz3 BK619.out
         obtain ⟨hfz33_0, hfz33_1, hfz33_2⟩ := fz3 BK619.out
         obtain ⟨Ao34, co34, eo34⟩ := Kd.R_slice HO622.out
         subst eo34
         obtain ⟨i035, hi035, _, hsz35, _⟩ := info_parts info9
         obtain ⟨A35, hcut35, hA35, hC35⟩ := print_mid_of (P := Try.prog) Value.string (⟨#[]⟩ : ByteArray) 24 9 .i64 .i64 Try.underlying24 hi035 hsz35 A0 c0 l0 ((T73 l1 x31_2).f0) (wrap64 (((T73 l1 x31_2).f0) + (t620.length : Int))) oa (by omega) oa HC0.out
         have HR623 := am (Kd.C_of_reads (h1 := fun _ => rfl) (hA35 _ (Kd.reads_of_C HR0.out)))
         have HC623 := am hC35
         clear hA35 hC35 hi035 hsz35
         go_wp2_with (first | ((with_reducible refine gateC (f := 145) rfl ?_); refine goesL_ (some 47) rfl rfl Try.func145 (by kernel_rfl) rfl #[.slice A35 ((l0.take ((wrap64 (((T73 l1 x31_2).f0) + (t620.length : Int))) : Int).toNat).drop (((T73 l1 x31_2).f0) : Int).toNat).length (c0 - ((T73 l1 x31_2).f0).toNat), .slice Ao34 t620.length co34] rfl (by (try simp only [List.map_toArray, List.map_cons, List.map_nil]); (rw [show ((l0.take ((wrap64 (((T73 l1 x31_2).f0) + (t620.length : Int))) : Int).toNat).drop (((T73 l1 x31_2).f0) : Int).toNat).length = ((wrap64 (((T73 l1 x31_2).f0) + (t620.length : Int))).toNat - ((T73 l1 x31_2).f0).toNat) from (by rw [List.length_drop, List.length_take]; have h_ : ((wrap64 (((T73 l1 x31_2).f0) + (t620.length : Int))) : Int) ≤ (l0.length : Int) := oa; omega)] <;> rfl)) ?_; (with_reducible refine (spec_l1SameT.calls k2 _ _ ((l0.take ((wrap64 (((T73 l1 x31_2).f0) + (t620.length : Int))) : Int).toNat).drop (((T73 l1 x31_2).f0) : Int).toNat) _ _ t620 true _ ?side1 ?side2 ?side3 ?side4 A31.out).mono ?_); (case side1 => exact zq (Kd.C_below HR623.out HB.out)); (case side2 => exact HC623.out); (case side3 => repeat (exact (Kd.R_reads' HO622.out).2.2)); (case side4 => exact (Kd.R_reads' HO622.out).2.1); rintro e w' ⟨rfl, ⟨nd, rfl⟩⟩; refine ⟨_, rfl, ?_⟩))
         go_meet
         case rel => exact ⟨_, ((((T73 l1 x31_2).f1) != (wrap64 (((T73 l1 x31_2).f0) + x8_2)))), zf, H', ⟨by have := HK1.out; have := HK2.out; omega⟩, ⟨by (with_reducible repeat (apply Kd.N_drewN)); exact Kd.N_mono HO_9.out (fun _ hk => ⟨hk.1.1, ⟨hk.2, hk.1.2⟩⟩)⟩, ⟨by (with_reducible repeat (apply Kd.R_drewN)); exact Kd.R_mono HO622.out (fun _ hk => hk.1)⟩, ⟨by (with_reducible repeat (refine blk_drewN ?_ _)); exact BK619.out⟩, ⟨by repeat ((with_reducible first | exact HB.out | apply pw_below_drewN))⟩⟩
        ·replace c32 := Bool.eq_false_iff.mpr c32
         subst c32
         rw [if_neg nofun] at H
         have H' := am H
         clear H
         obtain ⟨hcz36_0, hcz36_1, hcz36_2⟩ := cz3 BK619.out
         obtain ⟨hfz36_0, hfz36_1, hfz36_2⟩ := fz3 BK619.out
         obtain ⟨Ao37, co37, eo37⟩ := Kd.R_slice HO622.out
         subst eo37
         obtain ⟨i038, hi038, _, hsz38, _⟩ := info_parts info9
         obtain ⟨A38, hcut38, hA38, hC38⟩ := print_mid_of (P := Try.prog) Value.string (⟨#[]⟩ : ByteArray) 24 9 .i64 .i64 Try.underlying24 hi038 hsz38 A0 c0 l0 ((T73 l1 x31_2).f0) (wrap64 (((T73 l1 x31_2).f0) + (t620.length : Int))) oa (by omega) oa HC0.out
         have HR623 := am (Kd.C_of_reads (h1 := fun _ => rfl) (hA38 _ (Kd.reads_of_C HR0.out)))
         have HC623 := am hC38
         clear hA38 hC38 hi038 hsz38
         go_wp2_with (first | ((with_reducible refine gateC (f := 145) rfl ?_); refine goesL_ (some 47) rfl rfl Try.func145 (by kernel_rfl) rfl #[.slice A38 ((l0.take ((wrap64 (((T73 l1 x31_2).f0) + (t620.length : Int))) : Int).toNat).drop (((T73 l1 x31_2).f0) : Int).toNat).length (c0 - ((T73 l1 x31_2).f0).toNat), .slice Ao37 t620.length co37] rfl (by (try simp only [List.map_toArray, List.map_cons, List.map_nil]); (rw [show ((l0.take ((wrap64 (((T73 l1 x31_2).f0) + (t620.length : Int))) : Int).toNat).drop (((T73 l1 x31_2).f0) : Int).toNat).length = ((wrap64 (((T73 l1 x31_2).f0) + (t620.length : Int))).toNat - ((T73 l1 x31_2).f0).toNat) from (by rw [List.length_drop, List.length_take]; have h_ : ((wrap64 (((T73 l1 x31_2).f0) + (t620.length : Int))) : Int) ≤ (l0.length : Int) := oa; omega)] <;> rfl)) ?_; (with_reducible refine (spec_l1SameT.calls k2 _ _ ((l0.take ((wrap64 (((T73 l1 x31_2).f0) + (t620.length : Int))) : Int).toNat).drop (((T73 l1 x31_2).f0) : Int).toNat) _ _ t620 false _ ?side1 ?side2 ?side3 ?side4 A31.out).mono ?_); (case side1 => exact zq (Kd.C_below HR623.out HB.out)); (case side2 => exact HC623.out); (case side3 => repeat (exact (Kd.R_reads' HO622.out).2.2)); (case side4 => exact (Kd.R_reads' HO622.out).2.1); rintro e w' ⟨rfl, ⟨nd, rfl⟩⟩; refine ⟨_, rfl, ?_⟩))
         go_meet
         case rel => exact ⟨_, (true), zf, H', ⟨by have := HK1.out; have := HK2.out; omega⟩, ⟨by (with_reducible repeat (apply Kd.N_drewN)); exact Kd.N_mono HO_9.out (fun _ hk => ⟨hk.1.1, ⟨hk.2, hk.1.2⟩⟩)⟩, ⟨by (with_reducible repeat (apply Kd.R_drewN)); exact Kd.R_mono HO622.out (fun _ hk => hk.1)⟩, ⟨by (with_reducible repeat (refine blk_drewN ?_ _)); exact BK619.out⟩, ⟨by repeat ((with_reducible first | exact HB.out | apply pw_below_drewN))⟩⟩
       case rest =>
        clear HC24
        try clear c20b0
        try clear c21b0
        try clear c22b0
        try clear hcz26_0
        try clear hcz26_1
        try clear hcz26_2
        try clear hfz26_0
        try clear hfz26_1
        try clear hfz26_2
        try clear hx618_0
        try clear hx618_1
        try clear hx618_2
        try clear p618
        try clear q618
        obtain ⟨kq, x57_23, rfl, HA, HJ23, HO_9, HO_12, BK619, HB⟩ := hcut
        cases kq with
        | zero => exact absurd HA.out (by simp [spec_l6All.j2])
        | succ kj23 =>
         have H := HA.out
         clear HA
         simp only [spec_l6All.j2] at H
         by_cases c39 : x57_23 = true
         ·subst c39
          rw [if_pos rfl] at H
          simp only [Option.some.injEq, Prod.mk.injEq] at H
          obtain ⟨rfl, rfl⟩ := H
          go_wp2
          go_ret2
          exact ⟨_, by rfl, by exact Kd.N_nil _ _ _ _ _, by repeat ((with_reducible exact HB.out))⟩
         ·replace c39 := Bool.eq_false_iff.mpr c39
          subst c39
          rw [if_neg nofun] at H
          replace H := Option.bind_eq_some_iff.mp H
          obtain ⟨t625, A400, H⟩ := H
          replace H : ((spec_l6Hunks.f kj23 ((T73 l1 x31_2).f0) ((T73 l1 x31_2).f1) ((T73 l1 x31_2).f2)).bind fun t628 => (if x9_2.length + t628.length < 3518437208883 then (spec_l6All.l1 kj23 l0 (wrap64 (x8_2 + (wrap64 ((t625.length : Int) - (t620.length : Int))))) (x9_2 ++ t628) l1 (l1.length : Int) (wrap64 (x31_2 + 1))) else (none))) = some (r1, r2) := H
          have A40 := am A400
          clear A400
          replace H := Option.bind_eq_some_iff.mp H
          obtain ⟨t628, A410, H⟩ := H
          replace H : (if x9_2.length + t628.length < 3518437208883 then (spec_l6All.l1 kj23 l0 (wrap64 (x8_2 + (wrap64 ((t625.length : Int) - (t620.length : Int))))) (x9_2 ++ t628) l1 (l1.length : Int) (wrap64 (x31_2 + 1))) else (none)) = some (r1, r2) := H
          have A41 := am A410
          clear A410
          obtain ⟨c42, H⟩ := itn H
          have LMc42 := am c42
          clear c42
          obtain ⟨y631, hy631⟩ : ∃ y_ : List (S106), y_ = (x9_2 ++ t628) := ⟨_, rfl⟩
          rw [← hy631] at H
          have Ny631 := am hy631
          clear hy631
          have H' := am H
          clear H
          obtain ⟨hcz43_0, hcz43_1, hcz43_2⟩ := cz3 BK619.out
          obtain ⟨hfz43_0, hfz43_1, hfz43_2⟩ := fz3 BK619.out
          go_wp2_with (first | ((with_reducible refine gateC (f := 140) rfl ?_); refine goesL_ (some 60) rfl rfl Try.func140 (by kernel_rfl) rfl #[.agg #[.int .i64 ((T73 l1 x31_2).f0), .int .i64 ((T73 l1 x31_2).f1), .slice A618_2 ((T73 l1 x31_2).f2).length c618_2]] rfl zm ?_; (with_reducible refine (spec_l6New.calls kj23 ((T73 l1 x31_2).f0) ((T73 l1 x31_2).f1) _ _ ((T73 l1 x31_2).f2) t625 _ ?side1 ?side2 A40.out).mono ?_); (case side1 => exact zq (Kd.C_below HR618_2.out HB.out)); (case side2 => exact HC618_2.out); rintro e w44 ⟨v626, rfl, ho0, hb⟩; refine ⟨_, rfl, ?_⟩; replace HO_9 := am (Kd.N_elder' (by exact HO_9.out) (Kd.R_base ho0) hb); have HO627 := am (Kd.R_lower (Kd.R_new' (Kd.R_newM (M := fun k_ => (w.heap.size ≤ k_)) ho0 (below_size (by repeat ((with_reducible exact HB.out)))) (fun k_ h_ => h_)) (Kd.R_lt (zr HO_12.out))) (below_size (by repeat ((with_reducible exact HB.out))))); replace HO_12 := am (Kd.R_elder' (zr HO_12.out) (Kd.R_base ho0) hb); replace BK619 := am (blk_below (g := gb619) (o := .cells #[.int .i64 ((T73 l1 x31_2).f0), .int .i64 ((T73 l1 x31_2).f1), .slice A618_2 ((T73 l1 x31_2).f2).length c618_2] 73 (0, 0)) (zk BK619.out) hb); replace HB := am (below_step (by repeat ((with_reducible exact HB.out))) hb); (try clear hb); (try clear ho0); obtain ⟨Ao45, co45, eo45⟩ := Kd.R_slice HO627.out; subst eo45; obtain ⟨Ao46, co46, eo46⟩ := Kd.R_slice HO_12.out; subst eo46; obtain ⟨hcz47_0, hcz47_1, hcz47_2⟩ := cz3 BK619.out; obtain ⟨hfz47_0, hfz47_1, hfz47_2⟩ := fz3 BK619.out) | ((with_reducible refine gateC (f := 109) rfl ?_); refine goesL_ (some 68) rfl rfl Try.func109 (by kernel_rfl) rfl #[.agg #[.int .i64 ((T73 l1 x31_2).f0), .int .i64 ((T73 l1 x31_2).f1), .slice A618_2 ((T73 l1 x31_2).f2).length c618_2]] rfl zm ?_; (with_reducible refine (spec_l6Hunks.calls kj23 ((T73 l1 x31_2).f0) ((T73 l1 x31_2).f1) _ _ ((T73 l1 x31_2).f2) t628 _ ?side1 ?side2 A41.out).mono ?_); (case side1 => exact zq (Kd.C_below HR618_2.out HB.out)); (case side2 => exact HC618_2.out); rintro e w48 ⟨v629, rfl, ho0, hb⟩; refine ⟨_, rfl, ?_⟩; have HO630 := am (Kd.N_lower (Kd.N_mono (ok' := fun k_ => (w.heap.size ≤ k_) ∧ some k_ ≠ (u9 : Value).ownBlock ∧ some k_ ≠ (.slice Ao46 t620.length co46 : Value).ownBlock ∧ some k_ ≠ (.slice Ao45 t625.length co45 : Value).ownBlock ∧ k_ ≠ gb619) (Kd.S_N (Kd.S_bound ho0)) (fun k_ hk_ => ⟨(Nat.le_trans (below_size (by repeat ((with_reducible exact HB.out)))) hk_.2.1), (Kd.fresh' (Kd.N_lt (by exact HO_9.out)) k_ hk_.2.1), (Kd.fresh' (Kd.R_lt (zr HO_12.out)) k_ hk_.2.1), (Kd.fresh' (Kd.R_lt (zr HO627.out)) k_ hk_.2.1), (Kd.freshB (g := gb619) (o := .cells #[.int .i64 ((T73 l1 x31_2).f0), .int .i64 ((T73 l1 x31_2).f1), .slice A618_2 ((T73 l1 x31_2).f2).length c618_2] 73 (0, 0)) (zk BK619.out) k_ hk_.2.1)⟩)) (below_size (by repeat ((with_reducible exact HB.out))))); replace HO_9 := am (Kd.N_elder' (by exact HO_9.out) (Kd.S_base ho0) hb); replace HO_12 := am (Kd.R_below (zr HO_12.out) hb); replace HO627 := am (Kd.R_below (zr HO627.out) hb); replace BK619 := am (blk_below (g := gb619) (o := .cells #[.int .i64 ((T73 l1 x31_2).f0), .int .i64 ((T73 l1 x31_2).f1), .slice A618_2 ((T73 l1 x31_2).f2).length c618_2] 73 (0, 0)) (zk BK619.out) hb); replace HB := am (below_step (by repeat ((with_reducible exact HB.out))) hb); (try clear hb); (try clear ho0); obtain ⟨Ao50, co50, eo50⟩ := Kd.N_slice HO630.out; subst eo50) | ((with_reducible refine gateB (b := .append) (xs := #[.tmp 66, .tmp 68]) rfl ?_); at_builtin; refine Kd.N_append_rows k106 (w0 := w) w.heap.size rfl (.tmp 66) (.tmp 68) 42 106 (.agg #[(.int .i64 0), (.int .i64 0), (.slice none 0 0)]) 40 rfl Try.underlying42 info106 rfl (by decide) (by omega) u9 x9_2 t628 _ _ _ (fun k_ => (w.heap.size ≤ k_) ∧ some k_ ≠ (.slice Ao46 t620.length co46 : Value).ownBlock ∧ some k_ ≠ (.slice Ao45 t625.length co45 : Value).ownBlock ∧ k_ ≠ gb619) (fun k_ => ((fun k_ => (w.heap.size ≤ k_) ∧ some k_ ≠ (.slice Ao46 t620.length co46 : Value).ownBlock ∧ some k_ ≠ (.slice Ao45 t625.length co45 : Value).ownBlock ∧ k_ ≠ gb619)) k_ ∧ some k_ ≠ (u9 : Value).ownBlock) rfl rfl ?aO ?aR (fun _ hk => hk) ?aF ?aB ?aS ?aL ?_; (case aR => exact (by skip; exact Kd.N_F (Kd.N_mono (ok' := (fun k_ => ((fun k_ => (w.heap.size ≤ k_) ∧ some k_ ≠ (.slice Ao46 t620.length co46 : Value).ownBlock ∧ some k_ ≠ (.slice Ao45 t625.length co45 : Value).ownBlock ∧ k_ ≠ gb619)) k_ ∧ some k_ ≠ (u9 : Value).ownBlock)) (HO630.out) (fun k_ hk => ⟨⟨hk.1, ⟨hk.2.2.1, ⟨hk.2.2.2.1, hk.2.2.2.2⟩⟩⟩, hk.2.1⟩)))); (case aB => exact (by repeat ((with_reducible exact HB.out)))); (case aF => exact (fun k_ hk => ⟨(Nat.le_trans (below_size (by repeat ((with_reducible exact HB.out)))) hk), Kd.fresh' (Kd.R_lt (zr HO_12.out)) k_ hk, Kd.fresh' (Kd.R_lt (zr HO627.out)) k_ hk, Kd.freshB (g := gb619) (o := .cells #[.int .i64 ((T73 l1 x31_2).f0), .int .i64 ((T73 l1 x31_2).f1), .slice A618_2 ((T73 l1 x31_2).f2).length c618_2] 73 (0, 0)) (zk BK619.out) k_ hk⟩)); (case aO => exact (by exact Kd.N_mono HO_9.out (fun _ hk => ⟨hk.1.1.1, ⟨hk.1.1.2.1, ⟨hk.1.2, hk.1.1.2.2⟩⟩⟩))); (case aS => exact (below_size (by repeat ((with_reducible exact HB.out))))); (case aL => have := LMc42.out; omega); intro v632 w49 ho hb hg hat; rw [← Ny631.out] at ho; replace HO_12 := am (Kd.R_over' (zr HO_12.out) (Kd.N_typed (by exact HO_9.out)) (by decide) hg); replace BK619 := am (blk_grown (g := gb619) (o := .cells #[.int .i64 ((T73 l1 x31_2).f0), .int .i64 ((T73 l1 x31_2).f1), .slice A618_2 ((T73 l1 x31_2).f2).length c618_2] 73 (0, 0)) (zk BK619.out) hg (Kd.N_ne HO_9.out BK619.out (by decide))); replace HO627 := am (Kd.R_over' (zr HO627.out) (Kd.N_typed (by exact HO_9.out)) (by decide) hg); replace HO630 := am (Kd.N_afterv (ok := (fun k_ => (w.heap.size ≤ k_) ∧ some k_ ≠ (.slice Ao46 t620.length co46 : Value).ownBlock ∧ some k_ ≠ (.slice Ao45 t625.length co45 : Value).ownBlock ∧ k_ ≠ gb619)) (by exact Kd.N_mono HO630.out (fun _ hk => ⟨⟨hk.1, ⟨hk.2.2.1, ⟨hk.2.2.2.1, hk.2.2.2.2⟩⟩⟩, hk.2.1⟩)) hg hat); replace HB := am (hb); have HO633 := am (ho); clear HO_9; clear ho hb hg hat))
          go_roundg kj23
          case measure => have := HK1.out; have := HK2.out; have := HJ23.out; omega
          case rel => exact ⟨(wrap64 (x8_2 + (wrap64 ((t625.length : Int) - (t620.length : Int))))), (y631), (wrap64 (x31_2 + 1)), zf, zf, H', ⟨by have := HK1.out; have := HK2.out; have := HJ23.out; omega⟩, ⟨by exact Kd.N_mono HO633.out (fun _ hk => hk.1)⟩, ⟨by repeat ((with_reducible exact HB.out))⟩⟩
      ·rw [if_neg c20] at H
       have c20b0 : decide (x31_2 < (l1.length : Int)) = false := decide_eq_false c20
       clear c20
       simp only [Option.some.injEq, Prod.mk.injEq] at H
       obtain ⟨rfl, rfl⟩ := H
       go_wp2
       go_ret2
       exact ⟨_, by rfl, by exact HO_9.out, by repeat ((with_reducible exact HB.out))⟩

def spec_l5Lines.l0 : Nat → List ByteArray → List ByteArray → Int → Int → Option (Bool)
 | 0, _, _, _, _ => none
 | k + 1, x0, x5, x6, x7 => if x7 < x6 then (if 0 ≤ x7 then (if x7 < (x5.length : Int) then ((spec_l1Line.f k (rdOf ByteArray.empty x5 x7)).bind fun t395 => (if t395 = true then (if x7 < (wrap64 ((x0.length : Int) - 1)) then ((spec_l1Ends.f (rdOf ByteArray.empty x5 x7)).bind fun t396 => (if t396 = true then (spec_l5Lines.l0 k x0 x5 x6 (wrap64 (x7 + 1))) else (some false))) else (spec_l5Lines.l0 k x0 x5 x6 (wrap64 (x7 + 1)))) else (some false))) else (none)) else (none)) else (some (decide ((x0.length : Int) ≤ 40)))
def spec_l5Lines.f (k : Nat) (l0 : List ByteArray) : Option (Bool) := spec_l5Lines.l0 k l0 l0 (l0.length : Int) 0
set_option maxHeartbeats 8000000 in
set_option maxRecDepth 100000 in
theorem spec_l5Lines.calls (k : Nat) (A0 : Option Addr) (c0 : Nat) (l0 : List ByteArray) (r : Bool) (w : World) (hr0 : Kd.C Kd.string w A0 l0.length l0) (hc0 : l0.length ≤ c0) (h : spec_l5Lines.f k l0 = some r) :
  Calls Try.prog 141 #[.slice A0 l0.length c0] w fun e w' => e = .returned (.bool r) ∧ Drawn0 w w' := by
 have HR0 := am hr0
 have HC0 := am hc0
 clear hr0 hc0
 have H : (spec_l5Lines.l0 k l0 l0 (l0.length : Int) 0) = some r := h
 clear h
 have H' := am H
 clear H
 go_enter Try.func141, Try.ntmps141
 go_wp2
 go_loopg [7] k (fun kq v7 w' => ∃ (x7_1 : Int), v7 = .int .i64 x7_1 ∧ Aside0 (spec_l5Lines.l0 kq l0 l0 (l0.length : Int) x7_1 = some r) ∧ Aside0 (kq ≤ k) ∧ Drawn0 w w')
 case atStart => exact ⟨(0), zf, H', ⟨Nat.le_refl _⟩, by repeat (first | exact Drawn0.refl _ | apply Drawn0.step)⟩
 case round =>
  clear H'
  try clear c1
  obtain ⟨x7_1, rfl, HA, HK1, ⟨m1, rfl⟩⟩ := hrel
  cases gk with
  | zero => exact absurd HA.out (by simp [spec_l5Lines.l0])
  | succ k1 =>
   have H := HA.out
   clear HA
   simp only [spec_l5Lines.l0] at H
   by_cases c2 : x7_1 < (l0.length : Int)
   ·rw [if_pos c2] at H
    have c2b0 : decide (x7_1 < (l0.length : Int)) = true := decide_eq_true c2
    clear c2
    by_cases c3 : 0 ≤ x7_1
    ·rw [if_pos c3] at H
     have c3b0 : decide (0 ≤ x7_1) = true := decide_eq_true c3
     clear c3
     by_cases c4 : x7_1 < (l0.length : Int)
     ·rw [if_pos c4] at H
      have c4b0 : decide (x7_1 < (l0.length : Int)) = true := decide_eq_true c4
      clear c4
      replace H := Option.bind_eq_some_iff.mp H
      obtain ⟨t395, A50, H⟩ := H
      replace H : (if t395 = true then (if x7_1 < (wrap64 ((l0.length : Int) - 1)) then ((spec_l1Ends.f (rdOf ByteArray.empty l0 x7_1)).bind fun t396 => (if t396 = true then (spec_l5Lines.l0 k1 l0 l0 (l0.length : Int) (wrap64 (x7_1 + 1))) else (some false))) else (spec_l5Lines.l0 k1 l0 l0 (l0.length : Int) (wrap64 (x7_1 + 1)))) else (some false)) = some r := H
      have A5 := am A50
      clear A50
      by_cases c6 : t395 = true
      ·subst c6
       have H1 : (if x7_1 < (wrap64 ((l0.length : Int) - 1)) then ((spec_l1Ends.f (rdOf ByteArray.empty l0 x7_1)).bind fun t396 => (if t396 = true then (spec_l5Lines.l0 k1 l0 l0 (l0.length : Int) (wrap64 (x7_1 + 1))) else (some false))) else (spec_l5Lines.l0 k1 l0 l0 (l0.length : Int) (wrap64 (x7_1 + 1)))) = some r := by rw [if_pos rfl] at H; exact H
       clear H
       have H := H1
       clear H1
       by_cases c7 : x7_1 < (wrap64 ((l0.length : Int) - 1))
       ·rw [if_pos c7] at H
        have c7b0 : decide (x7_1 < (wrap64 ((l0.length : Int) - 1))) = true := decide_eq_true c7
        clear c7
        replace H := Option.bind_eq_some_iff.mp H
        obtain ⟨t396, A80, H⟩ := H
        replace H : (if t396 = true then (spec_l5Lines.l0 k1 l0 l0 (l0.length : Int) (wrap64 (x7_1 + 1))) else (some false)) = some r := H
        have A8 := am A80
        clear A80
        by_cases c9 : t396 = true
        ·subst c9
         have H1 : (spec_l5Lines.l0 k1 l0 l0 (l0.length : Int) (wrap64 (x7_1 + 1))) = some r := by rw [if_pos rfl] at H; exact H
         clear H
         have H := H1
         clear H1
         have H' := am H
         clear H
         have p394 : 0 ≤ (x7_1 : Int) := oa
         have q394 : x7_1 < (l0.length : Int) := oa
         obtain ⟨ad394, e394, hx394_0⟩ := Kd.at_string HR0.out x7_1 p394 q394
         cases e394
         replace p394 := eq_true p394
         replace q394 := eq_true q394
         go_wp2_with (first | ((with_reducible refine gateC (f := 73) rfl ?_); refine goesL_ (some 13) rfl rfl Try.func73 (by kernel_rfl) rfl #[.string (rdOf ByteArray.empty l0 x7_1)] rfl zm ?_; (with_reducible refine (spec_l1Line.calls k1 (rdOf ByteArray.empty l0 x7_1) true _ A5.out).mono ?_); rintro e w' ⟨rfl, ⟨nd, rfl⟩⟩; refine ⟨_, rfl, ?_⟩) | (go_at_call 127; (with_reducible refine (spec_l1Ends.calls (rdOf ByteArray.empty l0 x7_1) true _ A8.out).mono ?_); rintro e w' ⟨rfl, ⟨nd, rfl⟩⟩))
         go_roundg k1
         case measure => have := HK1.out; omega
         case rel => exact ⟨(wrap64 (x7_1 + 1)), zf, H', ⟨by have := HK1.out; omega⟩, by repeat (first | exact Drawn0.refl _ | apply Drawn0.step)⟩
        ·replace c9 := Bool.eq_false_iff.mpr c9
         subst c9
         have H1 : (some false) = some r := by rw [if_neg (show ¬ (false = true) by decide)] at H; exact H
         clear H
         have H := H1
         clear H1
         obtain rfl := Option.some.inj H
         have p394 : 0 ≤ (x7_1 : Int) := oa
         have q394 : x7_1 < (l0.length : Int) := oa
         obtain ⟨ad394, e394, hx394_0⟩ := Kd.at_string HR0.out x7_1 p394 q394
         cases e394
         replace p394 := eq_true p394
         replace q394 := eq_true q394
         go_wp2_with (first | ((with_reducible refine gateC (f := 73) rfl ?_); refine goesL_ (some 13) rfl rfl Try.func73 (by kernel_rfl) rfl #[.string (rdOf ByteArray.empty l0 x7_1)] rfl zm ?_; (with_reducible refine (spec_l1Line.calls k1 (rdOf ByteArray.empty l0 x7_1) true _ A5.out).mono ?_); rintro e w' ⟨rfl, ⟨nd, rfl⟩⟩; refine ⟨_, rfl, ?_⟩) | (go_at_call 127; (with_reducible refine (spec_l1Ends.calls (rdOf ByteArray.empty l0 x7_1) false _ A8.out).mono ?_); rintro e w' ⟨rfl, ⟨nd, rfl⟩⟩))
         go_ret
         exact ⟨by first | rfl | (simp; done) | (simp [*]; done), by repeat (first | exact Drawn0.refl _ | apply Drawn0.step)⟩
       ·rw [if_neg c7] at H
        have c7b0 : decide (x7_1 < (wrap64 ((l0.length : Int) - 1))) = false := decide_eq_false c7
        clear c7
        have H' := am H
        clear H
        have p394 : 0 ≤ (x7_1 : Int) := oa
        have q394 : x7_1 < (l0.length : Int) := oa
        obtain ⟨ad394, e394, hx394_0⟩ := Kd.at_string HR0.out x7_1 p394 q394
        cases e394
        replace p394 := eq_true p394
        replace q394 := eq_true q394
        go_wp2_with (first | ((with_reducible refine gateC (f := 73) rfl ?_); refine goesL_ (some 13) rfl rfl Try.func73 (by kernel_rfl) rfl #[.string (rdOf ByteArray.empty l0 x7_1)] rfl zm ?_; (with_reducible refine (spec_l1Line.calls k1 (rdOf ByteArray.empty l0 x7_1) true _ A5.out).mono ?_); rintro e w' ⟨rfl, ⟨nd, rfl⟩⟩; refine ⟨_, rfl, ?_⟩))
        go_roundg k1
        case measure => have := HK1.out; omega
        case rel => exact ⟨(wrap64 (x7_1 + 1)), zf, H', ⟨by have := HK1.out; omega⟩, by repeat (first | exact Drawn0.refl _ | apply Drawn0.step)⟩
      ·replace c6 := Bool.eq_false_iff.mpr c6
       subst c6
       have H1 : (some false) = some r := by rw [if_neg (show ¬ (false = true) by decide)] at H; exact H
       clear H
       have H := H1
       clear H1
       obtain rfl := Option.some.inj H
       have p394 : 0 ≤ (x7_1 : Int) := oa
       have q394 : x7_1 < (l0.length : Int) := oa
       obtain ⟨ad394, e394, hx394_0⟩ := Kd.at_string HR0.out x7_1 p394 q394
       cases e394
       replace p394 := eq_true p394
       replace q394 := eq_true q394
       go_wp2_with (first | ((with_reducible refine gateC (f := 73) rfl ?_); refine goesL_ (some 13) rfl rfl Try.func73 (by kernel_rfl) rfl #[.string (rdOf ByteArray.empty l0 x7_1)] rfl zm ?_; (with_reducible refine (spec_l1Line.calls k1 (rdOf ByteArray.empty l0 x7_1) false _ A5.out).mono ?_); rintro e w' ⟨rfl, ⟨nd, rfl⟩⟩; refine ⟨_, rfl, ?_⟩))
       go_ret
       exact ⟨by first | rfl | (simp; done) | (simp [*]; done), by repeat (first | exact Drawn0.refl _ | apply Drawn0.step)⟩
     ·rw [if_neg c4] at H
      exact absurd H (by simp)
    ·rw [if_neg c3] at H
     exact absurd H (by simp)
   ·rw [if_neg c2] at H
    have c2b0 : decide (x7_1 < (l0.length : Int)) = false := decide_eq_false c2
    clear c2
    obtain rfl := Option.some.inj H
    go_wp2
    go_ret
    exact ⟨by first | rfl | (simp; done) | (simp [*]; done), by repeat (first | exact Drawn0.refl _ | apply Drawn0.step)⟩
end Go.Proofs.Ytmcldkobejhaeaa.My