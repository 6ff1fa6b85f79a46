/- Part 2 of 4 of a proof of this sentence: The Go function loop.example/g00825/laws.FnExactIsLeast returns true for every input, and each argument reads afterwards as it read before. No condition. -/
import Derived.Test.YtlhpkapbaijnhaaProg
import Derived.Below
import Derived.Deep.Draws
import Derived.Deep.AppendLies
import Derived.Maps.AppendAt
import Derived.OwnWalk
import Derived.Laws.BytesArg
import Derived.Laws.MakeOwn
import Derived.Laws.OwnMore
import Derived.Deep.OwnRows
import Derived.Tactics
import Derived.Lib.ConvBytes
import Derived.Laws.Slices
import Derived.WalkKit
import Derived.KernelRfl
import Derived.RowKit3
import Derived.Deep.LoopGhost
import Derived.Deep.QuietTactic
import Derived.BigQuiet
import Derived.WideLaws
import Derived.Deep.DeepCutAuto
import Derived.Deep.CutBlock
import Derived.Deep.RegionHeld3
import Derived.Laws.Rows
import Derived.Lib.AppendStr
import Derived.ArgAppend
import Derived.Laws.IdiomCopy
import Derived.OrdersHeld
import Derived.Laws.BitsLemmas
import Derived.RowKit
import Derived.Lib.LazyBuf
import Derived.Laws.Sem
import Derived.DataReads
import Derived.ChangeArms
import Derived.ChangeSame
import Derived.Deep.Slices
import Derived.Lib.Strings
import Derived.Lib.Slices
import Derived.Lib.Walk
import Derived.Lib.Bytealg
import Derived.Test.YtlhpkapbaijnhaaCFnExactIsLeast1
/- Written by this session's program (wip/gen): the values' own types, as the contracts read them. No condition. -/
namespace Go.Proofs.Ytlhpkapbaijnhaa.My
open Go.RowKit Go.Proofs.YtlhpkapbaijnhaaW.PrintWords Go.Proofs.YtlhpkapbaijnhaaW.PrintLast Go.Proofs.YtlhpkapbaijnhaaW.PrintMore
attribute [local go_sem] max2_int min2_int max_two min_two max_three min_three max_four min_four
set_option linter.unusedVariables false
set_option linter.unusedSimpArgs false

def errW : Option Int → Value
  | none => .nilIface
  | some c => .iface 0 (.int .i64 c)
theorem errW_none : errW none = .nilIface := rfl
theorem errW_some (c : Int) : errW (some c) = .iface 0 (.int .i64 c) := rfl

theorem info3 : (Try.prog.info? 3).map (fun i => (i.zero, i.size, i.bytes)) = some (some (.int .i64 0), 1, 8) := by kernel_rfl
theorem info5 : (Try.prog.info? 5).map (fun i => (i.zero, i.size, i.bytes)) = some (some (.int .u8 0), 1, 1) := by kernel_rfl
theorem info9 : (Try.prog.info? 9).map (fun i => (i.zero, i.size, i.bytes)) = some (some (.string ⟨#[]⟩), 1, 16) := by kernel_rfl
theorem info45 : (Try.prog.info? 45).map (fun i => (i.zero, i.size, i.bytes)) = some (some (.slice none 0 0), 1, 24) := by kernel_rfl
theorem info49 : (Try.prog.info? 49).map (fun i => (i.zero, i.size, i.bytes)) = some (some (.agg #[(.int .i64 0), (.int .i64 0)]), 2, 16) := by kernel_rfl
theorem info62 : (Try.prog.info? 62).map (fun i => (i.zero, i.size, i.bytes)) = some (some (.agg #[(.int .i64 0), (.int .i64 0), (.slice none 0 0)]), 3, 40) := by kernel_rfl
abbrev Y : Bool := true
abbrev O : Bool := false
theorem qa {α : Type} (xs : List α) (i : Nat) (v : α) : xs.toArray.setIfInBounds i v = (xs.set i v).toArray := List.setIfInBounds_toArray ..
theorem qb {α : Type} (x v : α) (xs : List α) : (x :: xs).set 0 v = v :: xs := rfl
theorem qc {α : Type} (x v : α) (xs : List α) (i : Nat) : (x :: xs).set (i + 1) v = x :: xs.set i v := rfl
theorem zb {p : Prop} (h : p := by repeat (first | (with_reducible first | exact HB.out | apply below_alloc | apply pw_below_drewN | apply below_drew1) | exact HB.out)) : p := h
theorem zk {q p : Prop} (b : q) (h : q → p := by intro hz_; (with_reducible repeat (first | refine blk_drewN ?_ _ | refine blk_drew ?_ | refine blk_alloc ?_ _)); exact hz_) : p := h b
theorem zs {q p : Prop} (b : q) (h : q → p := by intro hz_; (with_reducible repeat (first | apply Kd.S_alloc | apply Kd.S_drewN | apply Kd.S_drew)); exact hz_) : p := h b
theorem zr {q p : Prop} (b : q) (h : q → p := by intro hz_; (with_reducible repeat (first | apply Kd.R_alloc | apply Kd.R_drewN | apply Kd.R_drew)); exact hz_) : p := h b
theorem zf {p : Prop} (h : p := by first | rfl | (simp; done) | (simp [*]; done)) : p := h
theorem zq {q p : Prop} (b : q) (h : q → p := by intro hz_; repeat (first | exact hz_ | (with_reducible refine Kd.C_alloc ?_ _) | (with_reducible refine Kd.C_drewN ?_ _) | (with_reducible refine Kd.C_drew ?_))) : p := h b
theorem zm {p : Prop} (h : p := by (try simp only [List.map_toArray, List.map_cons, List.map_nil]); first | done | rfl | (simp only [List.length_drop, List.length_take]; rfl)) : p := h
theorem zd {p : Prop} (h : p := by first | exact ⟨rfl, _, World.drewN_drewN _ _ _⟩ | exact ⟨rfl, _, Eq.trans (World.drewN_drewN _ _ _) (congrArg (World.drewN _) (Nat.add_assoc _ _ _))⟩) : p := h
theorem zx {p : Prop} (h : p := by exact any_of HT_.out (by kernel_rfl)) : p := h
theorem gateC {P : Program} {ops : Array Oper} {Q : Exit → Act → World → Prop} {rest : List Oper} {o : Oper} {a : Act} {W : World} {f : FuncId} {xs : Array Operand} {ts : Array TypeId} (_ : o.op = .call { callee := .value (.func f), args := xs, argTypes := ts }) (h : wpList P ops Q (o :: rest) a W) : wpList P ops Q (o :: rest) a W := h
theorem gateB {P : Program} {ops : Array Oper} {Q : Exit → Act → World → Prop} {rest : List Oper} {o : Oper} {a : Act} {W : World} {b : Builtin} {xs : Array Operand} {ts : Array TypeId} (_ : o.op = .call { callee := .builtin b, args := xs, argTypes := ts }) (h : wpList P ops Q (o :: rest) a W) : wpList P ops Q (o :: rest) a W := h
theorem oa {p : Prop} [Decidable p] (h : decide p = true := by first | (with_reducible assumption) | assumption) : p := of_decide_eq_true h

def rd_L2 (xs : List (List Int)) (i : Int) : (List Int) := xs.getD i.toNat ([] : List Int)
theorem at_L2 {w : World} {A : Option Addr} {n : Nat} {xs : List (List Int)} (h : Kd.C (Kd.slice 3 (Kd.int .i64)) w A n xs) (i : Int) (h0 : 0 ≤ i) (h1 : i < n) : ∃ ad A0 c0, A = some ad ∧ w.cell? (ad.add i.toNat) = some (.slice A0 (rd_L2 xs i).length c0) ∧ (rd_L2 xs i).length ≤ c0 ∧ (Kd.int .i64).C w A0 (rd_L2 xs i).length (rd_L2 xs i) := by
  obtain ⟨ad, c, e, _, hK, hc0⟩ := Kd.C_get h ([] : List Int) i h0 h1
  have hc : ∀ j u, c[j]? = some u → w.cell? (ad.add (i.toNat * 1 + j)) = some u := hc0
  obtain ⟨A0, c0, rfl, l0, g0⟩ := hK
  exact ⟨ad, A0, c0, e, by have hq := hc 0 _ rfl; rwa [Nat.mul_one, Nat.add_zero] at hq, l0, g0⟩

/-! #### struct type 49 -/
structure S49 where
  f0 : Int
  f1 : Int
def z49 : S49 := ⟨(0 : Int), (0 : Int)⟩
def k49 : Kd S49 := Kd.iso (Kd.pair (Kd.int .i64) (Kd.int .i64)) (fun x : S49 => (x.f0, x.f1))
theorem k49_open {w : World} {x : S49} {cs : List Value} (h : k49.K w x cs) : cs = [.int .i64 x.f0, .int .i64 x.f1] := by
  obtain ⟨_, _, rfl, rfl, rfl⟩ := h
  exact rfl
theorem k49_openM {w : World} {base : Nat} {ok : Nat → Prop} {x : S49} {cs : List Value} (h : k49.M w base ok x cs) : cs = [.int .i64 x.f0, .int .i64 x.f1] := by
  obtain ⟨_, _, rfl, rfl, rfl⟩ := h
  exact rfl
theorem k49_mk (w : World) (x : S49)  : k49.K w x [.int .i64 x.f0, .int .i64 x.f1] := ⟨[.int .i64 x.f0], [.int .i64 x.f1], rfl, rfl, rfl⟩
theorem k49_mkM (w : World) (base : Nat) (ok : Nat → Prop) (x : S49)  : k49.M w base ok x [.int .i64 x.f0, .int .i64 x.f1] := ⟨[.int .i64 x.f0], [.int .i64 x.f1], rfl, rfl, rfl⟩
def rd_T49 (xs : List S49) (i : Int) : S49 := xs.getD i.toNat z49
theorem at_T49 {w : World} {A : Option Addr} {n : Nat} {xs : List S49} (h : Kd.C k49 w A n xs) (i : Int) (h0 : 0 ≤ i) (h1 : i < n) : ∃ ad , A = some ad ∧ w.cell? (ad.add (i.toNat * 2)) = some (.int .i64 (rd_T49 xs i).f0) ∧ w.cell? ⟨(ad.add (i.toNat * 2)).block, (ad.add (i.toNat * 2)).off + 1, none⟩ = some (.int .i64 (rd_T49 xs i).f1) := by
  obtain ⟨ad, c, e, _, hK, hc0⟩ := Kd.C_get h z49 i h0 h1
  have hc : ∀ j u, c[j]? = some u → w.cell? (ad.add (i.toNat * 2 + j)) = some u := hc0
  obtain rfl := k49_open hK
  exact ⟨ad, e, hc 0 _ rfl, by rw [← add_field _ _ 1 (by omega)]; exact hc 1 _ rfl⟩

def rd_L5 (xs : List (List ByteArray)) (i : Int) : (List ByteArray) := xs.getD i.toNat ([] : List ByteArray)
theorem at_L5 {w : World} {A : Option Addr} {n : Nat} {xs : List (List ByteArray)} (h : Kd.C (Kd.slice 9 Kd.string) w A n xs) (i : Int) (h0 : 0 ≤ i) (h1 : i < n) : ∃ ad A0 c0, A = some ad ∧ w.cell? (ad.add i.toNat) = some (.slice A0 (rd_L5 xs i).length c0) ∧ (rd_L5 xs i).length ≤ c0 ∧ Kd.string.C w A0 (rd_L5 xs i).length (rd_L5 xs i) := by
  obtain ⟨ad, c, e, _, hK, hc0⟩ := Kd.C_get h ([] : List ByteArray) i h0 h1
  have hc : ∀ j u, c[j]? = some u → w.cell? (ad.add (i.toNat * 1 + j)) = some u := hc0
  obtain ⟨A0, c0, rfl, l0, g0⟩ := hK
  exact ⟨ad, A0, c0, e, by have hq := hc 0 _ rfl; rwa [Nat.mul_one, Nat.add_zero] at hq, l0, g0⟩

/-! #### struct type 56 -/
structure S56 where
  f0 : Int
  f1 : Int
  f2 : (List ByteArray)
def z56 : S56 := ⟨(0 : Int), (0 : Int), ([] : List ByteArray)⟩
def k56 : Kd S56 := Kd.iso (Kd.pair (Kd.int .i64) (Kd.pair (Kd.int .i64) (Kd.slice 9 Kd.string))) (fun x : S56 => (x.f0, x.f1, x.f2))
theorem k56_open {w : World} {x : S56} {cs : List Value} (h : k56.K w x cs) : ∃ A2 c2, cs = [.int .i64 x.f0, .int .i64 x.f1, .slice A2 x.f2.length c2] ∧ x.f2.length ≤ c2 ∧ Kd.string.C w A2 x.f2.length x.f2 := by
  obtain ⟨_, _, rfl, rfl, ⟨_, _, rfl, rfl, ⟨A2, c2, rfl, l2, g2⟩⟩⟩ := h
  exact ⟨A2, c2, rfl, l2, g2⟩
theorem k56_openM {w : World} {base : Nat} {ok : Nat → Prop} {x : S56} {cs : List Value} (h : k56.M w base ok x cs) : ∃ v2, cs = [.int .i64 x.f0, .int .i64 x.f1, v2] ∧ Kd.string.R 9 w base ok v2 x.f2 := by
  obtain ⟨_, _, rfl, rfl, ⟨_, _, rfl, rfl, ⟨v2, rfl, g2⟩⟩⟩ := h
  exact ⟨v2, rfl, g2⟩
theorem k56_mk (w : World) (x : S56) {A2 : Option Addr} {c2 : Nat} (l2 : x.f2.length ≤ c2) (g2 : Kd.string.C w A2 x.f2.length x.f2) : k56.K w x [.int .i64 x.f0, .int .i64 x.f1, .slice A2 x.f2.length c2] := ⟨[.int .i64 x.f0], [.int .i64 x.f1, .slice A2 x.f2.length c2], rfl, rfl, ⟨[.int .i64 x.f1], [.slice A2 x.f2.length c2], rfl, rfl, ⟨A2, c2, rfl, l2, g2⟩⟩⟩
theorem k56_mkM (w : World) (base : Nat) (ok : Nat → Prop) (x : S56) {v2 : Value} (g2 : Kd.string.R 9 w base ok v2 x.f2) : k56.M w base ok x [.int .i64 x.f0, .int .i64 x.f1, v2] := ⟨[.int .i64 x.f0], [.int .i64 x.f1, v2], rfl, rfl, ⟨[.int .i64 x.f1], [v2], rfl, rfl, ⟨v2, rfl, g2⟩⟩⟩
def rd_T56 (xs : List S56) (i : Int) : S56 := xs.getD i.toNat z56
theorem at_T56 {w : World} {A : Option Addr} {n : Nat} {xs : List S56} (h : Kd.C k56 w A n xs) (i : Int) (h0 : 0 ≤ i) (h1 : i < n) : ∃ ad A2 c2, A = some ad ∧ w.cell? (ad.add (i.toNat * 3)) = some (.int .i64 (rd_T56 xs i).f0) ∧ w.cell? ⟨(ad.add (i.toNat * 3)).block, (ad.add (i.toNat * 3)).off + 1, none⟩ = some (.int .i64 (rd_T56 xs i).f1) ∧ w.cell? ⟨(ad.add (i.toNat * 3)).block, (ad.add (i.toNat * 3)).off + 2, none⟩ = some (.slice A2 (rd_T56 xs i).f2.length c2) ∧ (rd_T56 xs i).f2.length ≤ c2 ∧ Kd.string.C w A2 (rd_T56 xs i).f2.length (rd_T56 xs i).f2 := by
  obtain ⟨ad, c, e, _, hK, hc0⟩ := Kd.C_get h z56 i h0 h1
  have hc : ∀ j u, c[j]? = some u → w.cell? (ad.add (i.toNat * 3 + j)) = some u := hc0
  obtain ⟨A2, c2, rfl, l2, g2⟩ := k56_open hK
  exact ⟨ad, A2, c2, e, hc 0 _ rfl, by rw [← add_field _ _ 1 (by omega)]; exact hc 1 _ rfl, by rw [← add_field _ _ 2 (by omega)]; exact hc 2 _ rfl, l2, g2⟩

/-! #### struct type 62 -/
structure S62 where
  f0 : Int
  f1 : Int
  f2 : (List ByteArray)
def z62 : S62 := ⟨(0 : Int), (0 : Int), ([] : List ByteArray)⟩
def k62 : Kd S62 := Kd.iso (Kd.pair (Kd.int .i64) (Kd.pair (Kd.int .i64) (Kd.slice 9 Kd.string))) (fun x : S62 => (x.f0, x.f1, x.f2))
theorem k62_open {w : World} {x : S62} {cs : List Value} (h : k62.K w x cs) : ∃ A2 c2, cs = [.int .i64 x.f0, .int .i64 x.f1, .slice A2 x.f2.length c2] ∧ x.f2.length ≤ c2 ∧ Kd.string.C w A2 x.f2.length x.f2 := by
  obtain ⟨_, _, rfl, rfl, ⟨_, _, rfl, rfl, ⟨A2, c2, rfl, l2, g2⟩⟩⟩ := h
  exact ⟨A2, c2, rfl, l2, g2⟩
theorem k62_openM {w : World} {base : Nat} {ok : Nat → Prop} {x : S62} {cs : List Value} (h : k62.M w base ok x cs) : ∃ v2, cs = [.int .i64 x.f0, .int .i64 x.f1, v2] ∧ Kd.string.R 9 w base ok v2 x.f2 := by
  obtain ⟨_, _, rfl, rfl, ⟨_, _, rfl, rfl, ⟨v2, rfl, g2⟩⟩⟩ := h
  exact ⟨v2, rfl, g2⟩
theorem k62_mk (w : World) (x : S62) {A2 : Option Addr} {c2 : Nat} (l2 : x.f2.length ≤ c2) (g2 : Kd.string.C w A2 x.f2.length x.f2) : k62.K w x [.int .i64 x.f0, .int .i64 x.f1, .slice A2 x.f2.length c2] := ⟨[.int .i64 x.f0], [.int .i64 x.f1, .slice A2 x.f2.length c2], rfl, rfl, ⟨[.int .i64 x.f1], [.slice A2 x.f2.length c2], rfl, rfl, ⟨A2, c2, rfl, l2, g2⟩⟩⟩
theorem k62_mkM (w : World) (base : Nat) (ok : Nat → Prop) (x : S62) {v2 : Value} (g2 : Kd.string.R 9 w base ok v2 x.f2) : k62.M w base ok x [.int .i64 x.f0, .int .i64 x.f1, v2] := ⟨[.int .i64 x.f0], [.int .i64 x.f1, v2], rfl, rfl, ⟨[.int .i64 x.f1], [v2], rfl, rfl, ⟨v2, rfl, g2⟩⟩⟩
def rd_T62 (xs : List S62) (i : Int) : S62 := xs.getD i.toNat z62
theorem at_T62 {w : World} {A : Option Addr} {n : Nat} {xs : List S62} (h : Kd.C k62 w A n xs) (i : Int) (h0 : 0 ≤ i) (h1 : i < n) : ∃ ad A2 c2, A = some ad ∧ w.cell? (ad.add (i.toNat * 3)) = some (.int .i64 (rd_T62 xs i).f0) ∧ w.cell? ⟨(ad.add (i.toNat * 3)).block, (ad.add (i.toNat * 3)).off + 1, none⟩ = some (.int .i64 (rd_T62 xs i).f1) ∧ w.cell? ⟨(ad.add (i.toNat * 3)).block, (ad.add (i.toNat * 3)).off + 2, none⟩ = some (.slice A2 (rd_T62 xs i).f2.length c2) ∧ (rd_T62 xs i).f2.length ≤ c2 ∧ Kd.string.C w A2 (rd_T62 xs i).f2.length (rd_T62 xs i).f2 := by
  obtain ⟨ad, c, e, _, hK, hc0⟩ := Kd.C_get h z62 i h0 h1
  have hc : ∀ j u, c[j]? = some u → w.cell? (ad.add (i.toNat * 3 + j)) = some u := hc0
  obtain ⟨A2, c2, rfl, l2, g2⟩ := k62_open hK
  exact ⟨ad, A2, c2, e, hc 0 _ rfl, by rw [← add_field _ _ 1 (by omega)]; exact hc 1 _ rfl, by rw [← add_field _ _ 2 (by omega)]; exact hc 2 _ rfl, l2, g2⟩

def rd_L8 (xs : List (List Int)) (i : Int) : (List Int) := xs.getD i.toNat ([] : List Int)
theorem at_L8 {w : World} {A : Option Addr} {n : Nat} {xs : List (List Int)} (h : Kd.C (Kd.slice 5 (Kd.int .u8)) w A n xs) (i : Int) (h0 : 0 ≤ i) (h1 : i < n) : ∃ ad A0 c0, A = some ad ∧ w.cell? (ad.add i.toNat) = some (.slice A0 (rd_L8 xs i).length c0) ∧ (rd_L8 xs i).length ≤ c0 ∧ (Kd.int .u8).C w A0 (rd_L8 xs i).length (rd_L8 xs i) := by
  obtain ⟨ad, c, e, _, hK, hc0⟩ := Kd.C_get h ([] : List Int) i h0 h1
  have hc : ∀ j u, c[j]? = some u → w.cell? (ad.add (i.toNat * 1 + j)) = some u := hc0
  obtain ⟨A0, c0, rfl, l0, g0⟩ := hK
  exact ⟨ad, A0, c0, e, by have hq := hc 0 _ rfl; rwa [Nat.mul_one, Nat.add_zero] at hq, l0, g0⟩

end Go.Proofs.Ytlhpkapbaijnhaa.My

/- How an argument that came in reads: out of the form's own reading (DataW.trod) the reading that the printed contracts ask (Kd.K), kind by kind. No condition. -/
namespace Go.Proofs.Ytlhpkapbaijnhaa.Opens
open Go.ChangeShapes Go.WideShapes Go.Proofs.YtlhpkapbaijnhaaW.PrintWords
set_option linter.unusedVariables false
set_option linter.unusedSimpArgs false

/-- Whatever the form reads at type t is a value of the kind d, and meets Q. -/
def Opens {α : Type} (P : Program) (t : TypeId) (d : Kd α) (Q : α → Prop) : Prop :=
  ∀ (H : Type) (enc : TypeId × Value → H) (w : World) (base : Nat) (spare : Nat → Bool) (held : Bool) (n : Nat) (cs : List Value) (x : DataW H × List MemPlace),
    DataW.trod enc P w base spare held n t cs = some x → ∃ a : α, d.K w a cs ∧ Q a

theorem opens_int {P : Program} {t : TypeId} (k : IntKind) (ht : P.underlying t = some (.int k)) : Opens P t (Kd.int k) (fun z => (Lit.int k z).wf = true) := by
  intro H enc w base spare held n cs x h
  obtain ⟨z, rfl, _, hw⟩ := DataW.trod_int ht h
  exact ⟨z, rfl, hw⟩

theorem opens_string {P : Program} {t : TypeId} (ht : P.underlying t = some .string) : Opens P t Kd.string (fun s => s.size ≤ maxLen) := by
  intro H enc w base spare held n cs x h
  obtain ⟨s, rfl, _, hs⟩ := DataW.trod_string ht h
  exact ⟨s, rfl, hs⟩

theorem add_add (ad : Addr) (i j : Nat) : (ad.add i).add j = ad.add (i + j) := by
  unfold Addr.add
  by_cases h1 : i = 0 <;> by_cases h2 : j = 0 <;> simp [h1, h2, Nat.add_assoc]

theorem opens_slice {α : Type} {P : Program} {t e : TypeId} {d : Kd α} {Q : α → Prop} (ht : P.underlying t = some (.slice e)) (hc : P.cellsOf e = d.sz) (ho : Opens P e d Q) :
    Opens P t (Kd.slice e d) (fun xs => xs.length ≤ maxLen ∧ ∀ a ∈ xs, Q a) := by
  intro H enc w base spare held n cs x h
  rcases Go.Deep.open_slice ht h with ⟨rfl, _⟩ | ⟨a, len, cap, m, n', D, Pl, rfl, hb, hl, hm, hmm, rfl, hx⟩
  · refine ⟨[], ⟨none, 0, rfl, Nat.le_refl _, rfl, Nat.zero_le _, fun h => absurd h (Nat.lt_irrefl 0)⟩, by simp⟩
  · have hlm : len ≤ m := by rw [hmm]; split <;> omega
    have h1 : ∀ i, i < len → ∃ b : α × List Value, b.2.length = d.sz ∧ d.K w b.1 b.2 ∧ Q b.1 ∧ ∀ j u, b.2[j]? = some u → w.cell? (a.add (i * d.sz + j)) = some u := by
      intro i hi
      obtain ⟨cs', hcs, htr⟩ := hx i (by omega)
      rw [hc] at hcs
      obtain ⟨_, hlen, hcell⟩ := World.cells?_some hcs
      obtain ⟨b, hK, hQ⟩ := ho H enc w base spare held n' cs' _ htr
      refine ⟨(b, cs'), hlen, hK, hQ, fun j u hu => ?_⟩
      have hj : j < d.sz := by
        rw [← hlen]
        exact (List.getElem?_eq_some_iff.1 hu).1
      rw [← add_add, hcell j hj]
      exact hu
    have hne : ∀ i, i < len → Nonempty (α × List Value) := fun i hi => ⟨(h1 i hi).choose⟩
    rcases Nat.eq_zero_or_pos len with h0 | h0
    · subst h0
      exact ⟨[], ⟨some a, cap, rfl, Nat.zero_le _, rfl, Nat.zero_le _, fun h => absurd h (Nat.lt_irrefl 0)⟩, by simp⟩
    · haveI : Inhabited (α × List Value) := ⟨(h1 0 h0).choose⟩
      obtain ⟨f, hf⟩ := Go.Deep.choose_lt (p := fun i (b : α × List Value) => b.2.length = d.sz ∧ d.K w b.1 b.2 ∧ Q b.1 ∧ ∀ j u, b.2[j]? = some u → w.cell? (a.add (i * d.sz + j)) = some u) h1
      have hlen : ((List.range len).map fun i => (f i).1).length = len := by simp
      refine ⟨(List.range len).map fun i => (f i).1, ⟨some a, cap, by rw [hlen], by rw [hlen]; exact hl, by rw [hlen], by rw [hlen]; unfold maxLen at hm; omega, fun _ => ⟨a, rfl, fun j p hj => ?_⟩⟩, by rw [hlen]; omega, fun b hb => ?_⟩
      · have hjl : j < len := by
          have := (List.getElem?_eq_some_iff.1 hj).1
          simpa using this
        have hp : (f j).1 = p := by
          simp [List.getElem?_map, List.getElem?_range hjl] at hj
          exact hj
        obtain ⟨g1, g2, g3, g4⟩ := hf j hjl
        exact ⟨(f j).2, g1, hp ▸ g2, g4⟩
      · obtain ⟨i, hi, rfl⟩ := List.mem_map.1 hb
        exact (hf i (by simpa using hi)).2.2.1

/-- The fields of a struct from cell o on. -/
def OpensL {α : Type} (P : Program) (fs : List Field) (o : Nat) (d : Kd α) (Q : α → Prop) : Prop :=
  ∀ (H : Type) (enc : TypeId × Value → H) (w : World) (base : Nat) (spare : Nat → Bool) (held : Bool) (n : Nat) (cs : List Value),
    cs.length = o + d.sz → (∀ f ∈ fs, ∃ x : DataW H × List MemPlace, DataW.trod enc P w base spare held n f.type ((cs.drop f.offset).take (P.cellsOf f.type)) = some x) → ∃ a : α, d.K w a (cs.drop o) ∧ Q a

theorem opensL_one {α : Type} {P : Program} {f : Field} {o : Nat} {d : Kd α} {Q : α → Prop} (ho : f.offset = o) (hc : P.cellsOf f.type = d.sz) (h : Opens P f.type d Q) : OpensL P [f] o d Q := by
  intro H enc w base spare held n cs hl hf
  obtain ⟨x, hx⟩ := hf f (by simp)
  rw [ho, hc, List.take_of_length_le (by rw [List.length_drop]; omega)] at hx
  exact h H enc w base spare held n _ x hx

theorem opensL_cons {α β : Type} {P : Program} {f : Field} {fs : List Field} {o : Nat} {d : Kd α} {d' : Kd β} {Q : α → Prop} {Q' : β → Prop} (ho : f.offset = o) (hc : P.cellsOf f.type = d.sz) (h : Opens P f.type d Q)
    (hs : OpensL P fs (o + d.sz) d' Q') : OpensL P (f :: fs) o (Kd.pair d d') (fun x => Q x.1 ∧ Q' x.2) := by
  intro H enc w base spare held n cs hl hf
  have hl' : cs.length = o + (d.sz + d'.sz) := hl
  obtain ⟨x, hx⟩ := hf f (by simp)
  rw [ho, hc] at hx
  obtain ⟨a, hK, hQ⟩ := h H enc w base spare held n _ x hx
  obtain ⟨b, hK', hQ'⟩ := hs H enc w base spare held n cs (by omega) (fun g hg => hf g (by simp [hg]))
  refine ⟨(a, b), ⟨_, _, ?_, hK, hK'⟩, hQ, hQ'⟩
  rw [← List.drop_drop, List.take_append_drop]

theorem opens_struct {α β : Type} {P : Program} {t : TypeId} {fs : Array Field} {d : Kd α} {Q : α → Prop} (ht : P.underlying t = some (.struct fs)) (hc : P.cellsOf t = d.sz) (g : β → α) (mk : α → β) (hg : ∀ a, g (mk a) = a)
    (hs : OpensL P fs.toList 0 d Q) : Opens P t (Kd.iso d g) (fun x => Q (g x)) := by
  intro H enc w base spare held n cs x h
  obtain ⟨xs, n', _, rfl, hl, hlen, hf⟩ := DataW.trod_struct ht h
  obtain ⟨a, hK, hQ⟩ := hs H enc w base spare held n' cs (by rw [hl, hc, Nat.zero_add]) (fun f hf' => by
    obtain ⟨i, hi, rfl⟩ := List.mem_iff_getElem.1 hf'
    have hi' : i < xs.length := by rw [hlen]; simpa using hi
    refine ⟨xs[i], ?_⟩
    have := hf i fs.toList[i] (by simp [List.getElem?_eq_getElem hi])
    simpa [List.getElem?_eq_getElem hi'] using this)
  rw [List.drop_zero] at hK
  exact ⟨mk a, by show d.K w (g (mk a)) cs; rw [hg]; exact hK, by show Q (g (mk a)); rw [hg]; exact hQ⟩

/-- A slice that came in as a parameter. -/
theorem Opens.row {α : Type} {P : Program} {t e : TypeId} {d : Kd α} {Q : List α → Prop} (h : Opens P t (Kd.slice e d) Q) {H : Type} {enc : TypeId × Value → H} {w : World} {base : Nat} {spare : Nat → Bool} {held : Bool} {a : Option Addr} {len cap : Nat} {x : DataW H} {p : List MemPlace}
    (hr : ∃ m, DataW.trod enc P w base spare held m t (Value.slice a len cap).cells.toList = some (x, p)) :
    ∃ l : List α, l.length = len ∧ l.length ≤ cap ∧ Kd.C d w a l.length l ∧ Q l := by
  obtain ⟨m, hm⟩ := hr
  obtain ⟨l, ⟨A, c, e1, hl, hC⟩, hQ⟩ := h _ _ _ _ _ _ _ _ _ hm
  simp [Value.cells] at e1
  obtain ⟨rfl, rfl, rfl⟩ := e1
  exact ⟨l, rfl, hl, hC, hQ⟩
end Go.Proofs.Ytlhpkapbaijnhaa.Opens

/- Written by this session's program (wip/gen): how the laws' arguments read. No condition. -/
namespace Go.Proofs.Ytlhpkapbaijnhaa.My
open Go.RowKit Go.Proofs.YtlhpkapbaijnhaaW.PrintWords Go.Proofs.YtlhpkapbaijnhaaW.PrintLast Go.Proofs.YtlhpkapbaijnhaaW.PrintMore
attribute [local go_sem] max2_int min2_int max_two min_two max_three min_three max_four min_four
set_option linter.unusedVariables false
set_option linter.unusedSimpArgs false

open Go.Proofs.Ytlhpkapbaijnhaa.Opens
def Wint (z : Int) : Prop := (Lit.int .i64 z).wf = true
def Wu8 (z : Int) : Prop := (Lit.int .u8 z).wf = true
def Wbool (_ : Bool) : Prop := True
def Wstr (s : ByteArray) : Prop := s.size ≤ maxLen
def WL {α : Type} (Q : α → Prop) (xs : List α) : Prop := xs.length ≤ maxLen ∧ ∀ a ∈ xs, Q a
def W56 (x : S56) : Prop := Wint x.f0 ∧ (Wint x.f1 ∧ ((WL Wstr) x.f2))
theorem opens56 : Opens Try.prog 56 k56 W56 := opens_struct Try.underlying56 (by kernel_rfl) (fun x : S56 => (x.f0, x.f1, x.f2)) (fun a => ⟨a.1, a.2.1, a.2.2⟩) (fun _ => rfl) (opensL_cons rfl (by kernel_rfl) (opens_int .i64 Try.underlying3) (opensL_cons rfl (by kernel_rfl) (opens_int .i64 Try.underlying3) (opensL_one rfl (by kernel_rfl) (opens_slice Try.underlying22 (by kernel_rfl) (opens_string Try.underlying9)))))
end Go.Proofs.Ytlhpkapbaijnhaa.My

/- Written by this session's program (wip/gen): a plain function with the same answers as the Go function, and the proof that the Go code comes to them. Asked: that the plain function has an answer. -/
namespace Go.Proofs.Ytlhpkapbaijnhaa.My
open Go.RowKit Go.Proofs.YtlhpkapbaijnhaaW.PrintWords Go.Proofs.YtlhpkapbaijnhaaW.PrintLast Go.Proofs.YtlhpkapbaijnhaaW.PrintMore
attribute [local go_sem] max2_int min2_int max_two min_two max_three min_three max_four min_four
set_option linter.unusedVariables false
set_option linter.unusedSimpArgs false

/-! ### impl_in: function 71 -/
def impl_in.f (a0 : Int) (a1 : Int) (a2 : Int) : Option (Bool) := if a0 ≥ a1 then (some (decide (a0 ≤ a2))) else (some false)
set_option maxHeartbeats 8000000 in
set_option maxRecDepth 100000 in
theorem impl_in.calls (a0 : Int) (a1 : Int) (a2 : Int) (r : Bool) (w : World) (h : impl_in.f a0 a1 a2 = some r) :
  Calls Try.prog 71 #[.int .i64 a0, .int .i64 a1, .int .i64 a2] w fun e w' => e = .returned (.bool r) ∧ Drawn0 w w' := by
 have H : (if a0 ≥ a1 then (some (decide (a0 ≤ a2))) else (some false)) = some r := h
 clear h
 by_cases c4 : a0 ≥ a1
 ·rw [if_pos c4] at H
  have c4b0 : decide (a1 ≤ a0) = true := decide_eq_true c4
  clear c4
  obtain rfl := Option.some.inj H
  go_enter Try.func71, Try.ntmps71
  go_wp2
  go_ret
  exact ⟨by first | rfl | (simp; done) | (simp [*]; done), by repeat (first | exact Drawn0.refl _ | apply Drawn0.step)⟩
 ·rw [if_neg c4] at H
  have c4b0 : decide (a1 ≤ a0) = false := decide_eq_false c4
  clear c4
  obtain rfl := Option.some.inj H
  go_enter Try.func71, Try.ntmps71
  go_wp2
  go_ret
  exact ⟨by first | rfl | (simp; done) | (simp [*]; done), by repeat (first | exact Drawn0.refl _ | apply Drawn0.step)⟩

end Go.Proofs.Ytlhpkapbaijnhaa.My

/- Written by this session's program (wip/gen): a plain function with the same answers as the Go function, and the proof that the Go code comes to them. Asked: that the plain function has an answer. -/
namespace Go.Proofs.Ytlhpkapbaijnhaa.My
open Go.RowKit Go.Proofs.YtlhpkapbaijnhaaW.PrintWords Go.Proofs.YtlhpkapbaijnhaaW.PrintLast Go.Proofs.YtlhpkapbaijnhaaW.PrintMore
attribute [local go_sem] max2_int min2_int max_two min_two max_three min_three max_four min_four
set_option linter.unusedVariables false
set_option linter.unusedSimpArgs false

/-! ### stringslite_IndexByte: function 84 -/
def stringslite_IndexByte.f (a0 : ByteArray) (a1 : Int) : Option (Int) := some (Lib.indexByte a0.data.toList a1.toNat.toUInt8)
set_option maxHeartbeats 1000000 in
set_option maxRecDepth 100000 in
theorem stringslite_IndexByte.calls (a0 : ByteArray) (a1 : Int) (r : Int) (w : World) (h : stringslite_IndexByte.f a0 a1 = some r) :
  Calls Try.prog 84 #[.string a0, .int .u8 a1] w fun e w' => e = .returned (.int .i64 r) ∧ Drawn0 w w' := by
 obtain rfl : Lib.indexByte a0.data.toList a1.toNat.toUInt8 = r := Option.some.inj h
 clear h
 go_enter Try.func84, Try.ntmps84
 go_wp2
 rw [run_callFunc_extern Try.func88 (by kernel_rfl) (by kernel_rfl) (by kernel_rfl) (e := Extern.BytealgIndexByte.indexByte) (by kernel_rfl), Lib.run_indexByteString]
 simp only [Result.andThen]
 rw [Oper.upon_value]
 go_wp2
 go_ret
 exact ⟨rfl, Drawn0.refl _⟩

end Go.Proofs.Ytlhpkapbaijnhaa.My

/- Written by this session's program (wip/gen): a plain function with the same answers as the Go function, and the proof that the Go code comes to them. Asked: that the plain function has an answer. -/
namespace Go.Proofs.Ytlhpkapbaijnhaa.My
open Go.RowKit Go.Proofs.YtlhpkapbaijnhaaW.PrintWords Go.Proofs.YtlhpkapbaijnhaaW.PrintLast Go.Proofs.YtlhpkapbaijnhaaW.PrintMore
attribute [local go_sem] max2_int min2_int max_two min_two max_three min_three max_four min_four
set_option linter.unusedVariables false
set_option linter.unusedSimpArgs false

/-! ### stringslite_Index: function 83 -/
def stringslite_Index.j0 : Nat → ByteArray → ByteArray → Int → Bool → Option (Int)
 | 0, _, _, _, _ => none
 | k + 1, x0, x1, x5, x16 => if x16 = true then (some 0) else (if x5 = 1 then (if 0 < (x1.size : Int) then ((stringslite_IndexByte.f x0 (bt x1 0)).bind fun t167 => (some t167)) else (none)) else (if x5 ≥ (x0.size : Int) then (some (-1)) else (none)))
def stringslite_Index.f (k : Nat) (a0 : ByteArray) (a1 : ByteArray) : Option (Int) := if (a1.size : Int) = 0 then (stringslite_Index.j0 k a0 a1 (a1.size : Int) true) else (stringslite_Index.j0 k a0 a1 (a1.size : Int) (a1.toList == a0.toList))
set_option maxHeartbeats 8000000 in
set_option maxRecDepth 100000 in
theorem stringslite_Index.calls (k : Nat) (a0 : ByteArray) (a1 : ByteArray) (r : Int) (w : World) (h : stringslite_Index.f k a0 a1 = some r) :
  Calls Try.prog 83 #[.string a0, .string a1] w fun e w' => e = .returned (.int .i64 r) ∧ Drawn0 w w' := by
 have H : (if (a1.size : Int) = 0 then (stringslite_Index.j0 k a0 a1 (a1.size : Int) true) else (stringslite_Index.j0 k a0 a1 (a1.size : Int) (a1.toList == a0.toList))) = some r := h
 clear h
 have HC3 := Aside0.mk H
 clear H
 go_enter Try.func83, Try.ntmps83
 go_upto_region 2 with (fail)
 go_cut [16] (fun v16 wc => ∃ (kq : Nat) (x16_2 : Bool), v16 = .bool x16_2 ∧ Aside0 (stringslite_Index.j0 kq a0 a1 (a1.size : Int) x16_2 = some r) ∧ Aside0 (kq ≤ k) ∧ Drawn0 w wc)
 case first =>
  have H := HC3.out
  clear HC3
  by_cases c4 : (a1.size : Int) = 0
  ·rw [if_pos c4] at H
   have c4b0 : ((a1.size : Int) == 0) = true := beq_iff_eq.mpr c4
   have c4b1 : ((a1.size : Int) != 0) = false := bne_eq_false_iff_eq.mpr c4
   clear c4
   (first | rw [c4b0] | (simp only [i64_w, i32_w]; rw [c4b0]) | skip)
   have H' := Aside0.mk H
   clear H
   go_wp2
   go_meet
   case rel => exact ⟨_, (true), zf, H', ⟨by first | omega | exact Nat.le_refl _⟩, by repeat (first | exact Drawn0.refl _ | apply Drawn0.step)⟩
  ·rw [if_neg c4] at H
   have c4b0 : ((a1.size : Int) == 0) = false := beq_eq_false_iff_ne.mpr c4
   have c4b1 : ((a1.size : Int) != 0) = true := bne_iff_ne.mpr c4
   (first | rw [c4b0] | (simp only [i64_w, i32_w]; rw [c4b0]) | skip)
   have H' := Aside0.mk H
   clear H
   go_wp2
   go_meet
   case rel => exact ⟨_, ((a1.toList == a0.toList)), zf, H', ⟨by first | omega | exact Nat.le_refl _⟩, by repeat (first | exact Drawn0.refl _ | apply Drawn0.step)⟩
 case rest =>
  clear HC3
  try clear p2
  try clear c4
  try clear c4b0
  try clear c4b1
  obtain ⟨kq, x16_2, rfl, HA, HJ2, ⟨mc2, rfl⟩⟩ := hcut
  cases kq with
  | zero => exact absurd HA.out (by simp [stringslite_Index.j0])
  | succ kj2 =>
   have H := HA.out
   clear HA
   simp only [stringslite_Index.j0] at H
   by_cases c5 : x16_2 = true
   ·subst c5
    have H1 : (some 0) = some r := by rw [if_pos rfl] at H; exact H
    clear H
    have H := H1
    clear H1
    obtain rfl := Option.some.inj H
    go_wp2
    go_ret
    exact ⟨by first | rfl | (simp; done) | (simp [*]; done), by repeat (first | exact Drawn0.refl _ | apply Drawn0.step)⟩
   ·replace c5 := Bool.eq_false_iff.mpr c5
    subst c5
    have H1 : (if (a1.size : Int) = 1 then (if 0 < (a1.size : Int) then ((stringslite_IndexByte.f a0 (bt a1 0)).bind fun t167 => (some t167)) else (none)) else (if (a1.size : Int) ≥ (a0.size : Int) then (some (-1)) else (none))) = some r := by rw [if_neg (show ¬ (false = true) by decide)] at H; exact H
    clear H
    have H := H1
    clear H1
    by_cases c6 : (a1.size : Int) = 1
    ·rw [if_pos c6] at H
     have c6b0 : ((a1.size : Int) == 1) = true := beq_iff_eq.mpr c6
     have c6b1 : ((a1.size : Int) != 1) = false := bne_eq_false_iff_eq.mpr c6
     clear c6
     by_cases c7 : 0 < (a1.size : Int)
     ·rw [if_pos c7] at H
      have c7b0 : decide (0 < (a1.size : Int)) = true := decide_eq_true c7
      have c7b1 : decide (0 < a1.size) = true := decide_eq_true (by omega)
      clear c7
      replace H := Option.bind_eq_some_iff.mp H
      obtain ⟨t167, A90, H⟩ := H
      replace H : (some t167) = some r := H
      have A9 := Aside0.mk A90
      clear A90
      obtain rfl := Option.some.inj H
      have p8 : 0 ≤ (0 : Int) := (by omega)
      have q8 : 0 < a1.size := (by have : (0 : Int) < (a1.size : Int) := oa; omega)
      have hx8 : ∀ h : 0 < a1.size, ((a1[0]'h).toNat : Int) = bt a1 0 := bt_at a1 0
      clear p8
      have qi8 : (0 < (a1.size : Int)) = True := eq_true oa
      replace q8 := eq_true q8
      go_wp2_with (first | ((with_reducible refine gateC (f := 84) rfl ?_); refine goesL_ (some 30) rfl rfl Try.func84 (by kernel_rfl) rfl #[.string a0, .int .u8 (bt a1 0)] rfl zm ?_; (with_reducible refine (stringslite_IndexByte.calls a0 (bt a1 0) t167 _ A9.out).mono ?_); rintro e w' ⟨rfl, ⟨nd, rfl⟩⟩; refine ⟨_, rfl, ?_⟩))
      go_ret
      exact ⟨by first | rfl | (simp; done) | (simp [*]; done), by repeat (first | exact Drawn0.refl _ | apply Drawn0.step)⟩
     ·rw [if_neg c7] at H
      exact absurd H (by simp)
    ·rw [if_neg c6] at H
     have c6b0 : ((a1.size : Int) == 1) = false := beq_eq_false_iff_ne.mpr c6
     have c6b1 : ((a1.size : Int) != 1) = true := bne_iff_ne.mpr c6
     by_cases c10 : (a1.size : Int) ≥ (a0.size : Int)
     ·rw [if_pos c10] at H
      have c10b0 : decide ((a0.size : Int) ≤ (a1.size : Int)) = true := decide_eq_true c10
      have c10b1 : decide (a0.size ≤ a1.size) = true := decide_eq_true (Int.ofNat_le.mp c10)
      clear c10
      obtain rfl := Option.some.inj H
      go_wp2
      go_ret
      exact ⟨by first | rfl | (simp; done) | (simp [*]; done), by repeat (first | exact Drawn0.refl _ | apply Drawn0.step)⟩
     ·rw [if_neg c10] at H
      exact absurd H (by simp)

end Go.Proofs.Ytlhpkapbaijnhaa.My

/- Written by this session's program (wip/gen): a plain function with the same answers as the Go function, and the proof that the Go code comes to them. Asked: that the plain function has an answer. -/
namespace Go.Proofs.Ytlhpkapbaijnhaa.My
open Go.RowKit Go.Proofs.YtlhpkapbaijnhaaW.PrintWords Go.Proofs.YtlhpkapbaijnhaaW.PrintLast Go.Proofs.YtlhpkapbaijnhaaW.PrintMore
attribute [local go_sem] max2_int min2_int max_two min_two max_three min_three max_four min_four
set_option linter.unusedVariables false
set_option linter.unusedSimpArgs false

/-! ### strings_Index: function 82 -/
def strings_Index.f (k : Nat) (a0 : ByteArray) (a1 : ByteArray) : Option (Int) := (stringslite_Index.f k a0 a1).bind fun t168 => (some t168)
set_option maxHeartbeats 8000000 in
set_option maxRecDepth 100000 in
theorem strings_Index.calls (k : Nat) (a0 : ByteArray) (a1 : ByteArray) (r : Int) (w : World) (h : strings_Index.f k a0 a1 = some r) :
  Calls Try.prog 82 #[.string a0, .string a1] w fun e w' => e = .returned (.int .i64 r) ∧ Drawn0 w w' := by
 have H : ((stringslite_Index.f k a0 a1).bind fun t168 => (some t168)) = some r := h
 clear h
 replace H := Option.bind_eq_some_iff.mp H
 obtain ⟨t168, A30, H⟩ := H
 replace H : (some t168) = some r := H
 have A3 := Aside0.mk A30
 clear A30
 obtain rfl := Option.some.inj H
 go_enter Try.func82, Try.ntmps82
 go_wp2_with (first | ((with_reducible refine gateC (f := 83) rfl ?_); refine goesL_ (some 7) rfl rfl Try.func83 (by kernel_rfl) rfl #[.string a0, .string a1] rfl zm ?_; (with_reducible refine (stringslite_Index.calls k a0 a1 t168 _ A3.out).mono ?_); rintro e w' ⟨rfl, ⟨nd, rfl⟩⟩; refine ⟨_, rfl, ?_⟩))
 go_ret
 exact ⟨by first | rfl | (simp; done) | (simp [*]; done), by repeat (first | exact Drawn0.refl _ | apply Drawn0.step)⟩

end Go.Proofs.Ytlhpkapbaijnhaa.My

/- Written by this session's program (wip/gen): a plain function with the same answers as the Go function, and the proof that the Go code comes to them. Asked: that the plain function has an answer. -/
namespace Go.Proofs.Ytlhpkapbaijnhaa.My
open Go.RowKit Go.Proofs.YtlhpkapbaijnhaaW.PrintWords Go.Proofs.YtlhpkapbaijnhaaW.PrintLast Go.Proofs.YtlhpkapbaijnhaaW.PrintMore
attribute [local go_sem] max2_int min2_int max_two min_two max_three min_three max_four min_four
set_option linter.unusedVariables false
set_option linter.unusedSimpArgs false

/-! ### strings_Contains: function 79 -/
def strings_Contains.f (k : Nat) (a0 : ByteArray) (a1 : ByteArray) : Option (Bool) := (strings_Index.f k a0 a1).bind fun t169 => (some (decide (t169 ≥ 0)))
set_option maxHeartbeats 8000000 in
set_option maxRecDepth 100000 in
theorem strings_Contains.calls (k : Nat) (a0 : ByteArray) (a1 : ByteArray) (r : Bool) (w : World) (h : strings_Contains.f k a0 a1 = some r) :
  Calls Try.prog 79 #[.string a0, .string a1] w fun e w' => e = .returned (.bool r) ∧ Drawn0 w w' := by
 have H : ((strings_Index.f k a0 a1).bind fun t169 => (some (decide (t169 ≥ 0)))) = some r := h
 clear h
 replace H := Option.bind_eq_some_iff.mp H
 obtain ⟨t169, A30, H⟩ := H
 replace H : (some (decide (t169 ≥ 0))) = some r := H
 have A3 := Aside0.mk A30
 clear A30
 obtain rfl := Option.some.inj H
 go_enter Try.func79, Try.ntmps79
 go_wp2_with (first | ((with_reducible refine gateC (f := 82) rfl ?_); refine goesL_ (some 7) rfl rfl Try.func82 (by kernel_rfl) rfl #[.string a0, .string a1] rfl zm ?_; (with_reducible refine (strings_Index.calls k a0 a1 t169 _ A3.out).mono ?_); rintro e w' ⟨rfl, ⟨nd, rfl⟩⟩; refine ⟨_, rfl, ?_⟩))
 go_ret
 exact ⟨by first | rfl | (simp; done) | (simp [*]; done), by repeat (first | exact Drawn0.refl _ | apply Drawn0.step)⟩

end Go.Proofs.Ytlhpkapbaijnhaa.My

/- Written by this session's program (wip/gen): a plain function with the same answers as the Go function, and the proof that the Go code comes to them. Asked: that the plain function has an answer. -/
namespace Go.Proofs.Ytlhpkapbaijnhaa.My
open Go.RowKit Go.Proofs.YtlhpkapbaijnhaaW.PrintWords Go.Proofs.YtlhpkapbaijnhaaW.PrintLast Go.Proofs.YtlhpkapbaijnhaaW.PrintMore
attribute [local go_sem] max2_int min2_int max_two min_two max_three min_three max_four min_four
set_option linter.unusedVariables false
set_option linter.unusedSimpArgs false

/-! ### impl_isLine: function 68 -/
def impl_isLine.f (k : Nat) (a0 : ByteArray) : Option (Bool) := (impl_in.f (a0.size : Int) 1 30).bind fun t170 => (if t170 = true then (if 0 ≤ (wrap64 ((a0.size : Int) - 1)) then (if (wrap64 ((a0.size : Int) - 1)) ≤ (a0.size : Int) then ((strings_Contains.f k (a0.extract 0 ((wrap64 ((a0.size : Int) - 1)) : Int).toNat) (⟨#[10]⟩ : ByteArray)).bind fun t171 => (some (!t171))) else (none)) else (none)) else (some false))
set_option maxHeartbeats 8000000 in
set_option maxRecDepth 100000 in
theorem impl_isLine.calls (k : Nat) (a0 : ByteArray) (r : Bool) (w : World) (h : impl_isLine.f k a0 = some r) :
  Calls Try.prog 68 #[.string a0] w fun e w' => e = .returned (.bool r) ∧ Drawn0 w w' := by
 have H : ((impl_in.f (a0.size : Int) 1 30).bind fun t170 => (if t170 = true then (if 0 ≤ (wrap64 ((a0.size : Int) - 1)) then (if (wrap64 ((a0.size : Int) - 1)) ≤ (a0.size : Int) then ((strings_Contains.f k (a0.extract 0 ((wrap64 ((a0.size : Int) - 1)) : Int).toNat) (⟨#[10]⟩ : ByteArray)).bind fun t171 => (some (!t171))) else (none)) else (none)) else (some false))) = some r := h
 clear h
 replace H := Option.bind_eq_some_iff.mp H
 obtain ⟨t170, A20, H⟩ := H
 replace H : (if t170 = true then (if 0 ≤ (wrap64 ((a0.size : Int) - 1)) then (if (wrap64 ((a0.size : Int) - 1)) ≤ (a0.size : Int) then ((strings_Contains.f k (a0.extract 0 ((wrap64 ((a0.size : Int) - 1)) : Int).toNat) (⟨#[10]⟩ : ByteArray)).bind fun t171 => (some (!t171))) else (none)) else (none)) else (some false)) = some r := H
 have A2 := Aside0.mk A20
 clear A20
 by_cases c3 : t170 = true
 ·subst c3
  have H1 : (if 0 ≤ (wrap64 ((a0.size : Int) - 1)) then (if (wrap64 ((a0.size : Int) - 1)) ≤ (a0.size : Int) then ((strings_Contains.f k (a0.extract 0 ((wrap64 ((a0.size : Int) - 1)) : Int).toNat) (⟨#[10]⟩ : ByteArray)).bind fun t171 => (some (!t171))) else (none)) else (none)) = some r := by rw [if_pos rfl] at H; exact H
  clear H
  have H := H1
  clear H1
  obtain ⟨ji4, hji4⟩ : ∃ j_ : Int, (wrap64 ((a0.size : Int) - 1)) = j_ := ⟨_, rfl⟩
  replace H : (if 0 ≤ (ji4) then (if (ji4) ≤ (a0.size : Int) then ((strings_Contains.f k (a0.extract 0 ((ji4) : Int).toNat) (⟨#[10]⟩ : ByteArray)).bind fun t171 => (some (!t171))) else (none)) else (none)) = some r := by first | (rw [hji4] at H; exact H) | (simp only [hji4] at H ⊢; exact H)
  (try rw [hji4] at A2)
  have hji4w : (IntKind.i64.wrap ((a0.size : Int) - 1)) = ji4 := (i64_w _).trans hji4
  by_cases c5 : 0 ≤ (ji4)
  ·rw [if_pos c5] at H
   have c5b0 := eq_true c5
   have c5b1 : decide (0 ≤ (ji4)) = true := decide_eq_true c5
   clear c5
   by_cases c6 : (ji4) ≤ (a0.size : Int)
   ·rw [if_pos c6] at H
    have c6b0 := eq_true c6
    have c6b1 : decide ((ji4) ≤ (a0.size : Int)) = true := decide_eq_true c6
    clear c6
    replace H := Option.bind_eq_some_iff.mp H
    obtain ⟨t171, A70, H⟩ := H
    replace H : (some (!t171)) = some r := H
    have A7 := Aside0.mk A70
    clear A70
    obtain rfl := Option.some.inj H
    go_enter Try.func68, Try.ntmps68
    go_wp2_with (first | ((with_reducible refine gateC (f := 71) rfl ?_); refine goesL_ (some 5) rfl rfl Try.func71 (by kernel_rfl) rfl #[.int .i64 (a0.size : Int), .int .i64 1, .int .i64 30] rfl zm ?_; (with_reducible refine (impl_in.calls (a0.size : Int) 1 30 true _ A2.out).mono ?_); rintro e w' ⟨rfl, ⟨nd, rfl⟩⟩; refine ⟨_, rfl, ?_⟩) | (go_at_call 79; (with_reducible refine (strings_Contains.calls k (a0.extract 0 ((ji4) : Int).toNat) (⟨#[10]⟩ : ByteArray) t171 _ A7.out).mono ?_); rintro e w' ⟨rfl, ⟨nd, rfl⟩⟩))
    go_ret
    exact ⟨by first | rfl | (simp; done) | (simp only [← hji4] <;> (first | rfl | simp)) | (simp [*]; done), by repeat (first | exact Drawn0.refl _ | apply Drawn0.step)⟩
   ·rw [if_neg c6] at H
    exact absurd H (by simp)
  ·rw [if_neg c5] at H
   exact absurd H (by simp)
 ·replace c3 := Bool.eq_false_iff.mpr c3
  subst c3
  have H1 : (some false) = some r := by rw [if_neg (show ¬ (false = true) by decide)] at H; exact H
  clear H
  have H := H1
  clear H1
  obtain rfl := Option.some.inj H
  go_enter Try.func68, Try.ntmps68
  go_wp2_with (first | ((with_reducible refine gateC (f := 71) rfl ?_); refine goesL_ (some 5) rfl rfl Try.func71 (by kernel_rfl) rfl #[.int .i64 (a0.size : Int), .int .i64 1, .int .i64 30] rfl zm ?_; (with_reducible refine (impl_in.calls (a0.size : Int) 1 30 false _ A2.out).mono ?_); rintro e w' ⟨rfl, ⟨nd, rfl⟩⟩; refine ⟨_, rfl, ?_⟩))
  go_ret
  exact ⟨by first | rfl | (simp; done) | (simp [*]; done), by repeat (first | exact Drawn0.refl _ | apply Drawn0.step)⟩

end Go.Proofs.Ytlhpkapbaijnhaa.My

/- Written by this session's program (wip/gen): a plain function with the same answers as the Go function, and the proof that the Go code comes to them. Asked: that the plain function has an answer. -/
namespace Go.Proofs.Ytlhpkapbaijnhaa.My
open Go.RowKit Go.Proofs.YtlhpkapbaijnhaaW.PrintWords Go.Proofs.YtlhpkapbaijnhaaW.PrintLast Go.Proofs.YtlhpkapbaijnhaaW.PrintMore
attribute [local go_sem] max2_int min2_int max_two min_two max_three min_three max_four min_four
set_option linter.unusedVariables false
set_option linter.unusedSimpArgs false

/-! ### impl_areLines_1: function 67 -/
def impl_areLines_1.f (k : Nat) (a0 : ByteArray) : Option (Bool) := (impl_isLine.f k a0).bind fun t172 => (some (!t172))
set_option maxHeartbeats 8000000 in
set_option maxRecDepth 100000 in
theorem impl_areLines_1.calls (k : Nat) (a0 : ByteArray) (r : Bool) (w : World) (h : impl_areLines_1.f k a0 = some r) :
  Calls Try.prog 67 #[.string a0] w fun e w' => e = .returned (.bool r) ∧ Drawn0 w w' := by
 have H : ((impl_isLine.f k a0).bind fun t172 => (some (!t172))) = some r := h
 clear h
 replace H := Option.bind_eq_some_iff.mp H
 obtain ⟨t172, A20, H⟩ := H
 replace H : (some (!t172)) = some r := H
 have A2 := Aside0.mk A20
 clear A20
 obtain rfl := Option.some.inj H
 go_enter Try.func67, Try.ntmps67
 go_wp2_with (first | ((with_reducible refine gateC (f := 68) rfl ?_); refine goesL_ (some 4) rfl rfl Try.func68 (by kernel_rfl) rfl #[.string a0] rfl zm ?_; (with_reducible refine (impl_isLine.calls k a0 t172 _ A2.out).mono ?_); rintro e w' ⟨rfl, ⟨nd, rfl⟩⟩; refine ⟨_, rfl, ?_⟩))
 go_ret
 exact ⟨by first | rfl | (simp; done) | (simp [*]; done), by repeat (first | exact Drawn0.refl _ | apply Drawn0.step)⟩

end Go.Proofs.Ytlhpkapbaijnhaa.My

/- Written by this session's program (wip/gen): a plain function with the same answers as the Go function, and the proof that the Go code comes to them. Asked: that the plain function has an answer. -/
namespace Go.Proofs.Ytlhpkapbaijnhaa.My
open Go.RowKit Go.Proofs.YtlhpkapbaijnhaaW.PrintWords Go.Proofs.YtlhpkapbaijnhaaW.PrintLast Go.Proofs.YtlhpkapbaijnhaaW.PrintMore
attribute [local go_sem] max2_int min2_int max_two min_two max_three min_three max_four min_four
set_option linter.unusedVariables false
set_option linter.unusedSimpArgs false

/-! ### slices_IndexFunc_string_string__impl_areLines_1: function 78 -/
def slices_IndexFunc_string_string__impl_areLines_1.l0 : Nat → List ByteArray → Int → Int → Option (Int)
 | 0, _, _, _ => none
 | k + 1, x0, x7, x8 => if x8 < x7 then (if 0 ≤ x8 then (if x8 < (x0.length : Int) then ((impl_areLines_1.f k (rdOf ByteArray.empty x0 x8)).bind fun t174 => (if t174 = true then (some x8) else (slices_IndexFunc_string_string__impl_areLines_1.l0 k x0 x7 (wrap64 (x8 + 1))))) else (none)) else (none)) else (some (-1))
def slices_IndexFunc_string_string__impl_areLines_1.f (k : Nat) (l0 : List ByteArray)  : Option (Int) := slices_IndexFunc_string_string__impl_areLines_1.l0 k l0 (l0.length : Int) 0
set_option maxHeartbeats 8000000 in
set_option maxRecDepth 100000 in
theorem slices_IndexFunc_string_string__impl_areLines_1.calls (k : Nat) (A0 : Option Addr) (c0 : Nat) (l0 : List ByteArray)  (r : Int) (w : World) (hr0 : Kd.C Kd.string w A0 l0.length l0) (hc0 : l0.length ≤ c0) (h : slices_IndexFunc_string_string__impl_areLines_1.f k l0 = some r) :
  Calls Try.prog 78 #[.slice A0 l0.length c0, .func (.func 67) #[] #[]] w fun e w' => e = .returned (.int .i64 r) ∧ Drawn0 w w' := by
 have HR0 := Aside0.mk hr0
 have HC0 := Aside0.mk hc0
 clear hr0 hc0
 have H : (slices_IndexFunc_string_string__impl_areLines_1.l0 k l0 (l0.length : Int) 0) = some r := h
 clear h
 have H' := Aside0.mk H
 clear H
 go_enter Try.func78, Try.ntmps78
 go_wp2
 go_loopg [8] k (fun kq v8 w' => ∃ (x8_1 : Int), v8 = .int .i64 x8_1 ∧ Aside0 (slices_IndexFunc_string_string__impl_areLines_1.l0 kq l0 (l0.length : Int) x8_1 = some r) ∧ Aside0 (kq ≤ k) ∧ Drawn0 w w')
 case atStart => exact ⟨(0), zf, H', ⟨Nat.le_refl _⟩, by repeat (first | exact Drawn0.refl _ | apply Drawn0.step)⟩
 case round =>
  clear H'
  try clear p2
  obtain ⟨x8_1, rfl, HA, HK1, ⟨m1, rfl⟩⟩ := hrel
  cases gk with
  | zero => exact absurd HA.out (by simp [slices_IndexFunc_string_string__impl_areLines_1.l0])
  | succ k1 =>
   have H := HA.out
   clear HA
   simp only [slices_IndexFunc_string_string__impl_areLines_1.l0] at H
   by_cases c3 : x8_1 < (l0.length : Int)
   ·rw [if_pos c3] at H
    have c3b0 : decide (x8_1 < (l0.length : Int)) = true := decide_eq_true c3
    clear c3
    by_cases c4 : 0 ≤ x8_1
    ·rw [if_pos c4] at H
     have c4b0 : decide (0 ≤ x8_1) = true := decide_eq_true c4
     clear c4
     by_cases c5 : x8_1 < (l0.length : Int)
     ·rw [if_pos c5] at H
      have c5b0 : decide (x8_1 < (l0.length : Int)) = true := decide_eq_true c5
      clear c5
      replace H := Option.bind_eq_some_iff.mp H
      obtain ⟨t174, A60, H⟩ := H
      replace H : (if t174 = true then (some x8_1) else (slices_IndexFunc_string_string__impl_areLines_1.l0 k1 l0 (l0.length : Int) (wrap64 (x8_1 + 1)))) = some r := H
      have A6 := Aside0.mk A60
      clear A60
      by_cases c7 : t174 = true
      ·subst c7
       have H1 : (some x8_1) = some r := by rw [if_pos rfl] at H; exact H
       clear H
       have H := H1
       clear H1
       obtain rfl := Option.some.inj H
       have p173 : 0 ≤ (x8_1 : Int) := oa
       have q173 : x8_1 < (l0.length : Int) := oa
       obtain ⟨ad173, e173, hx173_0⟩ := Kd.at_string HR0.out x8_1 p173 q173
       cases e173
       replace p173 := eq_true p173
       replace q173 := eq_true q173
       go_wp2_with (first | (go_at_call 67; (with_reducible refine (impl_areLines_1.calls k1 (rdOf ByteArray.empty l0 x8_1) true _ A6.out).mono ?_); rintro e w' ⟨rfl, ⟨nd, rfl⟩⟩))
       go_ret
       exact ⟨by first | rfl | (simp; done) | (simp [*]; done), by repeat (first | exact Drawn0.refl _ | apply Drawn0.step)⟩
      ·replace c7 := Bool.eq_false_iff.mpr c7
       subst c7
       have H1 : (slices_IndexFunc_string_string__impl_areLines_1.l0 k1 l0 (l0.length : Int) (wrap64 (x8_1 + 1))) = some r := by rw [if_neg (show ¬ (false = true) by decide)] at H; exact H
       clear H
       have H := H1
       clear H1
       have H' := Aside0.mk H
       clear H
       have p173 : 0 ≤ (x8_1 : Int) := oa
       have q173 : x8_1 < (l0.length : Int) := oa
       obtain ⟨ad173, e173, hx173_0⟩ := Kd.at_string HR0.out x8_1 p173 q173
       cases e173
       replace p173 := eq_true p173
       replace q173 := eq_true q173
       go_wp2_with (first | (go_at_call 67; (with_reducible refine (impl_areLines_1.calls k1 (rdOf ByteArray.empty l0 x8_1) false _ A6.out).mono ?_); rintro e w' ⟨rfl, ⟨nd, rfl⟩⟩))
       go_roundg k1
       case measure => have := HK1.out; omega
       case rel => exact ⟨(wrap64 (x8_1 + 1)), zf, H', ⟨by have := HK1.out; omega⟩, by repeat (first | exact Drawn0.refl _ | apply Drawn0.step)⟩
     ·rw [if_neg c5] at H
      exact absurd H (by simp)
    ·rw [if_neg c4] at H
     exact absurd H (by simp)
   ·rw [if_neg c3] at H
    have c3b0 : decide (x8_1 < (l0.length : Int)) = false := decide_eq_false c3
    clear c3
    obtain rfl := Option.some.inj H
    go_wp2
    go_ret
    exact ⟨by first | rfl | (simp; done) | (simp [*]; done), by repeat (first | exact Drawn0.refl _ | apply Drawn0.step)⟩

end Go.Proofs.Ytlhpkapbaijnhaa.My

/- Written by this session's program (wip/gen): a plain function with the same answers as the Go function, and the proof that the Go code comes to them. Asked: that the plain function has an answer. -/
namespace Go.Proofs.Ytlhpkapbaijnhaa.My
open Go.RowKit Go.Proofs.YtlhpkapbaijnhaaW.PrintWords Go.Proofs.YtlhpkapbaijnhaaW.PrintLast Go.Proofs.YtlhpkapbaijnhaaW.PrintMore
attribute [local go_sem] max2_int min2_int max_two min_two max_three min_three max_four min_four
set_option linter.unusedVariables false
set_option linter.unusedSimpArgs false

/-! ### slices_ContainsFunc_string_string__impl_areLines_1: function 66 -/
def slices_ContainsFunc_string_string__impl_areLines_1.f (k : Nat) (l0 : List ByteArray)  : Option (Bool) := (slices_IndexFunc_string_string__impl_areLines_1.f k l0).bind fun t175 => (some (decide (t175 ≥ 0)))
set_option maxHeartbeats 8000000 in
set_option maxRecDepth 100000 in
theorem slices_ContainsFunc_string_string__impl_areLines_1.calls (k : Nat) (A0 : Option Addr) (c0 : Nat) (l0 : List ByteArray)  (r : Bool) (w : World) (hr0 : Kd.C Kd.string w A0 l0.length l0) (hc0 : l0.length ≤ c0) (h : slices_ContainsFunc_string_string__impl_areLines_1.f k l0 = some r) :
  Calls Try.prog 66 #[.slice A0 l0.length c0, .func (.func 67) #[] #[]] w fun e w' => e = .returned (.bool r) ∧ Drawn0 w w' := by
 have HR0 := Aside0.mk hr0
 have HC0 := Aside0.mk hc0
 clear hr0 hc0
 have H : ((slices_IndexFunc_string_string__impl_areLines_1.f k l0).bind fun t175 => (some (decide (t175 ≥ 0)))) = some r := h
 clear h
 replace H := Option.bind_eq_some_iff.mp H
 obtain ⟨t175, A30, H⟩ := H
 replace H : (some (decide (t175 ≥ 0))) = some r := H
 have A3 := Aside0.mk A30
 clear A30
 obtain rfl := Option.some.inj H
 go_enter Try.func66, Try.ntmps66
 go_wp2_with (first | ((with_reducible refine gateC (f := 78) rfl ?_); refine goesL_ (some 7) rfl rfl Try.func78 (by kernel_rfl) rfl #[.slice A0 l0.length c0, .func (.func 67) #[] #[]] rfl zm ?_; (with_reducible refine (slices_IndexFunc_string_string__impl_areLines_1.calls k _ _ l0  t175 _ ?side1 ?side2 A3.out).mono ?_); (case side1 => exact zq HR0.out); (case side2 => exact HC0.out); rintro e w' ⟨rfl, ⟨nd, rfl⟩⟩; refine ⟨_, rfl, ?_⟩))
 go_ret
 exact ⟨by first | rfl | (simp; done) | (simp [*]; done), by repeat (first | exact Drawn0.refl _ | apply Drawn0.step)⟩

end Go.Proofs.Ytlhpkapbaijnhaa.My

/- Written by this session's program (wip/gen): a plain function with the same answers as the Go function, and the proof that the Go code comes to them. Asked: that the plain function has an answer. -/
namespace Go.Proofs.Ytlhpkapbaijnhaa.My
open Go.RowKit Go.Proofs.YtlhpkapbaijnhaaW.PrintWords Go.Proofs.YtlhpkapbaijnhaaW.PrintLast Go.Proofs.YtlhpkapbaijnhaaW.PrintMore
attribute [local go_sem] max2_int min2_int max_two min_two max_three min_three max_four min_four
set_option linter.unusedVariables false
set_option linter.unusedSimpArgs false

/-! ### impl_areLines: function 54 -/
def impl_areLines.f (k : Nat) (l0 : List ByteArray) : Option (Bool) := if (l0.length : Int) ≤ 40 then ((slices_ContainsFunc_string_string__impl_areLines_1.f k l0).bind fun t176 => (some (!t176))) else (some false)
set_option maxHeartbeats 8000000 in
set_option maxRecDepth 100000 in
theorem impl_areLines.calls (k : Nat) (A0 : Option Addr) (c0 : Nat) (l0 : List ByteArray) (r : Bool) (w : World) (hr0 : Kd.C Kd.string w A0 l0.length l0) (hc0 : l0.length ≤ c0) (h : impl_areLines.f k l0 = some r) :
  Calls Try.prog 54 #[.slice A0 l0.length c0] w fun e w' => e = .returned (.bool r) ∧ Drawn0 w w' := by
 have HR0 := Aside0.mk hr0
 have HC0 := Aside0.mk hc0
 clear hr0 hc0
 have H : (if (l0.length : Int) ≤ 40 then ((slices_ContainsFunc_string_string__impl_areLines_1.f k l0).bind fun t176 => (some (!t176))) else (some false)) = some r := h
 clear h
 by_cases c2 : (l0.length : Int) ≤ 40
 ·rw [if_pos c2] at H
  have c2b0 : decide ((l0.length : Int) ≤ 40) = true := decide_eq_true c2
  have c2b1 : decide (l0.length ≤ 40) = true := decide_eq_true (by omega)
  clear c2
  replace H := Option.bind_eq_some_iff.mp H
  obtain ⟨t176, A30, H⟩ := H
  replace H : (some (!t176)) = some r := H
  have A3 := Aside0.mk A30
  clear A30
  obtain rfl := Option.some.inj H
  go_enter Try.func54, Try.ntmps54
  go_wp2_with (first | (go_at_call 66; (with_reducible refine (slices_ContainsFunc_string_string__impl_areLines_1.calls k _ _ l0  t176 _ ?side1 ?side2 A3.out).mono ?_); (case side1 => exact zq HR0.out); (case side2 => exact HC0.out); rintro e w' ⟨rfl, ⟨nd, rfl⟩⟩))
  go_ret
  exact ⟨by first | rfl | (simp; done) | (simp [*]; done), by repeat (first | exact Drawn0.refl _ | apply Drawn0.step)⟩
 ·rw [if_neg c2] at H
  have c2b0 : decide ((l0.length : Int) ≤ 40) = false := decide_eq_false c2
  have c2b1 : decide (l0.length ≤ 40) = false := decide_eq_false (by omega)
  clear c2
  obtain rfl := Option.some.inj H
  go_enter Try.func54, Try.ntmps54
  go_wp2
  go_ret
  exact ⟨by first | rfl | (simp; done) | (simp [*]; done), by repeat (first | exact Drawn0.refl _ | apply Drawn0.step)⟩

end Go.Proofs.Ytlhpkapbaijnhaa.My

/- Written by this session's program (wip/gen): a plain function with the same answers as the Go function, and the proof that the Go code comes to them. Asked: that the plain function has an answer. -/
namespace Go.Proofs.Ytlhpkapbaijnhaa.My
open Go.RowKit Go.Proofs.YtlhpkapbaijnhaaW.PrintWords Go.Proofs.YtlhpkapbaijnhaaW.PrintLast Go.Proofs.YtlhpkapbaijnhaaW.PrintMore
attribute [local go_sem] max2_int min2_int max_two min_two max_three min_three max_four min_four
set_option linter.unusedVariables false
set_option linter.unusedSimpArgs false

/-! ### impl_goodHunks: function 59 -/
mutual
def impl_goodHunks.j0 : Nat → Int → List (S62) → Bool → Option (Bool)
 | 0, _, _, _ => none
 | k + 1, x0, x1, x14 => if x14 = true then (some false) else (impl_goodHunks.l0 k x0 x1 x1 (x1.length : Int) 0)
def impl_goodHunks.l0 : Nat → Int → List (S62) → List (S62) → Int → Int → Option (Bool)
 | 0, _, _, _, _, _ => none
 | k + 1, x0, x1, x15, x16, x17 => if x17 < x16 then (if 0 ≤ x17 then (if x17 < (x15.length : Int) then ((impl_in.f ((rd_T62 x15 x17).f0) 0 x0).bind fun t365 => (if t365 = true then ((impl_in.f ((rd_T62 x15 x17).f1) 0 (wrap64 (x0 - ((rd_T62 x15 x17).f0)))).bind fun t366 => (if t366 = true then ((impl_areLines.f k ((rd_T62 x15 x17).f2)).bind fun t367 => (if t367 = true then (if ((rd_T62 x15 x17).f1) = 0 then (impl_goodHunks.j2 k x0 x1 x17 x15 x16 x17 ((((rd_T62 x15 x17).f2).length : Int) == 0) ((rd_T62 x15 x17).f0) ((rd_T62 x15 x17).f1) ((rd_T62 x15 x17).f2)) else (impl_goodHunks.j2 k x0 x1 x17 x15 x16 x17 false ((rd_T62 x15 x17).f0) ((rd_T62 x15 x17).f1) ((rd_T62 x15 x17).f2))) else (impl_goodHunks.j2 k x0 x1 x17 x15 x16 x17 true ((rd_T62 x15 x17).f0) ((rd_T62 x15 x17).f1) ((rd_T62 x15 x17).f2)))) else (impl_goodHunks.j2 k x0 x1 x17 x15 x16 x17 true ((rd_T62 x15 x17).f0) ((rd_T62 x15 x17).f1) ((rd_T62 x15 x17).f2)))) else (impl_goodHunks.j2 k x0 x1 x17 x15 x16 x17 true ((rd_T62 x15 x17).f0) ((rd_T62 x15 x17).f1) ((rd_T62 x15 x17).f2)))) else (none)) else (none)) else (some true)
def impl_goodHunks.j2 : Nat → Int → List (S62) → Int → List (S62) → Int → Int → Bool → Int → Int → List ByteArray → Option (Bool)
 | 0, _, _, _, _, _, _, _, _, _, _ => none
 | k + 1, x0, x1, x5, x15, x16, x17, x53, x365000, x365001, x365002 => if x53 = true then (some false) else (if x5 > 0 then (if 0 ≤ (wrap64 (x5 - 1)) then (if (wrap64 (x5 - 1)) < (x1.length : Int) then (if x365000 ≤ (wrap64 (((rd_T62 x1 (wrap64 (x5 - 1))).f0) + ((rd_T62 x1 (wrap64 (x5 - 1))).f1))) then (some false) else (impl_goodHunks.l0 k x0 x1 x15 x16 (wrap64 (x17 + 1)))) else (none)) else (none)) else (impl_goodHunks.l0 k x0 x1 x15 x16 (wrap64 (x17 + 1))))
end
def impl_goodHunks.f (k : Nat) (a0 : Int) (l1 : List (S62)) : Option (Bool) := (impl_in.f a0 0 40).bind fun t362 => (if t362 = true then (impl_goodHunks.j0 k a0 l1 (decide ((l1.length : Int) > 20))) else (impl_goodHunks.j0 k a0 l1 true))
set_option maxHeartbeats 8000000 in
set_option maxRecDepth 100000 in
theorem impl_goodHunks.calls (k : Nat) (a0 : Int) (A1 : Option Addr) (c1 : Nat) (l1 : List (S62)) (r : Bool) (w : World) (hr1 : Kd.C k62 w A1 l1.length l1) (hc1 : l1.length ≤ c1) (h : impl_goodHunks.f k a0 l1 = some r) :
  Calls Try.prog 59 #[.int .i64 a0, .slice A1 l1.length c1] w fun e w' => e = .returned (.bool r) ∧ Below w.heap.size w w' := by
 have hu62 := Try.underlying62
 have HR1 := Aside0.mk hr1
 have HC1 := Aside0.mk hc1
 clear hr1 hc1
 have HB := Aside0.mk (Below.refl w.heap.size w)
 have H : ((impl_in.f a0 0 40).bind fun t362 => (if t362 = true then (impl_goodHunks.j0 k a0 l1 (decide ((l1.length : Int) > 20))) else (impl_goodHunks.j0 k a0 l1 true))) = some r := h
 clear h
 have HC3 := Aside0.mk H
 clear H
 go_enter Try.func59, Try.ntmps59
 go_upto_region 1 with (fail)
 repeat (go_quiet (fail); go_upto_region 1 with (fail))
 go_cut [14] (fun v14 wc => ∃ (kq : Nat) (x14_2 : Bool), v14 = .bool x14_2 ∧ Aside0 (impl_goodHunks.j0 kq a0 l1 x14_2 = some r) ∧ Aside0 (kq ≤ k) ∧ Aside0 (Below w.heap.size w wc))
 case first =>
  have H := HC3.out
  clear HC3
  replace H := Option.bind_eq_some_iff.mp H
  obtain ⟨t362, A40, H⟩ := H
  replace H : (if t362 = true then (impl_goodHunks.j0 k a0 l1 (decide ((l1.length : Int) > 20))) else (impl_goodHunks.j0 k a0 l1 true)) = some r := H
  have A4 := Aside0.mk A40
  clear A40
  by_cases c5 : t362 = true
  ·subst c5
   have H1 : (impl_goodHunks.j0 k a0 l1 (decide ((l1.length : Int) > 20))) = some r := by rw [if_pos rfl] at H; exact H
   clear H
   have H := H1
   clear H1
   have H' := Aside0.mk H
   clear H
   go_wp2_with (first | (go_at_call 71; (with_reducible refine (impl_in.calls a0 0 40 true _ A4.out).mono ?_); rintro e w' ⟨rfl, ⟨nd, rfl⟩⟩; (try exact zd)))
   repeat (go_quiet (first | (go_at_call 71; (with_reducible refine (impl_in.calls a0 0 40 true _ A4.out).mono ?_); rintro e w' ⟨rfl, ⟨nd, rfl⟩⟩; (try exact zd))); try go_wp2_with (first | (go_at_call 71; (with_reducible refine (impl_in.calls a0 0 40 true _ A4.out).mono ?_); rintro e w' ⟨rfl, ⟨nd, rfl⟩⟩; (try exact zd))))
   go_meet
   case rel => exact ⟨_, (decide ((l1.length : Int) > 20)), zf, H', ⟨by first | omega | exact Nat.le_refl _⟩, ⟨by repeat (first | (with_reducible first | exact HB.out | apply below_alloc | apply pw_below_drewN | apply below_drew1) | exact HB.out)⟩⟩
  ·replace c5 := Bool.eq_false_iff.mpr c5
   subst c5
   have H1 : (impl_goodHunks.j0 k a0 l1 true) = some r := by rw [if_neg (show ¬ (false = true) by decide)] at H; exact H
   clear H
   have H := H1
   clear H1
   have H' := Aside0.mk H
   clear H
   go_wp2_with (first | (go_at_call 71; (with_reducible refine (impl_in.calls a0 0 40 false _ A4.out).mono ?_); rintro e w' ⟨rfl, ⟨nd, rfl⟩⟩; (try exact zd)))
   repeat (go_quiet (first | (go_at_call 71; (with_reducible refine (impl_in.calls a0 0 40 false _ A4.out).mono ?_); rintro e w' ⟨rfl, ⟨nd, rfl⟩⟩; (try exact zd))); try go_wp2_with (first | (go_at_call 71; (with_reducible refine (impl_in.calls a0 0 40 false _ A4.out).mono ?_); rintro e w' ⟨rfl, ⟨nd, rfl⟩⟩; (try exact zd))))
   go_meet
   case rel => exact ⟨_, (true), zf, H', ⟨by first | omega | exact Nat.le_refl _⟩, ⟨by repeat (first | (with_reducible first | exact HB.out | apply below_alloc | apply pw_below_drewN | apply below_drew1) | exact HB.out)⟩⟩
 case rest =>
  clear HC3
  try clear c1
  try clear p2
  try clear c5
  obtain ⟨kq, x14_2, rfl, HA, HJ2, HB⟩ := hcut
  cases kq with
  | zero => exact absurd HA.out (by simp [impl_goodHunks.j0])
  | succ kj2 =>
   have H := HA.out
   clear HA
   simp only [impl_goodHunks.j0] at H
   by_cases c6 : x14_2 = true
   ·subst c6
    have H1 : (some false) = some r := by rw [if_pos rfl] at H; exact H
    clear H
    have H := H1
    clear H1
    obtain rfl := Option.some.inj H
    go_wp2
    repeat (go_quiet (fail); try go_wp2)
    go_ret
    exact ⟨by first | rfl | (simp [errW_none, errW_some] <;> rfl) | (simp [*, errW_none, errW_some] <;> rfl), by repeat (first | (with_reducible first | exact HB.out | apply below_alloc | apply pw_below_drewN | apply below_drew1) | exact HB.out)⟩
   ·replace c6 := Bool.eq_false_iff.mpr c6
    subst c6
    have H1 : (impl_goodHunks.l0 kj2 a0 l1 l1 (l1.length : Int) 0) = some r := by rw [if_neg (show ¬ (false = true) by decide)] at H; exact H
    clear H
    have H := H1
    clear H1
    have H' := Aside0.mk H
    clear H
    go_wp2
    repeat (go_quiet (fail); try go_wp2)
    go_loopg [17] kj2 (fun kq v17 w' => ∃ (x17_2 : Int), v17 = .int .i64 x17_2 ∧ Aside0 (impl_goodHunks.l0 kq a0 l1 l1 (l1.length : Int) x17_2 = some r) ∧ Aside0 (kq ≤ kj2) ∧ Aside0 (Below w.heap.size w w'))
    case atStart => exact ⟨(0), zf, H', ⟨Nat.le_refl _⟩, ⟨by repeat (first | (with_reducible first | exact HB.out | apply below_alloc | apply pw_below_drewN | apply below_drew1) | exact HB.out)⟩⟩
    case round =>
     clear H'
     try clear c1
     try clear p2
     try clear c5
     try clear c6
     try clear p2
     obtain ⟨x17_2, rfl, HA, HK2, HB⟩ := hrel
     cases gk with
     | zero => exact absurd HA.out (by simp [impl_goodHunks.l0])
     | succ k2 =>
      have H := HA.out
      clear HA
      simp only [impl_goodHunks.l0] at H
      by_cases c7 : x17_2 < (l1.length : Int)
      ·rw [if_pos c7] at H
       have c7b0 : decide (x17_2 < (l1.length : Int)) = true := decide_eq_true c7
       clear c7
       by_cases c8 : 0 ≤ x17_2
       ·rw [if_pos c8] at H
        have c8b0 : decide (0 ≤ x17_2) = true := decide_eq_true c8
        clear c8
        by_cases c9 : x17_2 < (l1.length : Int)
        ·rw [if_pos c9] at H
         have c9b0 : decide (x17_2 < (l1.length : Int)) = true := decide_eq_true c9
         clear c9
         have HC10 := Aside0.mk H
         clear H
         have p363 : 0 ≤ (x17_2 : Int) := oa
         have q363 : x17_2 < (l1.length : Int) := oa
         obtain ⟨ad363, A363_2, c363_2, e363, hx363_0, hx363_1, hx363_2, hl363_2, hi363_2⟩ := at_T62 HR1.out x17_2 p363 q363
         cases e363
         replace hx363_0 := (HB.out.cell (World.block_lt_of_cell? w _ hx363_0)).trans hx363_0
         replace hx363_1 := (HB.out.cell (World.block_lt_of_cell? w _ hx363_1)).trans hx363_1
         replace hx363_2 := (HB.out.cell (World.block_lt_of_cell? w _ hx363_2)).trans hx363_2
         have HR363_2 := Aside0.mk hi363_2
         have HC363_2 := Aside0.mk hl363_2
         clear hi363_2 hl363_2
         replace p363 := eq_true p363
         replace q363 := eq_true q363
         go_upto_region 6 with (first | ((with_reducible refine gate_dst (N := 6) rfl ?_); (try (refine gate_guard (by rfl) ?_; dsimp only)); refine box_event ?hg (N := 6) ?hd (cs := #[.int .i64 0, .int .i64 0, .slice none 0 0]) (t := 62) ?hr ?_; (case hd => rfl); (case hg => rfl); (case hr => first | (go_simp; done) | (go_simp; rfl)); intro gb364 hg w11 hbox hb; have n0_ := Aside0.mk (below_step zb hb); have n1_ := Aside0.mk (hbox); have n2_ := Aside0.mk ((by rw [hg]; exact (below_size zb) : w.heap.size ≤ gb364)); have n3_ := Aside0.mk ((by rw [hg]; exact (below_size zb) : w.heap.size ≤ gb364)); clear HB; have HB := n0_; have BK364 := n1_; have GW364 := n2_; have GE364 := n3_; clear n0_ n1_ n2_ n3_; clear hb hbox hg; have hcz12_0 : w11.cell? ⟨gb364, 0, none⟩ = some (.int .i64 0) := (blk_cell BK364.out 0).trans rfl; have hcz12_1 : w11.cell? ⟨gb364, 1, none⟩ = some (.int .i64 0) := (blk_cell BK364.out 1).trans rfl; have hcz12_2 : w11.cell? ⟨gb364, 2, none⟩ = some (.slice none 0 0) := (blk_cell BK364.out 2).trans rfl; have hfz12_0 := blk_frozen BK364.out 0; have hfz12_1 := blk_frozen BK364.out 1; have hfz12_2 := blk_frozen BK364.out 2))
         repeat (go_quiet (first | ((with_reducible refine gate_dst (N := 6) rfl ?_); (try (refine gate_guard (by rfl) ?_; dsimp only)); refine box_event ?hg (N := 6) ?hd (cs := #[.int .i64 0, .int .i64 0, .slice none 0 0]) (t := 62) ?hr ?_; (case hd => rfl); (case hg => rfl); (case hr => first | (go_simp; done) | (go_simp; rfl)); intro gb364 hg w11 hbox hb; have n0_ := Aside0.mk (below_step zb hb); have n1_ := Aside0.mk (hbox); have n2_ := Aside0.mk ((by rw [hg]; exact (below_size zb) : w.heap.size ≤ gb364)); have n3_ := Aside0.mk ((by rw [hg]; exact (below_size zb) : w.heap.size ≤ gb364)); clear HB; have HB := n0_; have BK364 := n1_; have GW364 := n2_; have GE364 := n3_; clear n0_ n1_ n2_ n3_; clear hb hbox hg; have hcz12_0 : w11.cell? ⟨gb364, 0, none⟩ = some (.int .i64 0) := (blk_cell BK364.out 0).trans rfl; have hcz12_1 : w11.cell? ⟨gb364, 1, none⟩ = some (.int .i64 0) := (blk_cell BK364.out 1).trans rfl; have hcz12_2 : w11.cell? ⟨gb364, 2, none⟩ = some (.slice none 0 0) := (blk_cell BK364.out 2).trans rfl; have hfz12_0 := blk_frozen BK364.out 0; have hfz12_1 := blk_frozen BK364.out 1; have hfz12_2 := blk_frozen BK364.out 2)); go_upto_region 6 with (first | ((with_reducible refine gate_dst (N := 6) rfl ?_); (try (refine gate_guard (by rfl) ?_; dsimp only)); refine box_event ?hg (N := 6) ?hd (cs := #[.int .i64 0, .int .i64 0, .slice none 0 0]) (t := 62) ?hr ?_; (case hd => rfl); (case hg => rfl); (case hr => first | (go_simp; done) | (go_simp; rfl)); intro gb364 hg w11 hbox hb; have n0_ := Aside0.mk (below_step zb hb); have n1_ := Aside0.mk (hbox); have n2_ := Aside0.mk ((by rw [hg]; exact (below_size zb) : w.heap.size ≤ gb364)); have n3_ := Aside0.mk ((by rw [hg]; exact (below_size zb) : w.heap.size ≤ gb364)); clear HB; have HB := n0_; have BK364 := n1_; have GW364 := n2_; have GE364 := n3_; clear n0_ n1_ n2_ n3_; clear hb hbox hg; have hcz12_0 : w11.cell? ⟨gb364, 0, none⟩ = some (.int .i64 0) := (blk_cell BK364.out 0).trans rfl; have hcz12_1 : w11.cell? ⟨gb364, 1, none⟩ = some (.int .i64 0) := (blk_cell BK364.out 1).trans rfl; have hcz12_2 : w11.cell? ⟨gb364, 2, none⟩ = some (.slice none 0 0) := (blk_cell BK364.out 2).trans rfl; have hfz12_0 := blk_frozen BK364.out 0; have hfz12_1 := blk_frozen BK364.out 1; have hfz12_2 := blk_frozen BK364.out 2)))
         (try simp only [Act.put, List.setIfInBounds_toArray, List.set_cons_zero, List.set_cons_succ])
         go_cut [53] (fun v53 wc => ∃ (kq : Nat) (x53_9 : Bool), v53 = .bool x53_9 ∧ Aside0 (impl_goodHunks.j2 kq a0 l1 x17_2 l1 (l1.length : Int) x17_2 x53_9 ((rd_T62 l1 x17_2).f0) ((rd_T62 l1 x17_2).f1) ((rd_T62 l1 x17_2).f2) = some r) ∧ Aside0 (kq ≤ k2) ∧ Aside0 (wc.heap[gb364]? = some (.cells #[.int .i64 ((rd_T62 l1 x17_2).f0), .int .i64 ((rd_T62 l1 x17_2).f1), (.slice A363_2 ((rd_T62 l1 x17_2).f2).length c363_2)] 62 (0, 0))) ∧ Aside0 (Below w.heap.size w wc))
         case first =>
          have H := HC10.out
          clear HC10
          replace H := Option.bind_eq_some_iff.mp H
          obtain ⟨t365, A130, H⟩ := H
          replace H : (if t365 = true then ((impl_in.f ((rd_T62 l1 x17_2).f1) 0 (wrap64 (a0 - ((rd_T62 l1 x17_2).f0)))).bind fun t366 => (if t366 = true then ((impl_areLines.f k2 ((rd_T62 l1 x17_2).f2)).bind fun t367 => (if t367 = true then (if ((rd_T62 l1 x17_2).f1) = 0 then (impl_goodHunks.j2 k2 a0 l1 x17_2 l1 (l1.length : Int) x17_2 ((((rd_T62 l1 x17_2).f2).length : Int) == 0) ((rd_T62 l1 x17_2).f0) ((rd_T62 l1 x17_2).f1) ((rd_T62 l1 x17_2).f2)) else (impl_goodHunks.j2 k2 a0 l1 x17_2 l1 (l1.length : Int) x17_2 false ((rd_T62 l1 x17_2).f0) ((rd_T62 l1 x17_2).f1) ((rd_T62 l1 x17_2).f2))) else (impl_goodHunks.j2 k2 a0 l1 x17_2 l1 (l1.length : Int) x17_2 true ((rd_T62 l1 x17_2).f0) ((rd_T62 l1 x17_2).f1) ((rd_T62 l1 x17_2).f2)))) else (impl_goodHunks.j2 k2 a0 l1 x17_2 l1 (l1.length : Int) x17_2 true ((rd_T62 l1 x17_2).f0) ((rd_T62 l1 x17_2).f1) ((rd_T62 l1 x17_2).f2)))) else (impl_goodHunks.j2 k2 a0 l1 x17_2 l1 (l1.length : Int) x17_2 true ((rd_T62 l1 x17_2).f0) ((rd_T62 l1 x17_2).f1) ((rd_T62 l1 x17_2).f2))) = some r := H
          have A13 := Aside0.mk A130
          clear A130
          by_cases c14 : t365 = true
          ·subst c14
           have H1 : ((impl_in.f ((rd_T62 l1 x17_2).f1) 0 (wrap64 (a0 - ((rd_T62 l1 x17_2).f0)))).bind fun t366 => (if t366 = true then ((impl_areLines.f k2 ((rd_T62 l1 x17_2).f2)).bind fun t367 => (if t367 = true then (if ((rd_T62 l1 x17_2).f1) = 0 then (impl_goodHunks.j2 k2 a0 l1 x17_2 l1 (l1.length : Int) x17_2 ((((rd_T62 l1 x17_2).f2).length : Int) == 0) ((rd_T62 l1 x17_2).f0) ((rd_T62 l1 x17_2).f1) ((rd_T62 l1 x17_2).f2)) else (impl_goodHunks.j2 k2 a0 l1 x17_2 l1 (l1.length : Int) x17_2 false ((rd_T62 l1 x17_2).f0) ((rd_T62 l1 x17_2).f1) ((rd_T62 l1 x17_2).f2))) else (impl_goodHunks.j2 k2 a0 l1 x17_2 l1 (l1.length : Int) x17_2 true ((rd_T62 l1 x17_2).f0) ((rd_T62 l1 x17_2).f1) ((rd_T62 l1 x17_2).f2)))) else (impl_goodHunks.j2 k2 a0 l1 x17_2 l1 (l1.length : Int) x17_2 true ((rd_T62 l1 x17_2).f0) ((rd_T62 l1 x17_2).f1) ((rd_T62 l1 x17_2).f2)))) = some r := by rw [if_pos rfl] at H; exact H
           clear H
           have H := H1
           clear H1
           replace H := Option.bind_eq_some_iff.mp H
           obtain ⟨t366, A150, H⟩ := H
           replace H : (if t366 = true then ((impl_areLines.f k2 ((rd_T62 l1 x17_2).f2)).bind fun t367 => (if t367 = true then (if ((rd_T62 l1 x17_2).f1) = 0 then (impl_goodHunks.j2 k2 a0 l1 x17_2 l1 (l1.length : Int) x17_2 ((((rd_T62 l1 x17_2).f2).length : Int) == 0) ((rd_T62 l1 x17_2).f0) ((rd_T62 l1 x17_2).f1) ((rd_T62 l1 x17_2).f2)) else (impl_goodHunks.j2 k2 a0 l1 x17_2 l1 (l1.length : Int) x17_2 false ((rd_T62 l1 x17_2).f0) ((rd_T62 l1 x17_2).f1) ((rd_T62 l1 x17_2).f2))) else (impl_goodHunks.j2 k2 a0 l1 x17_2 l1 (l1.length : Int) x17_2 true ((rd_T62 l1 x17_2).f0) ((rd_T62 l1 x17_2).f1) ((rd_T62 l1 x17_2).f2)))) else (impl_goodHunks.j2 k2 a0 l1 x17_2 l1 (l1.length : Int) x17_2 true ((rd_T62 l1 x17_2).f0) ((rd_T62 l1 x17_2).f1) ((rd_T62 l1 x17_2).f2))) = some r := H
           have A15 := Aside0.mk A150
           clear A150
           by_cases c16 : t366 = true
           ·subst c16
            have H1 : ((impl_areLines.f k2 ((rd_T62 l1 x17_2).f2)).bind fun t367 => (if t367 = true then (if ((rd_T62 l1 x17_2).f1) = 0 then (impl_goodHunks.j2 k2 a0 l1 x17_2 l1 (l1.length : Int) x17_2 ((((rd_T62 l1 x17_2).f2).length : Int) == 0) ((rd_T62 l1 x17_2).f0) ((rd_T62 l1 x17_2).f1) ((rd_T62 l1 x17_2).f2)) else (impl_goodHunks.j2 k2 a0 l1 x17_2 l1 (l1.length : Int) x17_2 false ((rd_T62 l1 x17_2).f0) ((rd_T62 l1 x17_2).f1) ((rd_T62 l1 x17_2).f2))) else (impl_goodHunks.j2 k2 a0 l1 x17_2 l1 (l1.length : Int) x17_2 true ((rd_T62 l1 x17_2).f0) ((rd_T62 l1 x17_2).f1) ((rd_T62 l1 x17_2).f2)))) = some r := by rw [if_pos rfl] at H; exact H
            clear H
            have H := H1
            clear H1
            replace H := Option.bind_eq_some_iff.mp H
            obtain ⟨t367, A170, H⟩ := H
            replace H : (if t367 = true then (if ((rd_T62 l1 x17_2).f1) = 0 then (impl_goodHunks.j2 k2 a0 l1 x17_2 l1 (l1.length : Int) x17_2 ((((rd_T62 l1 x17_2).f2).length : Int) == 0) ((rd_T62 l1 x17_2).f0) ((rd_T62 l1 x17_2).f1) ((rd_T62 l1 x17_2).f2)) else (impl_goodHunks.j2 k2 a0 l1 x17_2 l1 (l1.length : Int) x17_2 false ((rd_T62 l1 x17_2).f0) ((rd_T62 l1 x17_2).f1) ((rd_T62 l1 x17_2).f2))) else (impl_goodHunks.j2 k2 a0 l1 x17_2 l1 (l1.length : Int) x17_2 true ((rd_T62 l1 x17_2).f0) ((rd_T62 l1 x17_2).f1) ((rd_T62 l1 x17_2).f2))) = some r := H
            have A17 := Aside0.mk A170
            clear A170
            by_cases c18 : t367 = true
            ·subst c18
             have H1 : (if ((rd_T62 l1 x17_2).f1) = 0 then (impl_goodHunks.j2 k2 a0 l1 x17_2 l1 (l1.length : Int) x17_2 ((((rd_T62 l1 x17_2).f2).length : Int) == 0) ((rd_T62 l1 x17_2).f0) ((rd_T62 l1 x17_2).f1) ((rd_T62 l1 x17_2).f2)) else (impl_goodHunks.j2 k2 a0 l1 x17_2 l1 (l1.length : Int) x17_2 false ((rd_T62 l1 x17_2).f0) ((rd_T62 l1 x17_2).f1) ((rd_T62 l1 x17_2).f2))) = some r := by rw [if_pos rfl] at H; exact H
             clear H
             have H := H1
             clear H1
             by_cases c19 : ((rd_T62 l1 x17_2).f1) = 0
             ·rw [if_pos c19] at H
              have c19b0 : (((rd_T62 l1 x17_2).f1) == 0) = true := beq_iff_eq.mpr c19
              have c19b1 : (((rd_T62 l1 x17_2).f1) != 0) = false := bne_eq_false_iff_eq.mpr c19
              clear c19
              (first | rw [c19b0] | (simp only [i64_w, i32_w]; rw [c19b0]) | skip)
              have H' := Aside0.mk H
              clear H
              have hcz20_0 : w11.cell? ⟨gb364, 0, none⟩ = some (.int .i64 0) := (blk_cell BK364.out 0).trans rfl
              have hcz20_1 : w11.cell? ⟨gb364, 1, none⟩ = some (.int .i64 0) := (blk_cell BK364.out 1).trans rfl
              have hcz20_2 : w11.cell? ⟨gb364, 2, none⟩ = some (.slice none 0 0) := (blk_cell BK364.out 2).trans rfl
              have hfz20_0 := blk_frozen BK364.out 0
              have hfz20_1 := blk_frozen BK364.out 1
              have hfz20_2 := blk_frozen BK364.out 2
              go_wp2_with (first | (go_at_call 71; (with_reducible refine (impl_in.calls ((rd_T62 l1 x17_2).f0) 0 a0 true _ A13.out).mono ?_); rintro e w' ⟨rfl, ⟨nd, rfl⟩⟩; (try exact zd)) | (go_at_call 71; (with_reducible refine (impl_in.calls ((rd_T62 l1 x17_2).f1) 0 (wrap64 (a0 - ((rd_T62 l1 x17_2).f0))) true _ A15.out).mono ?_); rintro e w' ⟨rfl, ⟨nd, rfl⟩⟩; (try exact zd)) | (go_at_call 54; (with_reducible refine (impl_areLines.calls k2 _ _ ((rd_T62 l1 x17_2).f2) true _ ?side1 ?side2 A17.out).mono ?_); (case side1 => exact Kd.C_below HR363_2.out (by repeat (first | (with_reducible first | exact HB.out | apply below_alloc | apply pw_below_drewN | apply below_drew1 | refine below_set ?_ GE364.out) | exact HB.out))); (case side2 => exact HC363_2.out); rintro e w' ⟨rfl, ⟨nd, rfl⟩⟩; (try exact zd)))
              repeat (go_quiet (first | (go_at_call 71; (with_reducible refine (impl_in.calls ((rd_T62 l1 x17_2).f0) 0 a0 true _ A13.out).mono ?_); rintro e w' ⟨rfl, ⟨nd, rfl⟩⟩; (try exact zd)) | (go_at_call 71; (with_reducible refine (impl_in.calls ((rd_T62 l1 x17_2).f1) 0 (wrap64 (a0 - ((rd_T62 l1 x17_2).f0))) true _ A15.out).mono ?_); rintro e w' ⟨rfl, ⟨nd, rfl⟩⟩; (try exact zd)) | (go_at_call 54; (with_reducible refine (impl_areLines.calls k2 _ _ ((rd_T62 l1 x17_2).f2) true _ ?side1 ?side2 A17.out).mono ?_); (case side1 => exact Kd.C_below HR363_2.out (by repeat (first | (with_reducible first | exact HB.out | apply below_alloc | apply pw_below_drewN | apply below_drew1 | refine below_set ?_ GE364.out) | exact HB.out))); (case side2 => exact HC363_2.out); rintro e w' ⟨rfl, ⟨nd, rfl⟩⟩; (try exact zd))); try go_wp2_with (first | (go_at_call 71; (with_reducible refine (impl_in.calls ((rd_T62 l1 x17_2).f0) 0 a0 true _ A13.out).mono ?_); rintro e w' ⟨rfl, ⟨nd, rfl⟩⟩; (try exact zd)) | (go_at_call 71; (with_reducible refine (impl_in.calls ((rd_T62 l1 x17_2).f1) 0 (wrap64 (a0 - ((rd_T62 l1 x17_2).f0))) true _ A15.out).mono ?_); rintro e w' ⟨rfl, ⟨nd, rfl⟩⟩; (try exact zd)) | (go_at_call 54; (with_reducible refine (impl_areLines.calls k2 _ _ ((rd_T62 l1 x17_2).f2) true _ ?side1 ?side2 A17.out).mono ?_); (case side1 => exact Kd.C_below HR363_2.out (by repeat (first | (with_reducible first | exact HB.out | apply below_alloc | apply pw_below_drewN | apply below_drew1 | refine below_set ?_ GE364.out) | exact HB.out))); (case side2 => exact HC363_2.out); rintro e w' ⟨rfl, ⟨nd, rfl⟩⟩; (try exact zd))))
              go_meet
              case rel => exact ⟨_, (((((rd_T62 l1 x17_2).f2).length : Int) == 0)), zf, H', ⟨by have := HJ2.out; have := HK2.out; first | omega | exact Nat.le_refl _⟩, ⟨by (with_reducible repeat (first | refine blk_drewN ?_ _ | refine blk_drew ?_ | refine blk_alloc ?_ _)); refine blk_put (cs := #[.int .i64 ((rd_T62 l1 x17_2).f0), .int .i64 ((rd_T62 l1 x17_2).f1), .slice none 0 0]) ?_ 2 _ rfl; (with_reducible repeat (first | refine blk_drewN ?_ _ | refine blk_drew ?_ | refine blk_alloc ?_ _)); refine blk_put (cs := #[.int .i64 ((rd_T62 l1 x17_2).f0), .int .i64 0, .slice none 0 0]) ?_ 1 _ rfl; (with_reducible repeat (first | refine blk_drewN ?_ _ | refine blk_drew ?_ | refine blk_alloc ?_ _)); refine blk_put (cs := #[.int .i64 0, .int .i64 0, .slice none 0 0]) ?_ 0 _ rfl; (with_reducible repeat (first | refine blk_drewN ?_ _ | refine blk_drew ?_ | refine blk_alloc ?_ _)); exact BK364.out⟩, ⟨by repeat (first | (with_reducible first | exact HB.out | apply below_alloc | apply pw_below_drewN | apply below_drew1 | refine below_set ?_ GE364.out) | exact HB.out)⟩⟩
             ·rw [if_neg c19] at H
              have c19b0 : (((rd_T62 l1 x17_2).f1) == 0) = false := beq_eq_false_iff_ne.mpr c19
              have c19b1 : (((rd_T62 l1 x17_2).f1) != 0) = true := bne_iff_ne.mpr c19
              (first | rw [c19b0] | (simp only [i64_w, i32_w]; rw [c19b0]) | skip)
              have H' := Aside0.mk H
              clear H
              have hcz21_0 : w11.cell? ⟨gb364, 0, none⟩ = some (.int .i64 0) := (blk_cell BK364.out 0).trans rfl
              have hcz21_1 : w11.cell? ⟨gb364, 1, none⟩ = some (.int .i64 0) := (blk_cell BK364.out 1).trans rfl
              have hcz21_2 : w11.cell? ⟨gb364, 2, none⟩ = some (.slice none 0 0) := (blk_cell BK364.out 2).trans rfl
              have hfz21_0 := blk_frozen BK364.out 0
              have hfz21_1 := blk_frozen BK364.out 1
              have hfz21_2 := blk_frozen BK364.out 2
              go_wp2_with (first | (go_at_call 71; (with_reducible refine (impl_in.calls ((rd_T62 l1 x17_2).f0) 0 a0 true _ A13.out).mono ?_); rintro e w' ⟨rfl, ⟨nd, rfl⟩⟩; (try exact zd)) | (go_at_call 71; (with_reducible refine (impl_in.calls ((rd_T62 l1 x17_2).f1) 0 (wrap64 (a0 - ((rd_T62 l1 x17_2).f0))) true _ A15.out).mono ?_); rintro e w' ⟨rfl, ⟨nd, rfl⟩⟩; (try exact zd)) | (go_at_call 54; (with_reducible refine (impl_areLines.calls k2 _ _ ((rd_T62 l1 x17_2).f2) true _ ?side1 ?side2 A17.out).mono ?_); (case side1 => exact Kd.C_below HR363_2.out (by repeat (first | (with_reducible first | exact HB.out | apply below_alloc | apply pw_below_drewN | apply below_drew1 | refine below_set ?_ GE364.out) | exact HB.out))); (case side2 => exact HC363_2.out); rintro e w' ⟨rfl, ⟨nd, rfl⟩⟩; (try exact zd)))
              repeat (go_quiet (first | (go_at_call 71; (with_reducible refine (impl_in.calls ((rd_T62 l1 x17_2).f0) 0 a0 true _ A13.out).mono ?_); rintro e w' ⟨rfl, ⟨nd, rfl⟩⟩; (try exact zd)) | (go_at_call 71; (with_reducible refine (impl_in.calls ((rd_T62 l1 x17_2).f1) 0 (wrap64 (a0 - ((rd_T62 l1 x17_2).f0))) true _ A15.out).mono ?_); rintro e w' ⟨rfl, ⟨nd, rfl⟩⟩; (try exact zd)) | (go_at_call 54; (with_reducible refine (impl_areLines.calls k2 _ _ ((rd_T62 l1 x17_2).f2) true _ ?side1 ?side2 A17.out).mono ?_); (case side1 => exact Kd.C_below HR363_2.out (by repeat (first | (with_reducible first | exact HB.out | apply below_alloc | apply pw_below_drewN | apply below_drew1 | refine below_set ?_ GE364.out) | exact HB.out))); (case side2 => exact HC363_2.out); rintro e w' ⟨rfl, ⟨nd, rfl⟩⟩; (try exact zd))); try go_wp2_with (first | (go_at_call 71; (with_reducible refine (impl_in.calls ((rd_T62 l1 x17_2).f0) 0 a0 true _ A13.out).mono ?_); rintro e w' ⟨rfl, ⟨nd, rfl⟩⟩; (try exact zd)) | (go_at_call 71; (with_reducible refine (impl_in.calls ((rd_T62 l1 x17_2).f1) 0 (wrap64 (a0 - ((rd_T62 l1 x17_2).f0))) true _ A15.out).mono ?_); rintro e w' ⟨rfl, ⟨nd, rfl⟩⟩; (try exact zd)) | (go_at_call 54; (with_reducible refine (impl_areLines.calls k2 _ _ ((rd_T62 l1 x17_2).f2) true _ ?side1 ?side2 A17.out).mono ?_); (case side1 => exact Kd.C_below HR363_2.out (by repeat (first | (with_reducible first | exact HB.out | apply below_alloc | apply pw_below_drewN | apply below_drew1 | refine below_set ?_ GE364.out) | exact HB.out))); (case side2 => exact HC363_2.out); rintro e w' ⟨rfl, ⟨nd, rfl⟩⟩; (try exact zd))))
              go_meet
              case rel => exact ⟨_, (false), zf, H', ⟨by have := HJ2.out; have := HK2.out; first | omega | exact Nat.le_refl _⟩, ⟨by (with_reducible repeat (first | refine blk_drewN ?_ _ | refine blk_drew ?_ | refine blk_alloc ?_ _)); refine blk_put (cs := #[.int .i64 ((rd_T62 l1 x17_2).f0), .int .i64 ((rd_T62 l1 x17_2).f1), .slice none 0 0]) ?_ 2 _ rfl; (with_reducible repeat (first | refine blk_drewN ?_ _ | refine blk_drew ?_ | refine blk_alloc ?_ _)); refine blk_put (cs := #[.int .i64 ((rd_T62 l1 x17_2).f0), .int .i64 0, .slice none 0 0]) ?_ 1 _ rfl; (with_reducible repeat (first | refine blk_drewN ?_ _ | refine blk_drew ?_ | refine blk_alloc ?_ _)); refine blk_put (cs := #[.int .i64 0, .int .i64 0, .slice none 0 0]) ?_ 0 _ rfl; (with_reducible repeat (first | refine blk_drewN ?_ _ | refine blk_drew ?_ | refine blk_alloc ?_ _)); exact BK364.out⟩, ⟨by repeat (first | (with_reducible first | exact HB.out | apply below_alloc | apply pw_below_drewN | apply below_drew1 | refine below_set ?_ GE364.out) | exact HB.out)⟩⟩
            ·replace c18 := Bool.eq_false_iff.mpr c18
             subst c18
             have H1 : (impl_goodHunks.j2 k2 a0 l1 x17_2 l1 (l1.length : Int) x17_2 true ((rd_T62 l1 x17_2).f0) ((rd_T62 l1 x17_2).f1) ((rd_T62 l1 x17_2).f2)) = some r := by rw [if_neg (show ¬ (false = true) by decide)] at H; exact H
             clear H
             have H := H1
             clear H1
             have H' := Aside0.mk H
             clear H
             have hcz22_0 : w11.cell? ⟨gb364, 0, none⟩ = some (.int .i64 0) := (blk_cell BK364.out 0).trans rfl
             have hcz22_1 : w11.cell? ⟨gb364, 1, none⟩ = some (.int .i64 0) := (blk_cell BK364.out 1).trans rfl
             have hcz22_2 : w11.cell? ⟨gb364, 2, none⟩ = some (.slice none 0 0) := (blk_cell BK364.out 2).trans rfl
             have hfz22_0 := blk_frozen BK364.out 0
             have hfz22_1 := blk_frozen BK364.out 1
             have hfz22_2 := blk_frozen BK364.out 2
             go_wp2_with (first | (go_at_call 71; (with_reducible refine (impl_in.calls ((rd_T62 l1 x17_2).f0) 0 a0 true _ A13.out).mono ?_); rintro e w' ⟨rfl, ⟨nd, rfl⟩⟩; (try exact zd)) | (go_at_call 71; (with_reducible refine (impl_in.calls ((rd_T62 l1 x17_2).f1) 0 (wrap64 (a0 - ((rd_T62 l1 x17_2).f0))) true _ A15.out).mono ?_); rintro e w' ⟨rfl, ⟨nd, rfl⟩⟩; (try exact zd)) | (go_at_call 54; (with_reducible refine (impl_areLines.calls k2 _ _ ((rd_T62 l1 x17_2).f2) false _ ?side1 ?side2 A17.out).mono ?_); (case side1 => exact Kd.C_below HR363_2.out (by repeat (first | (with_reducible first | exact HB.out | apply below_alloc | apply pw_below_drewN | apply below_drew1 | refine below_set ?_ GE364.out) | exact HB.out))); (case side2 => exact HC363_2.out); rintro e w' ⟨rfl, ⟨nd, rfl⟩⟩; (try exact zd)))
             repeat (go_quiet (first | (go_at_call 71; (with_reducible refine (impl_in.calls ((rd_T62 l1 x17_2).f0) 0 a0 true _ A13.out).mono ?_); rintro e w' ⟨rfl, ⟨nd, rfl⟩⟩; (try exact zd)) | (go_at_call 71; (with_reducible refine (impl_in.calls ((rd_T62 l1 x17_2).f1) 0 (wrap64 (a0 - ((rd_T62 l1 x17_2).f0))) true _ A15.out).mono ?_); rintro e w' ⟨rfl, ⟨nd, rfl⟩⟩; (try exact zd)) | (go_at_call 54; (with_reducible refine (impl_areLines.calls k2 _ _ ((rd_T62 l1 x17_2).f2) false _ ?side1 ?side2 A17.out).mono ?_); (case side1 => exact Kd.C_below HR363_2.out (by repeat (first | (with_reducible first | exact HB.out | apply below_alloc | apply pw_below_drewN | apply below_drew1 | refine below_set ?_ GE364.out) | exact HB.out))); (case side2 => exact HC363_2.out); rintro e w' ⟨rfl, ⟨nd, rfl⟩⟩; (try exact zd))); try go_wp2_with (first | (go_at_call 71; (with_reducible refine (impl_in.calls ((rd_T62 l1 x17_2).f0) 0 a0 true _ A13.out).mono ?_); rintro e w' ⟨rfl, ⟨nd, rfl⟩⟩; (try exact zd)) | (go_at_call 71; (with_reducible refine (impl_in.calls ((rd_T62 l1 x17_2).f1) 0 (wrap64 (a0 - ((rd_T62 l1 x17_2).f0))) true _ A15.out).mono ?_); rintro e w' ⟨rfl, ⟨nd, rfl⟩⟩; (try exact zd)) | (go_at_call 54; (with_reducible refine (impl_areLines.calls k2 _ _ ((rd_T62 l1 x17_2).f2) false _ ?side1 ?side2 A17.out).mono ?_); (case side1 => exact Kd.C_below HR363_2.out (by repeat (first | (with_reducible first | exact HB.out | apply below_alloc | apply pw_below_drewN | apply below_drew1 | refine below_set ?_ GE364.out) | exact HB.out))); (case side2 => exact HC363_2.out); rintro e w' ⟨rfl, ⟨nd, rfl⟩⟩; (try exact zd))))
             go_meet
             case rel => exact ⟨_, (true), zf, H', ⟨by have := HJ2.out; have := HK2.out; first | omega | exact Nat.le_refl _⟩, ⟨by (with_reducible repeat (first | refine blk_drewN ?_ _ | refine blk_drew ?_ | refine blk_alloc ?_ _)); refine blk_put (cs := #[.int .i64 ((rd_T62 l1 x17_2).f0), .int .i64 ((rd_T62 l1 x17_2).f1), .slice none 0 0]) ?_ 2 _ rfl; (with_reducible repeat (first | refine blk_drewN ?_ _ | refine blk_drew ?_ | refine blk_alloc ?_ _)); refine blk_put (cs := #[.int .i64 ((rd_T62 l1 x17_2).f0), .int .i64 0, .slice none 0 0]) ?_ 1 _ rfl; (with_reducible repeat (first | refine blk_drewN ?_ _ | refine blk_drew ?_ | refine blk_alloc ?_ _)); refine blk_put (cs := #[.int .i64 0, .int .i64 0, .slice none 0 0]) ?_ 0 _ rfl; (with_reducible repeat (first | refine blk_drewN ?_ _ | refine blk_drew ?_ | refine blk_alloc ?_ _)); exact BK364.out⟩, ⟨by repeat (first | (with_reducible first | exact HB.out | apply below_alloc | apply pw_below_drewN | apply below_drew1 | refine below_set ?_ GE364.out) | exact HB.out)⟩⟩
           ·replace c16 := Bool.eq_false_iff.mpr c16
            subst c16
            have H1 : (impl_goodHunks.j2 k2 a0 l1 x17_2 l1 (l1.length : Int) x17_2 true ((rd_T62 l1 x17_2).f0) ((rd_T62 l1 x17_2).f1) ((rd_T62 l1 x17_2).f2)) = some r := by rw [if_neg (show ¬ (false = true) by decide)] at H; exact H
            clear H
            have H := H1
            clear H1
            have H' := Aside0.mk H
            clear H
            have hcz23_0 : w11.cell? ⟨gb364, 0, none⟩ = some (.int .i64 0) := (blk_cell BK364.out 0).trans rfl
            have hcz23_1 : w11.cell? ⟨gb364, 1, none⟩ = some (.int .i64 0) := (blk_cell BK364.out 1).trans rfl
            have hcz23_2 : w11.cell? ⟨gb364, 2, none⟩ = some (.slice none 0 0) := (blk_cell BK364.out 2).trans rfl
            have hfz23_0 := blk_frozen BK364.out 0
            have hfz23_1 := blk_frozen BK364.out 1
            have hfz23_2 := blk_frozen BK364.out 2
            go_wp2_with (first | (go_at_call 71; (with_reducible refine (impl_in.calls ((rd_T62 l1 x17_2).f0) 0 a0 true _ A13.out).mono ?_); rintro e w' ⟨rfl, ⟨nd, rfl⟩⟩; (try exact zd)) | (go_at_call 71; (with_reducible refine (impl_in.calls ((rd_T62 l1 x17_2).f1) 0 (wrap64 (a0 - ((rd_T62 l1 x17_2).f0))) false _ A15.out).mono ?_); rintro e w' ⟨rfl, ⟨nd, rfl⟩⟩; (try exact zd)))
            repeat (go_quiet (first | (go_at_call 71; (with_reducible refine (impl_in.calls ((rd_T62 l1 x17_2).f0) 0 a0 true _ A13.out).mono ?_); rintro e w' ⟨rfl, ⟨nd, rfl⟩⟩; (try exact zd)) | (go_at_call 71; (with_reducible refine (impl_in.calls ((rd_T62 l1 x17_2).f1) 0 (wrap64 (a0 - ((rd_T62 l1 x17_2).f0))) false _ A15.out).mono ?_); rintro e w' ⟨rfl, ⟨nd, rfl⟩⟩; (try exact zd))); try go_wp2_with (first | (go_at_call 71; (with_reducible refine (impl_in.calls ((rd_T62 l1 x17_2).f0) 0 a0 true _ A13.out).mono ?_); rintro e w' ⟨rfl, ⟨nd, rfl⟩⟩; (try exact zd)) | (go_at_call 71; (with_reducible refine (impl_in.calls ((rd_T62 l1 x17_2).f1) 0 (wrap64 (a0 - ((rd_T62 l1 x17_2).f0))) false _ A15.out).mono ?_); rintro e w' ⟨rfl, ⟨nd, rfl⟩⟩; (try exact zd))))
            go_meet
            case rel => exact ⟨_, (true), zf, H', ⟨by have := HJ2.out; have := HK2.out; first | omega | exact Nat.le_refl _⟩, ⟨by (with_reducible repeat (first | refine blk_drewN ?_ _ | refine blk_drew ?_ | refine blk_alloc ?_ _)); refine blk_put (cs := #[.int .i64 ((rd_T62 l1 x17_2).f0), .int .i64 ((rd_T62 l1 x17_2).f1), .slice none 0 0]) ?_ 2 _ rfl; (with_reducible repeat (first | refine blk_drewN ?_ _ | refine blk_drew ?_ | refine blk_alloc ?_ _)); refine blk_put (cs := #[.int .i64 ((rd_T62 l1 x17_2).f0), .int .i64 0, .slice none 0 0]) ?_ 1 _ rfl; (with_reducible repeat (first | refine blk_drewN ?_ _ | refine blk_drew ?_ | refine blk_alloc ?_ _)); refine blk_put (cs := #[.int .i64 0, .int .i64 0, .slice none 0 0]) ?_ 0 _ rfl; (with_reducible repeat (first | refine blk_drewN ?_ _ | refine blk_drew ?_ | refine blk_alloc ?_ _)); exact BK364.out⟩, ⟨by repeat (first | (with_reducible first | exact HB.out | apply below_alloc | apply pw_below_drewN | apply below_drew1 | refine below_set ?_ GE364.out) | exact HB.out)⟩⟩
          ·replace c14 := Bool.eq_false_iff.mpr c14
           subst c14
           have H1 : (impl_goodHunks.j2 k2 a0 l1 x17_2 l1 (l1.length : Int) x17_2 true ((rd_T62 l1 x17_2).f0) ((rd_T62 l1 x17_2).f1) ((rd_T62 l1 x17_2).f2)) = some r := by rw [if_neg (show ¬ (false = true) by decide)] at H; exact H
           clear H
           have H := H1
           clear H1
           have H' := Aside0.mk H
           clear H
           have hcz24_0 : w11.cell? ⟨gb364, 0, none⟩ = some (.int .i64 0) := (blk_cell BK364.out 0).trans rfl
           have hcz24_1 : w11.cell? ⟨gb364, 1, none⟩ = some (.int .i64 0) := (blk_cell BK364.out 1).trans rfl
           have hcz24_2 : w11.cell? ⟨gb364, 2, none⟩ = some (.slice none 0 0) := (blk_cell BK364.out 2).trans rfl
           have hfz24_0 := blk_frozen BK364.out 0
           have hfz24_1 := blk_frozen BK364.out 1
           have hfz24_2 := blk_frozen BK364.out 2
           go_wp2_with (first | (go_at_call 71; (with_reducible refine (impl_in.calls ((rd_T62 l1 x17_2).f0) 0 a0 false _ A13.out).mono ?_); rintro e w' ⟨rfl, ⟨nd, rfl⟩⟩; (try exact zd)))
           repeat (go_quiet (first | (go_at_call 71; (with_reducible refine (impl_in.calls ((rd_T62 l1 x17_2).f0) 0 a0 false _ A13.out).mono ?_); rintro e w' ⟨rfl, ⟨nd, rfl⟩⟩; (try exact zd))); try go_wp2_with (first | (go_at_call 71; (with_reducible refine (impl_in.calls ((rd_T62 l1 x17_2).f0) 0 a0 false _ A13.out).mono ?_); rintro e w' ⟨rfl, ⟨nd, rfl⟩⟩; (try exact zd))))
           go_meet
           case rel => exact ⟨_, (true), zf, H', ⟨by have := HJ2.out; have := HK2.out; first | omega | exact Nat.le_refl _⟩, ⟨by (with_reducible repeat (first | refine blk_drewN ?_ _ | refine blk_drew ?_ | refine blk_alloc ?_ _)); refine blk_put (cs := #[.int .i64 ((rd_T62 l1 x17_2).f0), .int .i64 ((rd_T62 l1 x17_2).f1), .slice none 0 0]) ?_ 2 _ rfl; (with_reducible repeat (first | refine blk_drewN ?_ _ | refine blk_drew ?_ | refine blk_alloc ?_ _)); refine blk_put (cs := #[.int .i64 ((rd_T62 l1 x17_2).f0), .int .i64 0, .slice none 0 0]) ?_ 1 _ rfl; (with_reducible repeat (first | refine blk_drewN ?_ _ | refine blk_drew ?_ | refine blk_alloc ?_ _)); refine blk_put (cs := #[.int .i64 0, .int .i64 0, .slice none 0 0]) ?_ 0 _ rfl; (with_reducible repeat (first | refine blk_drewN ?_ _ | refine blk_drew ?_ | refine blk_alloc ?_ _)); exact BK364.out⟩, ⟨by repeat (first | (with_reducible first | exact HB.out | apply below_alloc | apply pw_below_drewN | apply below_drew1 | refine below_set ?_ GE364.out) | exact HB.out)⟩⟩
         case rest =>
          clear HC10
          try clear c1
          try clear p2
          try clear c3
          try clear p3
          try clear q3
          try clear hx3
          try clear c5
          try clear c6
          try clear p6
          try clear c7
          try clear c7b0
          try clear c8
          try clear c8b0
          try clear c9
          try clear c9b0
          try clear c14
          try clear c16
          try clear c18
          try clear c19
          try clear c19b0
          try clear c19b1
          try clear hcz12_0
          try clear hcz12_1
          try clear hcz12_2
          try clear hcz20_0
          try clear hcz20_1
          try clear hcz20_2
          try clear hcz21_0
          try clear hcz21_1
          try clear hcz21_2
          try clear hcz22_0
          try clear hcz22_1
          try clear hcz22_2
          try clear hcz23_0
          try clear hcz23_1
          try clear hcz23_2
          try clear hcz24_0
          try clear hcz24_1
          try clear hcz24_2
          try clear hfz12_0
          try clear hfz12_1
          try clear hfz12_2
          try clear hfz20_0
          try clear hfz20_1
          try clear hfz20_2
          try clear hfz21_0
          try clear hfz21_1
          try clear hfz21_2
          try clear hfz22_0
          try clear hfz22_1
          try clear hfz22_2
          try clear hfz23_0
          try clear hfz23_1
          try clear hfz23_2
          try clear hfz24_0
          try clear hfz24_1
          try clear hfz24_2
          try clear hx363_0
          try clear hx363_1
          try clear hx363_2
          try clear p2
          try clear p363
          try clear q363
          obtain ⟨kq, x53_9, rfl, HA, HJ9, BK364, HB⟩ := hcut
          cases kq with
          | zero => exact absurd HA.out (by simp [impl_goodHunks.j2])
          | succ kj9 =>
           have H := HA.out
           clear HA
           simp only [impl_goodHunks.j2] at H
           by_cases c25 : x53_9 = true
           ·subst c25
            have H1 : (some false) = some r := by rw [if_pos rfl] at H; exact H
            clear H
            have H := H1
            clear H1
            obtain rfl := Option.some.inj H
            go_wp2
            repeat (go_quiet (fail); try go_wp2)
            go_ret
            exact ⟨by first | rfl | (simp [errW_none, errW_some] <;> rfl) | (simp [*, errW_none, errW_some] <;> rfl), by repeat (first | (with_reducible first | exact HB.out | apply below_alloc | apply pw_below_drewN | apply below_drew1 | refine below_set ?_ GE364.out) | exact HB.out)⟩
           ·replace c25 := Bool.eq_false_iff.mpr c25
            subst c25
            have H1 : (if x17_2 > 0 then (if 0 ≤ (wrap64 (x17_2 - 1)) then (if (wrap64 (x17_2 - 1)) < (l1.length : Int) then (if ((rd_T62 l1 x17_2).f0) ≤ (wrap64 (((rd_T62 l1 (wrap64 (x17_2 - 1))).f0) + ((rd_T62 l1 (wrap64 (x17_2 - 1))).f1))) then (some false) else (impl_goodHunks.l0 kj9 a0 l1 l1 (l1.length : Int) (wrap64 (x17_2 + 1)))) else (none)) else (none)) else (impl_goodHunks.l0 kj9 a0 l1 l1 (l1.length : Int) (wrap64 (x17_2 + 1)))) = some r := by rw [if_neg (show ¬ (false = true) by decide)] at H; exact H
            clear H
            have H := H1
            clear H1
            by_cases c26 : x17_2 > 0
            ·rw [if_pos c26] at H
             have c26b0 : decide (0 < x17_2) = true := decide_eq_true c26
             clear c26
             obtain ⟨ji27, hji27⟩ : ∃ j_ : Int, (wrap64 (x17_2 - 1)) = j_ := ⟨_, rfl⟩
             replace H : (if 0 ≤ (ji27) then (if (ji27) < (l1.length : Int) then (if ((rd_T62 l1 x17_2).f0) ≤ (wrap64 (((rd_T62 l1 (ji27)).f0) + ((rd_T62 l1 (ji27)).f1))) then (some false) else (impl_goodHunks.l0 kj9 a0 l1 l1 (l1.length : Int) (wrap64 (x17_2 + 1)))) else (none)) else (none)) = some r := by first | (rw [hji27] at H; exact H) | (simp only [hji27] at H ⊢; exact H)
             have hji27w : (IntKind.i64.wrap (x17_2 - 1)) = ji27 := (i64_w _).trans hji27
             by_cases c28 : 0 ≤ (ji27)
             ·rw [if_pos c28] at H
              have c28b0 : decide (0 ≤ (ji27)) = true := decide_eq_true c28
              clear c28
              by_cases c29 : (ji27) < (l1.length : Int)
              ·rw [if_pos c29] at H
               have c29b0 : decide ((ji27) < (l1.length : Int)) = true := decide_eq_true c29
               clear c29
               by_cases c30 : ((rd_T62 l1 x17_2).f0) ≤ (wrap64 (((rd_T62 l1 (ji27)).f0) + ((rd_T62 l1 (ji27)).f1)))
               ·rw [if_pos c30] at H
                have c30b0 : decide (((rd_T62 l1 x17_2).f0) ≤ (wrap64 (((rd_T62 l1 (ji27)).f0) + ((rd_T62 l1 (ji27)).f1)))) = true := decide_eq_true c30
                clear c30
                obtain rfl := Option.some.inj H
                have hcz31_0 : wc.cell? ⟨gb364, 0, none⟩ = some (.int .i64 ((rd_T62 l1 x17_2).f0)) := (blk_cell BK364.out 0).trans rfl
                have hcz31_1 : wc.cell? ⟨gb364, 1, none⟩ = some (.int .i64 ((rd_T62 l1 x17_2).f1)) := (blk_cell BK364.out 1).trans rfl
                have hcz31_2 : wc.cell? ⟨gb364, 2, none⟩ = some (.slice A363_2 ((rd_T62 l1 x17_2).f2).length c363_2) := (blk_cell BK364.out 2).trans rfl
                have hfz31_0 := blk_frozen BK364.out 0
                have hfz31_1 := blk_frozen BK364.out 1
                have hfz31_2 := blk_frozen BK364.out 2
                have p368 : 0 ≤ ((ji27) : Int) := oa
                have q368 : (ji27) < (l1.length : Int) := oa
                obtain ⟨ad368, A368_2, c368_2, e368, hx368_0, hx368_1, hx368_2, hl368_2, hi368_2⟩ := at_T62 HR1.out (ji27) p368 q368
                obtain rfl : ad363 = ad368 := (by injection e368)
                replace hx368_0 := (HB.out.cell (World.block_lt_of_cell? w _ hx368_0)).trans hx368_0
                replace hx368_1 := (HB.out.cell (World.block_lt_of_cell? w _ hx368_1)).trans hx368_1
                replace hx368_2 := (HB.out.cell (World.block_lt_of_cell? w _ hx368_2)).trans hx368_2
                have HR368_2 := Aside0.mk hi368_2
                have HC368_2 := Aside0.mk hl368_2
                clear hi368_2 hl368_2
                replace p368 := eq_true p368
                replace q368 := eq_true q368
                have p369 : 0 ≤ ((ji27) : Int) := oa
                have q369 : (ji27) < (l1.length : Int) := oa
                obtain ⟨ad369, A369_2, c369_2, e369, hx369_0, hx369_1, hx369_2, hl369_2, hi369_2⟩ := at_T62 HR1.out (ji27) p369 q369
                obtain rfl : ad363 = ad369 := (by injection e369)
                replace hx369_0 := (HB.out.cell (World.block_lt_of_cell? w _ hx369_0)).trans hx369_0
                replace hx369_1 := (HB.out.cell (World.block_lt_of_cell? w _ hx369_1)).trans hx369_1
                replace hx369_2 := (HB.out.cell (World.block_lt_of_cell? w _ hx369_2)).trans hx369_2
                have HR369_2 := Aside0.mk hi369_2
                have HC369_2 := Aside0.mk hl369_2
                clear hi369_2 hl369_2
                replace p369 := eq_true p369
                replace q369 := eq_true q369
                have ea_ := Option.some.inj (hx368_2.symm.trans hx369_2)
                injection ea_ with ea_ en_ ec_
                subst ea_
                subst ec_
                clear en_
                go_wp2
                repeat (go_quiet (fail); try go_wp2)
                go_ret
                exact ⟨by first | rfl | (simp [errW_none, errW_some] <;> rfl) | (simp only [← hji27]; first | rfl | (simp [errW_none, errW_some] <;> rfl)) | (simp [*, errW_none, errW_some] <;> rfl), by repeat (first | (with_reducible first | exact HB.out | apply below_alloc | apply pw_below_drewN | apply below_drew1 | refine below_set ?_ GE364.out) | exact HB.out)⟩
               ·rw [if_neg c30] at H
                have c30b0 : decide (((rd_T62 l1 x17_2).f0) ≤ (wrap64 (((rd_T62 l1 (ji27)).f0) + ((rd_T62 l1 (ji27)).f1)))) = false := decide_eq_false c30
                clear c30
                have H' := Aside0.mk H
                clear H
                have hcz32_0 : wc.cell? ⟨gb364, 0, none⟩ = some (.int .i64 ((rd_T62 l1 x17_2).f0)) := (blk_cell BK364.out 0).trans rfl
                have hcz32_1 : wc.cell? ⟨gb364, 1, none⟩ = some (.int .i64 ((rd_T62 l1 x17_2).f1)) := (blk_cell BK364.out 1).trans rfl
                have hcz32_2 : wc.cell? ⟨gb364, 2, none⟩ = some (.slice A363_2 ((rd_T62 l1 x17_2).f2).length c363_2) := (blk_cell BK364.out 2).trans rfl
                have hfz32_0 := blk_frozen BK364.out 0
                have hfz32_1 := blk_frozen BK364.out 1
                have hfz32_2 := blk_frozen BK364.out 2
                have p368 : 0 ≤ ((ji27) : Int) := oa
                have q368 : (ji27) < (l1.length : Int) := oa
                obtain ⟨ad368, A368_2, c368_2, e368, hx368_0, hx368_1, hx368_2, hl368_2, hi368_2⟩ := at_T62 HR1.out (ji27) p368 q368
                obtain rfl : ad363 = ad368 := (by injection e368)
                replace hx368_0 := (HB.out.cell (World.block_lt_of_cell? w _ hx368_0)).trans hx368_0
                replace hx368_1 := (HB.out.cell (World.block_lt_of_cell? w _ hx368_1)).trans hx368_1
                replace hx368_2 := (HB.out.cell (World.block_lt_of_cell? w _ hx368_2)).trans hx368_2
                have HR368_2 := Aside0.mk hi368_2
                have HC368_2 := Aside0.mk hl368_2
                clear hi368_2 hl368_2
                replace p368 := eq_true p368
                replace q368 := eq_true q368
                have p369 : 0 ≤ ((ji27) : Int) := oa
                have q369 : (ji27) < (l1.length : Int) := oa
                obtain ⟨ad369, A369_2, c369_2, e369, hx369_0, hx369_1, hx369_2, hl369_2, hi369_2⟩ := at_T62 HR1.out (ji27) p369 q369
                obtain rfl : ad363 = ad369 := (by injection e369)
                replace hx369_0 := (HB.out.cell (World.block_lt_of_cell? w _ hx369_0)).trans hx369_0
                replace hx369_1 := (HB.out.cell (World.block_lt_of_cell? w _ hx369_1)).trans hx369_1
                replace hx369_2 := (HB.out.cell (World.block_lt_of_cell? w _ hx369_2)).trans hx369_2
                have HR369_2 := Aside0.mk hi369_2
                have HC369_2 := Aside0.mk hl369_2
                clear hi369_2 hl369_2
                replace p369 := eq_true p369
                replace q369 := eq_true q369
                have ea_ := Option.some.inj (hx368_2.symm.trans hx369_2)
                injection ea_ with ea_ en_ ec_
                subst ea_
                subst ec_
                clear en_
                go_wp2
                repeat (go_quiet (fail); try go_wp2)
                go_roundg kj9
                case measure => have := HJ2.out; have := HK2.out; have := HJ9.out; omega
                case rel => exact ⟨(wrap64 (x17_2 + 1)), zf, H', ⟨by have := HJ2.out; have := HK2.out; have := HJ9.out; omega⟩, ⟨by repeat (first | (with_reducible first | exact HB.out | apply below_alloc | apply pw_below_drewN | apply below_drew1 | refine below_set ?_ GE364.out) | exact HB.out)⟩⟩
              ·rw [if_neg c29] at H
               exact absurd H (by simp)
             ·rw [if_neg c28] at H
              exact absurd H (by simp)
            ·rw [if_neg c26] at H
             have c26b0 : decide (0 < x17_2) = false := decide_eq_false c26
             clear c26
             have H' := Aside0.mk H
             clear H
             go_wp2
             repeat (go_quiet (fail); try go_wp2)
             go_roundg kj9
             case measure => have := HJ2.out; have := HK2.out; have := HJ9.out; omega
             case rel => exact ⟨(wrap64 (x17_2 + 1)), zf, H', ⟨by have := HJ2.out; have := HK2.out; have := HJ9.out; omega⟩, ⟨by repeat (first | (with_reducible first | exact HB.out | apply below_alloc | apply pw_below_drewN | apply below_drew1 | refine below_set ?_ GE364.out) | exact HB.out)⟩⟩
        ·rw [if_neg c9] at H
         exact absurd H (by simp)
       ·rw [if_neg c8] at H
        exact absurd H (by simp)
      ·rw [if_neg c7] at H
       have c7b0 : decide (x17_2 < (l1.length : Int)) = false := decide_eq_false c7
       clear c7
       obtain rfl := Option.some.inj H
       go_wp2
       repeat (go_quiet (fail); try go_wp2)
       go_ret
       exact ⟨by first | rfl | (simp [errW_none, errW_some] <;> rfl) | (simp [*, errW_none, errW_some] <;> rfl), by repeat (first | (with_reducible first | exact HB.out | apply below_alloc | apply pw_below_drewN | apply below_drew1) | exact HB.out)⟩

end Go.Proofs.Ytlhpkapbaijnhaa.My

/- Written by this session's program (wip/gen): a plain function with the same answers as the Go function, and the proof that the Go code comes to them. Asked: that the plain function has an answer. -/
namespace Go.Proofs.Ytlhpkapbaijnhaa.My
open Go.RowKit Go.Proofs.YtlhpkapbaijnhaaW.PrintWords Go.Proofs.YtlhpkapbaijnhaaW.PrintLast Go.Proofs.YtlhpkapbaijnhaaW.PrintMore
attribute [local go_sem] max2_int min2_int max_two min_two max_three min_three max_four min_four
set_option linter.unusedVariables false
set_option linter.unusedSimpArgs false

/-! ### stringslite_HasSuffix: function 80 -/
def stringslite_HasSuffix.f (a0 : ByteArray) (a1 : ByteArray) : Option (Bool) := if (a0.size : Int) ≥ (a1.size : Int) then (if 0 ≤ (wrap64 ((a0.size : Int) - (a1.size : Int))) then (if (wrap64 ((a0.size : Int) - (a1.size : Int))) ≤ (a0.size : Int) then (some ((a0.extract ((wrap64 ((a0.size : Int) - (a1.size : Int))) : Int).toNat a0.size).toList == a1.toList)) else (none)) else (none)) else (some false)
set_option maxHeartbeats 8000000 in
set_option maxRecDepth 100000 in
theorem stringslite_HasSuffix.calls (a0 : ByteArray) (a1 : ByteArray) (r : Bool) (w : World) (h : stringslite_HasSuffix.f a0 a1 = some r) :
  Calls Try.prog 80 #[.string a0, .string a1] w fun e w' => e = .returned (.bool r) ∧ Drawn0 w w' := by
 have H : (if (a0.size : Int) ≥ (a1.size : Int) then (if 0 ≤ (wrap64 ((a0.size : Int) - (a1.size : Int))) then (if (wrap64 ((a0.size : Int) - (a1.size : Int))) ≤ (a0.size : Int) then (some ((a0.extract ((wrap64 ((a0.size : Int) - (a1.size : Int))) : Int).toNat a0.size).toList == a1.toList)) else (none)) else (none)) else (some false)) = some r := h
 clear h
 by_cases c3 : (a0.size : Int) ≥ (a1.size : Int)
 ·rw [if_pos c3] at H
  have c3b0 : decide ((a1.size : Int) ≤ (a0.size : Int)) = true := decide_eq_true c3
  have c3b1 : decide (a1.size ≤ a0.size) = true := decide_eq_true (Int.ofNat_le.mp c3)
  clear c3
  obtain ⟨ji4, hji4⟩ : ∃ j_ : Int, (wrap64 ((a0.size : Int) - (a1.size : Int))) = j_ := ⟨_, rfl⟩
  replace H : (if 0 ≤ (ji4) then (if (ji4) ≤ (a0.size : Int) then (some ((a0.extract ((ji4) : Int).toNat a0.size).toList == a1.toList)) else (none)) else (none)) = some r := by first | (rw [hji4] at H; exact H) | (simp only [hji4] at H ⊢; exact H)
  have hji4w : (IntKind.i64.wrap ((a0.size : Int) - (a1.size : Int))) = ji4 := (i64_w _).trans hji4
  by_cases c5 : 0 ≤ (ji4)
  ·rw [if_pos c5] at H
   have c5b0 := eq_true c5
   have c5b1 : decide (0 ≤ (ji4)) = true := decide_eq_true c5
   clear c5
   by_cases c6 : (ji4) ≤ (a0.size : Int)
   ·rw [if_pos c6] at H
    have c6b0 := eq_true c6
    have c6b1 : decide ((ji4) ≤ (a0.size : Int)) = true := decide_eq_true c6
    clear c6
    obtain rfl := Option.some.inj H
    go_enter Try.func80, Try.ntmps80
    go_wp2
    go_ret
    exact ⟨by first | rfl | (simp; done) | (simp only [← hji4] <;> (first | rfl | simp)) | (simp [*]; done), by repeat (first | exact Drawn0.refl _ | apply Drawn0.step)⟩
   ·rw [if_neg c6] at H
    exact absurd H (by simp)
  ·rw [if_neg c5] at H
   exact absurd H (by simp)
 ·rw [if_neg c3] at H
  have c3b0 : decide ((a1.size : Int) ≤ (a0.size : Int)) = false := decide_eq_false c3
  have c3b1 : decide (a1.size ≤ a0.size) = false := decide_eq_false (fun h => c3 (Int.ofNat_le.mpr h))
  clear c3
  obtain rfl := Option.some.inj H
  go_enter Try.func80, Try.ntmps80
  go_wp2
  go_ret
  exact ⟨by first | rfl | (simp; done) | (simp [*]; done), by repeat (first | exact Drawn0.refl _ | apply Drawn0.step)⟩

end Go.Proofs.Ytlhpkapbaijnhaa.My

/- Written by this session's program (wip/gen): a plain function with the same answers as the Go function, and the proof that the Go code comes to them. Asked: that the plain function has an answer. -/
namespace Go.Proofs.Ytlhpkapbaijnhaa.My
open Go.RowKit Go.Proofs.YtlhpkapbaijnhaaW.PrintWords Go.Proofs.YtlhpkapbaijnhaaW.PrintLast Go.Proofs.YtlhpkapbaijnhaaW.PrintMore
attribute [local go_sem] max2_int min2_int max_two min_two max_three min_three max_four min_four
set_option linter.unusedVariables false
set_option linter.unusedSimpArgs false

/-! ### strings_HasSuffix: function 69 -/
def strings_HasSuffix.f (a0 : ByteArray) (a1 : ByteArray) : Option (Bool) := (stringslite_HasSuffix.f a0 a1).bind fun t177 => (some t177)
set_option maxHeartbeats 8000000 in
set_option maxRecDepth 100000 in
theorem strings_HasSuffix.calls (a0 : ByteArray) (a1 : ByteArray) (r : Bool) (w : World) (h : strings_HasSuffix.f a0 a1 = some r) :
  Calls Try.prog 69 #[.string a0, .string a1] w fun e w' => e = .returned (.bool r) ∧ Drawn0 w w' := by
 have H : ((stringslite_HasSuffix.f a0 a1).bind fun t177 => (some t177)) = some r := h
 clear h
 replace H := Option.bind_eq_some_iff.mp H
 obtain ⟨t177, A30, H⟩ := H
 replace H : (some t177) = some r := H
 have A3 := Aside0.mk A30
 clear A30
 obtain rfl := Option.some.inj H
 go_enter Try.func69, Try.ntmps69
 go_wp2_with (first | ((with_reducible refine gateC (f := 80) rfl ?_); refine goesL_ (some 7) rfl rfl Try.func80 (by kernel_rfl) rfl #[.string a0, .string a1] rfl zm ?_; (with_reducible refine (stringslite_HasSuffix.calls a0 a1 t177 _ A3.out).mono ?_); rintro e w' ⟨rfl, ⟨nd, rfl⟩⟩; refine ⟨_, rfl, ?_⟩))
 go_ret
 exact ⟨by first | rfl | (simp; done) | (simp [*]; done), by repeat (first | exact Drawn0.refl _ | apply Drawn0.step)⟩

end Go.Proofs.Ytlhpkapbaijnhaa.My

/- Written by this session's program (wip/gen): a plain function with the same answers as the Go function, and the proof that the Go code comes to them. Asked: that the plain function has an answer. -/
namespace Go.Proofs.Ytlhpkapbaijnhaa.My
open Go.RowKit Go.Proofs.YtlhpkapbaijnhaaW.PrintWords Go.Proofs.YtlhpkapbaijnhaaW.PrintLast Go.Proofs.YtlhpkapbaijnhaaW.PrintMore
attribute [local go_sem] max2_int min2_int max_two min_two max_three min_three max_four min_four
set_option linter.unusedVariables false
set_option linter.unusedSimpArgs false

/-! ### impl_isEnded: function 55 -/
def impl_isEnded.f (a0 : ByteArray) : Option (Bool) := (strings_HasSuffix.f a0 (⟨#[10]⟩ : ByteArray)).bind fun t178 => (some t178)
set_option maxHeartbeats 8000000 in
set_option maxRecDepth 100000 in
theorem impl_isEnded.calls (a0 : ByteArray) (r : Bool) (w : World) (h : impl_isEnded.f a0 = some r) :
  Calls Try.prog 55 #[.string a0] w fun e w' => e = .returned (.bool r) ∧ Drawn0 w w' := by
 have H : ((strings_HasSuffix.f a0 (⟨#[10]⟩ : ByteArray)).bind fun t178 => (some t178)) = some r := h
 clear h
 replace H := Option.bind_eq_some_iff.mp H
 obtain ⟨t178, A20, H⟩ := H
 replace H : (some t178) = some r := H
 have A2 := Aside0.mk A20
 clear A20
 obtain rfl := Option.some.inj H
 go_enter Try.func55, Try.ntmps55
 go_wp2_with (first | ((with_reducible refine gateC (f := 69) rfl ?_); refine goesL_ (some 4) rfl rfl Try.func69 (by kernel_rfl) rfl #[.string a0, .string (⟨#[10]⟩ : ByteArray)] rfl zm ?_; (with_reducible refine (strings_HasSuffix.calls a0 (⟨#[10]⟩ : ByteArray) t178 _ A2.out).mono ?_); rintro e w' ⟨rfl, ⟨nd, rfl⟩⟩; refine ⟨_, rfl, ?_⟩))
 go_ret
 exact ⟨by first | rfl | (simp; done) | (simp [*]; done), by repeat (first | exact Drawn0.refl _ | apply Drawn0.step)⟩

end Go.Proofs.Ytlhpkapbaijnhaa.My

/- Written by this session's program (wip/gen): a plain function with the same answers as the Go function, and the proof that the Go code comes to them. Asked: that the plain function has an answer. -/
namespace Go.Proofs.Ytlhpkapbaijnhaa.My
open Go.RowKit Go.Proofs.YtlhpkapbaijnhaaW.PrintWords Go.Proofs.YtlhpkapbaijnhaaW.PrintLast Go.Proofs.YtlhpkapbaijnhaaW.PrintMore
attribute [local go_sem] max2_int min2_int max_two min_two max_three min_three max_four min_four
set_option linter.unusedVariables false
set_option linter.unusedSimpArgs false

/-! ### impl_goodLines: function 33 -/
def impl_goodLines.l0 : Nat → List ByteArray → List ByteArray → Int → Int → Option (Bool)
 | 0, _, _, _, _ => none
 | k + 1, x0, x8, x9, x10 => if x10 < x9 then (if 0 ≤ x10 then (if x10 < (x8.length : Int) then (if x10 < (wrap64 ((x0.length : Int) - 1)) then ((impl_isEnded.f (rdOf ByteArray.empty x8 x10)).bind fun t181 => (if t181 = true then (impl_goodLines.l0 k x0 x8 x9 (wrap64 (x10 + 1))) else (some false))) else (impl_goodLines.l0 k x0 x8 x9 (wrap64 (x10 + 1)))) else (none)) else (none)) else (some true)
def impl_goodLines.f (k : Nat) (l0 : List ByteArray) : Option (Bool) := (impl_areLines.f k l0).bind fun t179 => (if t179 = true then (impl_goodLines.l0 k l0 l0 (l0.length : Int) 0) else (some false))
set_option maxHeartbeats 8000000 in
set_option maxRecDepth 100000 in
theorem impl_goodLines.calls (k : Nat) (A0 : Option Addr) (c0 : Nat) (l0 : List ByteArray) (r : Bool) (w : World) (hr0 : Kd.C Kd.string w A0 l0.length l0) (hc0 : l0.length ≤ c0) (h : impl_goodLines.f k l0 = some r) :
  Calls Try.prog 33 #[.slice A0 l0.length c0] w fun e w' => e = .returned (.bool r) ∧ Drawn0 w w' := by
 have HR0 := Aside0.mk hr0
 have HC0 := Aside0.mk hc0
 clear hr0 hc0
 have H : ((impl_areLines.f k l0).bind fun t179 => (if t179 = true then (impl_goodLines.l0 k l0 l0 (l0.length : Int) 0) else (some false))) = some r := h
 clear h
 replace H := Option.bind_eq_some_iff.mp H
 obtain ⟨t179, A20, H⟩ := H
 replace H : (if t179 = true then (impl_goodLines.l0 k l0 l0 (l0.length : Int) 0) else (some false)) = some r := H
 have A2 := Aside0.mk A20
 clear A20
 by_cases c3 : t179 = true
 ·subst c3
  have H1 : (impl_goodLines.l0 k l0 l0 (l0.length : Int) 0) = some r := by rw [if_pos rfl] at H; exact H
  clear H
  have H := H1
  clear H1
  have H' := Aside0.mk H
  clear H
  go_enter Try.func33, Try.ntmps33
  go_wp2_with (first | ((with_reducible refine gateC (f := 54) rfl ?_); refine goesL_ (some 6) rfl rfl Try.func54 (by kernel_rfl) rfl #[.slice A0 l0.length c0] rfl zm ?_; (with_reducible refine (impl_areLines.calls k _ _ l0 true _ ?side1 ?side2 A2.out).mono ?_); (case side1 => exact zq HR0.out); (case side2 => exact HC0.out); rintro e w' ⟨rfl, ⟨nd, rfl⟩⟩; refine ⟨_, rfl, ?_⟩))
  go_loopg [10] k (fun kq v10 w' => ∃ (x10_1 : Int), v10 = .int .i64 x10_1 ∧ Aside0 (impl_goodLines.l0 kq l0 l0 (l0.length : Int) x10_1 = some r) ∧ Aside0 (kq ≤ k) ∧ Drawn0 w w')
  case atStart => exact ⟨(0), zf, H', ⟨Nat.le_refl _⟩, by repeat (first | exact Drawn0.refl _ | apply Drawn0.step)⟩
  case round =>
   clear H'
   try clear p2
   try clear c3
   obtain ⟨x10_1, rfl, HA, HK1, ⟨m1, rfl⟩⟩ := hrel
   cases gk with
   | zero => exact absurd HA.out (by simp [impl_goodLines.l0])
   | succ k1 =>
    have H := HA.out
    clear HA
    simp only [impl_goodLines.l0] at H
    by_cases c4 : x10_1 < (l0.length : Int)
    ·rw [if_pos c4] at H
     have c4b0 : decide (x10_1 < (l0.length : Int)) = true := decide_eq_true c4
     clear c4
     by_cases c5 : 0 ≤ x10_1
     ·rw [if_pos c5] at H
      have c5b0 : decide (0 ≤ x10_1) = true := decide_eq_true c5
      clear c5
      by_cases c6 : x10_1 < (l0.length : Int)
      ·rw [if_pos c6] at H
       have c6b0 : decide (x10_1 < (l0.length : Int)) = true := decide_eq_true c6
       clear c6
       by_cases c7 : x10_1 < (wrap64 ((l0.length : Int) - 1))
       ·rw [if_pos c7] at H
        have c7b0 : decide (x10_1 < (wrap64 ((l0.length : Int) - 1))) = true := decide_eq_true c7
        clear c7
        replace H := Option.bind_eq_some_iff.mp H
        obtain ⟨t181, A80, H⟩ := H
        replace H : (if t181 = true then (impl_goodLines.l0 k1 l0 l0 (l0.length : Int) (wrap64 (x10_1 + 1))) else (some false)) = some r := H
        have A8 := Aside0.mk A80
        clear A80
        by_cases c9 : t181 = true
        ·subst c9
         have H1 : (impl_goodLines.l0 k1 l0 l0 (l0.length : Int) (wrap64 (x10_1 + 1))) = some r := by rw [if_pos rfl] at H; exact H
         clear H
         have H := H1
         clear H1
         have H' := Aside0.mk H
         clear H
         have p180 : 0 ≤ (x10_1 : Int) := oa
         have q180 : x10_1 < (l0.length : Int) := oa
         obtain ⟨ad180, e180, hx180_0⟩ := Kd.at_string HR0.out x10_1 p180 q180
         cases e180
         replace p180 := eq_true p180
         replace q180 := eq_true q180
         go_wp2_with (first | (go_at_call 55; (with_reducible refine (impl_isEnded.calls (rdOf ByteArray.empty l0 x10_1) true _ A8.out).mono ?_); rintro e w' ⟨rfl, ⟨nd, rfl⟩⟩))
         go_roundg k1
         case measure => have := HK1.out; omega
         case rel => exact ⟨(wrap64 (x10_1 + 1)), zf, H', ⟨by have := HK1.out; omega⟩, by repeat (first | exact Drawn0.refl _ | apply Drawn0.step)⟩
        ·replace c9 := Bool.eq_false_iff.mpr c9
         subst c9
         have H1 : (some false) = some r := by rw [if_neg (show ¬ (false = true) by decide)] at H; exact H
         clear H
         have H := H1
         clear H1
         obtain rfl := Option.some.inj H
         have p180 : 0 ≤ (x10_1 : Int) := oa
         have q180 : x10_1 < (l0.length : Int) := oa
         obtain ⟨ad180, e180, hx180_0⟩ := Kd.at_string HR0.out x10_1 p180 q180
         cases e180
         replace p180 := eq_true p180
         replace q180 := eq_true q180
         go_wp2_with (first | (go_at_call 55; (with_reducible refine (impl_isEnded.calls (rdOf ByteArray.empty l0 x10_1) false _ A8.out).mono ?_); rintro e w' ⟨rfl, ⟨nd, rfl⟩⟩))
         go_ret
         exact ⟨by first | rfl | (simp; done) | (simp [*]; done), by repeat (first | exact Drawn0.refl _ | apply Drawn0.step)⟩
       ·rw [if_neg c7] at H
        have c7b0 : decide (x10_1 < (wrap64 ((l0.length : Int) - 1))) = false := decide_eq_false c7
        clear c7
        have H' := Aside0.mk H
        clear H
        have p180 : 0 ≤ (x10_1 : Int) := oa
        have q180 : x10_1 < (l0.length : Int) := oa
        obtain ⟨ad180, e180, hx180_0⟩ := Kd.at_string HR0.out x10_1 p180 q180
        cases e180
        replace p180 := eq_true p180
        replace q180 := eq_true q180
        go_wp2
        go_roundg k1
        case measure => have := HK1.out; omega
        case rel => exact ⟨(wrap64 (x10_1 + 1)), zf, H', ⟨by have := HK1.out; omega⟩, by repeat (first | exact Drawn0.refl _ | apply Drawn0.step)⟩
      ·rw [if_neg c6] at H
       exact absurd H (by simp)
     ·rw [if_neg c5] at H
      exact absurd H (by simp)
    ·rw [if_neg c4] at H
     have c4b0 : decide (x10_1 < (l0.length : Int)) = false := decide_eq_false c4
     clear c4
     obtain rfl := Option.some.inj H
     go_wp2
     go_ret
     exact ⟨by first | rfl | (simp; done) | (simp [*]; done), by repeat (first | exact Drawn0.refl _ | apply Drawn0.step)⟩
 ·replace c3 := Bool.eq_false_iff.mpr c3
  subst c3
  have H1 : (some false) = some r := by rw [if_neg (show ¬ (false = true) by decide)] at H; exact H
  clear H
  have H := H1
  clear H1
  obtain rfl := Option.some.inj H
  go_enter Try.func33, Try.ntmps33
  go_wp2_with (first | ((with_reducible refine gateC (f := 54) rfl ?_); refine goesL_ (some 6) rfl rfl Try.func54 (by kernel_rfl) rfl #[.slice A0 l0.length c0] rfl zm ?_; (with_reducible refine (impl_areLines.calls k _ _ l0 false _ ?side1 ?side2 A2.out).mono ?_); (case side1 => exact zq HR0.out); (case side2 => exact HC0.out); rintro e w' ⟨rfl, ⟨nd, rfl⟩⟩; refine ⟨_, rfl, ?_⟩))
  go_ret
  exact ⟨by first | rfl | (simp; done) | (simp [*]; done), by repeat (first | exact Drawn0.refl _ | apply Drawn0.step)⟩

end Go.Proofs.Ytlhpkapbaijnhaa.My

/- Written by this session's program (wip/gen): a plain function with the same answers as the Go function, and the proof that the Go code comes to them. Asked: that the plain function has an answer. -/
namespace Go.Proofs.Ytlhpkapbaijnhaa.My
open Go.RowKit Go.Proofs.YtlhpkapbaijnhaaW.PrintWords Go.Proofs.YtlhpkapbaijnhaaW.PrintLast Go.Proofs.YtlhpkapbaijnhaaW.PrintMore
attribute [local go_sem] max2_int min2_int max_two min_two max_three min_three max_four min_four
set_option linter.unusedVariables false
set_option linter.unusedSimpArgs false

/-! ### impl_patched: function 60 -/
def impl_patched.l0 : Nat → List ByteArray → List ByteArray → Int → List (S62) → Int → Int → Option (List ByteArray)
 | 0, _, _, _, _, _, _ => none
 | k + 1, x0, x5, x6, x10, x11, x12 => if x12 < x11 then (if 0 ≤ x12 then (if x12 < (x10.length : Int) then (if 0 ≤ x6 then (if x6 ≤ ((rd_T62 x10 x12).f0) then (if ((rd_T62 x10 x12).f0) ≤ (x0.length : Int) then (if x5.length + ((x0.take (((rd_T62 x10 x12).f0) : Int).toNat).drop (x6 : Int).toNat).length < 8796093022208 then ((some (x5 ++ ((x0.take (((rd_T62 x10 x12).f0) : Int).toNat).drop (x6 : Int).toNat) : List ByteArray)).bind fun y376 => (if y376.length + ((rd_T62 x10 x12).f2).length < 8796093022208 then (impl_patched.l0 k x0 (y376 ++ ((rd_T62 x10 x12).f2)) (wrap64 (((rd_T62 x10 x12).f0) + ((rd_T62 x10 x12).f1))) x10 x11 (wrap64 (x12 + 1))) else (none))) else (none)) else (none)) else (none)) else (none)) else (none)) else (none)) else (if 0 ≤ x6 then (if x6 ≤ (x0.length : Int) then (if x5.length + (x0.drop (x6 : Int).toNat).length < 8796093022208 then (some (x5 ++ (x0.drop (x6 : Int).toNat))) else (none)) else (none)) else (none))
def impl_patched.f (k : Nat) (l0 : List ByteArray) (l1 : List (S62)) : Option (List ByteArray) := impl_patched.l0 k l0 (([] : List ByteArray)) 0 l1 (l1.length : Int) 0
def impl_patched.T5 : Bool × List (List Nat × List Nat) := (true, [([], []), ([], []), ([], []), ([], []), ([3], [3]), ([1, 2, 4], [1, 2, 4]), ([0, 5], [0, 5]), ([], []), ([7], [7]), ([6, 8, 6], [6, 8]), ([9, 9, 0, 1, 2, 3, 4, 5, 6, 7, 8, 9], [0, 9])])
def impl_patched.B5 : List Nat := [0, 0, 0, 0, 8, 30, 63, 0, 128, 511, 1023]
theorem impl_patched.tab5 : rtab .any (opsOf Try.f60 5) = impl_patched.T5 := by kernel_rfl
theorem impl_patched.bits5 : waitsOk impl_patched.T5.2 impl_patched.B5 = true := by kernel_rfl
set_option maxHeartbeats 8000000 in
set_option maxRecDepth 100000 in
theorem impl_patched.calls (k : Nat) (A0 : Option Addr) (c0 : Nat) (l0 : List ByteArray) (A1 : Option Addr) (c1 : Nat) (l1 : List (S62)) (r : List ByteArray) (w : World) (hr0 : Kd.C Kd.string w A0 l0.length l0) (hc0 : l0.length ≤ c0) (hr1 : Kd.C k62 w A1 l1.length l1) (hc1 : l1.length ≤ c1) (h : impl_patched.f k l0 l1 = some r) :
  Calls Try.prog 60 #[.slice A0 l0.length c0, .slice A1 l1.length c1] w fun e w' => ∃ v0_ : Value, e = .returned (v0_) ∧ Kd.R Kd.string 9 w' w.heap.size (fun _ => True) v0_ r ∧ Below w.heap.size w w' := by
 have hu62 := Try.underlying62
 have HR0 := Aside0.mk hr0
 have HC0 := Aside0.mk hc0
 clear hr0 hc0
 have HR1 := Aside0.mk hr1
 have HC1 := Aside0.mk hc1
 clear hr1 hc1
 have HB := Aside0.mk (Below.refl w.heap.size w)
 have H : (impl_patched.l0 k l0 (([] : List ByteArray)) 0 l1 (l1.length : Int) 0) = some r := h
 clear h
 obtain ⟨y370, hy370⟩ : ∃ y_ : List ByteArray, y_ = (([] : List ByteArray)) := ⟨_, rfl⟩
 replace H : (impl_patched.l0 k l0 y370 0 l1 (l1.length : Int) 0) = some r := by first | (rw [hy370]; with_reducible exact H) | (have H2_ := (Option.bind_some _ _).symm.trans H; rw [hy370]; with_reducible exact H2_) | (have H2_ := (Option.bind_some _ _).symm.trans H; with_reducible exact H2_) | with_reducible exact H | (rw [hy370]; exact H) | exact H
 have Ny370 := Aside0.mk hy370
 clear hy370
 have H' := Aside0.mk H
 clear H
 go_enter Try.func60, Try.ntmps60
 go_wp2_with (first | ((with_reducible refine gate_dst (N := 9) rfl ?_); refine Kd.R_lit Kd.string _ 9 ?hg (N := 9) ?hd (xs := ([] : List ByteArray)) (inner := []) (ok := fun _ => True) (okp := fun _ => True) ?hr ?hp (fun _ hk => hk) trivial (Below.refl _ _) (Nat.le_refl _) (by simp) ?_; (case hd => rfl); (case hg => rfl); (case hr => first | (go_simp; done) | (go_simp; rfl)); (case hp => exact (Reps.none _ _)); intro v371 w3 ho4 hb hg_ hnew_; clear hg_ hnew_; (first | rw [← Ny370.out] at ho4 | (simp only [Int.reduceToNat] at ho4; rw [← Ny370.out] at ho4)); have n0_ := Aside0.mk (Kd.R_lower ho4 (below_size zb)); have n1_ := Aside0.mk (below_step zb hb); clear HB; have HO372 := n0_; have HB := n1_; clear n0_ n1_; clear hb ho4))
 go_loopg [5, 6, 12] k (fun kq v5 v6 v12 w' => ∃ (x5_1 : List ByteArray) (x6_1 : Int) (x12_1 : Int), v6 = .int .i64 x6_1 ∧ v12 = .int .i64 x12_1 ∧ Aside0 (impl_patched.l0 kq l0 x5_1 x6_1 l1 (l1.length : Int) x12_1 = some r) ∧ Aside0 (kq ≤ k) ∧ Aside0 (Kd.R Kd.string 9 w' w.heap.size (fun _ => True) v5 x5_1) ∧ Aside0 (Below w.heap.size w w'))
 case atStart => exact ⟨(y370), (0), (0), zf, zf, H', ⟨Nat.le_refl _⟩, ⟨by (with_reducible repeat (first | apply Kd.R_alloc | apply Kd.R_drewN | apply Kd.R_drew)); exact HO372.out⟩, ⟨by repeat (first | (with_reducible first | exact HB.out | apply below_alloc | apply pw_below_drewN | apply below_drew1) | exact HB.out)⟩⟩
 case round =>
  clear H'
  try clear c1
  try clear p2
  obtain ⟨x5_1, x6_1, x12_1, rfl, rfl, HA, HK1, HO_5, HB⟩ := hrel
  cases gk with
  | zero => exact absurd HA.out (by simp [impl_patched.l0])
  | succ k1 =>
   have H := HA.out
   clear HA
   simp only [impl_patched.l0] at H
   by_cases c5 : x12_1 < (l1.length : Int)
   ·rw [if_pos c5] at H
    have c5b0 : decide (x12_1 < (l1.length : Int)) = true := decide_eq_true c5
    clear c5
    by_cases c6 : 0 ≤ x12_1
    ·rw [if_pos c6] at H
     have c6b0 : decide (0 ≤ x12_1) = true := decide_eq_true c6
     clear c6
     by_cases c7 : x12_1 < (l1.length : Int)
     ·rw [if_pos c7] at H
      have c7b0 : decide (x12_1 < (l1.length : Int)) = true := decide_eq_true c7
      clear c7
      by_cases c8 : 0 ≤ x6_1
      ·rw [if_pos c8] at H
       have c8b0 := eq_true c8
       have c8b1 : decide (0 ≤ x6_1) = true := decide_eq_true c8
       clear c8
       by_cases c9 : x6_1 ≤ ((rd_T62 l1 x12_1).f0)
       ·rw [if_pos c9] at H
        have c9b0 := eq_true c9
        have c9b1 : decide (x6_1 ≤ ((rd_T62 l1 x12_1).f0)) = true := decide_eq_true c9
        clear c9
        by_cases c10 : ((rd_T62 l1 x12_1).f0) ≤ (l0.length : Int)
        ·rw [if_pos c10] at H
         have c10b0 := eq_true c10
         have c10b1 : decide (((rd_T62 l1 x12_1).f0) ≤ (l0.length : Int)) = true := decide_eq_true c10
         clear c10
         by_cases c11 : x5_1.length + ((l0.take (((rd_T62 l1 x12_1).f0) : Int).toNat).drop (x6_1 : Int).toNat).length < 8796093022208
         ·rw [if_pos c11] at H
          have LMc11 := Aside0.mk c11
          clear c11
          obtain ⟨y376, hy376⟩ : ∃ y_ : List ByteArray, y_ = (x5_1 ++ ((l0.take (((rd_T62 l1 x12_1).f0) : Int).toNat).drop (x6_1 : Int).toNat)) := ⟨_, rfl⟩
          replace H : (if y376.length + ((rd_T62 l1 x12_1).f2).length < 8796093022208 then (impl_patched.l0 k1 l0 (y376 ++ ((rd_T62 l1 x12_1).f2)) (wrap64 (((rd_T62 l1 x12_1).f0) + ((rd_T62 l1 x12_1).f1))) l1 (l1.length : Int) (wrap64 (x12_1 + 1))) else (none)) = some r := by first | (rw [hy376]; with_reducible exact H) | (have H2_ := (Option.bind_some _ _).symm.trans H; rw [hy376]; with_reducible exact H2_) | (have H2_ := (Option.bind_some _ _).symm.trans H; with_reducible exact H2_) | with_reducible exact H | (rw [hy376]; exact H) | exact H
          have Ny376 := Aside0.mk hy376
          clear hy376
          by_cases c12 : y376.length + ((rd_T62 l1 x12_1).f2).length < 8796093022208
          ·rw [if_pos c12] at H
           have LMc12 := Aside0.mk c12
           clear c12
           obtain ⟨y379, hy379⟩ : ∃ y_ : List ByteArray, y_ = (y376 ++ ((rd_T62 l1 x12_1).f2)) := ⟨_, rfl⟩
           replace H : (impl_patched.l0 k1 l0 y379 (wrap64 (((rd_T62 l1 x12_1).f0) + ((rd_T62 l1 x12_1).f1))) l1 (l1.length : Int) (wrap64 (x12_1 + 1))) = some r := by first | (rw [hy379]; with_reducible exact H) | (have H2_ := (Option.bind_some _ _).symm.trans H; rw [hy379]; with_reducible exact H2_) | (have H2_ := (Option.bind_some _ _).symm.trans H; with_reducible exact H2_) | with_reducible exact H | (rw [hy379]; exact H) | exact H
           have Ny379 := Aside0.mk hy379
           clear hy379
           have H' := Aside0.mk H
           clear H
           have p373 : 0 ≤ (x12_1 : Int) := oa
           have q373 : x12_1 < (l1.length : Int) := oa
           obtain ⟨ad373, A373_2, c373_2, e373, hx373_0, hx373_1, hx373_2, hl373_2, hi373_2⟩ := at_T62 HR1.out x12_1 p373 q373
           cases e373
           replace hx373_0 := (HB.out.cell (World.block_lt_of_cell? w _ hx373_0)).trans hx373_0
           replace hx373_1 := (HB.out.cell (World.block_lt_of_cell? w _ hx373_1)).trans hx373_1
           replace hx373_2 := (HB.out.cell (World.block_lt_of_cell? w _ hx373_2)).trans hx373_2
           have HR373_2 := Aside0.mk hi373_2
           have HC373_2 := Aside0.mk hl373_2
           clear hi373_2 hl373_2
           replace p373 := eq_true p373
           replace q373 := eq_true q373
           try go_wp2_with (first | ((with_reducible refine gate_dst (N := 8) rfl ?_); refine box_event ?hg (N := 8) ?hd (cs := #[.int .i64 0, .int .i64 0, .slice none 0 0]) (t := 62) ?hr ?_; (case hd => rfl); (case hg => rfl); (case hr => first | (go_simp; done) | (go_simp; rfl)); intro gb374 hg w13 hbox hb; have n0_ := Aside0.mk (Kd.R_below (zr HO_5.out) hb); have n1_ := Aside0.mk (below_step zb hb); have n2_ := Aside0.mk (hbox); have n3_ := Aside0.mk ((by rw [hg]; exact (below_size zb) : w.heap.size ≤ gb374)); have n4_ := Aside0.mk ((by rw [hg]; exact (below_size zb) : w.heap.size ≤ gb374)); clear HO_5; clear HB; have HO_5 := n0_; have HB := n1_; have BK374 := n2_; have GW374 := n3_; have GE374 := n4_; clear n0_ n1_ n2_ n3_ n4_; clear hb hbox hg; have hcz14_0 : w13.cell? ⟨gb374, 0, none⟩ = some (.int .i64 0) := (blk_cell BK374.out 0).trans rfl; have hcz14_1 : w13.cell? ⟨gb374, 1, none⟩ = some (.int .i64 0) := (blk_cell BK374.out 1).trans rfl; have hcz14_2 : w13.cell? ⟨gb374, 2, none⟩ = some (.slice none 0 0) := (blk_cell BK374.out 2).trans rfl; have hfz14_0 := blk_frozen BK374.out 0; have hfz14_1 := blk_frozen BK374.out 1; have hfz14_2 := blk_frozen BK374.out 2))
           have n0_ : Aside0 (Kd.R Kd.string 9 (((w13.setCell ⟨gb374, 0, none⟩ (.int .i64 ((rd_T62 l1 x12_1).f0))).setCell ⟨gb374, 1, none⟩ (.int .i64 ((rd_T62 l1 x12_1).f1))).setCell ⟨gb374, 2, none⟩ (.slice A373_2 ((rd_T62 l1 x12_1).f2).length c373_2)) w.heap.size (fun _ => True) u5 x5_1) := ⟨by (with_reducible repeat (first | apply Kd.R_alloc | apply Kd.R_drewN | apply Kd.R_drew)); exact Kd.R_mono (Kd.R_far (p := ⟨gb374, 2, none⟩) (Kd.R_far (p := ⟨gb374, 1, none⟩) (Kd.R_far (p := ⟨gb374, 0, none⟩) (Kd.R_types HO_5.out BK374.out (by decide)) (fun _ hk => hk.2) (.int .i64 ((rd_T62 l1 x12_1).f0))) (fun _ hk => hk.2) (.int .i64 ((rd_T62 l1 x12_1).f1))) (fun _ hk => hk.2) (.slice A373_2 ((rd_T62 l1 x12_1).f2).length c373_2)) (fun _ hk => trivial)⟩
           have n1_ : Aside0 ((((w13.setCell ⟨gb374, 0, none⟩ (.int .i64 ((rd_T62 l1 x12_1).f0))).setCell ⟨gb374, 1, none⟩ (.int .i64 ((rd_T62 l1 x12_1).f1))).setCell ⟨gb374, 2, none⟩ (.slice A373_2 ((rd_T62 l1 x12_1).f2).length c373_2)).heap[gb374]? = some (.cells #[.int .i64 ((rd_T62 l1 x12_1).f0), .int .i64 ((rd_T62 l1 x12_1).f1), .slice A373_2 ((rd_T62 l1 x12_1).f2).length c373_2] 62 (0, 0))) := ⟨by (with_reducible repeat (first | refine blk_drewN ?_ _ | refine blk_drew ?_ | refine blk_alloc ?_ _)); refine blk_put (cs := #[.int .i64 ((rd_T62 l1 x12_1).f0), .int .i64 ((rd_T62 l1 x12_1).f1), .slice none 0 0]) ?_ 2 _ rfl; (with_reducible repeat (first | refine blk_drewN ?_ _ | refine blk_drew ?_ | refine blk_alloc ?_ _)); refine blk_put (cs := #[.int .i64 ((rd_T62 l1 x12_1).f0), .int .i64 0, .slice none 0 0]) ?_ 1 _ rfl; (with_reducible repeat (first | refine blk_drewN ?_ _ | refine blk_drew ?_ | refine blk_alloc ?_ _)); refine blk_put (cs := #[.int .i64 0, .int .i64 0, .slice none 0 0]) ?_ 0 _ rfl; (with_reducible repeat (first | refine blk_drewN ?_ _ | refine blk_drew ?_ | refine blk_alloc ?_ _)); exact BK374.out⟩
           have n2_ : Aside0 (Below w.heap.size w (((w13.setCell ⟨gb374, 0, none⟩ (.int .i64 ((rd_T62 l1 x12_1).f0))).setCell ⟨gb374, 1, none⟩ (.int .i64 ((rd_T62 l1 x12_1).f1))).setCell ⟨gb374, 2, none⟩ (.slice A373_2 ((rd_T62 l1 x12_1).f2).length c373_2))) := ⟨by repeat (first | (with_reducible first | exact HB.out | apply below_alloc | apply pw_below_drewN | apply below_drew1 | refine below_set ?_ GE374.out) | exact HB.out)⟩
           (try clear HO_5)
           (try clear BK374)
           (try clear HB)
           (try simp only [show ∀ (w_ : World) (n_ : Nat) (p_ : Addr) (v_ : Value), (w_.drewN n_).setCell p_ v_ = (w_.setCell p_ v_).drewN n_ from fun _ _ _ _ => rfl])
           generalize (((w13.setCell ⟨gb374, 0, none⟩ (.int .i64 ((rd_T62 l1 x12_1).f0))).setCell ⟨gb374, 1, none⟩ (.int .i64 ((rd_T62 l1 x12_1).f1))).setCell ⟨gb374, 2, none⟩ (.slice A373_2 ((rd_T62 l1 x12_1).f2).length c373_2)) = w15 at n0_ n1_ n2_ ⊢
           have HO_5 := n0_
           have BK374 := n1_
           have HB := n2_
           clear n0_ n1_ n2_
           have n0_ := Aside0.mk (Kd.R_drew HO_5.out)
           have n1_ := Aside0.mk (blk_drew BK374.out)
           have n2_ := Aside0.mk (below_drew1 HB.out)
           clear HO_5
           clear BK374
           clear HB
           have HO_5 := n0_
           have BK374 := n1_
           have HB := n2_
           clear n0_ n1_ n2_
           obtain ⟨i017, hi017, _, hsz17, _⟩ := info_parts info9
           obtain ⟨A17, hcut17, hA17, hC17⟩ := print_mid_of (P := Try.prog) Value.string (⟨#[]⟩ : ByteArray) 22 9 .i64 .i64 Try.underlying22 hi017 hsz17 A0 c0 l0 x6_1 ((rd_T62 l1 x12_1).f0) oa (by first | omega | exact oa) oa HC0.out
           have HR375 := Aside0.mk (Kd.C_of_reads (h1 := fun _ => rfl) (hA17 _ (Kd.reads_of_C HR0.out)))
           have HC375 := Aside0.mk hC17
           clear hA17 hC17 hi017 hsz17
           refine start_ (n := 11) (S := fun w' => w'.cell? ⟨gb374, 0, none⟩ = some (.int .i64 ((rd_T62 l1 x12_1).f0)) ∧ w'.cell? ⟨gb374, 1, none⟩ = some (.int .i64 ((rd_T62 l1 x12_1).f1)) ∧ w'.cell? ⟨gb374, 2, none⟩ = some (.slice A373_2 ((rd_T62 l1 x12_1).f2).length c373_2)) (ds := []) #[O,O,O,O,O,O,O,O,O,O,O] (by kernel_rfl) rfl rfl ⟨(blk_cell BK374.out 0).trans rfl, (blk_cell BK374.out 1).trans rfl, (blk_cell BK374.out 2).trans rfl⟩ (fun hHeld => ?_); refine with_tabW impl_patched.tab5 impl_patched.bits5 (fun HT_ HW_ => ?_)
           generalize w15.drew = w16 at HO_5 BK374 HB HR375 hHeld ⊢
           refine pure_ (i := 0) (N := some 16) (v := ?_) (a' := ?_) #[Y,O,O,O,O,O,O,O,O,O,O] rfl rfl zx (fun _ _ _ h => h) (Or.inl ⟨by rfl, ?_⟩) ?_ ?_
           rotate_left; (intro w'; go_simp; with_reducible rfl); rotate_left; (simp only [Act.put,qa,qb,qc,i64_w,i32_w]; rfl)
           refine pure_ (i := 1) (N := some 17) (v := ?_) (a' := ?_) #[Y,Y,O,O,O,O,O,O,O,O,O] rfl rfl zx (fun _ _ _ h => h) (Or.inl ⟨by rfl, ?_⟩) ?_ ?_
           rotate_left; (intro w'; go_simp; with_reducible rfl); rotate_left; (simp only [Act.put,qa,qb,qc,i64_w,i32_w]; rfl)
           refine pure_ (i := 2) (N := some 18) (v := ?_) (a' := ?_) #[Y,Y,Y,O,O,O,O,O,O,O,O] rfl rfl zx (fun _ _ _ h => h) (Or.inl ⟨by rfl, ?_⟩) ?_ ?_
           rotate_left; (intro w'; go_simp; with_reducible rfl); rotate_left; (simp only [Act.put,qa,qb,qc,i64_w,i32_w]; rfl)
           refine pure_ (i := 3) (N := some 19) (v := ?_) (a' := ?_) #[Y,Y,Y,Y,O,O,O,O,O,O,O] rfl rfl zx (fun _ _ _ h => h) (Or.inl ⟨by rfl, ?_⟩) ?_ ?_
           rotate_left; (intro w'; go_simp; with_reducible rfl); rotate_left; (simp only [Act.put,qa,qb,qc,i64_w,i32_w]; rfl)
           refine pure_ (i := 7) (N := some 23) (v := ?_) (a' := ?_) #[Y,Y,Y,Y,O,O,O,Y,O,O,O] rfl rfl zx (fun _ _ _ h => h) (Or.inl ⟨by rfl, ?_⟩) ?_ ?_
           rotate_left; (intro w'; go_simp; with_reducible rfl); rotate_left; (simp only [Act.put,qa,qb,qc,i64_w,i32_w]; rfl)
           refine take_ (i := 4) (N := some 20) (v := ?_) (a' := ?_) #[Y,Y,Y,Y,Y,O,O,Y,O,O,O] rfl rfl (take_ofW HT_.out HW_.out (by kernel_rfl)) (fun _ _ _ h => h) (Or.inl ⟨by rfl, ?_⟩) hHeld ?_ ?_
           rotate_left; (rintro w' ⟨s0, s1, s2⟩; go_simp; with_reducible rfl); rotate_left; (simp only [Act.put,qa,qb,qc,i64_w,i32_w]; rfl)
           refine pure_ (i := 5) (N := some 21) (v := ?_) (a' := ?_) #[Y,Y,Y,Y,Y,Y,O,Y,O,O,O] rfl rfl zx (fun _ _ _ h => h) (Or.inl ⟨by rfl, ?_⟩) ?_ ?_
           rotate_left; (intro w'; go_simp; with_reducible rfl); rotate_left; (simp only [Act.put,qa,qb,qc,i64_w,i32_w]; rfl)
           refine take_ (i := 8) (N := some 24) (v := ?_) (a' := ?_) #[Y,Y,Y,Y,Y,Y,O,Y,Y,O,O] rfl rfl (take_ofW HT_.out HW_.out (by kernel_rfl)) (fun _ _ _ h => h) (Or.inl ⟨by rfl, ?_⟩) hHeld ?_ ?_
           rotate_left; (rintro w' ⟨s0, s1, s2⟩; go_simp; with_reducible rfl); rotate_left; (simp only [Act.put,qa,qb,qc,i64_w,i32_w]; rfl)
           refine one_ (i := 6) (N := some 22) #[Y,Y,Y,Y,Y,Y,Y,Y,Y,O,O] rfl rfl (one_of HT_.out (by kernel_rfl)) (by decide) (fun K hK => ?_)
           refine Kd.R_append_rows_step Kd.string (w0 := w) w.heap.size (by rfl) (.tmp 16) (.tmp 21) 22 9 (.string ⟨#[]⟩) 16 rfl Try.underlying22 info9 rfl (by decide) (by omega) u5 x5_1 ((l0.take (((rd_T62 l1 x12_1).f0) : Int).toNat).drop (x6_1 : Int).toNat) _ _ _ (fun _ => True) (fun _ => False) rfl rfl ?aO ?aR (fun _ _ h => h) (fun _ h => h.elim) ?aF ?aB ?aS ?aL ?_
           (case aR => first | (rw [← show ((l0.take (((rd_T62 l1 x12_1).f0) : Int).toNat).drop (x6_1 : Int).toNat).length = (((rd_T62 l1 x12_1).f0).toNat - x6_1.toNat) from (by rw [List.length_drop, List.length_take]; have h_ : (((rd_T62 l1 x12_1).f0) : Int) ≤ (l0.length : Int) := oa; omega)]; exact zq (Kd.C_below HR375.out HB.out)) | (exact zq (Kd.C_below HR375.out HB.out)))
           (case aB => exact (by repeat (first | (with_reducible first | exact HB.out | apply below_alloc | apply pw_below_drewN | apply below_drew1 | refine below_set ?_ GE374.out) | exact HB.out)))
           (case aF => exact (fun _ _ => trivial))
           (case aO => exact (zr HO_5.out))
           (case aS => exact (below_size (by repeat (first | (with_reducible first | exact HB.out | apply below_alloc | apply pw_below_drewN | apply below_drew1 | refine below_set ?_ GE374.out) | exact HB.out))))
           (case aL => have := LMc11.out; have hlx_ := (show ((l0.take (((rd_T62 l1 x12_1).f0) : Int).toNat).drop (x6_1 : Int).toNat).length = (((rd_T62 l1 x12_1).f0).toNat - x6_1.toNat) from (by rw [List.length_drop, List.length_take]; have h_ : (((rd_T62 l1 x12_1).f0) : Int) ≤ (l0.length : Int) := oa; omega)); omega)
           intro v377 w18 ho hb hg hat
           rw [← Ny376.out] at ho
           have n0_ := Aside0.mk (blk_grown (g := gb374) (o := .cells #[.int .i64 ((rd_T62 l1 x12_1).f0), .int .i64 ((rd_T62 l1 x12_1).f1), .slice A373_2 ((rd_T62 l1 x12_1).f2).length c373_2] 62 (0, 0)) (zk BK374.out) hg (Kd.R_ne HO_5.out BK374.out (by decide)))
           have n1_ := Aside0.mk (hb)
           have n2_ := Aside0.mk (ho)
           clear BK374
           clear HB
           clear HO_5
           have BK374 := n0_
           have HB := n1_
           have HO378 := n2_
           clear n0_ n1_ n2_
           clear ho hb hg hat
           refine hK.out _ _ ⟨(blk_cell BK374.out 0).trans rfl, (blk_cell BK374.out 1).trans rfl, (blk_cell BK374.out 2).trans rfl⟩ (fun hHeld => ?_)
           clear hK K
           refine norm_ (a' := ?_) ?_ ?_
           rotate_left
           ·show Act.put _ (some 22) _ = _
            simp only [Act.put,qa,qb,qc,i64_w,i32_w]
            rfl
           refine one_ (i := 9) (N := some 25) #[Y,Y,Y,Y,Y,Y,Y,Y,Y,Y,O] rfl rfl (one_of HT_.out (by kernel_rfl)) (by decide) (fun K hK => ?_)
           refine Kd.R_append_rows_step Kd.string (w0 := w) w.heap.size (by rfl) (.tmp 22) (.tmp 24) 22 9 (.string ⟨#[]⟩) 16 rfl Try.underlying22 info9 rfl (by decide) (by omega) v377 y376 ((rd_T62 l1 x12_1).f2) _ _ _ (fun _ => True) (fun _ => False) rfl rfl ?aO ?aR (fun _ _ h => h) (fun _ h => h.elim) ?aF ?aB ?aS ?aL ?_
           (case aR => exact zq (Kd.C_below HR373_2.out HB.out))
           (case aB => exact (by repeat (first | (with_reducible first | exact HB.out | apply below_alloc | apply pw_below_drewN | apply below_drew1 | refine below_set ?_ GE374.out) | exact HB.out)))
           (case aF => exact (fun _ _ => trivial))
           (case aO => exact (zr HO378.out))
           (case aS => exact (below_size (by repeat (first | (with_reducible first | exact HB.out | apply below_alloc | apply pw_below_drewN | apply below_drew1 | refine below_set ?_ GE374.out) | exact HB.out))))
           (case aL => have := LMc12.out; omega)
           intro v380 w19 ho hb hg hat
           rw [← Ny379.out] at ho
           have n0_ := Aside0.mk (blk_grown (g := gb374) (o := .cells #[.int .i64 ((rd_T62 l1 x12_1).f0), .int .i64 ((rd_T62 l1 x12_1).f1), .slice A373_2 ((rd_T62 l1 x12_1).f2).length c373_2] 62 (0, 0)) (zk BK374.out) hg (Kd.R_ne HO378.out BK374.out (by decide)))
           have n1_ := Aside0.mk (hb)
           have n2_ := Aside0.mk (ho)
           clear BK374
           clear HB
           clear HO378
           have BK374 := n0_
           have HB := n1_
           have HO381 := n2_
           clear n0_ n1_ n2_
           clear ho hb hg hat
           refine hK.out _ _ ⟨(blk_cell BK374.out 0).trans rfl, (blk_cell BK374.out 1).trans rfl, (blk_cell BK374.out 2).trans rfl⟩ (fun hHeld => ?_)
           clear hK K
           refine norm_ (a' := ?_) ?_ ?_
           rotate_left
           ·show Act.put _ (some 25) _ = _
            simp only [Act.put,qa,qb,qc,i64_w,i32_w]
            rfl
           refine pure_ (i := 10) (N := some 5) (v := ?_) (a' := ?_) #[Y,Y,Y,Y,Y,Y,Y,Y,Y,Y,Y] rfl rfl zx (fun _ _ _ h => h) (Or.inl ⟨by rfl, ?_⟩) ?_ ?_
           rotate_left; (intro w'; go_simp; with_reducible rfl); rotate_left; (simp only [Act.put,qa,qb,qc,i64_w,i32_w]; rfl)
           refine done_ (done_of HT_.out (by kernel_rfl)) ?_
           have hcz20_0 : w19.cell? ⟨gb374, 0, none⟩ = some (.int .i64 ((rd_T62 l1 x12_1).f0)) := (blk_cell BK374.out 0).trans rfl
           have hcz20_1 : w19.cell? ⟨gb374, 1, none⟩ = some (.int .i64 ((rd_T62 l1 x12_1).f1)) := (blk_cell BK374.out 1).trans rfl
           have hcz20_2 : w19.cell? ⟨gb374, 2, none⟩ = some (.slice A373_2 ((rd_T62 l1 x12_1).f2).length c373_2) := (blk_cell BK374.out 2).trans rfl
           have hfz20_0 := blk_frozen BK374.out 0
           have hfz20_1 := blk_frozen BK374.out 1
           have hfz20_2 := blk_frozen BK374.out 2
           try go_wp2
           go_roundg k1
           case measure => have := HK1.out; omega
           case rel => exact ⟨(y379), (wrap64 (((rd_T62 l1 x12_1).f0) + ((rd_T62 l1 x12_1).f1))), (wrap64 (x12_1 + 1)), zf, zf, H', ⟨by have := HK1.out; omega⟩, ⟨by (with_reducible repeat (first | apply Kd.R_alloc | apply Kd.R_drewN | apply Kd.R_drew)); exact HO381.out⟩, ⟨by repeat (first | (with_reducible first | exact HB.out | apply below_alloc | apply pw_below_drewN | apply below_drew1 | refine below_set ?_ GE374.out) | exact HB.out)⟩⟩
          ·rw [if_neg c12] at H
           exact absurd H (by simp)
         ·rw [if_neg c11] at H
          exact absurd H (by simp)
        ·rw [if_neg c10] at H
         exact absurd H (by simp)
       ·rw [if_neg c9] at H
        exact absurd H (by simp)
      ·rw [if_neg c8] at H
       exact absurd H (by simp)
     ·rw [if_neg c7] at H
      exact absurd H (by simp)
    ·rw [if_neg c6] at H
     exact absurd H (by simp)
   ·rw [if_neg c5] at H
    have c5b0 : decide (x12_1 < (l1.length : Int)) = false := decide_eq_false c5
    clear c5
    by_cases c21 : 0 ≤ x6_1
    ·rw [if_pos c21] at H
     have c21b0 := eq_true c21
     have c21b1 : decide (0 ≤ x6_1) = true := decide_eq_true c21
     clear c21
     by_cases c22 : x6_1 ≤ (l0.length : Int)
     ·rw [if_pos c22] at H
      have c22b0 := eq_true c22
      have c22b1 : decide (x6_1 ≤ (l0.length : Int)) = true := decide_eq_true c22
      clear c22
      by_cases c23 : x5_1.length + (l0.drop (x6_1 : Int).toNat).length < 8796093022208
      ·rw [if_pos c23] at H
       have LMc23 := Aside0.mk c23
       clear c23
       obtain ⟨y383, hy383⟩ : ∃ y_ : List ByteArray, y_ = (x5_1 ++ (l0.drop (x6_1 : Int).toNat)) := ⟨_, rfl⟩
       replace H : (some y383) = some r := by first | (rw [hy383]; with_reducible exact H) | (have H2_ := (Option.bind_some _ _).symm.trans H; rw [hy383]; with_reducible exact H2_) | (have H2_ := (Option.bind_some _ _).symm.trans H; with_reducible exact H2_) | with_reducible exact H | (rw [hy383]; exact H) | exact H
       have Ny383 := Aside0.mk hy383
       clear hy383
       obtain rfl := Option.some.inj H
       obtain ⟨i024, hi024, _, hsz24, _⟩ := info_parts info9
       obtain ⟨A24, hcut24, hA24, hC24⟩ := print_drop_of (P := Try.prog) Value.string (⟨#[]⟩ : ByteArray) 22 9 .i64 Try.underlying22 hi024 hsz24 A0 c0 l0 x6_1 oa oa HC0.out
       have HR382 := Aside0.mk (Kd.C_of_reads (h1 := fun _ => rfl) (hA24 _ (Kd.reads_of_C HR0.out)))
       have HC382 := Aside0.mk hC24
       clear hA24 hC24 hi024 hsz24
       go_wp2_with (first | ((with_reducible refine gateB (b := .append) (xs := #[.tmp 32, .tmp 35]) rfl ?_); at_builtin; refine Kd.R_append_rows Kd.string (w0 := w) w.heap.size rfl (.tmp 32) (.tmp 35) 22 9 (.string ⟨#[]⟩) 16 rfl Try.underlying22 info9 rfl (by decide) (by omega) u5 x5_1 (l0.drop (x6_1 : Int).toNat) _ _ _ (fun _ => True) (fun _ => False) rfl rfl ?aO ?aR (fun _ _ h => h) (fun _ h => h.elim) ?aF ?aB ?aS ?aL ?_; (case aR => first | (rw [← show (l0.drop (x6_1 : Int).toNat).length = (l0.length - x6_1.toNat) from List.length_drop]; exact zq (Kd.C_below HR382.out HB.out)) | (exact zq (Kd.C_below HR382.out HB.out))); (case aB => exact zb); (case aF => exact (fun _ _ => trivial)); (case aO => exact (zr HO_5.out)); (case aS => exact (below_size zb)); (case aL => have := LMc23.out; have hlx_ := (show (l0.drop (x6_1 : Int).toNat).length = (l0.length - x6_1.toNat) from List.length_drop); omega); intro v384 w25 ho hb hg hat; rw [← Ny383.out] at ho; have n0_ := Aside0.mk (hb); have n1_ := Aside0.mk (ho); clear HB; clear HO_5; have HB := n0_; have HO385 := n1_; clear n0_ n1_; clear ho hb hg hat))
       go_ret
       exact ⟨_, by first | rfl | (simp [errW_none, errW_some] <;> rfl) | (simp [*, errW_none, errW_some] <;> rfl), by (with_reducible repeat (first | apply Kd.R_alloc | apply Kd.R_drewN | apply Kd.R_drew)); exact HO385.out, by repeat (first | (with_reducible first | exact HB.out | apply below_alloc | apply pw_below_drewN | apply below_drew1) | exact HB.out)⟩
      ·rw [if_neg c23] at H
       exact absurd H (by simp)
     ·rw [if_neg c22] at H
      exact absurd H (by simp)
    ·rw [if_neg c21] at H
     exact absurd H (by simp)

end Go.Proofs.Ytlhpkapbaijnhaa.My

/- Written by this session's program (wip/gen): a plain function with the same answers as the Go function, and the proof that the Go code comes to them. Asked: that the plain function has an answer. -/
namespace Go.Proofs.Ytlhpkapbaijnhaa.My
open Go.RowKit Go.Proofs.YtlhpkapbaijnhaaW.PrintWords Go.Proofs.YtlhpkapbaijnhaaW.PrintLast Go.Proofs.YtlhpkapbaijnhaaW.PrintMore
attribute [local go_sem] max2_int min2_int max_two min_two max_three min_three max_four min_four
set_option linter.unusedVariables false
set_option linter.unusedSimpArgs false

/-! ### impl_Patch: function 44 -/
def impl_Patch.j0 : Nat → List ByteArray → List (S62) → Bool → Option (List ByteArray × Bool)
 | 0, _, _, _ => none
 | k + 1, x0, x1, x16 => if x16 = true then (some (([] : List ByteArray), false)) else ((impl_patched.f k x0 x1).bind fun t388 => ((impl_goodLines.f k t388).bind fun t391 => (if t391 = true then (some (t388, true)) else (some (([] : List ByteArray), false)))))
def impl_Patch.f (k : Nat) (l0 : List ByteArray) (l1 : List (S62)) : Option (List ByteArray × Bool) := (impl_goodLines.f k l0).bind fun t386 => (if t386 = true then ((impl_goodHunks.f k (l0.length : Int) l1).bind fun t387 => (impl_Patch.j0 k l0 l1 (!t387))) else (impl_Patch.j0 k l0 l1 true))
set_option maxHeartbeats 8000000 in
set_option maxRecDepth 100000 in
theorem impl_Patch.calls (k : Nat) (A0 : Option Addr) (c0 : Nat) (l0 : List ByteArray) (A1 : Option Addr) (c1 : Nat) (l1 : List (S62)) (r1 : List ByteArray) (r2 : Bool) (w : World) (hr0 : Kd.C Kd.string w A0 l0.length l0) (hc0 : l0.length ≤ c0) (hr1 : Kd.C k62 w A1 l1.length l1) (hc1 : l1.length ≤ c1) (h : impl_Patch.f k l0 l1 = some (r1, r2)) :
  Calls Try.prog 44 #[.slice A0 l0.length c0, .slice A1 l1.length c1] w fun e w' => ∃ v0_ : Value, e = .returned (.tuple #[v0_, .bool r2]) ∧ Kd.R Kd.string 9 w' w.heap.size (fun _ => True) v0_ r1 ∧ Below w.heap.size w w' := by
 have HR0 := Aside0.mk hr0
 have HC0 := Aside0.mk hc0
 clear hr0 hc0
 have HR1 := Aside0.mk hr1
 have HC1 := Aside0.mk hc1
 clear hr1 hc1
 have HB := Aside0.mk (Below.refl w.heap.size w)
 have H : ((impl_goodLines.f k l0).bind fun t386 => (if t386 = true then ((impl_goodHunks.f k (l0.length : Int) l1).bind fun t387 => (impl_Patch.j0 k l0 l1 (!t387))) else (impl_Patch.j0 k l0 l1 true))) = some (r1, r2) := h
 clear h
 have HC3 := Aside0.mk H
 clear H
 go_enter Try.func44, Try.ntmps44
 go_upto_region 1 with (fail)
 go_cut [16] (fun v16 wc => ∃ (kq : Nat) (x16_2 : Bool), v16 = .bool x16_2 ∧ Aside0 (impl_Patch.j0 kq l0 l1 x16_2 = some (r1, r2)) ∧ Aside0 (kq ≤ k) ∧ Aside0 (Below w.heap.size w wc))
 case first =>
  have H := HC3.out
  clear HC3
  replace H := Option.bind_eq_some_iff.mp H
  obtain ⟨t386, A40, H⟩ := H
  replace H : (if t386 = true then ((impl_goodHunks.f k (l0.length : Int) l1).bind fun t387 => (impl_Patch.j0 k l0 l1 (!t387))) else (impl_Patch.j0 k l0 l1 true)) = some (r1, r2) := H
  have A4 := Aside0.mk A40
  clear A40
  by_cases c5 : t386 = true
  ·subst c5
   have H1 : ((impl_goodHunks.f k (l0.length : Int) l1).bind fun t387 => (impl_Patch.j0 k l0 l1 (!t387))) = some (r1, r2) := by rw [if_pos rfl] at H; exact H
   clear H
   have H := H1
   clear H1
   replace H := Option.bind_eq_some_iff.mp H
   obtain ⟨t387, A60, H⟩ := H
   replace H : (impl_Patch.j0 k l0 l1 (!t387)) = some (r1, r2) := H
   have A6 := Aside0.mk A60
   clear A60
   have H' := Aside0.mk H
   clear H
   go_wp2_with (first | ((with_reducible refine gateC (f := 33) rfl ?_); refine goesL_ (some 8) rfl rfl Try.func33 (by kernel_rfl) rfl #[.slice A0 l0.length c0] rfl zm ?_; (with_reducible refine (impl_goodLines.calls k _ _ l0 true _ ?side1 ?side2 A4.out).mono ?_); (case side1 => exact zq (Kd.C_below HR0.out HB.out)); (case side2 => exact HC0.out); rintro e w' ⟨rfl, ⟨nd, rfl⟩⟩; refine ⟨_, rfl, ?_⟩) | (go_at_call 59; (with_reducible refine (impl_goodHunks.calls k (l0.length : Int) _ _ l1 t387 _ ?side1 ?side2 A6.out).mono ?_); (case side1 => repeat (first | exact (Kd.C_below HR1.out zb) | (with_reducible refine Kd.C_alloc ?_ _) | (with_reducible refine Kd.C_drewN ?_ _) | (with_reducible refine Kd.C_drew ?_))); (case side2 => exact HC1.out); rintro e w7 ⟨rfl, hb⟩; have n0_ := Aside0.mk (below_step zb hb); clear HB; have HB := n0_; clear n0_; (try clear hb); (try clear hb2); (try clear hk); (try clear hi)))
   go_meet
   case rel => exact ⟨_, (!t387), zf, H', ⟨by first | omega | exact Nat.le_refl _⟩, ⟨by repeat (first | (with_reducible first | exact HB.out | apply below_alloc | apply pw_below_drewN | apply below_drew1) | exact HB.out)⟩⟩
  ·replace c5 := Bool.eq_false_iff.mpr c5
   subst c5
   have H1 : (impl_Patch.j0 k l0 l1 true) = some (r1, r2) := by rw [if_neg (show ¬ (false = true) by decide)] at H; exact H
   clear H
   have H := H1
   clear H1
   have H' := Aside0.mk H
   clear H
   go_wp2_with (first | ((with_reducible refine gateC (f := 33) rfl ?_); refine goesL_ (some 8) rfl rfl Try.func33 (by kernel_rfl) rfl #[.slice A0 l0.length c0] rfl zm ?_; (with_reducible refine (impl_goodLines.calls k _ _ l0 false _ ?side1 ?side2 A4.out).mono ?_); (case side1 => exact zq (Kd.C_below HR0.out HB.out)); (case side2 => exact HC0.out); rintro e w' ⟨rfl, ⟨nd, rfl⟩⟩; refine ⟨_, rfl, ?_⟩))
   go_meet
   case rel => exact ⟨_, (true), zf, H', ⟨by first | omega | exact Nat.le_refl _⟩, ⟨by repeat (first | (with_reducible first | exact HB.out | apply below_alloc | apply pw_below_drewN | apply below_drew1) | exact HB.out)⟩⟩
 case rest =>
  clear HC3
  try clear c1
  try clear p2
  try clear c3
  try clear c4
  try clear c5
  obtain ⟨kq, x16_2, rfl, HA, HJ2, HB⟩ := hcut
  cases kq with
  | zero => exact absurd HA.out (by simp [impl_Patch.j0])
  | succ kj2 =>
   have H := HA.out
   clear HA
   simp only [impl_Patch.j0] at H
   by_cases c8 : x16_2 = true
   ·subst c8
    have H1 : (some (([] : List ByteArray), false)) = some (r1, r2) := by rw [if_pos rfl] at H; exact H
    clear H
    have H := H1
    clear H1
    simp only [Option.some.injEq, Prod.mk.injEq] at H
    obtain ⟨rfl, rfl⟩ := H
    go_wp2
    go_ret2
    exact ⟨_, by first | rfl | (simp [errW_none, errW_some] <;> rfl) | (simp [*, errW_none, errW_some] <;> rfl), by first | exact Kd.R_nil _ _ _ _ _ | exact Kd.Q_nil _ _ _ _ _ | exact Kd.S_nil _ _ _ _ _, by repeat (first | (with_reducible first | exact HB.out | apply below_alloc | apply pw_below_drewN | apply below_drew1) | exact HB.out)⟩
   ·replace c8 := Bool.eq_false_iff.mpr c8
    subst c8
    have H1 : ((impl_patched.f kj2 l0 l1).bind fun t388 => ((impl_goodLines.f kj2 t388).bind fun t391 => (if t391 = true then (some (t388, true)) else (some (([] : List ByteArray), false))))) = some (r1, r2) := by rw [if_neg (show ¬ (false = true) by decide)] at H; exact H
    clear H
    have H := H1
    clear H1
    replace H := Option.bind_eq_some_iff.mp H
    obtain ⟨t388, A90, H⟩ := H
    replace H : ((impl_goodLines.f kj2 t388).bind fun t391 => (if t391 = true then (some (t388, true)) else (some (([] : List ByteArray), false)))) = some (r1, r2) := H
    have A9 := Aside0.mk A90
    clear A90
    replace H := Option.bind_eq_some_iff.mp H
    obtain ⟨t391, A100, H⟩ := H
    replace H : (if t391 = true then (some (t388, true)) else (some (([] : List ByteArray), false))) = some (r1, r2) := H
    have A10 := Aside0.mk A100
    clear A100
    by_cases c11 : t391 = true
    ·subst c11
     have H1 : (some (t388, true)) = some (r1, r2) := by rw [if_pos rfl] at H; exact H
     clear H
     have H := H1
     clear H1
     simp only [Option.some.injEq, Prod.mk.injEq] at H
     obtain ⟨rfl, rfl⟩ := H
     go_wp2_with (first | ((with_reducible refine gateC (f := 60) rfl ?_); refine goesL_ (some 19) rfl rfl Try.func60 (by kernel_rfl) rfl #[.slice A0 l0.length c0, .slice A1 l1.length c1] rfl zm ?_; (with_reducible refine (impl_patched.calls kj2 _ _ l0 _ _ l1 t388 _ ?side1 ?side2 ?side3 ?side4 A9.out).mono ?_); (case side1 => exact zq (Kd.C_below HR0.out HB.out)); (case side2 => exact HC0.out); (case side3 => exact zq (Kd.C_below HR1.out HB.out)); (case side4 => exact HC1.out); rintro e w12 ⟨v389, rfl, ho0, hb⟩; refine ⟨_, rfl, ?_⟩; have n0_ := Aside0.mk (Kd.R_lower ho0 (below_size zb)); have n1_ := Aside0.mk (below_step zb hb); clear HB; have HO390 := n0_; have HB := n1_; clear n0_ n1_; (try clear hb); (try clear hb2); (try clear hk); (try clear hi); (try clear ho0); obtain ⟨Ao13, co13, eo13⟩ := Kd.R_slice HO390.out; subst eo13) | ((with_reducible refine gateC (f := 33) rfl ?_); refine goesL_ (some 21) rfl rfl Try.func33 (by kernel_rfl) rfl #[.slice Ao13 t388.length co13] rfl zm ?_; (with_reducible refine (impl_goodLines.calls kj2 _ _ t388 true _ ?side1 ?side2 A10.out).mono ?_); (case side1 => repeat (first | exact (Kd.R_reads' HO390.out).2.2 | (with_reducible refine Kd.C_alloc ?_ _) | (with_reducible refine Kd.C_drewN ?_ _) | (with_reducible refine Kd.C_drew ?_))); (case side2 => exact (Kd.R_reads' HO390.out).2.1); rintro e w' ⟨rfl, ⟨nd, rfl⟩⟩; refine ⟨_, rfl, ?_⟩))
     go_ret2
     exact ⟨_, by first | rfl | (simp [errW_none, errW_some] <;> rfl) | (simp [*, errW_none, errW_some] <;> rfl), by (with_reducible repeat (first | apply Kd.R_alloc | apply Kd.R_drewN | apply Kd.R_drew)); exact HO390.out, by repeat (first | (with_reducible first | exact HB.out | apply below_alloc | apply pw_below_drewN | apply below_drew1) | exact HB.out)⟩
    ·replace c11 := Bool.eq_false_iff.mpr c11
     subst c11
     have H1 : (some (([] : List ByteArray), false)) = some (r1, r2) := by rw [if_neg (show ¬ (false = true) by decide)] at H; exact H
     clear H
     have H := H1
     clear H1
     simp only [Option.some.injEq, Prod.mk.injEq] at H
     obtain ⟨rfl, rfl⟩ := H
     go_wp2_with (first | ((with_reducible refine gateC (f := 60) rfl ?_); refine goesL_ (some 19) rfl rfl Try.func60 (by kernel_rfl) rfl #[.slice A0 l0.length c0, .slice A1 l1.length c1] rfl zm ?_; (with_reducible refine (impl_patched.calls kj2 _ _ l0 _ _ l1 t388 _ ?side1 ?side2 ?side3 ?side4 A9.out).mono ?_); (case side1 => exact zq (Kd.C_below HR0.out HB.out)); (case side2 => exact HC0.out); (case side3 => exact zq (Kd.C_below HR1.out HB.out)); (case side4 => exact HC1.out); rintro e w14 ⟨v389, rfl, ho0, hb⟩; refine ⟨_, rfl, ?_⟩; have n0_ := Aside0.mk (Kd.R_lower ho0 (below_size zb)); have n1_ := Aside0.mk (below_step zb hb); clear HB; have HO390 := n0_; have HB := n1_; clear n0_ n1_; (try clear hb); (try clear hb2); (try clear hk); (try clear hi); (try clear ho0); obtain ⟨Ao15, co15, eo15⟩ := Kd.R_slice HO390.out; subst eo15) | ((with_reducible refine gateC (f := 33) rfl ?_); refine goesL_ (some 21) rfl rfl Try.func33 (by kernel_rfl) rfl #[.slice Ao15 t388.length co15] rfl zm ?_; (with_reducible refine (impl_goodLines.calls kj2 _ _ t388 false _ ?side1 ?side2 A10.out).mono ?_); (case side1 => repeat (first | exact (Kd.R_reads' HO390.out).2.2 | (with_reducible refine Kd.C_alloc ?_ _) | (with_reducible refine Kd.C_drewN ?_ _) | (with_reducible refine Kd.C_drew ?_))); (case side2 => exact (Kd.R_reads' HO390.out).2.1); rintro e w' ⟨rfl, ⟨nd, rfl⟩⟩; refine ⟨_, rfl, ?_⟩))
     go_ret2
     exact ⟨_, by first | rfl | (simp [errW_none, errW_some] <;> rfl) | (simp [*, errW_none, errW_some] <;> rfl), by first | exact Kd.R_nil _ _ _ _ _ | exact Kd.Q_nil _ _ _ _ _ | exact Kd.S_nil _ _ _ _ _, by repeat (first | (with_reducible first | exact HB.out | apply below_alloc | apply pw_below_drewN | apply below_drew1) | exact HB.out)⟩

end Go.Proofs.Ytlhpkapbaijnhaa.My

/- Written by this session's program (wip/gen): a plain function with the same answers as the Go function, and the proof that the Go code comes to them. Asked: that the plain function has an answer. -/
namespace Go.Proofs.Ytlhpkapbaijnhaa.My
open Go.RowKit Go.Proofs.YtlhpkapbaijnhaaW.PrintWords Go.Proofs.YtlhpkapbaijnhaaW.PrintLast Go.Proofs.YtlhpkapbaijnhaaW.PrintMore
attribute [local go_sem] max2_int min2_int max_two min_two max_three min_three max_four min_four
set_option linter.unusedVariables false
set_option linter.unusedSimpArgs false

/-! ### impl_counts: function 45 -/
def impl_counts.l0 : Nat → Int → Int → List (S62) → Int → Int → Option (Int × Int)
 | 0, _, _, _, _, _ => none
 | k + 1, x4, x5, x8, x9, x10 => if x10 < x9 then (if 0 ≤ x10 then (if x10 < (x8.length : Int) then (impl_counts.l0 k (wrap64 (x4 + ((rd_T62 x8 x10).f1))) (wrap64 (x5 + (((rd_T62 x8 x10).f2).length : Int))) x8 x9 (wrap64 (x10 + 1))) else (none)) else (none)) else (some (x4, x5))
def impl_counts.f (k : Nat) (l0 : List (S62)) : Option (Int × Int) := impl_counts.l0 k 0 0 l0 (l0.length : Int) 0
set_option maxHeartbeats 8000000 in
set_option maxRecDepth 100000 in
theorem impl_counts.calls (k : Nat) (A0 : Option Addr) (c0 : Nat) (l0 : List (S62)) (r1 : Int) (r2 : Int) (w : World) (hr0 : Kd.C k62 w A0 l0.length l0) (hc0 : l0.length ≤ c0) (h : impl_counts.f k l0 = some (r1, r2)) :
  Calls Try.prog 45 #[.slice A0 l0.length c0] w fun e w' => e = .returned (.tuple #[.int .i64 r1, .int .i64 r2]) ∧ Below w.heap.size w w' := by
 have hu62 := Try.underlying62
 have HR0 := Aside0.mk hr0
 have HC0 := Aside0.mk hc0
 clear hr0 hc0
 have HB := Aside0.mk (Below.refl w.heap.size w)
 have H : (impl_counts.l0 k 0 0 l0 (l0.length : Int) 0) = some (r1, r2) := h
 clear h
 have H' := Aside0.mk H
 clear H
 go_enter Try.func45, Try.ntmps45
 go_wp2
 go_loopg [4, 5, 10] k (fun kq v4 v5 v10 w' => ∃ (x4_1 : Int) (x5_1 : Int) (x10_1 : Int), v4 = .int .i64 x4_1 ∧ v5 = .int .i64 x5_1 ∧ v10 = .int .i64 x10_1 ∧ Aside0 (impl_counts.l0 kq x4_1 x5_1 l0 (l0.length : Int) x10_1 = some (r1, r2)) ∧ Aside0 (kq ≤ k) ∧ Aside0 (Below w.heap.size w w'))
 case atStart => exact ⟨(0), (0), (0), zf, zf, zf, H', ⟨Nat.le_refl _⟩, ⟨by repeat (first | (with_reducible first | exact HB.out | apply below_alloc | apply pw_below_drewN | apply below_drew1) | exact HB.out)⟩⟩
 case round =>
  clear H'
  obtain ⟨x4_1, x5_1, x10_1, rfl, rfl, rfl, HA, HK1, HB⟩ := hrel
  cases gk with
  | zero => exact absurd HA.out (by simp [impl_counts.l0])
  | succ k1 =>
   have H := HA.out
   clear HA
   simp only [impl_counts.l0] at H
   by_cases c2 : x10_1 < (l0.length : Int)
   ·rw [if_pos c2] at H
    have c2b0 : decide (x10_1 < (l0.length : Int)) = true := decide_eq_true c2
    clear c2
    by_cases c3 : 0 ≤ x10_1
    ·rw [if_pos c3] at H
     have c3b0 : decide (0 ≤ x10_1) = true := decide_eq_true c3
     clear c3
     by_cases c4 : x10_1 < (l0.length : Int)
     ·rw [if_pos c4] at H
      have c4b0 : decide (x10_1 < (l0.length : Int)) = true := decide_eq_true c4
      clear c4
      have H' := Aside0.mk H
      clear H
      have p392 : 0 ≤ (x10_1 : Int) := oa
      have q392 : x10_1 < (l0.length : Int) := oa
      obtain ⟨ad392, A392_2, c392_2, e392, hx392_0, hx392_1, hx392_2, hl392_2, hi392_2⟩ := at_T62 HR0.out x10_1 p392 q392
      cases e392
      replace hx392_0 := (HB.out.cell (World.block_lt_of_cell? w _ hx392_0)).trans hx392_0
      replace hx392_1 := (HB.out.cell (World.block_lt_of_cell? w _ hx392_1)).trans hx392_1
      replace hx392_2 := (HB.out.cell (World.block_lt_of_cell? w _ hx392_2)).trans hx392_2
      have HR392_2 := Aside0.mk hi392_2
      have HC392_2 := Aside0.mk hl392_2
      clear hi392_2 hl392_2
      replace p392 := eq_true p392
      replace q392 := eq_true q392
      go_wp2_with (first | ((with_reducible refine gate_dst (N := 7) rfl ?_); refine box_event ?hg (N := 7) ?hd (cs := #[.int .i64 0, .int .i64 0, .slice none 0 0]) (t := 62) ?hr ?_; (case hd => rfl); (case hg => rfl); (case hr => first | (go_simp; done) | (go_simp; rfl)); intro gb393 hg w5 hbox hb; have n0_ := Aside0.mk (below_step zb hb); have n1_ := Aside0.mk (hbox); have n2_ := Aside0.mk ((by rw [hg]; exact (below_size zb) : w.heap.size ≤ gb393)); have n3_ := Aside0.mk ((by rw [hg]; exact (below_size zb) : w.heap.size ≤ gb393)); clear HB; have HB := n0_; have BK393 := n1_; have GW393 := n2_; have GE393 := n3_; clear n0_ n1_ n2_ n3_; clear hb hbox hg; have hcz6_0 : w5.cell? ⟨gb393, 0, none⟩ = some (.int .i64 0) := (blk_cell BK393.out 0).trans rfl; have hcz6_1 : w5.cell? ⟨gb393, 1, none⟩ = some (.int .i64 0) := (blk_cell BK393.out 1).trans rfl; have hcz6_2 : w5.cell? ⟨gb393, 2, none⟩ = some (.slice none 0 0) := (blk_cell BK393.out 2).trans rfl; have hfz6_0 := blk_frozen BK393.out 0; have hfz6_1 := blk_frozen BK393.out 1; have hfz6_2 := blk_frozen BK393.out 2))
      go_roundg k1
      case measure => have := HK1.out; omega
      case rel => exact ⟨(wrap64 (x4_1 + ((rd_T62 l0 x10_1).f1))), (wrap64 (x5_1 + (((rd_T62 l0 x10_1).f2).length : Int))), (wrap64 (x10_1 + 1)), zf, zf, zf, H', ⟨by have := HK1.out; omega⟩, ⟨by repeat (first | (with_reducible first | exact HB.out | apply below_alloc | apply pw_below_drewN | apply below_drew1 | refine below_set ?_ GE393.out) | exact HB.out)⟩⟩
     ·rw [if_neg c4] at H
      exact absurd H (by simp)
    ·rw [if_neg c3] at H
     exact absurd H (by simp)
   ·rw [if_neg c2] at H
    have c2b0 : decide (x10_1 < (l0.length : Int)) = false := decide_eq_false c2
    clear c2
    simp only [Option.some.injEq, Prod.mk.injEq] at H
    obtain ⟨rfl, rfl⟩ := H
    go_wp2
    go_ret2
    exact ⟨by first | rfl | (simp [errW_none, errW_some] <;> rfl) | (simp [*, errW_none, errW_some] <;> rfl), by repeat (first | (with_reducible first | exact HB.out | apply below_alloc | apply pw_below_drewN | apply below_drew1) | exact HB.out)⟩

end Go.Proofs.Ytlhpkapbaijnhaa.My

/- Written by this session's program (wip/gen): a plain function with the same answers as the Go function, and the proof that the Go code comes to them. Asked: that the plain function has an answer. -/
namespace Go.Proofs.Ytlhpkapbaijnhaa.My
open Go.RowKit Go.Proofs.YtlhpkapbaijnhaaW.PrintWords Go.Proofs.YtlhpkapbaijnhaaW.PrintLast Go.Proofs.YtlhpkapbaijnhaaW.PrintMore
attribute [local go_sem] max2_int min2_int max_two min_two max_three min_three max_four min_four
set_option linter.unusedVariables false
set_option linter.unusedSimpArgs false

/-! ### impl_common: function 49 -/
mutual
def impl_common.l0 : Nat → List ByteArray → List ByteArray → List (List Int) → Int → Option ((List (List Int)))
 | 0, _, _, _, _ => none
 | k + 1, x0, x1, x5, x6 => if x6 ≥ 0 then (if 0 ≤ (wrap64 ((x1.length : Int) + 1)) then (if (wrap64 ((x1.length : Int) + 1) : Int).toNat ≤ 35184372088832 then (if 0 ≤ x6 then (if x6 < (x5.length : Int) then (impl_common.l1 k x0 x1 (x5.set (x6 : Int).toNat (List.replicate (wrap64 ((x1.length : Int) + 1) : Int).toNat 0)) x6 (wrap64 ((x1.length : Int) - 1))) else (none)) else (none)) else (none)) else (none)) else (some x5)
def impl_common.l1 : Nat → List ByteArray → List ByteArray → List (List Int) → Int → Int → Option ((List (List Int)))
 | 0, _, _, _, _, _ => none
 | k + 1, x0, x1, x5, x6, x7 => if x7 ≥ 0 then (if 0 ≤ x6 then (if x6 < (x0.length : Int) then (if 0 ≤ x7 then (if x7 < (x1.length : Int) then (if (rdOf ByteArray.empty x0 x6).toList = (rdOf ByteArray.empty x1 x7).toList then (if x6 < (x5.length : Int) then (if 0 ≤ (wrap64 (x6 + 1)) then (if (wrap64 (x6 + 1)) < (x5.length : Int) then (if 0 ≤ (wrap64 (x7 + 1)) then (if (wrap64 (x7 + 1)) < ((rd_L2 x5 (wrap64 (x6 + 1))).length : Int) then (if x7 < ((rd_L2 x5 x6).length : Int) then (impl_common.l1 k x0 x1 (x5.set (x6 : Int).toNat ((rd_L2 x5 x6).set (x7 : Int).toNat (wrap64 ((rd (rd_L2 x5 (wrap64 (x6 + 1))) (wrap64 (x7 + 1))) + 1)))) x6 (wrap64 (x7 - 1))) else (none)) else (none)) else (none)) else (none)) else (none)) else (none)) else (if x6 < (x5.length : Int) then (if 0 ≤ (wrap64 (x6 + 1)) then (if (wrap64 (x6 + 1)) < (x5.length : Int) then (if x7 < ((rd_L2 x5 (wrap64 (x6 + 1))).length : Int) then (if 0 ≤ (wrap64 (x7 + 1)) then (if (wrap64 (x7 + 1)) < ((rd_L2 x5 x6).length : Int) then (if x7 < ((rd_L2 x5 x6).length : Int) then (impl_common.l1 k x0 x1 (x5.set (x6 : Int).toNat ((rd_L2 x5 x6).set (x7 : Int).toNat (mx (rd (rd_L2 x5 (wrap64 (x6 + 1))) x7) (rd (rd_L2 x5 x6) (wrap64 (x7 + 1)))))) x6 (wrap64 (x7 - 1))) else (none)) else (none)) else (none)) else (none)) else (none)) else (none)) else (none))) else (none)) else (none)) else (none)) else (none)) else (impl_common.l0 k x0 x1 x5 (wrap64 (x6 - 1)))
end
def impl_common.f (k : Nat) (l0 : List ByteArray) (l1 : List ByteArray) : Option ((List (List Int))) := if 0 ≤ (wrap64 ((l0.length : Int) + 1)) then (if (wrap64 ((l0.length : Int) + 1) : Int).toNat ≤ 11728124029610 then ((some (List.replicate (wrap64 ((l0.length : Int) + 1) : Int).toNat [] : List (List Int))).bind fun y182 => (if 0 ≤ (wrap64 ((l1.length : Int) + 1)) then (if (wrap64 ((l1.length : Int) + 1) : Int).toNat ≤ 35184372088832 then (if 0 ≤ (l0.length : Int) then (if (l0.length : Int) < (y182.length : Int) then (impl_common.l0 k l0 l1 (y182.set ((l0.length : Int) : Int).toNat (List.replicate (wrap64 ((l1.length : Int) + 1) : Int).toNat 0)) (wrap64 ((l0.length : Int) - 1))) else (none)) else (none)) else (none)) else (none))) else (none)) else (none)
def impl_common.T10 : Bool × List (List Nat × List Nat) := (true, [([], []), ([], []), ([0, 1], [0, 1]), ([2], [2]), ([], []), ([], []), ([4, 5], [4, 5]), ([6], [6]), ([3, 7], [3, 7])])
def impl_common.B10 : List Nat := [0, 0, 3, 7, 0, 0, 48, 112, 255]
theorem impl_common.tab10 : rtab .any (opsOf Try.f49 10) = impl_common.T10 := by kernel_rfl
theorem impl_common.bits10 : waitsOk impl_common.T10.2 impl_common.B10 = true := by kernel_rfl
def impl_common.T11 : Bool × List (List Nat × List Nat) := (true, [([], []), ([], []), ([0, 1], [0, 1]), ([2], [2]), ([], []), ([], []), ([], []), ([6], [6]), ([5, 7], [5, 7]), ([8], [8]), ([], []), ([10], [10]), ([9, 11], [9, 11]), ([12], [12]), ([13], [13]), ([3, 4, 0, 1, 2, 3, 4, 5, 6, 7, 8, 9, 10, 11, 12, 13, 14], [3, 4]), ([15, 14, 0, 1, 2, 3, 4, 5, 6, 7, 8, 9, 10, 11, 12, 13, 14], [14, 15])])
def impl_common.B11 : List Nat := [0, 0, 3, 7, 0, 0, 0, 64, 224, 480, 0, 1024, 4064, 8160, 16352, 32767, 65535]
theorem impl_common.tab11 : rtab .any (opsOf Try.f49 11) = impl_common.T11 := by kernel_rfl
theorem impl_common.bits11 : waitsOk impl_common.T11.2 impl_common.B11 = true := by kernel_rfl
def impl_common.T12 : Bool × List (List Nat × List Nat) := (true, [([], []), ([], []), ([0, 1], [0, 1]), ([2], [2]), ([], []), ([], []), ([], []), ([6], [6]), ([5, 7], [5, 7]), ([8], [8]), ([], []), ([9, 10], [9, 10]), ([11], [11]), ([], []), ([], []), ([13, 14], [13, 14]), ([15], [15]), ([], []), ([17], [17]), ([16, 18], [16, 18]), ([19], [19]), ([12, 20], [12, 20]), ([3, 4, 0, 1, 2, 3, 4, 5, 6, 7, 8, 9, 10, 11, 12, 13, 14, 15, 16, 17, 18, 19, 20, 21], [3, 4]), ([22, 21, 0, 1, 2, 3, 4, 5, 6, 7, 8, 9, 10, 11, 12, 13, 14, 15, 16, 17, 18, 19, 20, 21], [21, 22])])
def impl_common.B12 : List Nat := [0, 0, 3, 7, 0, 0, 0, 64, 224, 480, 0, 2016, 4064, 0, 0, 24576, 57344, 0, 131072, 516096, 1040384, 2097120, 4194303, 8388607]
theorem impl_common.tab12 : rtab .any (opsOf Try.f49 12) = impl_common.T12 := by kernel_rfl
theorem impl_common.bits12 : waitsOk impl_common.T12.2 impl_common.B12 = true := by kernel_rfl
set_option maxHeartbeats 8000000 in
set_option maxRecDepth 100000 in
theorem impl_common.calls (k : Nat) (A0 : Option Addr) (c0 : Nat) (l0 : List ByteArray) (A1 : Option Addr) (c1 : Nat) (l1 : List ByteArray) (r : List (List Int)) (w : World) (hr0 : Kd.C Kd.string w A0 l0.length l0) (hc0 : l0.length ≤ c0) (hr1 : Kd.C Kd.string w A1 l1.length l1) (hc1 : l1.length ≤ c1) (h : impl_common.f k l0 l1 = some r) :
  Calls Try.prog 49 #[.slice A0 l0.length c0, .slice A1 l1.length c1] w fun e w' => ∃ v0_ : Value, e = .returned (v0_) ∧ Kd.S (Kd.slice 3 (Kd.int .i64)) 45 w' w.heap.size (fun _ => True) v0_ r ∧ Below w.heap.size w w' := by
 have HR0 := Aside0.mk hr0
 have HC0 := Aside0.mk hc0
 clear hr0 hc0
 have HR1 := Aside0.mk hr1
 have HC1 := Aside0.mk hc1
 clear hr1 hc1
 have HB := Aside0.mk (Below.refl w.heap.size w)
 have H : (if 0 ≤ (wrap64 ((l0.length : Int) + 1)) then (if (wrap64 ((l0.length : Int) + 1) : Int).toNat ≤ 11728124029610 then ((some (List.replicate (wrap64 ((l0.length : Int) + 1) : Int).toNat [] : List (List Int))).bind fun y182 => (if 0 ≤ (wrap64 ((l1.length : Int) + 1)) then (if (wrap64 ((l1.length : Int) + 1) : Int).toNat ≤ 35184372088832 then (if 0 ≤ (l0.length : Int) then (if (l0.length : Int) < (y182.length : Int) then (impl_common.l0 k l0 l1 (y182.set ((l0.length : Int) : Int).toNat (List.replicate (wrap64 ((l1.length : Int) + 1) : Int).toNat 0)) (wrap64 ((l0.length : Int) - 1))) else (none)) else (none)) else (none)) else (none))) else (none)) else (none)) = some r := h
 clear h
 obtain ⟨ji3, hji3⟩ : ∃ j_ : Int, (wrap64 ((l0.length : Int) + 1)) = j_ := ⟨_, rfl⟩
 replace H : (if 0 ≤ (ji3) then (if (ji3 : Int).toNat ≤ 11728124029610 then ((some (List.replicate (ji3 : Int).toNat [] : List (List Int))).bind fun y182 => (if 0 ≤ (wrap64 ((l1.length : Int) + 1)) then (if (wrap64 ((l1.length : Int) + 1) : Int).toNat ≤ 35184372088832 then (if 0 ≤ (l0.length : Int) then (if (l0.length : Int) < (y182.length : Int) then (impl_common.l0 k l0 l1 (y182.set ((l0.length : Int) : Int).toNat (List.replicate (wrap64 ((l1.length : Int) + 1) : Int).toNat 0)) (wrap64 ((l0.length : Int) - 1))) else (none)) else (none)) else (none)) else (none))) else (none)) else (none)) = some r := by first | (rw [hji3] at H; exact H) | (simp only [hji3] at H ⊢; exact H)
 have hji3w : (IntKind.i64.wrap ((l0.length : Int) + 1)) = ji3 := (i64_w _).trans hji3
 by_cases c4 : 0 ≤ (ji3)
 ·rw [if_pos c4] at H
  have c4b0 := eq_true c4
  have c4b1 : decide (0 ≤ (ji3)) = true := decide_eq_true c4
  clear c4
  by_cases c5 : (ji3 : Int).toNat ≤ 11728124029610
  ·rw [if_pos c5] at H
   have c5b0 := eq_true c5
   have c5b1 : decide ((ji3 : Int).toNat ≤ 11728124029610) = true := decide_eq_true c5
   clear c5
   obtain ⟨y182, hy182⟩ : ∃ y_ : List (List Int), y_ = (List.replicate (ji3 : Int).toNat []) := ⟨_, rfl⟩
   replace H : (if 0 ≤ (wrap64 ((l1.length : Int) + 1)) then (if (wrap64 ((l1.length : Int) + 1) : Int).toNat ≤ 35184372088832 then (if 0 ≤ (l0.length : Int) then (if (l0.length : Int) < (y182.length : Int) then (impl_common.l0 k l0 l1 (y182.set ((l0.length : Int) : Int).toNat (List.replicate (wrap64 ((l1.length : Int) + 1) : Int).toNat 0)) (wrap64 ((l0.length : Int) - 1))) else (none)) else (none)) else (none)) else (none)) = some r := by first | (rw [hy182]; with_reducible exact H) | (have H2_ := (Option.bind_some _ _).symm.trans H; rw [hy182]; with_reducible exact H2_) | (have H2_ := (Option.bind_some _ _).symm.trans H; with_reducible exact H2_) | with_reducible exact H | (rw [hy182]; exact H) | exact H
   have Ny182 := Aside0.mk hy182
   clear hy182
   obtain ⟨ji6, hji6⟩ : ∃ j_ : Int, (wrap64 ((l1.length : Int) + 1)) = j_ := ⟨_, rfl⟩
   replace H : (if 0 ≤ (ji6) then (if (ji6 : Int).toNat ≤ 35184372088832 then (if 0 ≤ (l0.length : Int) then (if (l0.length : Int) < (y182.length : Int) then (impl_common.l0 k l0 l1 (y182.set ((l0.length : Int) : Int).toNat (List.replicate (ji6 : Int).toNat 0)) (wrap64 ((l0.length : Int) - 1))) else (none)) else (none)) else (none)) else (none)) = some r := by first | (rw [hji6] at H; exact H) | (simp only [hji6] at H ⊢; exact H)
   have hji6w : (IntKind.i64.wrap ((l1.length : Int) + 1)) = ji6 := (i64_w _).trans hji6
   by_cases c7 : 0 ≤ (ji6)
   ·rw [if_pos c7] at H
    have c7b0 := eq_true c7
    have c7b1 : decide (0 ≤ (ji6)) = true := decide_eq_true c7
    clear c7
    by_cases c8 : (ji6 : Int).toNat ≤ 35184372088832
    ·rw [if_pos c8] at H
     have c8b0 := eq_true c8
     have c8b1 : decide ((ji6 : Int).toNat ≤ 35184372088832) = true := decide_eq_true c8
     clear c8
     obtain ⟨y185, hy185⟩ : ∃ y_ : List Int, y_ = (List.replicate (ji6 : Int).toNat 0) := ⟨_, rfl⟩
     replace H : (if 0 ≤ (l0.length : Int) then (if (l0.length : Int) < (y182.length : Int) then (impl_common.l0 k l0 l1 (y182.set ((l0.length : Int) : Int).toNat y185) (wrap64 ((l0.length : Int) - 1))) else (none)) else (none)) = some r := by first | (rw [hy185]; with_reducible exact H) | (have H2_ := (Option.bind_some _ _).symm.trans H; rw [hy185]; with_reducible exact H2_) | (have H2_ := (Option.bind_some _ _).symm.trans H; with_reducible exact H2_) | with_reducible exact H | (rw [hy185]; exact H) | exact H
     have Ny185 := Aside0.mk hy185
     clear hy185
     by_cases c9 : 0 ≤ (l0.length : Int)
     ·rw [if_pos c9] at H
      have c9b0 : decide (0 ≤ (l0.length : Int)) = true := decide_eq_true c9
      have c9b1 : decide (0 ≤ l0.length) = true := decide_eq_true (by omega)
      clear c9
      by_cases c10 : (l0.length : Int) < (y182.length : Int)
      ·rw [if_pos c10] at H
       have c10b0 : decide ((l0.length : Int) < (y182.length : Int)) = true := decide_eq_true c10
       have c10b1 : decide (l0.length < y182.length) = true := decide_eq_true (Int.ofNat_lt.mp c10)
       clear c10
       obtain ⟨y188, hy188⟩ : ∃ y_ : List (List Int), y_ = (y182.set ((l0.length : Int) : Int).toNat y185) := ⟨_, rfl⟩
       replace H : (impl_common.l0 k l0 l1 y188 (wrap64 ((l0.length : Int) - 1))) = some r := by first | (rw [hy188]; with_reducible exact H) | (have H2_ := (Option.bind_some _ _).symm.trans H; rw [hy188]; with_reducible exact H2_) | (have H2_ := (Option.bind_some _ _).symm.trans H; with_reducible exact H2_) | with_reducible exact H | (rw [hy188]; exact H) | exact H
       have Ny188 := Aside0.mk hy188
       clear hy188
       have H' := Aside0.mk H
       clear H
       go_enter Try.func49, Try.ntmps49
       go_wp2_with (first | ((with_reducible refine gate_dst (N := 11) rfl ?_); refine Kd.S_make (Kd.slice 3 (Kd.int .i64)) _ 45 rfl (N := 11) rfl 24 _ _ rfl ji3 rfl rfl Try.underlying24 (.slice none 0 0) 24 info45 rfl (by decide) (by omega) [] (ok := fun _ => True) (okp := fun _ => True) ⟨_, rfl, Kd.R_nil _ _ _ _ _⟩ (fun _ hk => hk) trivial oa (Nat.le_trans (Nat.mul_le_mul_right _ (oa : ji3.toNat ≤ 11728124029610)) (by omega)) (Below.refl _ _) (Nat.le_refl _) ?_; intro v183 w12 ho13 hb hg_ hnew_; clear hg_ hnew_; (first | rw [← Ny182.out] at ho13 | (simp only [Int.reduceToNat] at ho13; rw [← Ny182.out] at ho13)); have n0_ := Aside0.mk (Kd.S_lower ho13 (below_size zb)); have n1_ := Aside0.mk (below_step zb hb); clear HB; have HO184 := n0_; have HB := n1_; clear n0_ n1_; clear hb ho13) | ((with_reducible refine gate_dst (N := 18) rfl ?_); refine Kd.R_make (Kd.int .i64) _ 3 rfl (N := 18) rfl 45 _ _ rfl ji6 rfl rfl Try.underlying45 (.int .i64 0) 8 info3 rfl (by decide) (by omega) 0 (ok := fun _ => True) (okp := fun _ => True) rfl (fun _ hk => hk) trivial oa (Nat.le_trans (Nat.mul_le_mul_right _ (oa : ji6.toNat ≤ 35184372088832)) (by omega)) (Below.refl _ _) (Nat.le_refl _) ?_; intro v186 w14 ho15 hb hg_ hnew_; clear hg_ hnew_; (first | rw [← Ny185.out] at ho15 | (simp only [Int.reduceToNat] at ho15; rw [← Ny185.out] at ho15)); have n0_ := Aside0.mk (Kd.S_elder' (zs HO184.out) (Kd.R_base ho15) hb); have n1_ := Aside0.mk (Kd.R_lower ho15 (below_size zb)); have n2_ := Aside0.mk (below_step zb hb); clear HO184; clear HB; have HO184 := n0_; have HO187 := n1_; have HB := n2_; clear n0_ n1_ n2_; clear hb ho15; have p11 : 0 ≤ ((l0.length : Int) : Int) := oa; have q11 : ((l0.length : Int) : Int) < ((y182.length : Int) : Int) := oa; obtain ⟨go11, co11, eo11, gb11, gl11, cl11, HG11⟩ := Kd.S_form HO184.out (by omega); (first | cases eo11 | (injection eo11 with ea_ en_ ec_; (first | subst ea_ | (injection ea_ with ea_; subst ea_)); subst ec_; clear en_)); have GB11 := Aside0.mk gb11; have GG11 := Aside0.mk HG11; clear gb11 gl11 HG11; obtain ⟨_, ce11, hcl11, hM11, hcc11, hfr11, _, _⟩ := Kd.S_elem HO184.out [] ((l0.length : Int) : Int) p11 q11; obtain ⟨ve11_0, rfl, ge11_0⟩ := hM11; have hx11_0 := hcc11 0 _ rfl; have hf11_0 := hfr11 0; (try simp only [show ((Kd.slice 3 (Kd.int .i64))).sz = 1 from rfl, Nat.mul_one, Nat.add_zero] at hx11_0); (try simp only [show ((Kd.slice 3 (Kd.int .i64))).sz = 1 from rfl, Nat.mul_one, Nat.add_zero] at hf11_0); clear hcl11 hcc11 hfr11; (try clear hM11); replace p11 := eq_true p11; replace q11 := eq_true q11; have n_ := Aside0.mk (Kd.S_mono (ok' := (fun k_ => some k_ ≠ (v186 : Value).ownBlock)) HO184.out (fun k_ hk => hk.2)); clear HO184; have HO184 := n_; clear n_; have HX16 := Aside0.mk (show Kd.S (Kd.slice 3 (Kd.int .i64)) 45 w14 w.heap.size (fun k_ => ((fun _ => True)) k_ ∧ ¬ ((fun k_ => some k_ = (v186 : Value).ownBlock)) k_) (.slice (some ⟨go11, 0, none⟩) y182.length co11) y182 from (by (with_reducible repeat (first | apply Kd.S_alloc | apply Kd.S_drewN | apply Kd.S_drew)); exact Kd.S_mono HO184.out (fun k_ hk => ⟨trivial, fun e_ => hk e_⟩))); obtain ⟨oki16, ce16, hcl16, hM16, hcc16, hfr16, hoki16, hH16⟩ := Kd.S_elem HX16.out [] ((l0.length : Int) : Int) oa (by have h_ : ((l0.length : Int) : Int) < ((y182.length : Int) : Int) := oa; first | exact h_ | (have e_ := (Kd.S_reads' HO184.out).1; omega) | simpa using h_); obtain ⟨ve16_0, rfl, ge16_0⟩ := hM16; have HP16 := Kd.S_seg hH16 oa (by have h_ : ((l0.length : Int) : Int) < ((y182.length : Int) : Int) := oa; first | exact h_ | (have e_ := (Kd.S_reads' HO184.out).1; omega) | simpa using h_) (seg := [v186]) (j := 0) (show 1 ≤ 1 from by decide) (x' := y185) (Kd.M_row (Kd.R_mono (Kd.R_tight rfl (Kd.R_mono (ok' := fun k_ => ((fun _ => True)) k_ ∧ k_ ≠ go11) (Kd.R_apart' (HO187.out) (Kd.S_typed HO184.out) (by decide)) (fun k_ hk => ⟨trivial, fun e_ => (hk.2) (by rw [e_]; rfl)⟩))) (fun _ h_ => Or.inr (h_)))) (fun _ hk => hk) (fun k_ hk_ => ((Kd.R_mono (ok' := fun k_ => ((fun _ => True)) k_ ∧ k_ ≠ go11) (Kd.R_apart' (HO187.out) (Kd.S_typed HO184.out) (by decide)) (fun k_ hk => ⟨trivial, fun e_ => (hk.2) (by rw [e_]; rfl)⟩))).1 k_ hk_.symm); have hx16_0 := hcc16 0 _ rfl; (try simp only [show ((Kd.slice 3 (Kd.int .i64))).sz = 1 from rfl, Nat.mul_one, Nat.add_zero] at hx16_0); (try simp only [Go.IntWalk.toNatUp] at hx16_0); have hf16_0 := hfr16 0; (try simp only [show ((Kd.slice 3 (Kd.int .i64))).sz = 1 from rfl, Nat.mul_one, Nat.add_zero] at hf16_0); (try simp only [Go.IntWalk.toNatUp] at hf16_0); clear hcl16 hcc16 hfr16 hoki16 hH16; (try clear hM16); (try simp only [show ((Kd.slice 3 (Kd.int .i64))).sz = 1 from rfl, Nat.mul_one, Nat.add_zero] at HP16)) | ((with_reducible refine gate_store (t := 45) (p := 19) rfl ?_); refine store_event (t := 45) (p := 19) (v := ?vo_w17) (w1 := (w14.setCell ⟨go11, ((l0.length : Int) : Int).toNat, none⟩ (v186))) ?hg ?ho ?hn ?hr ?_; (case ho => rfl); (case hg => rfl); (case hn => rfl); (case hr => (obtain ⟨A0_, c0_, e0_⟩ := Kd.R_slice HO187.out); (subst e0_); first | (go_simp; done) | (go_simp; rfl)); intro w17 hw; have hg : w14.grownBy w17 (some go11) := (by rw [hw]; exact HP16.2); have hp_ : Kd.S (Kd.slice 3 (Kd.int .i64)) 45 w17 w.heap.size (fun _ => True) (.slice (some ⟨go11, 0, none⟩) y182.length co11) y188 := (by rw [hw, Ny188.out]; exact HP16.1); clear HP16; have n0_ := Aside0.mk (hp_); have n1_ := Aside0.mk ((by rw [hw]; exact below_set (HB.out) GB11.out : Below w.heap.size w w17)); clear HO184; clear HB; clear HO187; have HO184 := n0_; have HB := n1_; clear n0_ n1_; clear hg hw hp_))
       go_loopg [6] k (fun kq v6 w' => ∃ (x5_1 : List (List Int)) (x6_1 : Int), v6 = .int .i64 x6_1 ∧ Aside0 (impl_common.l0 kq l0 l1 x5_1 x6_1 = some r) ∧ Aside0 (kq ≤ k) ∧ Aside0 (Kd.S (Kd.slice 3 (Kd.int .i64)) 45 w' w.heap.size (fun _ => True) (.slice (some ⟨go11, 0, none⟩) y182.length co11) x5_1) ∧ Aside0 (Below w.heap.size w w'))
       case atStart => exact ⟨(y188), (wrap64 ((l0.length : Int) - 1)), zf, H', ⟨Nat.le_refl _⟩, ⟨by (with_reducible repeat (first | apply Kd.S_alloc | apply Kd.S_drewN | apply Kd.S_drew)); exact HO184.out⟩, ⟨by repeat (first | (with_reducible first | exact HB.out | apply below_alloc | apply pw_below_drewN | apply below_drew1) | exact HB.out)⟩⟩
       case round =>
        clear H'
        try clear c1
        try clear p1
        try clear q1
        try clear hx1
        try clear p2
        try clear c4
        try clear c4b0
        try clear c4b1
        try clear c5
        try clear c5b0
        try clear c5b1
        try clear p6
        try clear c7
        try clear c7b0
        try clear c7b1
        try clear c8
        try clear c8b0
        try clear c8b1
        try clear c9
        try clear c9b0
        try clear c9b1
        try clear c10
        try clear c10b0
        try clear c10b1
        try clear c11
        try clear p11
        try clear q11
        try clear hx11
        try clear hf11
        try clear c16
        try clear hx16
        try clear hf16
        try clear hx11_0
        try clear hx16_0
        try clear p11
        try clear q11
        obtain ⟨x5_1, x6_1, rfl, HA, HK1, HO_5, HB⟩ := hrel
        have hl5_1 := (Kd.S_reads' HO_5.out).1
        rw [hl5_1] at HO_5
        (try simp only [hl5_1])
        cases gk with
        | zero => exact absurd HA.out (by simp [impl_common.l0])
        | succ k1 =>
         have H := HA.out
         clear HA
         simp only [impl_common.l0] at H
         by_cases c18 : x6_1 ≥ 0
         ·rw [if_pos c18] at H
          have c18b0 : decide (0 ≤ x6_1) = true := decide_eq_true c18
          (try (have c18b0h := c18b0; simp only [hl5_1] at c18b0h))
          clear c18
          obtain ⟨ji19, hji19⟩ : ∃ j_ : Int, (wrap64 ((l1.length : Int) + 1)) = j_ := ⟨_, rfl⟩
          replace H : (if 0 ≤ (ji19) then (if (ji19 : Int).toNat ≤ 35184372088832 then (if 0 ≤ x6_1 then (if x6_1 < (x5_1.length : Int) then (impl_common.l1 k1 l0 l1 (x5_1.set (x6_1 : Int).toNat (List.replicate (ji19 : Int).toNat 0)) x6_1 (wrap64 ((l1.length : Int) - 1))) else (none)) else (none)) else (none)) else (none)) = some r := by first | (rw [hji19] at H; exact H) | (simp only [hji19] at H ⊢; exact H)
          (try (have hjj_ : ji19 = ji6 := hji19.symm.trans hji6; subst hjj_))
          have hji19w : (IntKind.i64.wrap ((l1.length : Int) + 1)) = ji19 := (i64_w _).trans hji19
          by_cases c20 : 0 ≤ (ji19)
          ·rw [if_pos c20] at H
           have c20b0 := eq_true c20
           have c20b1 : decide (0 ≤ (ji19)) = true := decide_eq_true c20
           clear c20
           by_cases c21 : (ji19 : Int).toNat ≤ 35184372088832
           ·rw [if_pos c21] at H
            have c21b0 := eq_true c21
            have c21b1 : decide ((ji19 : Int).toNat ≤ 35184372088832) = true := decide_eq_true c21
            clear c21
            obtain ⟨y189, hy189⟩ : ∃ y_ : List Int, y_ = (List.replicate (ji19 : Int).toNat 0) := ⟨_, rfl⟩
            replace H : (if 0 ≤ x6_1 then (if x6_1 < (x5_1.length : Int) then (impl_common.l1 k1 l0 l1 (x5_1.set (x6_1 : Int).toNat y189) x6_1 (wrap64 ((l1.length : Int) - 1))) else (none)) else (none)) = some r := by first | (rw [hy189]; with_reducible exact H) | (have H2_ := (Option.bind_some _ _).symm.trans H; rw [hy189]; with_reducible exact H2_) | (have H2_ := (Option.bind_some _ _).symm.trans H; with_reducible exact H2_) | with_reducible exact H | (rw [hy189]; exact H) | exact H
            have Ny189 := Aside0.mk hy189
            clear hy189
            by_cases c22 : 0 ≤ x6_1
            ·rw [if_pos c22] at H
             have c22b0 : decide (0 ≤ x6_1) = true := decide_eq_true c22
             (try (have c22b0h := c22b0; simp only [hl5_1] at c22b0h))
             clear c22
             by_cases c23 : x6_1 < (x5_1.length : Int)
             ·rw [if_pos c23] at H
              have c23b0 : decide (x6_1 < (x5_1.length : Int)) = true := decide_eq_true c23
              (try (have c23b0h := c23b0; simp only [hl5_1] at c23b0h))
              clear c23
              obtain ⟨y192, hy192⟩ : ∃ y_ : List (List Int), y_ = (x5_1.set (x6_1 : Int).toNat y189) := ⟨_, rfl⟩
              replace H : (impl_common.l1 k1 l0 l1 y192 x6_1 (wrap64 ((l1.length : Int) - 1))) = some r := by first | (rw [hy192]; with_reducible exact H) | (have H2_ := (Option.bind_some _ _).symm.trans H; rw [hy192]; with_reducible exact H2_) | (have H2_ := (Option.bind_some _ _).symm.trans H; with_reducible exact H2_) | with_reducible exact H | (rw [hy192]; exact H) | exact H
              have Ny192 := Aside0.mk hy192
              clear hy192
              have H' := Aside0.mk H
              clear H
              go_wp2_with (first | ((with_reducible refine gate_dst (N := 32) rfl ?_); refine Kd.R_make (Kd.int .i64) _ 3 rfl (N := 32) rfl 45 _ _ rfl ji19 rfl rfl Try.underlying45 (.int .i64 0) 8 info3 rfl (by decide) (by omega) 0 (ok := fun _ => True) (okp := fun _ => True) rfl (fun _ hk => hk) trivial oa (Nat.le_trans (Nat.mul_le_mul_right _ (oa : ji19.toNat ≤ 35184372088832)) (by omega)) (Below.refl _ _) (Nat.le_refl _) ?_; intro v190 w25 ho26 hb hg_ hnew_; clear hg_ hnew_; (first | rw [← Ny189.out] at ho26 | (simp only [Int.reduceToNat] at ho26; rw [← Ny189.out] at ho26)); have n0_ := Aside0.mk (Kd.S_elder' (zs HO_5.out) (Kd.R_base ho26) hb); have n1_ := Aside0.mk (Kd.R_lower ho26 (below_size zb)); have n2_ := Aside0.mk (below_step zb hb); clear HO_5; clear HB; have HO_5 := n0_; have HO191 := n1_; have HB := n2_; clear n0_ n1_ n2_; clear hb ho26; have p24 : 0 ≤ (x6_1 : Int) := oa; have q24 : (x6_1 : Int) < ((x5_1.length : Int) : Int) := oa; obtain ⟨_, ce24, hcl24, hM24, hcc24, hfr24, _, _⟩ := Kd.S_elem HO_5.out [] (x6_1 : Int) p24 q24; obtain ⟨ve24_0, rfl, ge24_0⟩ := hM24; have hx24_0 := hcc24 0 _ rfl; have hf24_0 := hfr24 0; (try simp only [show ((Kd.slice 3 (Kd.int .i64))).sz = 1 from rfl, Nat.mul_one, Nat.add_zero] at hx24_0); (try simp only [show ((Kd.slice 3 (Kd.int .i64))).sz = 1 from rfl, Nat.mul_one, Nat.add_zero] at hf24_0); clear hcl24 hcc24 hfr24; (try clear hM24); replace p24 := eq_true p24; replace q24 := eq_true q24; have n_ := Aside0.mk (Kd.S_mono (ok' := (fun k_ => some k_ ≠ (v190 : Value).ownBlock)) HO_5.out (fun k_ hk => hk.2)); clear HO_5; have HO_5 := n_; clear n_; have HX27 := Aside0.mk (show Kd.S (Kd.slice 3 (Kd.int .i64)) 45 w25 w.heap.size (fun k_ => ((fun _ => True)) k_ ∧ ¬ ((fun k_ => some k_ = (v190 : Value).ownBlock)) k_) (.slice (some ⟨go11, 0, none⟩) x5_1.length co11) x5_1 from (by (with_reducible repeat (first | apply Kd.S_alloc | apply Kd.S_drewN | apply Kd.S_drew)); exact Kd.S_mono HO_5.out (fun k_ hk => ⟨trivial, fun e_ => hk e_⟩))); obtain ⟨oki27, ce27, hcl27, hM27, hcc27, hfr27, hoki27, hH27⟩ := Kd.S_elem HX27.out [] (x6_1 : Int) oa (by have h_ : (x6_1 : Int) < ((x5_1.length : Int) : Int) := oa; first | exact h_ | (have e_ := (Kd.S_reads' HO_5.out).1; omega) | simpa using h_); obtain ⟨ve27_0, rfl, ge27_0⟩ := hM27; have HP27 := Kd.S_seg hH27 oa (by have h_ : (x6_1 : Int) < ((x5_1.length : Int) : Int) := oa; first | exact h_ | (have e_ := (Kd.S_reads' HO_5.out).1; omega) | simpa using h_) (seg := [v190]) (j := 0) (show 1 ≤ 1 from by decide) (x' := y189) (Kd.M_row (Kd.R_mono (Kd.R_tight rfl (Kd.R_mono (ok' := fun k_ => ((fun _ => True)) k_ ∧ k_ ≠ go11) (Kd.R_apart' (HO191.out) (Kd.S_typed HO_5.out) (by decide)) (fun k_ hk => ⟨trivial, fun e_ => (hk.2) (by rw [e_]; rfl)⟩))) (fun _ h_ => Or.inr (h_)))) (fun _ hk => hk) (fun k_ hk_ => ((Kd.R_mono (ok' := fun k_ => ((fun _ => True)) k_ ∧ k_ ≠ go11) (Kd.R_apart' (HO191.out) (Kd.S_typed HO_5.out) (by decide)) (fun k_ hk => ⟨trivial, fun e_ => (hk.2) (by rw [e_]; rfl)⟩))).1 k_ hk_.symm); have hx27_0 := hcc27 0 _ rfl; (try simp only [show ((Kd.slice 3 (Kd.int .i64))).sz = 1 from rfl, Nat.mul_one, Nat.add_zero] at hx27_0); have hf27_0 := hfr27 0; (try simp only [show ((Kd.slice 3 (Kd.int .i64))).sz = 1 from rfl, Nat.mul_one, Nat.add_zero] at hf27_0); clear hcl27 hcc27 hfr27 hoki27 hH27; (try clear hM27); (try simp only [show ((Kd.slice 3 (Kd.int .i64))).sz = 1 from rfl, Nat.mul_one, Nat.add_zero] at HP27)) | ((with_reducible refine gate_store (t := 45) (p := 33) rfl ?_); refine store_event (t := 45) (p := 33) (v := ?vo_w28) (w1 := (w25.setCell ⟨go11, (x6_1 : Int).toNat, none⟩ (v190))) ?hg ?ho ?hn ?hr ?_; (case ho => rfl); (case hg => rfl); (case hn => rfl); (case hr => (obtain ⟨A0_, c0_, e0_⟩ := Kd.R_slice HO191.out); (subst e0_); first | (go_simp; done) | (go_simp; rfl)); intro w28 hw; have hg : w25.grownBy w28 (some go11) := (by rw [hw]; exact HP27.2); have hp_ : Kd.S (Kd.slice 3 (Kd.int .i64)) 45 w28 w.heap.size (fun _ => True) (.slice (some ⟨go11, 0, none⟩) x5_1.length co11) y192 := (by rw [hw, Ny192.out]; exact HP27.1); clear HP27; have n0_ := Aside0.mk (hp_); have n1_ := Aside0.mk ((by rw [hw]; exact below_set (HB.out) GB11.out : Below w.heap.size w w28)); clear HO_5; clear HB; clear HO191; have HO_5 := n0_; have HB := n1_; clear n0_ n1_; clear hg hw hp_))
              go_loopg [7] k1 (fun kq v7 w' => ∃ (x5_2 : List (List Int)) (x7_2 : Int), v7 = .int .i64 x7_2 ∧ Aside0 (impl_common.l1 kq l0 l1 x5_2 x6_1 x7_2 = some r) ∧ Aside0 (kq ≤ k1) ∧ Aside0 (Kd.S (Kd.slice 3 (Kd.int .i64)) 45 w' w.heap.size (fun _ => True) (.slice (some ⟨go11, 0, none⟩) x5_1.length co11) x5_2) ∧ Aside0 (Below w.heap.size w w'))
              case atStart => exact ⟨(y192), (wrap64 ((l1.length : Int) - 1)), zf, H', ⟨Nat.le_refl _⟩, ⟨by (try simp only [hl5_1]); (with_reducible repeat (first | apply Kd.S_alloc | apply Kd.S_drewN | apply Kd.S_drew)); exact HO_5.out⟩, ⟨by repeat (first | (with_reducible first | exact HB.out | apply below_alloc | apply pw_below_drewN | apply below_drew1) | exact HB.out)⟩⟩
              case round =>
               clear H'
               try clear c1
               try clear p1
               try clear q1
               try clear hx1
               try clear c2
               try clear p2
               try clear q2
               try clear hx2
               try clear hf2
               try clear c4
               try clear c4b0
               try clear c4b1
               try clear c5
               try clear c5b0
               try clear c5b1
               try clear p6
               try clear c7
               try clear c7b0
               try clear c7b1
               try clear c8
               try clear c8b0
               try clear c8b1
               try clear c9
               try clear c9b0
               try clear c9b1
               try clear c10
               try clear c10b0
               try clear c10b1
               try clear c11
               try clear p11
               try clear q11
               try clear hx11
               try clear hf11
               try clear c16
               try clear hx16
               try clear hf16
               try clear c18
               try clear c18b0
               try clear c20
               try clear c20b0
               try clear c20b1
               try clear c21
               try clear c21b0
               try clear c21b1
               try clear c22
               try clear c22b0
               try clear c23
               try clear c23b0
               try clear c24
               try clear p24
               try clear q24
               try clear hx24
               try clear hf24
               try clear c27
               try clear hx27
               try clear hf27
               try clear hx11_0
               try clear hx16_0
               try clear hx24_0
               try clear hx27_0
               try clear p1
               try clear p11
               try clear p2
               try clear p24
               try clear p6
               try clear q1
               try clear q11
               try clear q24
               obtain ⟨x5_2, x7_2, rfl, HA, HK2, HO_5, HB⟩ := hrel
               have hl5_2 := (Kd.S_reads' HO_5.out).1
               rw [hl5_2] at HO_5
               (try simp only [hl5_2])
               cases gk with
               | zero => exact absurd HA.out (by simp [impl_common.l1])
               | succ k2 =>
                have H := HA.out
                clear HA
                simp only [impl_common.l1] at H
                by_cases c29 : x7_2 ≥ 0
                ·rw [if_pos c29] at H
                 have c29b0 : decide (0 ≤ x7_2) = true := decide_eq_true c29
                 (try (have c29b0h := c29b0; simp only [hl5_1] at c29b0h))
                 (try (have c29b0h := c29b0; simp only [hl5_2] at c29b0h))
                 clear c29
                 by_cases c30 : 0 ≤ x6_1
                 ·rw [if_pos c30] at H
                  have c30b0 : decide (0 ≤ x6_1) = true := decide_eq_true c30
                  (try (have c30b0h := c30b0; simp only [hl5_1] at c30b0h))
                  (try (have c30b0h := c30b0; simp only [hl5_2] at c30b0h))
                  clear c30
                  by_cases c31 : x6_1 < (l0.length : Int)
                  ·rw [if_pos c31] at H
                   have c31b0 : decide (x6_1 < (l0.length : Int)) = true := decide_eq_true c31
                   (try (have c31b0h := c31b0; simp only [hl5_1] at c31b0h))
                   (try (have c31b0h := c31b0; simp only [hl5_2] at c31b0h))
                   clear c31
                   by_cases c32 : 0 ≤ x7_2
                   ·rw [if_pos c32] at H
                    have c32b0 : decide (0 ≤ x7_2) = true := decide_eq_true c32
                    (try (have c32b0h := c32b0; simp only [hl5_1] at c32b0h))
                    (try (have c32b0h := c32b0; simp only [hl5_2] at c32b0h))
                    clear c32
                    by_cases c33 : x7_2 < (l1.length : Int)
                    ·rw [if_pos c33] at H
                     have c33b0 : decide (x7_2 < (l1.length : Int)) = true := decide_eq_true c33
                     (try (have c33b0h := c33b0; simp only [hl5_1] at c33b0h))
                     (try (have c33b0h := c33b0; simp only [hl5_2] at c33b0h))
                     clear c33
                     by_cases c34 : (rdOf ByteArray.empty l0 x6_1).toList = (rdOf ByteArray.empty l1 x7_2).toList
                     ·rw [if_pos c34] at H
                      have c34b0 : ((rdOf ByteArray.empty l0 x6_1).toList == (rdOf ByteArray.empty l1 x7_2).toList) = true := beq_iff_eq.mpr c34
                      have c34b1 : ((rdOf ByteArray.empty l0 x6_1).toList != (rdOf ByteArray.empty l1 x7_2).toList) = false := bne_eq_false_iff_eq.mpr c34
                      (try (have c34b0h := c34b0; simp only [hl5_1] at c34b0h))
                      (try (have c34b0h := c34b0; simp only [hl5_2] at c34b0h))
                      (try (have c34b1h := c34b1; simp only [hl5_1] at c34b1h))
                      (try (have c34b1h := c34b1; simp only [hl5_2] at c34b1h))
                      clear c34
                      by_cases c35 : x6_1 < (x5_2.length : Int)
                      ·rw [if_pos c35] at H
                       have c35b0 : decide (x6_1 < (x5_2.length : Int)) = true := decide_eq_true c35
                       (try (have c35b0h := c35b0; simp only [hl5_1] at c35b0h))
                       (try (have c35b0h := c35b0; simp only [hl5_2] at c35b0h))
                       clear c35
                       obtain ⟨ji36, hji36⟩ : ∃ j_ : Int, (wrap64 (x6_1 + 1)) = j_ := ⟨_, rfl⟩
                       replace H : (if 0 ≤ (ji36) then (if (ji36) < (x5_2.length : Int) then (if 0 ≤ (wrap64 (x7_2 + 1)) then (if (wrap64 (x7_2 + 1)) < ((rd_L2 x5_2 (ji36)).length : Int) then (if x7_2 < ((rd_L2 x5_2 x6_1).length : Int) then (impl_common.l1 k2 l0 l1 (x5_2.set (x6_1 : Int).toNat ((rd_L2 x5_2 x6_1).set (x7_2 : Int).toNat (wrap64 ((rd (rd_L2 x5_2 (ji36)) (wrap64 (x7_2 + 1))) + 1)))) x6_1 (wrap64 (x7_2 - 1))) else (none)) else (none)) else (none)) else (none)) else (none)) = some r := by first | (rw [hji36] at H; exact H) | (simp only [hji36] at H ⊢; exact H)
                       have hji36w : (IntKind.i64.wrap (x6_1 + 1)) = ji36 := (i64_w _).trans hji36
                       by_cases c37 : 0 ≤ (ji36)
                       ·rw [if_pos c37] at H
                        have c37b0 : decide (0 ≤ (ji36)) = true := decide_eq_true c37
                        (try (have c37b0h := c37b0; simp only [hl5_1] at c37b0h))
                        (try (have c37b0h := c37b0; simp only [hl5_2] at c37b0h))
                        clear c37
                        by_cases c38 : (ji36) < (x5_2.length : Int)
                        ·rw [if_pos c38] at H
                         have c38b0 : decide ((ji36) < (x5_2.length : Int)) = true := decide_eq_true c38
                         (try (have c38b0h := c38b0; simp only [hl5_1] at c38b0h))
                         (try (have c38b0h := c38b0; simp only [hl5_2] at c38b0h))
                         clear c38
                         obtain ⟨ji39, hji39⟩ : ∃ j_ : Int, (wrap64 (x7_2 + 1)) = j_ := ⟨_, rfl⟩
                         replace H : (if 0 ≤ (ji39) then (if (ji39) < ((rd_L2 x5_2 (ji36)).length : Int) then (if x7_2 < ((rd_L2 x5_2 x6_1).length : Int) then (impl_common.l1 k2 l0 l1 (x5_2.set (x6_1 : Int).toNat ((rd_L2 x5_2 x6_1).set (x7_2 : Int).toNat (wrap64 ((rd (rd_L2 x5_2 (ji36)) (ji39)) + 1)))) x6_1 (wrap64 (x7_2 - 1))) else (none)) else (none)) else (none)) = some r := by first | (rw [hji39] at H; exact H) | (simp only [hji39] at H ⊢; exact H)
                         have hji39w : (IntKind.i64.wrap (x7_2 + 1)) = ji39 := (i64_w _).trans hji39
                         by_cases c40 : 0 ≤ (ji39)
                         ·rw [if_pos c40] at H
                          have c40b0 : decide (0 ≤ (ji39)) = true := decide_eq_true c40
                          (try (have c40b0h := c40b0; simp only [hl5_1] at c40b0h))
                          (try (have c40b0h := c40b0; simp only [hl5_2] at c40b0h))
                          clear c40
                          by_cases c41 : (ji39) < ((rd_L2 x5_2 (ji36)).length : Int)
                          ·rw [if_pos c41] at H
                           have c41b0 : decide ((ji39) < ((rd_L2 x5_2 (ji36)).length : Int)) = true := decide_eq_true c41
                           (try (have c41b0h := c41b0; simp only [hl5_1] at c41b0h))
                           (try (have c41b0h := c41b0; simp only [hl5_2] at c41b0h))
                           clear c41
                           by_cases c42 : x7_2 < ((rd_L2 x5_2 x6_1).length : Int)
                           ·rw [if_pos c42] at H
                            have c42b0 : decide (x7_2 < ((rd_L2 x5_2 x6_1).length : Int)) = true := decide_eq_true c42
                            (try (have c42b0h := c42b0; simp only [hl5_1] at c42b0h))
                            (try (have c42b0h := c42b0; simp only [hl5_2] at c42b0h))
                            clear c42
                            obtain ⟨y198, hy198⟩ : ∃ y_ : List Int, y_ = ((rd_L2 x5_2 x6_1).set (x7_2 : Int).toNat (wrap64 ((rd (rd_L2 x5_2 (ji36)) (ji39)) + 1))) := ⟨_, rfl⟩
                            replace H : (impl_common.l1 k2 l0 l1 (x5_2.set (x6_1 : Int).toNat y198) x6_1 (wrap64 (x7_2 - 1))) = some r := by first | (rw [hy198]; with_reducible exact H) | (have H2_ := (Option.bind_some _ _).symm.trans H; rw [hy198]; with_reducible exact H2_) | (have H2_ := (Option.bind_some _ _).symm.trans H; with_reducible exact H2_) | with_reducible exact H | (rw [hy198]; exact H) | exact H
                            have Ny198 := Aside0.mk hy198
                            clear hy198
                            obtain ⟨y200, hy200⟩ : ∃ y_ : List (List Int), y_ = (x5_2.set (x6_1 : Int).toNat y198) := ⟨_, rfl⟩
                            replace H : (impl_common.l1 k2 l0 l1 y200 x6_1 (wrap64 (x7_2 - 1))) = some r := by first | (rw [hy200]; with_reducible exact H) | (have H2_ := (Option.bind_some _ _).symm.trans H; rw [hy200]; with_reducible exact H2_) | (have H2_ := (Option.bind_some _ _).symm.trans H; with_reducible exact H2_) | with_reducible exact H | (rw [hy200]; exact H) | exact H
                            have Ny200 := Aside0.mk hy200
                            clear hy200
                            have H' := Aside0.mk H
                            clear H
                            try go_wp2
                            have n0_ := Aside0.mk (Kd.S_drew HO_5.out)
                            have n1_ := Aside0.mk (below_drew1 HB.out)
                            clear HO_5
                            clear HB
                            have HO_5 := n0_
                            have HB := n1_
                            clear n0_ n1_
                            have p193 : 0 ≤ (x6_1 : Int) := oa
                            have q193 : x6_1 < (l0.length : Int) := oa
                            obtain ⟨ad193, e193, hx193_0⟩ := Kd.at_string HR0.out x6_1 p193 q193
                            have hw193_0 := hx193_0
                            cases e193
                            replace hx193_0 := (HB.out.cell (World.block_lt_of_cell? w _ hx193_0)).trans hx193_0
                            replace p193 := eq_true p193
                            replace q193 := eq_true q193
                            have p194 : 0 ≤ (x7_2 : Int) := oa
                            have q194 : x7_2 < (l1.length : Int) := oa
                            obtain ⟨ad194, e194, hx194_0⟩ := Kd.at_string HR1.out x7_2 p194 q194
                            have hw194_0 := hx194_0
                            cases e194
                            replace hx194_0 := (HB.out.cell (World.block_lt_of_cell? w _ hx194_0)).trans hx194_0
                            replace p194 := eq_true p194
                            replace q194 := eq_true q194
                            refine start_ (n := 9) (S := fun w' => w'.cell? (ad193.add (x6_1).toNat) = some (.string (rdOf ByteArray.empty l0 x6_1)) ∧ w'.cell? (ad194.add (x7_2).toNat) = some (.string (rdOf ByteArray.empty l1 x7_2))) (ds := []) #[O,O,O,O,O,O,O,O,O] (by kernel_rfl) rfl rfl ⟨((HB.out.cell (World.block_lt_of_cell? w _ hw193_0)).trans hw193_0), ((HB.out.cell (World.block_lt_of_cell? w _ hw194_0)).trans hw194_0)⟩ (fun hHeld => ?_); refine with_tabW impl_common.tab10 impl_common.bits10 (fun HT_ HW_ => ?_)
                            generalize wr.drew = w44 at HO_5 HB hx193_0 hx194_0 hHeld ⊢
                            refine pure_ (i := 0) (N := some 41) (v := ?_) (a' := ?_) #[Y,O,O,O,O,O,O,O,O] rfl rfl zx (fun _ _ _ h => h) (Or.inl ⟨by rfl, ?_⟩) ?_ ?_
                            rotate_left; (intro w'; go_simp; with_reducible rfl); rotate_left; (simp only [Act.put,qa,qb,qc,i64_w,i32_w]; rfl)
                            refine pure_ (i := 1) (N := some 42) (v := ?_) (a' := ?_) #[Y,Y,O,O,O,O,O,O,O] rfl rfl zx (fun _ _ _ h => h) (Or.inl ⟨by rfl, ?_⟩) ?_ ?_
                            rotate_left; (intro w'; go_simp; with_reducible rfl); rotate_left; (simp only [Act.put,qa,qb,qc,i64_w,i32_w]; rfl)
                            refine pure_ (i := 2) (N := some 43) (v := ?_) (a' := ?_) #[Y,Y,Y,O,O,O,O,O,O] rfl rfl zx (fun _ _ _ h => h) (Or.inl ⟨by rfl, ?_⟩) ?_ ?_
                            rotate_left; (intro w'; go_simp; with_reducible rfl); rotate_left; (simp only [Act.put,qa,qb,qc,i64_w,i32_w]; rfl)
                            refine pure_ (i := 4) (N := some 45) (v := ?_) (a' := ?_) #[Y,Y,Y,O,Y,O,O,O,O] rfl rfl zx (fun _ _ _ h => h) (Or.inl ⟨by rfl, ?_⟩) ?_ ?_
                            rotate_left; (intro w'; go_simp; with_reducible rfl); rotate_left; (simp only [Act.put,qa,qb,qc,i64_w,i32_w]; rfl)
                            refine pure_ (i := 5) (N := some 46) (v := ?_) (a' := ?_) #[Y,Y,Y,O,Y,Y,O,O,O] rfl rfl zx (fun _ _ _ h => h) (Or.inl ⟨by rfl, ?_⟩) ?_ ?_
                            rotate_left; (intro w'; go_simp; with_reducible rfl); rotate_left; (simp only [Act.put,qa,qb,qc,i64_w,i32_w]; rfl)
                            refine pure_ (i := 6) (N := some 47) (v := ?_) (a' := ?_) #[Y,Y,Y,O,Y,Y,Y,O,O] rfl rfl zx (fun _ _ _ h => h) (Or.inl ⟨by rfl, ?_⟩) ?_ ?_
                            rotate_left; (intro w'; go_simp; with_reducible rfl); rotate_left; (simp only [Act.put,qa,qb,qc,i64_w,i32_w]; rfl)
                            refine take_ (i := 3) (N := some 44) (v := ?_) (a' := ?_) #[Y,Y,Y,Y,Y,Y,Y,O,O] rfl rfl (take_ofW HT_.out HW_.out (by kernel_rfl)) (fun _ _ _ h => h) (Or.inl ⟨by rfl, ?_⟩) hHeld ?_ ?_
                            rotate_left; (rintro w' ⟨s0, s1⟩; go_simp; with_reducible rfl); rotate_left; (simp only [Act.put,qa,qb,qc,i64_w,i32_w]; rfl)
                            refine take_ (i := 7) (N := some 48) (v := ?_) (a' := ?_) #[Y,Y,Y,Y,Y,Y,Y,Y,O] rfl rfl (take_ofW HT_.out HW_.out (by kernel_rfl)) (fun _ _ _ h => h) (Or.inl ⟨by rfl, ?_⟩) hHeld ?_ ?_
                            rotate_left; (rintro w' ⟨s0, s1⟩; go_simp; with_reducible rfl); rotate_left; (simp only [Act.put,qa,qb,qc,i64_w,i32_w]; rfl)
                            refine pure_ (i := 8) (N := some 49) (v := ?_) (a' := ?_) #[Y,Y,Y,Y,Y,Y,Y,Y,Y] rfl rfl zx (fun _ _ _ h => h) (Or.inl ⟨by rfl, ?_⟩) ?_ ?_
                            rotate_left; (intro w'; go_simp; with_reducible rfl); rotate_left; (simp only [Act.put,qa,qb,qc,i64_w,i32_w]; rfl)
                            refine done_ (done_of HT_.out (by kernel_rfl)) ?_
                            try go_wp2
                            have n0_ := Aside0.mk (Kd.S_drew HO_5.out)
                            have n1_ := Aside0.mk (below_drew1 HB.out)
                            clear HO_5
                            clear HB
                            have HO_5 := n0_
                            have HB := n1_
                            clear n0_ n1_
                            have p195 : 0 ≤ (x6_1 : Int) := oa
                            have q195 : x6_1 < (x5_2.length : Int) := oa
                            obtain ⟨ad195, A195_0, c195_0, e195, hx195_0, hl195_0, hi195_0⟩ := at_L2 (Kd.S_reads' HO_5.out).2.2 x6_1 p195 q195
                            obtain rfl : (⟨go11, 0, none⟩ : Addr) = ad195 := (by injection e195)
                            obtain ⟨ce195, hce195, hMe195, hcc195⟩ := Kd.S_get HO_5.out [] x6_1 p195 (by first | exact q195 | exact oa | (have e_ := (Kd.S_reads' HO_5.out).1; omega))
                            obtain ⟨ve195_0, rfl, ge195_0⟩ := hMe195
                            have hv195_0 := hcc195 0 _ rfl
                            rw [Nat.add_zero, show ((Kd.slice 3 (Kd.int .i64))).sz = 1 from rfl, Nat.mul_one] at hv195_0
                            replace hv195_0 := Option.some.inj (hv195_0.symm.trans hx195_0)
                            rw [hv195_0] at ge195_0
                            have HL195_0 := Aside0.mk (show Kd.R (Kd.int .i64) 3 _ _ _ _ (rd_L2 x5_2 x6_1) from ge195_0)
                            clear hv195_0 ge195_0
                            have HX195_0 := Aside0.mk hx195_0
                            clear hcc195 hce195
                            (first | simp only [add_plain] at hx195_0 | simp only [add_at] at hx195_0 | simp only [Addr.add, Nat.zero_add] at hx195_0 | skip)
                            have HR195_0 := Aside0.mk hi195_0
                            have HC195_0 := Aside0.mk hl195_0
                            clear hi195_0 hl195_0
                            replace p195 := eq_true p195
                            replace q195 := eq_true q195
                            have p196 : 0 ≤ ((ji36) : Int) := oa
                            have q196 : (ji36) < (x5_2.length : Int) := oa
                            obtain ⟨ad196, A196_0, c196_0, e196, hx196_0, hl196_0, hi196_0⟩ := at_L2 (Kd.S_reads' HO_5.out).2.2 (ji36) p196 q196
                            obtain rfl : (⟨go11, 0, none⟩ : Addr) = ad196 := (by injection e196)
                            obtain ⟨ce196, hce196, hMe196, hcc196⟩ := Kd.S_get HO_5.out [] (ji36) p196 (by first | exact q196 | exact oa | (have e_ := (Kd.S_reads' HO_5.out).1; omega))
                            obtain ⟨ve196_0, rfl, ge196_0⟩ := hMe196
                            have hv196_0 := hcc196 0 _ rfl
                            rw [Nat.add_zero, show ((Kd.slice 3 (Kd.int .i64))).sz = 1 from rfl, Nat.mul_one] at hv196_0
                            replace hv196_0 := Option.some.inj (hv196_0.symm.trans hx196_0)
                            rw [hv196_0] at ge196_0
                            have HL196_0 := Aside0.mk (show Kd.R (Kd.int .i64) 3 _ _ _ _ (rd_L2 x5_2 (ji36)) from ge196_0)
                            clear hv196_0 ge196_0
                            have HX196_0 := Aside0.mk hx196_0
                            clear hcc196 hce196
                            (first | simp only [add_plain] at hx196_0 | simp only [add_at] at hx196_0 | simp only [Addr.add, Nat.zero_add] at hx196_0 | skip)
                            have HR196_0 := Aside0.mk hi196_0
                            have HC196_0 := Aside0.mk hl196_0
                            clear hi196_0 hl196_0
                            replace p196 := eq_true p196
                            replace q196 := eq_true q196
                            have p197 : 0 ≤ ((ji39) : Int) := oa
                            have q197 : (ji39) < ((rd_L2 x5_2 (ji36)).length : Int) := oa
                            obtain ⟨ad197, e197, hx197_0⟩ := Kd.at_int (by repeat (first | (with_reducible exact HR196_0.out) | (with_reducible refine Kd.C_alloc ?_ _) | (with_reducible refine Kd.C_drewN ?_ _) | (with_reducible refine Kd.C_drew ?_) | exact HR196_0.out)) (ji39) p197 q197
                            cases e197
                            replace p197 := eq_true p197
                            replace q197 := eq_true q197
                            have p43 : 0 ≤ (x7_2 : Int) := oa
                            have q43 : (x7_2 : Int) < (((rd_L2 x5_2 x6_1).length : Int) : Int) := oa
                            obtain ⟨go43, co43, eo43, gb43, gl43, cl43, HG43⟩ := Kd.R_form HL195_0.out (by omega)
                            (first | cases eo43 | (injection eo43 with ea_ en_ ec_; (first | subst ea_ | (injection ea_ with ea_; subst ea_)); subst ec_; clear en_))
                            have GB43 := Aside0.mk gb43
                            have GG43 := Aside0.mk HG43
                            clear gb43 gl43 HG43
                            obtain ⟨hx43_0, hf43_0⟩ := Kd.R_celln 0 HL195_0.out (x7_2 : Int) p43 q43
                            replace p43 := eq_true p43
                            replace q43 := eq_true q43
                            have hq46 : (x6_1 : Int) < (x5_2.length : Int) := (by have h_ : (x6_1 : Int) < ((x5_2.length : Int) : Int) := oa; first | exact h_ | (have e_ := (Kd.S_reads' HO_5.out).1; omega) | simpa only [List.length_set, List.length_set] using h_)
                            obtain ⟨oki46, ce46, hcl46, hM46, hcc46, hok46, hbk46⟩ := Kd.S_borrow HO_5.out [] (x6_1 : Int) oa (by first | exact hq46 | (have e_ := (Kd.S_reads' HO_5.out).1; omega))
                            obtain ⟨ve46_0, rfl, ge46_0⟩ := hM46
                            have hv46 := hcc46 0 _ rfl
                            rw [Nat.add_zero, show ((Kd.slice 3 (Kd.int .i64))).sz = 1 from rfl, Nat.mul_one] at hv46
                            replace hv46 := Option.some.inj (hv46.symm.trans HX195_0.out)
                            subst hv46
                            clear hcc46 hcl46
                            replace ge46_0 := (show Kd.R (Kd.int .i64) 3 _ _ _ _ (rd_L2 x5_2 x6_1) from ge46_0)
                            have HP46 := Kd.R_putg ge46_0 (x7_2 : Int) (wrap64 ((rd (rd_L2 x5_2 (ji36)) (ji39)) + 1))
                            rw [← Ny198.out] at HP46
                            have HS46 := hbk46 HP46.2 (fun k_ e_ => by injection e_ with e_; subst e_; exact ge46_0.1 _ rfl) (x' := y198) (Kd.M_row HP46.1)
                            rw [← Ny200.out] at HS46
                            have HQ46 := Aside0.mk HS46
                            clear HP46 HS46 hbk46 hok46
                            refine start_ (n := 17) (S := fun w' => w'.cell? ⟨go11, (x6_1).toNat, none⟩ = some (.slice (some ⟨go43, 0, none⟩) (rd_L2 x5_2 x6_1).length c195_0) ∧ w'.cell? ⟨go11, ((ji36)).toNat, none⟩ = some (.slice (some ad197) (rd_L2 x5_2 (ji36)).length c196_0) ∧ w'.cell? (ad197.add ((ji39)).toNat) = some (.int .i64 (rd (rd_L2 x5_2 (ji36)) (ji39)))) (ds := [16]) #[O,O,O,O,O,O,O,O,O,O,O,O,O,O,O,O,O] (by kernel_rfl) rfl rfl ⟨hx195_0, hx196_0, hx197_0⟩ (fun hHeld => ?_); refine with_tabW impl_common.tab11 impl_common.bits11 (fun HT_ HW_ => ?_)
                            generalize w44.drew = w45 at HO_5 HB GG43 HL195_0 HL196_0 HQ46 HR195_0 HR196_0 HX195_0 HX196_0 hf43_0 hx195_0 hx196_0 hx197_0 hx43_0 hHeld ⊢
                            refine pure_ (i := 0) (N := some 50) (v := ?_) (a' := ?_) #[Y,O,O,O,O,O,O,O,O,O,O,O,O,O,O,O,O] rfl rfl zx (fun _ _ _ h => h) (Or.inl ⟨by rfl, ?_⟩) ?_ ?_
                            rotate_left; (intro w'; go_simp; with_reducible rfl); rotate_left; (simp only [Act.put,qa,qb,qc,i64_w,i32_w]; rfl)
                            refine pure_ (i := 1) (N := some 51) (v := ?_) (a' := ?_) #[Y,Y,O,O,O,O,O,O,O,O,O,O,O,O,O,O,O] rfl rfl zx (fun _ _ _ h => h) (Or.inl ⟨by rfl, ?_⟩) ?_ ?_
                            rotate_left; (intro w'; go_simp; with_reducible rfl); rotate_left; (simp only [Act.put,qa,qb,qc,i64_w,i32_w]; rfl)
                            refine pure_ (i := 2) (N := some 52) (v := ?_) (a' := ?_) #[Y,Y,Y,O,O,O,O,O,O,O,O,O,O,O,O,O,O] rfl rfl zx (fun _ _ _ h => h) (Or.inl ⟨by rfl, ?_⟩) ?_ ?_
                            rotate_left; (intro w'; go_simp; with_reducible rfl); rotate_left; (simp only [Act.put,qa,qb,qc,i64_w,i32_w]; rfl)
                            refine pure_ (i := 4) (N := some 54) (v := ?_) (a' := ?_) #[Y,Y,Y,O,Y,O,O,O,O,O,O,O,O,O,O,O,O] rfl rfl zx (fun _ _ _ h => h) (Or.inl ⟨by rfl, ?_⟩) ?_ ?_
                            rotate_left; (intro w'; go_simp; with_reducible rfl); rotate_left; (simp only [Act.put,qa,qb,qc,i64_w,i32_w]; rfl)
                            refine pure_ (i := 5) (N := some 55) (v := ?_) (a' := ?_) #[Y,Y,Y,O,Y,Y,O,O,O,O,O,O,O,O,O,O,O] rfl rfl zx (fun _ _ _ h => h) (Or.inl ⟨by rfl, ?_⟩) ?_ ?_
                            rotate_left; (intro w'; go_simp; with_reducible rfl); rotate_left; (simp only [Act.put,qa,qb,qc,i64_w,i32_w]; rfl)
                            refine pure_ (i := 6) (N := some 56) (v := ?_) (a' := ?_) #[Y,Y,Y,O,Y,Y,Y,O,O,O,O,O,O,O,O,O,O] rfl rfl zx (fun _ _ _ h => h) (Or.inl ⟨by rfl, ?_⟩) ?_ ?_
                            rotate_left; (intro w'; go_simp; with_reducible rfl); rotate_left; (simp only [Act.put,qa,qb,qc,i64_w,i32_w]; rfl)
                            refine pure_ (i := 7) (N := some 57) (v := ?_) (a' := ?_) #[Y,Y,Y,O,Y,Y,Y,Y,O,O,O,O,O,O,O,O,O] rfl rfl zx (fun _ _ _ h => h) (Or.inl ⟨by rfl, ?_⟩) ?_ ?_
                            rotate_left; (intro w'; go_simp; with_reducible rfl); rotate_left; (simp only [Act.put,qa,qb,qc,i64_w,i32_w]; rfl)
                            refine pure_ (i := 8) (N := some 58) (v := ?_) (a' := ?_) #[Y,Y,Y,O,Y,Y,Y,Y,Y,O,O,O,O,O,O,O,O] rfl rfl zx (fun _ _ _ h => h) (Or.inl ⟨by rfl, ?_⟩) ?_ ?_
                            rotate_left; (intro w'; go_simp; with_reducible rfl); rotate_left; (simp only [Act.put,qa,qb,qc,i64_w,i32_w]; rfl)
                            refine pure_ (i := 10) (N := some 60) (v := ?_) (a' := ?_) #[Y,Y,Y,O,Y,Y,Y,Y,Y,O,Y,O,O,O,O,O,O] rfl rfl zx (fun _ _ _ h => h) (Or.inl ⟨by rfl, ?_⟩) ?_ ?_
                            rotate_left; (intro w'; go_simp; with_reducible rfl); rotate_left; (simp only [Act.put,qa,qb,qc,i64_w,i32_w]; rfl)
                            refine pure_ (i := 11) (N := some 61) (v := ?_) (a' := ?_) #[Y,Y,Y,O,Y,Y,Y,Y,Y,O,Y,Y,O,O,O,O,O] rfl rfl zx (fun _ _ _ h => h) (Or.inl ⟨by rfl, ?_⟩) ?_ ?_
                            rotate_left; (intro w'; go_simp; with_reducible rfl); rotate_left; (simp only [Act.put,qa,qb,qc,i64_w,i32_w]; rfl)
                            refine take_ (i := 3) (N := some 53) (v := ?_) (a' := ?_) #[Y,Y,Y,Y,Y,Y,Y,Y,Y,O,Y,Y,O,O,O,O,O] rfl rfl (take_ofW HT_.out HW_.out (by kernel_rfl)) (fun _ _ _ h => h) (Or.inl ⟨by rfl, ?_⟩) hHeld ?_ ?_
                            rotate_left; (rintro w' ⟨s0, s1, s2⟩; go_simp; with_reducible rfl); rotate_left; (simp only [Act.put,qa,qb,qc,i64_w,i32_w]; rfl)
                            refine take_ (i := 9) (N := some 59) (v := ?_) (a' := ?_) #[Y,Y,Y,Y,Y,Y,Y,Y,Y,Y,Y,Y,O,O,O,O,O] rfl rfl (take_ofW HT_.out HW_.out (by kernel_rfl)) (fun _ _ _ h => h) (Or.inl ⟨by rfl, ?_⟩) hHeld ?_ ?_
                            rotate_left; (rintro w' ⟨s0, s1, s2⟩; go_simp; with_reducible rfl); rotate_left; (simp only [Act.put,qa,qb,qc,i64_w,i32_w]; rfl)
                            refine pure_ (i := 12) (N := some 62) (v := ?_) (a' := ?_) #[Y,Y,Y,Y,Y,Y,Y,Y,Y,Y,Y,Y,Y,O,O,O,O] rfl rfl zx (fun _ _ _ h => h) (Or.inl ⟨by rfl, ?_⟩) ?_ ?_
                            rotate_left; (intro w'; go_simp; with_reducible rfl); rotate_left; (simp only [Act.put,qa,qb,qc,i64_w,i32_w]; rfl)
                            refine take_ (i := 13) (N := some 63) (v := ?_) (a' := ?_) #[Y,Y,Y,Y,Y,Y,Y,Y,Y,Y,Y,Y,Y,Y,O,O,O] rfl rfl (take_ofW HT_.out HW_.out (by kernel_rfl)) (fun _ _ _ h => h) (Or.inl ⟨by rfl, ?_⟩) hHeld ?_ ?_
                            rotate_left; (rintro w' ⟨s0, s1, s2⟩; go_simp; with_reducible rfl); rotate_left; (simp only [Act.put,qa,qb,qc,i64_w,i32_w]; rfl)
                            refine pure_ (i := 14) (N := some 64) (v := ?_) (a' := ?_) #[Y,Y,Y,Y,Y,Y,Y,Y,Y,Y,Y,Y,Y,Y,Y,O,O] rfl rfl zx (fun _ _ _ h => h) (Or.inl ⟨by rfl, ?_⟩) ?_ ?_
                            rotate_left; (intro w'; go_simp; with_reducible rfl); rotate_left; (simp only [Act.put,qa,qb,qc,i64_w,i32_w]; rfl)
                            refine pure_ (i := 15) (N := some 65) (v := ?_) (a' := ?_) #[Y,Y,Y,Y,Y,Y,Y,Y,Y,Y,Y,Y,Y,Y,Y,Y,O] rfl rfl zx (fun _ _ _ h => h) (Or.inl ⟨by rfl, ?_⟩) ?_ ?_
                            rotate_left; (intro w'; go_simp; with_reducible rfl); rotate_left; (simp only [Act.put,qa,qb,qc,i64_w,i32_w]; rfl)
                            refine last_ (i := 16) (N := none) #[Y,Y,Y,Y,Y,Y,Y,Y,Y,Y,Y,Y,Y,Y,Y,Y,Y] rfl rfl (one_of HT_.out (by kernel_rfl)) (by decide) (fun K hK => ?_)
                            refine skip_ (w1 := ?_) (by rfl) rfl ?_ ?_
                            rotate_left
                            ·go_simp
                             rfl
                            refine hK.out _ _ ?_
                            clear hK K
                            refine done_ (done_of HT_.out (by kernel_rfl)) ?_
                            try go_wp2
                            (try simp only [← hl5_2])
                            go_roundg k2
                            case measure => have := HK1.out; have := HK2.out; omega
                            case rel => exact ⟨(y200), (wrap64 (x7_2 - 1)), zf, H', ⟨by have := HK1.out; have := HK2.out; omega⟩, ⟨by (try simp only [hl5_1]); (try simp only [hl5_2]); (with_reducible repeat (first | apply Kd.S_alloc | apply Kd.S_drewN | apply Kd.S_drew)); exact HQ46.out⟩, ⟨by repeat (first | (with_reducible first | exact HB.out | apply below_alloc | apply pw_below_drewN | apply below_drew1 | refine below_set ?_ GB43.out) | exact HB.out)⟩⟩
                           ·rw [if_neg c42] at H
                            exact absurd H (by simp)
                          ·rw [if_neg c41] at H
                           exact absurd H (by simp)
                         ·rw [if_neg c40] at H
                          exact absurd H (by simp)
                        ·rw [if_neg c38] at H
                         exact absurd H (by simp)
                       ·rw [if_neg c37] at H
                        exact absurd H (by simp)
                      ·rw [if_neg c35] at H
                       exact absurd H (by simp)
                     ·rw [if_neg c34] at H
                      have c34b0 : ((rdOf ByteArray.empty l0 x6_1).toList == (rdOf ByteArray.empty l1 x7_2).toList) = false := beq_eq_false_iff_ne.mpr c34
                      have c34b1 : ((rdOf ByteArray.empty l0 x6_1).toList != (rdOf ByteArray.empty l1 x7_2).toList) = true := bne_iff_ne.mpr c34
                      (try (have c34b0h := c34b0; simp only [hl5_1] at c34b0h))
                      (try (have c34b0h := c34b0; simp only [hl5_2] at c34b0h))
                      (try (have c34b1h := c34b1; simp only [hl5_1] at c34b1h))
                      (try (have c34b1h := c34b1; simp only [hl5_2] at c34b1h))
                      by_cases c48 : x6_1 < (x5_2.length : Int)
                      ·rw [if_pos c48] at H
                       have c48b0 : decide (x6_1 < (x5_2.length : Int)) = true := decide_eq_true c48
                       (try (have c48b0h := c48b0; simp only [hl5_1] at c48b0h))
                       (try (have c48b0h := c48b0; simp only [hl5_2] at c48b0h))
                       clear c48
                       obtain ⟨ji49, hji49⟩ : ∃ j_ : Int, (wrap64 (x6_1 + 1)) = j_ := ⟨_, rfl⟩
                       replace H : (if 0 ≤ (ji49) then (if (ji49) < (x5_2.length : Int) then (if x7_2 < ((rd_L2 x5_2 (ji49)).length : Int) then (if 0 ≤ (wrap64 (x7_2 + 1)) then (if (wrap64 (x7_2 + 1)) < ((rd_L2 x5_2 x6_1).length : Int) then (if x7_2 < ((rd_L2 x5_2 x6_1).length : Int) then (impl_common.l1 k2 l0 l1 (x5_2.set (x6_1 : Int).toNat ((rd_L2 x5_2 x6_1).set (x7_2 : Int).toNat (mx (rd (rd_L2 x5_2 (ji49)) x7_2) (rd (rd_L2 x5_2 x6_1) (wrap64 (x7_2 + 1)))))) x6_1 (wrap64 (x7_2 - 1))) else (none)) else (none)) else (none)) else (none)) else (none)) else (none)) = some r := by first | (rw [hji49] at H; exact H) | (simp only [hji49] at H ⊢; exact H)
                       have hji49w : (IntKind.i64.wrap (x6_1 + 1)) = ji49 := (i64_w _).trans hji49
                       by_cases c50 : 0 ≤ (ji49)
                       ·rw [if_pos c50] at H
                        have c50b0 : decide (0 ≤ (ji49)) = true := decide_eq_true c50
                        (try (have c50b0h := c50b0; simp only [hl5_1] at c50b0h))
                        (try (have c50b0h := c50b0; simp only [hl5_2] at c50b0h))
                        clear c50
                        by_cases c51 : (ji49) < (x5_2.length : Int)
                        ·rw [if_pos c51] at H
                         have c51b0 : decide ((ji49) < (x5_2.length : Int)) = true := decide_eq_true c51
                         (try (have c51b0h := c51b0; simp only [hl5_1] at c51b0h))
                         (try (have c51b0h := c51b0; simp only [hl5_2] at c51b0h))
                         clear c51
                         by_cases c52 : x7_2 < ((rd_L2 x5_2 (ji49)).length : Int)
                         ·rw [if_pos c52] at H
                          have c52b0 : decide (x7_2 < ((rd_L2 x5_2 (ji49)).length : Int)) = true := decide_eq_true c52
                          (try (have c52b0h := c52b0; simp only [hl5_1] at c52b0h))
                          (try (have c52b0h := c52b0; simp only [hl5_2] at c52b0h))
                          clear c52
                          obtain ⟨ji53, hji53⟩ : ∃ j_ : Int, (wrap64 (x7_2 + 1)) = j_ := ⟨_, rfl⟩
                          replace H : (if 0 ≤ (ji53) then (if (ji53) < ((rd_L2 x5_2 x6_1).length : Int) then (if x7_2 < ((rd_L2 x5_2 x6_1).length : Int) then (impl_common.l1 k2 l0 l1 (x5_2.set (x6_1 : Int).toNat ((rd_L2 x5_2 x6_1).set (x7_2 : Int).toNat (mx (rd (rd_L2 x5_2 (ji49)) x7_2) (rd (rd_L2 x5_2 x6_1) (ji53))))) x6_1 (wrap64 (x7_2 - 1))) else (none)) else (none)) else (none)) = some r := by first | (rw [hji53] at H; exact H) | (simp only [hji53] at H ⊢; exact H)
                          have hji53w : (IntKind.i64.wrap (x7_2 + 1)) = ji53 := (i64_w _).trans hji53
                          by_cases c54 : 0 ≤ (ji53)
                          ·rw [if_pos c54] at H
                           have c54b0 : decide (0 ≤ (ji53)) = true := decide_eq_true c54
                           (try (have c54b0h := c54b0; simp only [hl5_1] at c54b0h))
                           (try (have c54b0h := c54b0; simp only [hl5_2] at c54b0h))
                           clear c54
                           by_cases c55 : (ji53) < ((rd_L2 x5_2 x6_1).length : Int)
                           ·rw [if_pos c55] at H
                            have c55b0 : decide ((ji53) < ((rd_L2 x5_2 x6_1).length : Int)) = true := decide_eq_true c55
                            (try (have c55b0h := c55b0; simp only [hl5_1] at c55b0h))
                            (try (have c55b0h := c55b0; simp only [hl5_2] at c55b0h))
                            clear c55
                            obtain ⟨ji56, hji56⟩ : ∃ j_ : Int, (mx (rd (rd_L2 x5_2 (ji49)) x7_2) (rd (rd_L2 x5_2 x6_1) (ji53))) = j_ := ⟨_, rfl⟩
                            replace H : (if x7_2 < ((rd_L2 x5_2 x6_1).length : Int) then (impl_common.l1 k2 l0 l1 (x5_2.set (x6_1 : Int).toNat ((rd_L2 x5_2 x6_1).set (x7_2 : Int).toNat (ji56))) x6_1 (wrap64 (x7_2 - 1))) else (none)) = some r := by first | (rw [hji56] at H; exact H) | (simp only [hji56] at H ⊢; exact H)
                            have hji56_ : (if (rd (rd_L2 x5_2 (ji49)) x7_2) < (rd (rd_L2 x5_2 x6_1) (ji53)) then (rd (rd_L2 x5_2 x6_1) (ji53)) else (rd (rd_L2 x5_2 (ji49)) x7_2)) = ji56 := hji56
                            by_cases c57 : x7_2 < ((rd_L2 x5_2 x6_1).length : Int)
                            ·rw [if_pos c57] at H
                             have c57b0 : decide (x7_2 < ((rd_L2 x5_2 x6_1).length : Int)) = true := decide_eq_true c57
                             (try (have c57b0h := c57b0; simp only [hl5_1] at c57b0h))
                             (try (have c57b0h := c57b0; simp only [hl5_2] at c57b0h))
                             clear c57
                             obtain ⟨y206, hy206⟩ : ∃ y_ : List Int, y_ = ((rd_L2 x5_2 x6_1).set (x7_2 : Int).toNat (ji56)) := ⟨_, rfl⟩
                             replace H : (impl_common.l1 k2 l0 l1 (x5_2.set (x6_1 : Int).toNat y206) x6_1 (wrap64 (x7_2 - 1))) = some r := by first | (rw [hy206]; with_reducible exact H) | (have H2_ := (Option.bind_some _ _).symm.trans H; rw [hy206]; with_reducible exact H2_) | (have H2_ := (Option.bind_some _ _).symm.trans H; with_reducible exact H2_) | with_reducible exact H | (rw [hy206]; exact H) | exact H
                             have Ny206 := Aside0.mk hy206
                             clear hy206
                             obtain ⟨y208, hy208⟩ : ∃ y_ : List (List Int), y_ = (x5_2.set (x6_1 : Int).toNat y206) := ⟨_, rfl⟩
                             replace H : (impl_common.l1 k2 l0 l1 y208 x6_1 (wrap64 (x7_2 - 1))) = some r := by first | (rw [hy208]; with_reducible exact H) | (have H2_ := (Option.bind_some _ _).symm.trans H; rw [hy208]; with_reducible exact H2_) | (have H2_ := (Option.bind_some _ _).symm.trans H; with_reducible exact H2_) | with_reducible exact H | (rw [hy208]; exact H) | exact H
                             have Ny208 := Aside0.mk hy208
                             clear hy208
                             have H' := Aside0.mk H
                             clear H
                             try go_wp2
                             have n0_ := Aside0.mk (Kd.S_drew HO_5.out)
                             have n1_ := Aside0.mk (below_drew1 HB.out)
                             clear HO_5
                             clear HB
                             have HO_5 := n0_
                             have HB := n1_
                             clear n0_ n1_
                             have p193 : 0 ≤ (x6_1 : Int) := oa
                             have q193 : x6_1 < (l0.length : Int) := oa
                             obtain ⟨ad193, e193, hx193_0⟩ := Kd.at_string HR0.out x6_1 p193 q193
                             have hw193_0 := hx193_0
                             cases e193
                             replace hx193_0 := (HB.out.cell (World.block_lt_of_cell? w _ hx193_0)).trans hx193_0
                             replace p193 := eq_true p193
                             replace q193 := eq_true q193
                             have p194 : 0 ≤ (x7_2 : Int) := oa
                             have q194 : x7_2 < (l1.length : Int) := oa
                             obtain ⟨ad194, e194, hx194_0⟩ := Kd.at_string HR1.out x7_2 p194 q194
                             have hw194_0 := hx194_0
                             cases e194
                             replace hx194_0 := (HB.out.cell (World.block_lt_of_cell? w _ hx194_0)).trans hx194_0
                             replace p194 := eq_true p194
                             replace q194 := eq_true q194
                             refine start_ (n := 9) (S := fun w' => w'.cell? (ad193.add (x6_1).toNat) = some (.string (rdOf ByteArray.empty l0 x6_1)) ∧ w'.cell? (ad194.add (x7_2).toNat) = some (.string (rdOf ByteArray.empty l1 x7_2))) (ds := []) #[O,O,O,O,O,O,O,O,O] (by kernel_rfl) rfl rfl ⟨((HB.out.cell (World.block_lt_of_cell? w _ hw193_0)).trans hw193_0), ((HB.out.cell (World.block_lt_of_cell? w _ hw194_0)).trans hw194_0)⟩ (fun hHeld => ?_); refine with_tabW impl_common.tab10 impl_common.bits10 (fun HT_ HW_ => ?_)
                             generalize wr.drew = w59 at HO_5 HB hx193_0 hx194_0 hHeld ⊢
                             refine pure_ (i := 0) (N := some 41) (v := ?_) (a' := ?_) #[Y,O,O,O,O,O,O,O,O] rfl rfl zx (fun _ _ _ h => h) (Or.inl ⟨by rfl, ?_⟩) ?_ ?_
                             rotate_left; (intro w'; go_simp; with_reducible rfl); rotate_left; (simp only [Act.put,qa,qb,qc,i64_w,i32_w]; rfl)
                             refine pure_ (i := 1) (N := some 42) (v := ?_) (a' := ?_) #[Y,Y,O,O,O,O,O,O,O] rfl rfl zx (fun _ _ _ h => h) (Or.inl ⟨by rfl, ?_⟩) ?_ ?_
                             rotate_left; (intro w'; go_simp; with_reducible rfl); rotate_left; (simp only [Act.put,qa,qb,qc,i64_w,i32_w]; rfl)
                             refine pure_ (i := 2) (N := some 43) (v := ?_) (a' := ?_) #[Y,Y,Y,O,O,O,O,O,O] rfl rfl zx (fun _ _ _ h => h) (Or.inl ⟨by rfl, ?_⟩) ?_ ?_
                             rotate_left; (intro w'; go_simp; with_reducible rfl); rotate_left; (simp only [Act.put,qa,qb,qc,i64_w,i32_w]; rfl)
                             refine pure_ (i := 4) (N := some 45) (v := ?_) (a' := ?_) #[Y,Y,Y,O,Y,O,O,O,O] rfl rfl zx (fun _ _ _ h => h) (Or.inl ⟨by rfl, ?_⟩) ?_ ?_
                             rotate_left; (intro w'; go_simp; with_reducible rfl); rotate_left; (simp only [Act.put,qa,qb,qc,i64_w,i32_w]; rfl)
                             refine pure_ (i := 5) (N := some 46) (v := ?_) (a' := ?_) #[Y,Y,Y,O,Y,Y,O,O,O] rfl rfl zx (fun _ _ _ h => h) (Or.inl ⟨by rfl, ?_⟩) ?_ ?_
                             rotate_left; (intro w'; go_simp; with_reducible rfl); rotate_left; (simp only [Act.put,qa,qb,qc,i64_w,i32_w]; rfl)
                             refine pure_ (i := 6) (N := some 47) (v := ?_) (a' := ?_) #[Y,Y,Y,O,Y,Y,Y,O,O] rfl rfl zx (fun _ _ _ h => h) (Or.inl ⟨by rfl, ?_⟩) ?_ ?_
                             rotate_left; (intro w'; go_simp; with_reducible rfl); rotate_left; (simp only [Act.put,qa,qb,qc,i64_w,i32_w]; rfl)
                             refine take_ (i := 3) (N := some 44) (v := ?_) (a' := ?_) #[Y,Y,Y,Y,Y,Y,Y,O,O] rfl rfl (take_ofW HT_.out HW_.out (by kernel_rfl)) (fun _ _ _ h => h) (Or.inl ⟨by rfl, ?_⟩) hHeld ?_ ?_
                             rotate_left; (rintro w' ⟨s0, s1⟩; go_simp; with_reducible rfl); rotate_left; (simp only [Act.put,qa,qb,qc,i64_w,i32_w]; rfl)
                             refine take_ (i := 7) (N := some 48) (v := ?_) (a' := ?_) #[Y,Y,Y,Y,Y,Y,Y,Y,O] rfl rfl (take_ofW HT_.out HW_.out (by kernel_rfl)) (fun _ _ _ h => h) (Or.inl ⟨by rfl, ?_⟩) hHeld ?_ ?_
                             rotate_left; (rintro w' ⟨s0, s1⟩; go_simp; with_reducible rfl); rotate_left; (simp only [Act.put,qa,qb,qc,i64_w,i32_w]; rfl)
                             refine pure_ (i := 8) (N := some 49) (v := ?_) (a' := ?_) #[Y,Y,Y,Y,Y,Y,Y,Y,Y] rfl rfl zx (fun _ _ _ h => h) (Or.inl ⟨by rfl, ?_⟩) ?_ ?_
                             rotate_left; (intro w'; go_simp; with_reducible rfl); rotate_left; (simp only [Act.put,qa,qb,qc,i64_w,i32_w]; rfl)
                             refine done_ (done_of HT_.out (by kernel_rfl)) ?_
                             try go_wp2
                             have n0_ := Aside0.mk (Kd.S_drew HO_5.out)
                             have n1_ := Aside0.mk (below_drew1 HB.out)
                             clear HO_5
                             clear HB
                             have HO_5 := n0_
                             have HB := n1_
                             clear n0_ n1_
                             have p201 : 0 ≤ (x6_1 : Int) := oa
                             have q201 : x6_1 < (x5_2.length : Int) := oa
                             obtain ⟨ad201, A201_0, c201_0, e201, hx201_0, hl201_0, hi201_0⟩ := at_L2 (Kd.S_reads' HO_5.out).2.2 x6_1 p201 q201
                             obtain rfl : (⟨go11, 0, none⟩ : Addr) = ad201 := (by injection e201)
                             obtain ⟨ce201, hce201, hMe201, hcc201⟩ := Kd.S_get HO_5.out [] x6_1 p201 (by first | exact q201 | exact oa | (have e_ := (Kd.S_reads' HO_5.out).1; omega))
                             obtain ⟨ve201_0, rfl, ge201_0⟩ := hMe201
                             have hv201_0 := hcc201 0 _ rfl
                             rw [Nat.add_zero, show ((Kd.slice 3 (Kd.int .i64))).sz = 1 from rfl, Nat.mul_one] at hv201_0
                             replace hv201_0 := Option.some.inj (hv201_0.symm.trans hx201_0)
                             rw [hv201_0] at ge201_0
                             have HL201_0 := Aside0.mk (show Kd.R (Kd.int .i64) 3 _ _ _ _ (rd_L2 x5_2 x6_1) from ge201_0)
                             clear hv201_0 ge201_0
                             have HX201_0 := Aside0.mk hx201_0
                             clear hcc201 hce201
                             (first | simp only [add_plain] at hx201_0 | simp only [add_at] at hx201_0 | simp only [Addr.add, Nat.zero_add] at hx201_0 | skip)
                             have HR201_0 := Aside0.mk hi201_0
                             have HC201_0 := Aside0.mk hl201_0
                             clear hi201_0 hl201_0
                             replace p201 := eq_true p201
                             replace q201 := eq_true q201
                             have p202 : 0 ≤ ((ji49) : Int) := oa
                             have q202 : (ji49) < (x5_2.length : Int) := oa
                             obtain ⟨ad202, A202_0, c202_0, e202, hx202_0, hl202_0, hi202_0⟩ := at_L2 (Kd.S_reads' HO_5.out).2.2 (ji49) p202 q202
                             obtain rfl : (⟨go11, 0, none⟩ : Addr) = ad202 := (by injection e202)
                             obtain ⟨ce202, hce202, hMe202, hcc202⟩ := Kd.S_get HO_5.out [] (ji49) p202 (by first | exact q202 | exact oa | (have e_ := (Kd.S_reads' HO_5.out).1; omega))
                             obtain ⟨ve202_0, rfl, ge202_0⟩ := hMe202
                             have hv202_0 := hcc202 0 _ rfl
                             rw [Nat.add_zero, show ((Kd.slice 3 (Kd.int .i64))).sz = 1 from rfl, Nat.mul_one] at hv202_0
                             replace hv202_0 := Option.some.inj (hv202_0.symm.trans hx202_0)
                             rw [hv202_0] at ge202_0
                             have HL202_0 := Aside0.mk (show Kd.R (Kd.int .i64) 3 _ _ _ _ (rd_L2 x5_2 (ji49)) from ge202_0)
                             clear hv202_0 ge202_0
                             have HX202_0 := Aside0.mk hx202_0
                             clear hcc202 hce202
                             (first | simp only [add_plain] at hx202_0 | simp only [add_at] at hx202_0 | simp only [Addr.add, Nat.zero_add] at hx202_0 | skip)
                             have HR202_0 := Aside0.mk hi202_0
                             have HC202_0 := Aside0.mk hl202_0
                             clear hi202_0 hl202_0
                             replace p202 := eq_true p202
                             replace q202 := eq_true q202
                             have p203 : 0 ≤ (x7_2 : Int) := oa
                             have q203 : x7_2 < ((rd_L2 x5_2 (ji49)).length : Int) := oa
                             obtain ⟨ad203, e203, hx203_0⟩ := Kd.at_int (by repeat (first | (with_reducible exact HR202_0.out) | (with_reducible refine Kd.C_alloc ?_ _) | (with_reducible refine Kd.C_drewN ?_ _) | (with_reducible refine Kd.C_drew ?_) | exact HR202_0.out)) x7_2 p203 q203
                             cases e203
                             replace p203 := eq_true p203
                             replace q203 := eq_true q203
                             have p204 : 0 ≤ (x6_1 : Int) := oa
                             have q204 : x6_1 < (x5_2.length : Int) := oa
                             obtain ⟨ad204, A204_0, c204_0, e204, hx204_0, hl204_0, hi204_0⟩ := at_L2 (Kd.S_reads' HO_5.out).2.2 x6_1 p204 q204
                             obtain rfl : (⟨go11, 0, none⟩ : Addr) = ad204 := (by injection e204)
                             obtain ⟨ce204, hce204, hMe204, hcc204⟩ := Kd.S_get HO_5.out [] x6_1 p204 (by first | exact q204 | exact oa | (have e_ := (Kd.S_reads' HO_5.out).1; omega))
                             obtain ⟨ve204_0, rfl, ge204_0⟩ := hMe204
                             have hv204_0 := hcc204 0 _ rfl
                             rw [Nat.add_zero, show ((Kd.slice 3 (Kd.int .i64))).sz = 1 from rfl, Nat.mul_one] at hv204_0
                             replace hv204_0 := Option.some.inj (hv204_0.symm.trans hx204_0)
                             rw [hv204_0] at ge204_0
                             have HL204_0 := Aside0.mk (show Kd.R (Kd.int .i64) 3 _ _ _ _ (rd_L2 x5_2 x6_1) from ge204_0)
                             clear hv204_0 ge204_0
                             have HX204_0 := Aside0.mk hx204_0
                             clear hcc204 hce204
                             (first | simp only [add_plain] at hx204_0 | simp only [add_at] at hx204_0 | simp only [Addr.add, Nat.zero_add] at hx204_0 | skip)
                             have HR204_0 := Aside0.mk hi204_0
                             have HC204_0 := Aside0.mk hl204_0
                             clear hi204_0 hl204_0
                             replace p204 := eq_true p204
                             replace q204 := eq_true q204
                             have ea_ := Option.some.inj (hx201_0.symm.trans hx204_0)
                             injection ea_ with ea_ en_ ec_
                             subst ea_
                             subst ec_
                             clear en_
                             have p205 : 0 ≤ ((ji53) : Int) := oa
                             have q205 : (ji53) < ((rd_L2 x5_2 x6_1).length : Int) := oa
                             obtain ⟨ad205, e205, hx205_0⟩ := Kd.at_int (by repeat (first | (with_reducible exact HR204_0.out) | (with_reducible refine Kd.C_alloc ?_ _) | (with_reducible refine Kd.C_drewN ?_ _) | (with_reducible refine Kd.C_drew ?_) | exact HR204_0.out)) (ji53) p205 q205
                             cases e205
                             replace p205 := eq_true p205
                             replace q205 := eq_true q205
                             have p58 : 0 ≤ (x7_2 : Int) := oa
                             have q58 : (x7_2 : Int) < (((rd_L2 x5_2 x6_1).length : Int) : Int) := oa
                             obtain ⟨go58, co58, eo58, gb58, gl58, cl58, HG58⟩ := Kd.R_form HL201_0.out (by omega)
                             (first | cases eo58 | (injection eo58 with ea_ en_ ec_; (first | subst ea_ | (injection ea_ with ea_; subst ea_)); subst ec_; clear en_))
                             have GB58 := Aside0.mk gb58
                             have GG58 := Aside0.mk HG58
                             clear gb58 gl58 HG58
                             (first | simp only [add_plain] at hx205_0 | skip)
                             obtain ⟨hx58_0, hf58_0⟩ := Kd.R_celln 0 HL201_0.out (x7_2 : Int) p58 q58
                             replace p58 := eq_true p58
                             replace q58 := eq_true q58
                             have hq61 : (x6_1 : Int) < (x5_2.length : Int) := (by have h_ : (x6_1 : Int) < ((x5_2.length : Int) : Int) := oa; first | exact h_ | (have e_ := (Kd.S_reads' HO_5.out).1; omega) | simpa only [List.length_set, List.length_set] using h_)
                             obtain ⟨oki61, ce61, hcl61, hM61, hcc61, hok61, hbk61⟩ := Kd.S_borrow HO_5.out [] (x6_1 : Int) oa (by first | exact hq61 | (have e_ := (Kd.S_reads' HO_5.out).1; omega))
                             obtain ⟨ve61_0, rfl, ge61_0⟩ := hM61
                             have hv61 := hcc61 0 _ rfl
                             rw [Nat.add_zero, show ((Kd.slice 3 (Kd.int .i64))).sz = 1 from rfl, Nat.mul_one] at hv61
                             replace hv61 := Option.some.inj (hv61.symm.trans HX201_0.out)
                             subst hv61
                             clear hcc61 hcl61
                             replace ge61_0 := (show Kd.R (Kd.int .i64) 3 _ _ _ _ (rd_L2 x5_2 x6_1) from ge61_0)
                             have HP61 := Kd.R_putg ge61_0 (x7_2 : Int) ji56
                             rw [← Ny206.out] at HP61
                             have HS61 := hbk61 HP61.2 (fun k_ e_ => by injection e_ with e_; subst e_; exact ge61_0.1 _ rfl) (x' := y206) (Kd.M_row HP61.1)
                             rw [← Ny208.out] at HS61
                             have HQ61 := Aside0.mk HS61
                             clear HP61 HS61 hbk61 hok61
                             refine start_ (n := 24) (S := fun w' => w'.cell? ⟨go11, (x6_1).toNat, none⟩ = some (.slice (some (⟨go58, 0, none⟩ : Addr)) (rd_L2 x5_2 x6_1).length c201_0) ∧ w'.cell? ⟨go11, ((ji49)).toNat, none⟩ = some (.slice (some ad203) (rd_L2 x5_2 (ji49)).length c202_0) ∧ w'.cell? (ad203.add (x7_2).toNat) = some (.int .i64 (rd (rd_L2 x5_2 (ji49)) x7_2)) ∧ w'.cell? ⟨go11, (x6_1).toNat, none⟩ = some (.slice (some (⟨go58, 0, none⟩ : Addr)) (rd_L2 x5_2 x6_1).length c201_0) ∧ w'.cell? ⟨go58, ((ji53)).toNat, none⟩ = some (.int .i64 (rd (rd_L2 x5_2 x6_1) (ji53)))) (ds := [23]) #[O,O,O,O,O,O,O,O,O,O,O,O,O,O,O,O,O,O,O,O,O,O,O,O] (by kernel_rfl) rfl rfl ⟨hx201_0, hx202_0, hx203_0, hx204_0, hx205_0⟩ (fun hHeld => ?_); refine with_tabW impl_common.tab12 impl_common.bits12 (fun HT_ HW_ => ?_)
                             generalize w59.drew = w60 at HO_5 HB GG58 HL201_0 HL202_0 HL204_0 HQ61 HR201_0 HR202_0 HR204_0 HX201_0 HX202_0 HX204_0 hf58_0 hx201_0 hx202_0 hx203_0 hx204_0 hx205_0 hx58_0 hHeld ⊢
                             refine pure_ (i := 0) (N := some 66) (v := ?_) (a' := ?_) #[Y,O,O,O,O,O,O,O,O,O,O,O,O,O,O,O,O,O,O,O,O,O,O,O] rfl rfl zx (fun _ _ _ h => h) (Or.inl ⟨by rfl, ?_⟩) ?_ ?_
                             rotate_left; (intro w'; go_simp; with_reducible rfl); rotate_left; (simp only [Act.put,qa,qb,qc,i64_w,i32_w]; rfl)
                             refine pure_ (i := 1) (N := some 67) (v := ?_) (a' := ?_) #[Y,Y,O,O,O,O,O,O,O,O,O,O,O,O,O,O,O,O,O,O,O,O,O,O] rfl rfl zx (fun _ _ _ h => h) (Or.inl ⟨by rfl, ?_⟩) ?_ ?_
                             rotate_left; (intro w'; go_simp; with_reducible rfl); rotate_left; (simp only [Act.put,qa,qb,qc,i64_w,i32_w]; rfl)
                             refine pure_ (i := 2) (N := some 68) (v := ?_) (a' := ?_) #[Y,Y,Y,O,O,O,O,O,O,O,O,O,O,O,O,O,O,O,O,O,O,O,O,O] rfl rfl zx (fun _ _ _ h => h) (Or.inl ⟨by rfl, ?_⟩) ?_ ?_
                             rotate_left; (intro w'; go_simp; with_reducible rfl); rotate_left; (simp only [Act.put,qa,qb,qc,i64_w,i32_w]; rfl)
                             refine pure_ (i := 4) (N := some 70) (v := ?_) (a' := ?_) #[Y,Y,Y,O,Y,O,O,O,O,O,O,O,O,O,O,O,O,O,O,O,O,O,O,O] rfl rfl zx (fun _ _ _ h => h) (Or.inl ⟨by rfl, ?_⟩) ?_ ?_
                             rotate_left; (intro w'; go_simp; with_reducible rfl); rotate_left; (simp only [Act.put,qa,qb,qc,i64_w,i32_w]; rfl)
                             refine pure_ (i := 5) (N := some 71) (v := ?_) (a' := ?_) #[Y,Y,Y,O,Y,Y,O,O,O,O,O,O,O,O,O,O,O,O,O,O,O,O,O,O] rfl rfl zx (fun _ _ _ h => h) (Or.inl ⟨by rfl, ?_⟩) ?_ ?_
                             rotate_left; (intro w'; go_simp; with_reducible rfl); rotate_left; (simp only [Act.put,qa,qb,qc,i64_w,i32_w]; rfl)
                             refine pure_ (i := 6) (N := some 72) (v := ?_) (a' := ?_) #[Y,Y,Y,O,Y,Y,Y,O,O,O,O,O,O,O,O,O,O,O,O,O,O,O,O,O] rfl rfl zx (fun _ _ _ h => h) (Or.inl ⟨by rfl, ?_⟩) ?_ ?_
                             rotate_left; (intro w'; go_simp; with_reducible rfl); rotate_left; (simp only [Act.put,qa,qb,qc,i64_w,i32_w]; rfl)
                             refine pure_ (i := 7) (N := some 73) (v := ?_) (a' := ?_) #[Y,Y,Y,O,Y,Y,Y,Y,O,O,O,O,O,O,O,O,O,O,O,O,O,O,O,O] rfl rfl zx (fun _ _ _ h => h) (Or.inl ⟨by rfl, ?_⟩) ?_ ?_
                             rotate_left; (intro w'; go_simp; with_reducible rfl); rotate_left; (simp only [Act.put,qa,qb,qc,i64_w,i32_w]; rfl)
                             refine pure_ (i := 8) (N := some 74) (v := ?_) (a' := ?_) #[Y,Y,Y,O,Y,Y,Y,Y,Y,O,O,O,O,O,O,O,O,O,O,O,O,O,O,O] rfl rfl zx (fun _ _ _ h => h) (Or.inl ⟨by rfl, ?_⟩) ?_ ?_
                             rotate_left; (intro w'; go_simp; with_reducible rfl); rotate_left; (simp only [Act.put,qa,qb,qc,i64_w,i32_w]; rfl)
                             refine pure_ (i := 10) (N := some 76) (v := ?_) (a' := ?_) #[Y,Y,Y,O,Y,Y,Y,Y,Y,O,Y,O,O,O,O,O,O,O,O,O,O,O,O,O] rfl rfl zx (fun _ _ _ h => h) (Or.inl ⟨by rfl, ?_⟩) ?_ ?_
                             rotate_left; (intro w'; go_simp; with_reducible rfl); rotate_left; (simp only [Act.put,qa,qb,qc,i64_w,i32_w]; rfl)
                             refine pure_ (i := 13) (N := some 79) (v := ?_) (a' := ?_) #[Y,Y,Y,O,Y,Y,Y,Y,Y,O,Y,O,O,Y,O,O,O,O,O,O,O,O,O,O] rfl rfl zx (fun _ _ _ h => h) (Or.inl ⟨by rfl, ?_⟩) ?_ ?_
                             rotate_left; (intro w'; go_simp; with_reducible rfl); rotate_left; (simp only [Act.put,qa,qb,qc,i64_w,i32_w]; rfl)
                             refine pure_ (i := 14) (N := some 80) (v := ?_) (a' := ?_) #[Y,Y,Y,O,Y,Y,Y,Y,Y,O,Y,O,O,Y,Y,O,O,O,O,O,O,O,O,O] rfl rfl zx (fun _ _ _ h => h) (Or.inl ⟨by rfl, ?_⟩) ?_ ?_
                             rotate_left; (intro w'; go_simp; with_reducible rfl); rotate_left; (simp only [Act.put,qa,qb,qc,i64_w,i32_w]; rfl)
                             refine pure_ (i := 15) (N := some 81) (v := ?_) (a' := ?_) #[Y,Y,Y,O,Y,Y,Y,Y,Y,O,Y,O,O,Y,Y,Y,O,O,O,O,O,O,O,O] rfl rfl zx (fun _ _ _ h => h) (Or.inl ⟨by rfl, ?_⟩) ?_ ?_
                             rotate_left; (intro w'; go_simp; with_reducible rfl); rotate_left; (simp only [Act.put,qa,qb,qc,i64_w,i32_w]; rfl)
                             refine pure_ (i := 17) (N := some 83) (v := ?_) (a' := ?_) #[Y,Y,Y,O,Y,Y,Y,Y,Y,O,Y,O,O,Y,Y,Y,O,Y,O,O,O,O,O,O] rfl rfl zx (fun _ _ _ h => h) (Or.inl ⟨by rfl, ?_⟩) ?_ ?_
                             rotate_left; (intro w'; go_simp; with_reducible rfl); rotate_left; (simp only [Act.put,qa,qb,qc,i64_w,i32_w]; rfl)
                             refine pure_ (i := 18) (N := some 84) (v := ?_) (a' := ?_) #[Y,Y,Y,O,Y,Y,Y,Y,Y,O,Y,O,O,Y,Y,Y,O,Y,Y,O,O,O,O,O] rfl rfl zx (fun _ _ _ h => h) (Or.inl ⟨by rfl, ?_⟩) ?_ ?_
                             rotate_left; (intro w'; go_simp; with_reducible rfl); rotate_left; (simp only [Act.put,qa,qb,qc,i64_w,i32_w]; rfl)
                             refine take_ (i := 3) (N := some 69) (v := ?_) (a' := ?_) #[Y,Y,Y,Y,Y,Y,Y,Y,Y,O,Y,O,O,Y,Y,Y,O,Y,Y,O,O,O,O,O] rfl rfl (take_ofW HT_.out HW_.out (by kernel_rfl)) (fun _ _ _ h => h) (Or.inl ⟨by rfl, ?_⟩) hHeld ?_ ?_
                             rotate_left; (rintro w' ⟨s0, s1, s2, s3, s4⟩; go_simp; with_reducible rfl); rotate_left; (simp only [Act.put,qa,qb,qc,i64_w,i32_w]; rfl)
                             refine take_ (i := 9) (N := some 75) (v := ?_) (a' := ?_) #[Y,Y,Y,Y,Y,Y,Y,Y,Y,Y,Y,O,O,Y,Y,Y,O,Y,Y,O,O,O,O,O] rfl rfl (take_ofW HT_.out HW_.out (by kernel_rfl)) (fun _ _ _ h => h) (Or.inl ⟨by rfl, ?_⟩) hHeld ?_ ?_
                             rotate_left; (rintro w' ⟨s0, s1, s2, s3, s4⟩; go_simp; with_reducible rfl); rotate_left; (simp only [Act.put,qa,qb,qc,i64_w,i32_w]; rfl)
                             refine pure_ (i := 11) (N := some 77) (v := ?_) (a' := ?_) #[Y,Y,Y,Y,Y,Y,Y,Y,Y,Y,Y,Y,O,Y,Y,Y,O,Y,Y,O,O,O,O,O] rfl rfl zx (fun _ _ _ h => h) (Or.inl ⟨by rfl, ?_⟩) ?_ ?_
                             rotate_left; (intro w'; go_simp; with_reducible rfl); rotate_left; (simp only [Act.put,qa,qb,qc,i64_w,i32_w]; rfl)
                             refine take_ (i := 12) (N := some 78) (v := ?_) (a' := ?_) #[Y,Y,Y,Y,Y,Y,Y,Y,Y,Y,Y,Y,Y,Y,Y,Y,O,Y,Y,O,O,O,O,O] rfl rfl (take_ofW HT_.out HW_.out (by kernel_rfl)) (fun _ _ _ h => h) (Or.inl ⟨by rfl, ?_⟩) hHeld ?_ ?_
                             rotate_left; (rintro w' ⟨s0, s1, s2, s3, s4⟩; go_simp; with_reducible rfl); rotate_left; (simp only [Act.put,qa,qb,qc,i64_w,i32_w]; rfl)
                             refine take_ (i := 16) (N := some 82) (v := ?_) (a' := ?_) #[Y,Y,Y,Y,Y,Y,Y,Y,Y,Y,Y,Y,Y,Y,Y,Y,Y,Y,Y,O,O,O,O,O] rfl rfl (take_ofW HT_.out HW_.out (by kernel_rfl)) (fun _ _ _ h => h) (Or.inl ⟨by rfl, ?_⟩) hHeld ?_ ?_
                             rotate_left; (rintro w' ⟨s0, s1, s2, s3, s4⟩; go_simp; with_reducible rfl); rotate_left; (simp only [Act.put,qa,qb,qc,i64_w,i32_w]; rfl)
                             refine pure_ (i := 19) (N := some 85) (v := ?_) (a' := ?_) #[Y,Y,Y,Y,Y,Y,Y,Y,Y,Y,Y,Y,Y,Y,Y,Y,Y,Y,Y,Y,O,O,O,O] rfl rfl zx (fun _ _ _ h => h) (Or.inl ⟨by rfl, ?_⟩) ?_ ?_
                             rotate_left; (intro w'; go_simp; with_reducible rfl); rotate_left; (simp only [Act.put,qa,qb,qc,i64_w,i32_w]; rfl)
                             refine take_ (i := 20) (N := some 86) (v := ?_) (a' := ?_) #[Y,Y,Y,Y,Y,Y,Y,Y,Y,Y,Y,Y,Y,Y,Y,Y,Y,Y,Y,Y,Y,O,O,O] rfl rfl (take_ofW HT_.out HW_.out (by kernel_rfl)) (fun _ _ _ h => h) (Or.inl ⟨by rfl, ?_⟩) hHeld ?_ ?_
                             rotate_left; (rintro w' ⟨s0, s1, s2, s3, s4⟩; go_simp; with_reducible rfl); rotate_left; (simp only [Act.put,qa,qb,qc,i64_w,i32_w]; rfl)
                             refine pure_ (i := 21) (N := some 87) (v := ?_) (a' := ?_) #[Y,Y,Y,Y,Y,Y,Y,Y,Y,Y,Y,Y,Y,Y,Y,Y,Y,Y,Y,Y,Y,Y,O,O] rfl rfl zx (fun _ _ _ h => h) (Or.inl ⟨by rfl, ?_⟩) ?_ ?_
                             rotate_left; (intro w'; go_simp; with_reducible rfl); rotate_left; (simp only [Act.put,qa,qb,qc,i64_w,i32_w]; rfl)
                             refine pure_ (i := 22) (N := some 88) (v := ?_) (a' := ?_) #[Y,Y,Y,Y,Y,Y,Y,Y,Y,Y,Y,Y,Y,Y,Y,Y,Y,Y,Y,Y,Y,Y,Y,O] rfl rfl zx (fun _ _ _ h => h) (Or.inl ⟨by rfl, ?_⟩) ?_ ?_
                             rotate_left; (intro w'; go_simp; with_reducible rfl); rotate_left; (simp only [Act.put,qa,qb,qc,i64_w,i32_w]; rfl)
                             refine last_ (i := 23) (N := none) #[Y,Y,Y,Y,Y,Y,Y,Y,Y,Y,Y,Y,Y,Y,Y,Y,Y,Y,Y,Y,Y,Y,Y,Y] rfl rfl (one_of HT_.out (by kernel_rfl)) (by decide) (fun K hK => ?_)
                             refine skip_ (w1 := ?_) (by rfl) rfl ?_ ?_
                             rotate_left
                             ·go_simp
                              rfl
                             refine hK.out _ _ ?_
                             clear hK K
                             refine done_ (done_of HT_.out (by kernel_rfl)) ?_
                             try go_wp2
                             (try simp only [← hl5_2])
                             go_roundg k2
                             case measure => have := HK1.out; have := HK2.out; omega
                             case rel => exact ⟨(y208), (wrap64 (x7_2 - 1)), zf, H', ⟨by have := HK1.out; have := HK2.out; omega⟩, ⟨by (try simp only [hl5_1]); (try simp only [hl5_2]); (with_reducible repeat (first | apply Kd.S_alloc | apply Kd.S_drewN | apply Kd.S_drew)); exact HQ61.out⟩, ⟨by repeat (first | (with_reducible first | exact HB.out | apply below_alloc | apply pw_below_drewN | apply below_drew1 | refine below_set ?_ GB58.out) | exact HB.out)⟩⟩
                            ·rw [if_neg c57] at H
                             exact absurd H (by simp)
                           ·rw [if_neg c55] at H
                            exact absurd H (by simp)
                          ·rw [if_neg c54] at H
                           exact absurd H (by simp)
                         ·rw [if_neg c52] at H
                          exact absurd H (by simp)
                        ·rw [if_neg c51] at H
                         exact absurd H (by simp)
                       ·rw [if_neg c50] at H
                        exact absurd H (by simp)
                      ·rw [if_neg c48] at H
                       exact absurd H (by simp)
                    ·rw [if_neg c33] at H
                     exact absurd H (by simp)
                   ·rw [if_neg c32] at H
                    exact absurd H (by simp)
                  ·rw [if_neg c31] at H
                   exact absurd H (by simp)
                 ·rw [if_neg c30] at H
                  exact absurd H (by simp)
                ·rw [if_neg c29] at H
                 have c29b0 : decide (0 ≤ x7_2) = false := decide_eq_false c29
                 (try (have c29b0h := c29b0; simp only [hl5_1] at c29b0h))
                 (try (have c29b0h := c29b0; simp only [hl5_2] at c29b0h))
                 clear c29
                 have H' := Aside0.mk H
                 clear H
                 go_wp2
                 (try simp only [← hl5_1, ← hl5_2])
                 go_roundg k2
                 case measure => have := HK1.out; have := HK2.out; omega
                 case rel => exact ⟨(x5_2), (wrap64 (x6_1 - 1)), zf, H', ⟨by have := HK1.out; have := HK2.out; omega⟩, ⟨by (try simp only [hl5_1]); (try simp only [hl5_2]); (with_reducible repeat (first | apply Kd.S_alloc | apply Kd.S_drewN | apply Kd.S_drew)); exact HO_5.out⟩, ⟨by repeat (first | (with_reducible first | exact HB.out | apply below_alloc | apply pw_below_drewN | apply below_drew1) | exact HB.out)⟩⟩
             ·rw [if_neg c23] at H
              exact absurd H (by simp)
            ·rw [if_neg c22] at H
             exact absurd H (by simp)
           ·rw [if_neg c21] at H
            exact absurd H (by simp)
          ·rw [if_neg c20] at H
           exact absurd H (by simp)
         ·rw [if_neg c18] at H
          have c18b0 : decide (0 ≤ x6_1) = false := decide_eq_false c18
          (try (have c18b0h := c18b0; simp only [hl5_1] at c18b0h))
          clear c18
          obtain rfl := Option.some.inj H
          go_wp2
          go_ret
          exact ⟨_, by first | rfl | (simp [errW_none, errW_some] <;> rfl) | (simp only [← hji3, ← hji6]; first | rfl | (simp [errW_none, errW_some] <;> rfl)) | (simp [*, errW_none, errW_some] <;> rfl), by (with_reducible repeat (first | apply Kd.S_alloc | apply Kd.S_drewN | apply Kd.S_drew)); exact HO_5.out, by repeat (first | (with_reducible first | exact HB.out | apply below_alloc | apply pw_below_drewN | apply below_drew1) | exact HB.out)⟩
      ·rw [if_neg c10] at H
       exact absurd H (by simp)
     ·rw [if_neg c9] at H
      exact absurd H (by simp)
    ·rw [if_neg c8] at H
     exact absurd H (by simp)
   ·rw [if_neg c7] at H
    exact absurd H (by simp)
  ·rw [if_neg c5] at H
   exact absurd H (by simp)
 ·rw [if_neg c4] at H
  exact absurd H (by simp)

end Go.Proofs.Ytlhpkapbaijnhaa.My

/- Written by this session's program (wip/gen): a plain function with the same answers as the Go function, and the proof that the Go code comes to them. Asked: that the plain function has an answer. -/
namespace Go.Proofs.Ytlhpkapbaijnhaa.My
open Go.RowKit Go.Proofs.YtlhpkapbaijnhaaW.PrintWords Go.Proofs.YtlhpkapbaijnhaaW.PrintLast Go.Proofs.YtlhpkapbaijnhaaW.PrintMore
attribute [local go_sem] max2_int min2_int max_two min_two max_three min_three max_four min_four
set_option linter.unusedVariables false
set_option linter.unusedSimpArgs false

/-! ### impl_farApart: function 46 -/
def impl_farApart.f (k : Nat) (l0 : List ByteArray) (l1 : List ByteArray) : Option (Int) := (impl_common.f k l0 l1).bind fun t394 => (if 0 < (t394.length : Int) then (if 0 < ((rd_L2 t394 0).length : Int) then (some (wrap64 ((wrap64 ((l0.length : Int) + (l1.length : Int))) - (wrap64 (2 * (rd (rd_L2 t394 0) 0)))))) else (none)) else (none))
set_option maxHeartbeats 8000000 in
set_option maxRecDepth 100000 in
theorem impl_farApart.calls (k : Nat) (A0 : Option Addr) (c0 : Nat) (l0 : List ByteArray) (A1 : Option Addr) (c1 : Nat) (l1 : List ByteArray) (r : Int) (w : World) (hr0 : Kd.C Kd.string w A0 l0.length l0) (hc0 : l0.length ≤ c0) (hr1 : Kd.C Kd.string w A1 l1.length l1) (hc1 : l1.length ≤ c1) (h : impl_farApart.f k l0 l1 = some r) :
  Calls Try.prog 46 #[.slice A0 l0.length c0, .slice A1 l1.length c1] w fun e w' => e = .returned (.int .i64 r) ∧ Below w.heap.size w w' := by
 have HR0 := Aside0.mk hr0
 have HC0 := Aside0.mk hc0
 clear hr0 hc0
 have HR1 := Aside0.mk hr1
 have HC1 := Aside0.mk hc1
 clear hr1 hc1
 have HB := Aside0.mk (Below.refl w.heap.size w)
 have H : ((impl_common.f k l0 l1).bind fun t394 => (if 0 < (t394.length : Int) then (if 0 < ((rd_L2 t394 0).length : Int) then (some (wrap64 ((wrap64 ((l0.length : Int) + (l1.length : Int))) - (wrap64 (2 * (rd (rd_L2 t394 0) 0)))))) else (none)) else (none))) = some r := h
 clear h
 replace H := Option.bind_eq_some_iff.mp H
 obtain ⟨t394, A30, H⟩ := H
 replace H : (if 0 < (t394.length : Int) then (if 0 < ((rd_L2 t394 0).length : Int) then (some (wrap64 ((wrap64 ((l0.length : Int) + (l1.length : Int))) - (wrap64 (2 * (rd (rd_L2 t394 0) 0)))))) else (none)) else (none)) = some r := H
 have A3 := Aside0.mk A30
 clear A30
 by_cases c4 : 0 < (t394.length : Int)
 ·rw [if_pos c4] at H
  have c4b0 : decide (0 < (t394.length : Int)) = true := decide_eq_true c4
  have c4b1 : decide (0 < t394.length) = true := decide_eq_true (by omega)
  clear c4
  by_cases c5 : 0 < ((rd_L2 t394 0).length : Int)
  ·rw [if_pos c5] at H
   have c5b0 : decide (0 < ((rd_L2 t394 0).length : Int)) = true := decide_eq_true c5
   have c5b1 : decide (0 < (rd_L2 t394 0).length) = true := decide_eq_true (by omega)
   clear c5
   obtain rfl := Option.some.inj H
   go_enter Try.func46, Try.ntmps46
   go_wp2_with (first | ((with_reducible refine gateC (f := 49) rfl ?_); refine goesL_ (some 12) rfl rfl Try.func49 (by kernel_rfl) rfl #[.slice A0 l0.length c0, .slice A1 l1.length c1] rfl zm ?_; (with_reducible refine (impl_common.calls k _ _ l0 _ _ l1 t394 _ ?side1 ?side2 ?side3 ?side4 A3.out).mono ?_); (case side1 => exact zq HR0.out); (case side2 => exact HC0.out); (case side3 => exact zq HR1.out); (case side4 => exact HC1.out); rintro e w6 ⟨v395, rfl, ho0, hb⟩; refine ⟨_, rfl, ?_⟩; have n0_ := Aside0.mk (Kd.S_lower ho0 (below_size zb)); have n1_ := Aside0.mk (below_step zb hb); clear HB; have HO396 := n0_; have HB := n1_; clear n0_ n1_; (try clear hb); (try clear hb2); (try clear hk); (try clear hi); (try clear ho0); obtain ⟨Ao7, co7, eo7⟩ := Kd.S_slice HO396.out; subst eo7; have p397 : 0 ≤ (0 : Int) := (by omega); have q397 : 0 < (t394.length : Int) := oa; obtain ⟨ad397, A397_0, c397_0, e397, hx397_0, hl397_0, hi397_0⟩ := at_L2 (Kd.S_reads' HO396.out).2.2 0 p397 q397; cases e397; obtain ⟨ce397, hce397, hMe397, hcc397⟩ := Kd.S_get HO396.out [] 0 p397 (by first | exact q397 | exact oa | (have e_ := (Kd.S_reads' HO396.out).1; omega)); obtain ⟨ve397_0, rfl, ge397_0⟩ := hMe397; have hv397_0 := hcc397 0 _ rfl; rw [Nat.add_zero, show ((Kd.slice 3 (Kd.int .i64))).sz = 1 from rfl, Nat.mul_one] at hv397_0; replace hv397_0 := Option.some.inj (hv397_0.symm.trans hx397_0); rw [hv397_0] at ge397_0; have HL397_0 := Aside0.mk (show Kd.R (Kd.int .i64) 3 _ _ _ _ (rd_L2 t394 0) from ge397_0); clear hv397_0 ge397_0; clear hcc397 hce397; have qi397 : (0 < t394.length) = True := eq_true (by omega); (try rw [show ((0 : Int)).toNat = 0 from rfl] at hx397_0); (try rw [Addr.add_zero'] at hx397_0); have HR397_0 := Aside0.mk hi397_0; have HC397_0 := Aside0.mk hl397_0; clear hi397_0 hl397_0; replace p397 := eq_true p397; replace q397 := eq_true q397; have p398 : 0 ≤ (0 : Int) := (by omega); have q398 : 0 < ((rd_L2 t394 0).length : Int) := oa; obtain ⟨ad398, e398, hx398_0⟩ := Kd.at_int (by repeat (first | (with_reducible exact HR397_0.out) | (with_reducible refine Kd.C_alloc ?_ _) | (with_reducible refine Kd.C_drewN ?_ _) | (with_reducible refine Kd.C_drew ?_) | exact HR397_0.out)) 0 p398 q398; cases e398; have qi398 : (0 < (rd_L2 t394 0).length) = True := eq_true (by omega); (try rw [show ((0 : Int)).toNat = 0 from rfl] at hx398_0); (try rw [Addr.add_zero'] at hx398_0); replace p398 := eq_true p398; replace q398 := eq_true q398))
   go_ret
   exact ⟨by first | rfl | (simp [errW_none, errW_some] <;> rfl) | (simp [*, errW_none, errW_some] <;> rfl), by repeat (first | (with_reducible first | exact HB.out | apply below_alloc | apply pw_below_drewN | apply below_drew1) | exact HB.out)⟩
  ·rw [if_neg c5] at H
   exact absurd H (by simp)
 ·rw [if_neg c4] at H
  exact absurd H (by simp)

end Go.Proofs.Ytlhpkapbaijnhaa.My

/- Written by this session's program (wip/gen): a plain function with the same answers as the Go function, and the proof that the Go code comes to them. Asked: that the plain function has an answer. -/
namespace Go.Proofs.Ytlhpkapbaijnhaa.My
open Go.RowKit Go.Proofs.YtlhpkapbaijnhaaW.PrintWords Go.Proofs.YtlhpkapbaijnhaaW.PrintLast Go.Proofs.YtlhpkapbaijnhaaW.PrintMore
attribute [local go_sem] max2_int min2_int max_two min_two max_three min_three max_four min_four
set_option linter.unusedVariables false
set_option linter.unusedSimpArgs false

/-! ### impl_IsLeast: function 18 -/
def impl_IsLeast.f (k : Nat) (l0 : List ByteArray) (l1 : List (S62)) : Option (Bool × Bool) := (impl_Patch.f k l0 l1).bind fun bt399 => (if bt399.2 = true then ((impl_counts.f k l1).bind fun bt403 => ((impl_farApart.f k l0 bt399.1).bind fun t405 => (some (((wrap64 (bt403.1 + bt403.2)) == t405), true)))) else (some (false, false)))
set_option maxHeartbeats 8000000 in
set_option maxRecDepth 100000 in
theorem impl_IsLeast.calls (k : Nat) (A0 : Option Addr) (c0 : Nat) (l0 : List ByteArray) (A1 : Option Addr) (c1 : Nat) (l1 : List (S62)) (r1 : Bool) (r2 : Bool) (w : World) (hr0 : Kd.C Kd.string w A0 l0.length l0) (hc0 : l0.length ≤ c0) (hr1 : Kd.C k62 w A1 l1.length l1) (hc1 : l1.length ≤ c1) (h : impl_IsLeast.f k l0 l1 = some (r1, r2)) :
  Calls Try.prog 18 #[.slice A0 l0.length c0, .slice A1 l1.length c1] w fun e w' => e = .returned (.tuple #[.bool r1, .bool r2]) ∧ Below w.heap.size w w' := by
 have HR0 := Aside0.mk hr0
 have HC0 := Aside0.mk hc0
 clear hr0 hc0
 have HR1 := Aside0.mk hr1
 have HC1 := Aside0.mk hc1
 clear hr1 hc1
 have HB := Aside0.mk (Below.refl w.heap.size w)
 have H : ((impl_Patch.f k l0 l1).bind fun bt399 => (if bt399.2 = true then ((impl_counts.f k l1).bind fun bt403 => ((impl_farApart.f k l0 bt399.1).bind fun t405 => (some (((wrap64 (bt403.1 + bt403.2)) == t405), true)))) else (some (false, false)))) = some (r1, r2) := h
 clear h
 replace H := Option.bind_eq_some_iff.mp H
 obtain ⟨⟨t399, t400⟩, A30, H⟩ := H
 replace H : (if t400 = true then ((impl_counts.f k l1).bind fun bt403 => ((impl_farApart.f k l0 t399).bind fun t405 => (some (((wrap64 (bt403.1 + bt403.2)) == t405), true)))) else (some (false, false))) = some (r1, r2) := H
 have A3 := Aside0.mk A30
 clear A30
 by_cases c4 : t400 = true
 ·subst c4
  have H1 : ((impl_counts.f k l1).bind fun bt403 => ((impl_farApart.f k l0 t399).bind fun t405 => (some (((wrap64 (bt403.1 + bt403.2)) == t405), true)))) = some (r1, r2) := by rw [if_pos rfl] at H; exact H
  clear H
  have H := H1
  clear H1
  replace H := Option.bind_eq_some_iff.mp H
  obtain ⟨⟨t403, t404⟩, A50, H⟩ := H
  replace H : ((impl_farApart.f k l0 t399).bind fun t405 => (some (((wrap64 (t403 + t404)) == t405), true))) = some (r1, r2) := H
  have A5 := Aside0.mk A50
  clear A50
  replace H := Option.bind_eq_some_iff.mp H
  obtain ⟨t405, A60, H⟩ := H
  replace H : (some (((wrap64 (t403 + t404)) == t405), true)) = some (r1, r2) := H
  have A6 := Aside0.mk A60
  clear A60
  simp only [Option.some.injEq, Prod.mk.injEq] at H
  obtain ⟨rfl, rfl⟩ := H
  go_enter Try.func18, Try.ntmps18
  go_wp2_with (first | ((with_reducible refine gateC (f := 44) rfl ?_); refine goesL_ (some 13) rfl rfl Try.func44 (by kernel_rfl) rfl #[.slice A0 l0.length c0, .slice A1 l1.length c1] rfl zm ?_; (with_reducible refine (impl_Patch.calls k _ _ l0 _ _ l1 t399 true _ ?side1 ?side2 ?side3 ?side4 A3.out).mono ?_); (case side1 => exact zq HR0.out); (case side2 => exact HC0.out); (case side3 => exact zq HR1.out); (case side4 => exact HC1.out); rintro e w7 ⟨v401, rfl, ho0, hb⟩; refine ⟨_, rfl, ?_⟩; have n0_ := Aside0.mk (Kd.R_lower ho0 (below_size zb)); have n1_ := Aside0.mk (below_step zb hb); clear HB; have HO402 := n0_; have HB := n1_; clear n0_ n1_; (try clear hb); (try clear hb2); (try clear hk); (try clear hi); (try clear ho0)) | ((with_reducible refine gateC (f := 45) rfl ?_); refine goesL_ (some 20) rfl rfl Try.func45 (by kernel_rfl) rfl #[.slice A1 l1.length c1] rfl zm ?_; (with_reducible refine (impl_counts.calls k _ _ l1 t403 t404 _ ?side1 ?side2 A5.out).mono ?_); (case side1 => exact zq (Kd.C_below HR1.out HB.out)); (case side2 => exact HC1.out); rintro e w8 ⟨rfl, hb⟩; refine ⟨_, rfl, ?_⟩; have n0_ := Aside0.mk (Kd.R_below (zr HO402.out) hb); have n1_ := Aside0.mk (below_step zb hb); clear HO402; clear HB; have HO402 := n0_; have HB := n1_; clear n0_ n1_; (try clear hb); (try clear hb2); (try clear hk); (try clear hi); obtain ⟨Ao9, co9, eo9⟩ := Kd.R_slice HO402.out; subst eo9) | ((with_reducible refine gateC (f := 46) rfl ?_); refine goesL_ (some 28) rfl rfl Try.func46 (by kernel_rfl) rfl #[.slice A0 l0.length c0, .slice Ao9 t399.length co9] rfl zm ?_; (with_reducible refine (impl_farApart.calls k _ _ l0 _ _ t399 t405 _ ?side1 ?side2 ?side3 ?side4 A6.out).mono ?_); (case side1 => exact zq (Kd.C_below HR0.out HB.out)); (case side2 => exact HC0.out); (case side3 => repeat (first | exact (Kd.R_reads' HO402.out).2.2 | (with_reducible refine Kd.C_alloc ?_ _) | (with_reducible refine Kd.C_drewN ?_ _) | (with_reducible refine Kd.C_drew ?_))); (case side4 => exact (Kd.R_reads' HO402.out).2.1); rintro e w10 ⟨rfl, hb⟩; refine ⟨_, rfl, ?_⟩; have n0_ := Aside0.mk (Kd.R_below (zr HO402.out) hb); have n1_ := Aside0.mk (below_step zb hb); clear HO402; clear HB; have HO402 := n0_; have HB := n1_; clear n0_ n1_; (try clear hb); (try clear hb2); (try clear hk); (try clear hi)))
  go_ret2
  exact ⟨by first | rfl | (simp [errW_none, errW_some] <;> rfl) | (simp [*, errW_none, errW_some] <;> rfl), by repeat (first | (with_reducible first | exact HB.out | apply below_alloc | apply pw_below_drewN | apply below_drew1) | exact HB.out)⟩
 ·replace c4 := Bool.eq_false_iff.mpr c4
  subst c4
  have H1 : (some (false, false)) = some (r1, r2) := by rw [if_neg (show ¬ (false = true) by decide)] at H; exact H
  clear H
  have H := H1
  clear H1
  simp only [Option.some.injEq, Prod.mk.injEq] at H
  obtain ⟨rfl, rfl⟩ := H
  go_enter Try.func18, Try.ntmps18
  go_wp2_with (first | ((with_reducible refine gateC (f := 44) rfl ?_); refine goesL_ (some 13) rfl rfl Try.func44 (by kernel_rfl) rfl #[.slice A0 l0.length c0, .slice A1 l1.length c1] rfl zm ?_; (with_reducible refine (impl_Patch.calls k _ _ l0 _ _ l1 t399 false _ ?side1 ?side2 ?side3 ?side4 A3.out).mono ?_); (case side1 => exact zq HR0.out); (case side2 => exact HC0.out); (case side3 => exact zq HR1.out); (case side4 => exact HC1.out); rintro e w11 ⟨v401, rfl, ho0, hb⟩; refine ⟨_, rfl, ?_⟩; have n0_ := Aside0.mk (Kd.R_lower ho0 (below_size zb)); have n1_ := Aside0.mk (below_step zb hb); clear HB; have HO402 := n0_; have HB := n1_; clear n0_ n1_; (try clear hb); (try clear hb2); (try clear hk); (try clear hi); (try clear ho0)))
  go_ret2
  exact ⟨by first | rfl | (simp [errW_none, errW_some] <;> rfl) | (simp [*, errW_none, errW_some] <;> rfl), by repeat (first | (with_reducible first | exact HB.out | apply below_alloc | apply pw_below_drewN | apply below_drew1) | exact HB.out)⟩

end Go.Proofs.Ytlhpkapbaijnhaa.My

/- Written by this session's program (wip/gen): a plain function with the same answers as the Go function, and the proof that the Go code comes to them. Asked: that the plain function has an answer. -/
namespace Go.Proofs.Ytlhpkapbaijnhaa.My
open Go.RowKit Go.Proofs.YtlhpkapbaijnhaaW.PrintWords Go.Proofs.YtlhpkapbaijnhaaW.PrintLast Go.Proofs.YtlhpkapbaijnhaaW.PrintMore
attribute [local go_sem] max2_int min2_int max_two min_two max_three min_three max_four min_four
set_option linter.unusedVariables false
set_option linter.unusedSimpArgs false

/-! ### laws_eqStringS: function 11 -/
def laws_eqStringS.l0 : Nat → List ByteArray → List ByteArray → Int → Option (Bool)
 | 0, _, _, _ => none
 | k + 1, x0, x1, x5 => if x5 < (x0.length : Int) then (if 0 ≤ x5 then (if x5 < (x1.length : Int) then (if (rdOf ByteArray.empty x0 x5).toList = (rdOf ByteArray.empty x1 x5).toList then (laws_eqStringS.l0 k x0 x1 (wrap64 (x5 + 1))) else (some false)) else (none)) else (none)) else (some true)
def laws_eqStringS.f (k : Nat) (l0 : List ByteArray) (l1 : List ByteArray) : Option (Bool) := if (l0.length : Int) = (l1.length : Int) then (laws_eqStringS.l0 k l0 l1 0) else (some false)
set_option maxHeartbeats 8000000 in
set_option maxRecDepth 100000 in
theorem laws_eqStringS.calls (k : Nat) (A0 : Option Addr) (c0 : Nat) (l0 : List ByteArray) (A1 : Option Addr) (c1 : Nat) (l1 : List ByteArray) (r : Bool) (w : World) (hr0 : Kd.C Kd.string w A0 l0.length l0) (hc0 : l0.length ≤ c0) (hr1 : Kd.C Kd.string w A1 l1.length l1) (hc1 : l1.length ≤ c1) (h : laws_eqStringS.f k l0 l1 = some r) :
  Calls Try.prog 11 #[.slice A0 l0.length c0, .slice A1 l1.length c1] w fun e w' => e = .returned (.bool r) ∧ Drawn0 w w' := by
 have HR0 := Aside0.mk hr0
 have HC0 := Aside0.mk hc0
 clear hr0 hc0
 have HR1 := Aside0.mk hr1
 have HC1 := Aside0.mk hc1
 clear hr1 hc1
 have H : (if (l0.length : Int) = (l1.length : Int) then (laws_eqStringS.l0 k l0 l1 0) else (some false)) = some r := h
 clear h
 by_cases c3 : (l0.length : Int) = (l1.length : Int)
 ·rw [if_pos c3] at H
  have c3b0 : ((l0.length : Int) == (l1.length : Int)) = true := beq_iff_eq.mpr c3
  have c3b1 : ((l0.length : Int) != (l1.length : Int)) = false := bne_eq_false_iff_eq.mpr c3
  have c3b2 : (l0.length == l1.length) = true := by first | simpa using c3 | (simp at c3 ⊢; omega)
  clear c3
  have H' := Aside0.mk H
  clear H
  go_enter Try.func11, Try.ntmps11
  go_wp2
  repeat (go_quiet (fail); try go_wp2)
  go_loopg [5] k (fun kq v5 w' => ∃ (x5_1 : Int), v5 = .int .i64 x5_1 ∧ Aside0 (laws_eqStringS.l0 kq l0 l1 x5_1 = some r) ∧ Aside0 (kq ≤ k) ∧ Drawn0 w w')
  case atStart => exact ⟨(0), zf, H', ⟨Nat.le_refl _⟩, by repeat (first | exact Drawn0.refl _ | apply Drawn0.step)⟩
  case round =>
   clear H'
   try clear c1
   try clear p2
   try clear c3
   try clear c3b0
   try clear c3b1
   try clear c3b2
   obtain ⟨x5_1, rfl, HA, HK1, ⟨m1, rfl⟩⟩ := hrel
   cases gk with
   | zero => exact absurd HA.out (by simp [laws_eqStringS.l0])
   | succ k1 =>
    have H := HA.out
    clear HA
    simp only [laws_eqStringS.l0] at H
    by_cases c4 : x5_1 < (l0.length : Int)
    ·rw [if_pos c4] at H
     have c4b0 : decide (x5_1 < (l0.length : Int)) = true := decide_eq_true c4
     clear c4
     by_cases c5 : 0 ≤ x5_1
     ·rw [if_pos c5] at H
      have c5b0 : decide (0 ≤ x5_1) = true := decide_eq_true c5
      clear c5
      by_cases c6 : x5_1 < (l1.length : Int)
      ·rw [if_pos c6] at H
       have c6b0 : decide (x5_1 < (l1.length : Int)) = true := decide_eq_true c6
       clear c6
       by_cases c7 : (rdOf ByteArray.empty l0 x5_1).toList = (rdOf ByteArray.empty l1 x5_1).toList
       ·rw [if_pos c7] at H
        have c7b0 : ((rdOf ByteArray.empty l0 x5_1).toList == (rdOf ByteArray.empty l1 x5_1).toList) = true := beq_iff_eq.mpr c7
        have c7b1 : ((rdOf ByteArray.empty l0 x5_1).toList != (rdOf ByteArray.empty l1 x5_1).toList) = false := bne_eq_false_iff_eq.mpr c7
        clear c7
        have H' := Aside0.mk H
        clear H
        have p237 : 0 ≤ (x5_1 : Int) := oa
        have q237 : x5_1 < (l0.length : Int) := oa
        obtain ⟨ad237, e237, hx237_0⟩ := Kd.at_string HR0.out x5_1 p237 q237
        cases e237
        replace p237 := eq_true p237
        replace q237 := eq_true q237
        have p238 : 0 ≤ (x5_1 : Int) := oa
        have q238 : x5_1 < (l1.length : Int) := oa
        obtain ⟨ad238, e238, hx238_0⟩ := Kd.at_string HR1.out x5_1 p238 q238
        cases e238
        replace p238 := eq_true p238
        replace q238 := eq_true q238
        go_wp2
        repeat (go_quiet (fail); try go_wp2)
        go_roundg k1
        case measure => have := HK1.out; omega
        case rel => exact ⟨(wrap64 (x5_1 + 1)), zf, H', ⟨by have := HK1.out; omega⟩, by repeat (first | exact Drawn0.refl _ | apply Drawn0.step)⟩
       ·rw [if_neg c7] at H
        have c7b0 : ((rdOf ByteArray.empty l0 x5_1).toList == (rdOf ByteArray.empty l1 x5_1).toList) = false := beq_eq_false_iff_ne.mpr c7
        have c7b1 : ((rdOf ByteArray.empty l0 x5_1).toList != (rdOf ByteArray.empty l1 x5_1).toList) = true := bne_iff_ne.mpr c7
        obtain rfl := Option.some.inj H
        have p237 : 0 ≤ (x5_1 : Int) := oa
        have q237 : x5_1 < (l0.length : Int) := oa
        obtain ⟨ad237, e237, hx237_0⟩ := Kd.at_string HR0.out x5_1 p237 q237
        cases e237
        replace p237 := eq_true p237
        replace q237 := eq_true q237
        have p238 : 0 ≤ (x5_1 : Int) := oa
        have q238 : x5_1 < (l1.length : Int) := oa
        obtain ⟨ad238, e238, hx238_0⟩ := Kd.at_string HR1.out x5_1 p238 q238
        cases e238
        replace p238 := eq_true p238
        replace q238 := eq_true q238
        go_wp2
        repeat (go_quiet (fail); try go_wp2)
        go_ret
        exact ⟨by first | rfl | (simp; done) | (simp [*]; done), by repeat (first | exact Drawn0.refl _ | apply Drawn0.step)⟩
      ·rw [if_neg c6] at H
       exact absurd H (by simp)
     ·rw [if_neg c5] at H
      exact absurd H (by simp)
    ·rw [if_neg c4] at H
     have c4b0 : decide (x5_1 < (l0.length : Int)) = false := decide_eq_false c4
     clear c4
     obtain rfl := Option.some.inj H
     go_wp2
     repeat (go_quiet (fail); try go_wp2)
     go_ret
     exact ⟨by first | rfl | (simp; done) | (simp [*]; done), by repeat (first | exact Drawn0.refl _ | apply Drawn0.step)⟩
 ·rw [if_neg c3] at H
  have c3b0 : ((l0.length : Int) == (l1.length : Int)) = false := beq_eq_false_iff_ne.mpr c3
  have c3b1 : ((l0.length : Int) != (l1.length : Int)) = true := bne_iff_ne.mpr c3
  have c3b2 : (l0.length == l1.length) = false := by first | simpa using c3 | (simp at c3 ⊢; omega)
  obtain rfl := Option.some.inj H
  go_enter Try.func11, Try.ntmps11
  go_wp2
  repeat (go_quiet (fail); try go_wp2)
  go_ret
  exact ⟨by first | rfl | (simp; done) | (simp [*]; done), by repeat (first | exact Drawn0.refl _ | apply Drawn0.step)⟩

end Go.Proofs.Ytlhpkapbaijnhaa.My
