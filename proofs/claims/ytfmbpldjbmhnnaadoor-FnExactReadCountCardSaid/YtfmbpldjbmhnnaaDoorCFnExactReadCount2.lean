/- Part 2 of 3 of a proof of this sentence: The Go function loop.example/g00825/laws.FnExactReadCount returns true for every input, and each argument reads afterwards as it read before. No condition. -/
import Derived.Test.YtfmbpldjbmhnnaaDoorProg
import Derived.Below
import Derived.Deep.Draws
import Derived.Deep.AppendLies
import Derived.Maps.AppendAt
import Derived.OwnWalk
import Derived.Laws.BytesArg
import Derived.Laws.MakeOwn
import Derived.Laws.OwnMore
import Derived.Deep.OwnRows
import Derived.Tactics
import Derived.Lib.ConvBytes
import Derived.Laws.Slices
import Derived.WalkKit
import Derived.KernelRfl
import Derived.RowKit3
import Derived.Deep.LoopGhost
import Derived.Deep.QuietTactic
import Derived.BigQuiet
import Derived.WideLaws
import Derived.Deep.DeepCutAuto
import Derived.Deep.CutBlock
import Derived.Deep.RegionHeld3
import Derived.Laws.Rows
import Derived.Lib.AppendStr
import Derived.ArgAppend
import Derived.Laws.IdiomCopy
import Derived.OrdersHeld
import Derived.Laws.BitsLemmas
import Derived.RowKit
import Derived.Lib.LazyBuf
import Derived.Laws.Sem
import Derived.DataReads
import Derived.ChangeArms
import Derived.ChangeSame
import Derived.Deep.Slices
import Derived.Shelf.LaysM
import Derived.Shelf.Strconv.Itoa3
import Derived.Shelf.LaysC
import Derived.Shelf.Strconv.AtoiAll
import Derived.Shelf.Strconv.ErrVarAll
import Derived.Lib.SmallJoins
import Derived.Lib.AppendIntMem
import Derived.Lib.AtoiErrMem
import Derived.Lib.AtoiAllCases
import Derived.Lib.LaidTab
import Derived.Stop.LaidErr
import Derived.Lib.Strings
import Derived.Lib.Slices
import Derived.Lib.Walk
import Derived.Lib.Bytealg
import Derived.Lib.ItoaLen
import Derived.Lib.ItoaMem
import Derived.Lib.AtoiTie
import Derived.Test.YtfmbpldjbmhnnaaDoorCFnExactReadCount1
/- Written by this session's program (wip/gen): the values' own types, as the contracts read them. No condition. -/
namespace Go.Proofs.YtfmbpldjbmhnnaaDoor.My
open Go.RowKit Go.Proofs.YtfmbpldjbmhnnaaDoorW.PrintWords Go.Proofs.YtfmbpldjbmhnnaaDoorW.PrintLast Go.Proofs.YtfmbpldjbmhnnaaDoorW.PrintMore
attribute [local go_sem] max2_int min2_int max_two min_two max_three min_three max_four min_four
set_option linter.unusedVariables false
set_option linter.unusedSimpArgs false

def errW : Option Int → Value
  | none => .nilIface
  | some c => .iface 97 (.int .i64 c)
theorem errW_none : errW none = .nilIface := rfl
theorem errW_some (c : Int) : errW (some c) = .iface 97 (.int .i64 c) := rfl

theorem info5 : (Tryd.prog.info? 5).map (fun i => (i.zero, i.size, i.bytes)) = some (some (.int .u8 0), 1, 1) := by kernel_rfl
theorem info9 : (Tryd.prog.info? 9).map (fun i => (i.zero, i.size, i.bytes)) = some (some (.string ⟨#[]⟩), 1, 16) := by kernel_rfl
theorem info56 : (Tryd.prog.info? 56).map (fun i => (i.zero, i.size, i.bytes)) = some (some (.agg #[(.int .i64 0), (.int .i64 0), (.slice none 0 0), (.int .i64 0), (.int .i64 0), (.slice none 0 0)]), 6, 80) := by kernel_rfl
theorem info70 : (Tryd.prog.info? 70).map (fun i => (i.zero, i.size, i.bytes)) = some (some (.agg #[(.int .i64 0), (.int .i64 0), (.slice none 0 0)]), 3, 40) := by kernel_rfl
abbrev Y : Bool := true
abbrev O : Bool := false
theorem qa {α : Type} (xs : List α) (i : Nat) (v : α) : xs.toArray.setIfInBounds i v = (xs.set i v).toArray := List.setIfInBounds_toArray ..
theorem qb {α : Type} (x v : α) (xs : List α) : (x :: xs).set 0 v = v :: xs := rfl
theorem qc {α : Type} (x v : α) (xs : List α) (i : Nat) : (x :: xs).set (i + 1) v = x :: xs.set i v := rfl
theorem zb {p : Prop} (h : p := by repeat (first | (with_reducible first | exact HB.out | apply below_alloc | apply pw_below_drewN | apply below_drew1) | exact HB.out)) : p := h
theorem zk {q p : Prop} (b : q) (h : q → p := by intro hz_; (with_reducible repeat (first | refine blk_drewN ?_ _ | refine blk_drew ?_ | refine blk_alloc ?_ _)); exact hz_) : p := h b
theorem zs {q p : Prop} (b : q) (h : q → p := by intro hz_; (with_reducible repeat (first | apply Kd.S_alloc | apply Kd.S_drewN | apply Kd.S_drew)); exact hz_) : p := h b
theorem zr {q p : Prop} (b : q) (h : q → p := by intro hz_; (with_reducible repeat (first | apply Kd.R_alloc | apply Kd.R_drewN | apply Kd.R_drew)); exact hz_) : p := h b
theorem zf {p : Prop} (h : p := by first | rfl | (simp; done) | (simp [*]; done)) : p := h
theorem zq {q p : Prop} (b : q) (h : q → p := by intro hz_; repeat (first | exact hz_ | (with_reducible refine Kd.C_alloc ?_ _) | (with_reducible refine Kd.C_drewN ?_ _) | (with_reducible refine Kd.C_drew ?_))) : p := h b
theorem zm {p : Prop} (h : p := by (try simp only [List.map_toArray, List.map_cons, List.map_nil]); first | done | rfl | (simp only [List.length_drop, List.length_take]; rfl)) : p := h
theorem zd {p : Prop} (h : p := by first | exact ⟨rfl, _, World.drewN_drewN _ _ _⟩ | exact ⟨rfl, _, Eq.trans (World.drewN_drewN _ _ _) (congrArg (World.drewN _) (Nat.add_assoc _ _ _))⟩) : p := h
theorem zx {p : Prop} (h : p := by exact any_of HT_.out (by kernel_rfl)) : p := h
theorem gateC {P : Program} {ops : Array Oper} {Q : Exit → Act → World → Prop} {rest : List Oper} {o : Oper} {a : Act} {W : World} {f : FuncId} {xs : Array Operand} {ts : Array TypeId} (_ : o.op = .call { callee := .value (.func f), args := xs, argTypes := ts }) (h : wpList P ops Q (o :: rest) a W) : wpList P ops Q (o :: rest) a W := h
theorem gateB {P : Program} {ops : Array Oper} {Q : Exit → Act → World → Prop} {rest : List Oper} {o : Oper} {a : Act} {W : World} {b : Builtin} {xs : Array Operand} {ts : Array TypeId} (_ : o.op = .call { callee := .builtin b, args := xs, argTypes := ts }) (h : wpList P ops Q (o :: rest) a W) : wpList P ops Q (o :: rest) a W := h
theorem oa {p : Prop} [Decidable p] (h : decide p = true := by first | (with_reducible assumption) | assumption) : p := of_decide_eq_true h

def rd_L3 (xs : List (List ByteArray)) (i : Int) : (List ByteArray) := xs.getD i.toNat ([] : List ByteArray)
theorem at_L3 {w : World} {A : Option Addr} {n : Nat} {xs : List (List ByteArray)} (h : Kd.C (Kd.slice 9 Kd.string) w A n xs) (i : Int) (h0 : 0 ≤ i) (h1 : i < n) : ∃ ad A0 c0, A = some ad ∧ w.cell? (ad.add i.toNat) = some (.slice A0 (rd_L3 xs i).length c0) ∧ (rd_L3 xs i).length ≤ c0 ∧ Kd.string.C w A0 (rd_L3 xs i).length (rd_L3 xs i) := by
  obtain ⟨ad, c, e, _, hK, hc0⟩ := Kd.C_get h ([] : List ByteArray) i h0 h1
  have hc : ∀ j u, c[j]? = some u → w.cell? (ad.add (i.toNat * 1 + j)) = some u := hc0
  obtain ⟨A0, c0, rfl, l0, g0⟩ := hK
  exact ⟨ad, A0, c0, e, by have hq := hc 0 _ rfl; rwa [Nat.mul_one, Nat.add_zero] at hq, l0, g0⟩

/-- Two in line: the first one's row is none of the second one's. -/
def sepPair {α β : Type} (a : Kd α) (b : Kd β) : Kd (α × β) where
  sz := a.sz + b.sz
  E := a.E ++ b.E
  K := fun w x cs => ∃ c0 c1, cs = c0 ++ c1 ∧ a.K w x.1 c0 ∧ b.K w x.2 c1
  M := fun w base ok x cs => ∃ c0 c1, cs = c0 ++ c1 ∧ a.M w base ok x.1 c0 ∧ b.M w base (fun k => ok k ∧ ∀ v ∈ c0, v.ownBlock ≠ some k) x.2 c1
  K_len := (Kd.pair a b).K_len
  K_one := (Kd.pair a b).K_one
  K_below := (Kd.pair a b).K_below
  K_of_M := by
    rintro w base ok x cs ⟨c0, c1, rfl, h0, h1⟩
    exact ⟨c0, c1, rfl, a.K_of_M h0, b.K_of_M h1⟩
  M_mono := by
    rintro w base ok ok' x cs hok ⟨c0, c1, rfl, h0, h1⟩
    exact ⟨c0, c1, rfl, a.M_mono hok h0, b.M_mono (fun k hk => ⟨hok k hk.1, hk.2⟩) h1⟩
  M_bound := by
    rintro w base ok x cs ⟨c0, c1, rfl, h0, h1⟩
    refine ⟨c0, c1, rfl, a.M_mono ?_ (a.M_bound h0), b.M_mono ?_ (b.M_bound h1)⟩
    · rintro k ⟨h2, h3, h4, q, hq, hc⟩
      exact ⟨h2, h3, h4, q, List.mem_append_left _ hq, hc⟩
    · rintro k ⟨h2, h3, h4, q, hq, hc⟩
      exact ⟨⟨h2.1, h3, h4, q, List.mem_append_right _ hq, hc⟩, h2.2⟩
  M_move := by
    rintro w w1 base ok x cs hm ⟨c0, c1, rfl, h0, h1⟩
    exact ⟨c0, c1, rfl, a.M_move hm h0, b.M_move (fun k hk => hm k hk.1) h1⟩
  M_lower := by
    rintro w base base' ok x cs hb ⟨c0, c1, rfl, h0, h1⟩
    exact ⟨c0, c1, rfl, a.M_lower hb h0, b.M_lower hb h1⟩
section
variable {α β : Type} {d : Kd α} {e e' : Nat} {w w' : World} {base base' : Nat} {u v : Value} {xs ys : List ByteArray} {ok ok' ok2 : Nat → Prop}
theorem sep_nil : ∀ k, (Value.slice none 0 0).ownBlock = some k → v.ownBlock ≠ some k := fun k h => by simp [Value.ownBlock] at h
theorem sep_a (h : Aside0 (Kd.string.R e w base (fun k => ok k ∧ some k ≠ u.ownBlock) v xs)) : ∀ k, u.ownBlock = some k → v.ownBlock ≠ some k := fun k h1 h2 => (h.out.1 k h2).2 h1.symm
theorem sep_b (h : Aside0 (Kd.string.R e w base (fun k => ok k ∧ some k ≠ v.ownBlock) u xs)) : ∀ k, u.ownBlock = some k → v.ownBlock ≠ some k := fun k h1 h2 => (h.out.1 k h1).2 h2.symm
theorem sep_a2 (h : Aside0 (Kd.string.R e w base (fun k => (ok k ∧ some k ≠ u.ownBlock) ∧ ok2 k) v xs)) : ∀ k, u.ownBlock = some k → v.ownBlock ≠ some k := fun k h1 h2 => (h.out.1 k h2).1.2 h1.symm
theorem sep_b2 (h : Aside0 (Kd.string.R e w base (fun k => (ok k ∧ some k ≠ v.ownBlock) ∧ ok2 k) u xs)) : ∀ k, u.ownBlock = some k → v.ownBlock ≠ some k := fun k h1 h2 => (h.out.1 k h1).1.2 h2.symm
theorem sep_e (h : Aside0 (Kd.string.R e w base (fun k => some k ≠ u.ownBlock) v xs)) : ∀ k, u.ownBlock = some k → v.ownBlock ≠ some k := fun k h1 h2 => (h.out.1 k h2) h1.symm
theorem sep_f (h : Aside0 (Kd.string.R e w base (fun k => some k ≠ v.ownBlock) u xs)) : ∀ k, u.ownBlock = some k → v.ownBlock ≠ some k := fun k h1 h2 => (h.out.1 k h1) h2.symm
theorem sep_c (h : Aside0 (Kd.string.R e w base (fun k => some k ≠ u.ownBlock ∧ ok k) v xs)) : ∀ k, u.ownBlock = some k → v.ownBlock ≠ some k := fun k h1 h2 => (h.out.1 k h2).1 h1.symm
theorem sep_d (h : Aside0 (Kd.string.R e w base (fun k => some k ≠ v.ownBlock ∧ ok k) u xs)) : ∀ k, u.ownBlock = some k → v.ownBlock ≠ some k := fun k h1 h2 => (h.out.1 k h1).1 h2.symm
end
/-! #### struct type 53 -/
structure S53 where
  f0 : Int
  f1 : Int
  f2 : (List ByteArray)
  f3 : Int
  f4 : Int
  f5 : (List ByteArray)
def z53 : S53 := ⟨(0 : Int), (0 : Int), ([] : List ByteArray), (0 : Int), (0 : Int), ([] : List ByteArray)⟩
def k53 : Kd S53 := Kd.iso (Kd.pair (Kd.int .i64) (Kd.pair (Kd.int .i64) (Kd.pair (Kd.slice 9 Kd.string) (Kd.pair (Kd.int .i64) (Kd.pair (Kd.int .i64) (Kd.slice 9 Kd.string)))))) (fun x : S53 => (x.f0, x.f1, x.f2, x.f3, x.f4, x.f5))
theorem k53_open {w : World} {x : S53} {cs : List Value} (h : k53.K w x cs) : ∃ A2 c2 A5 c5, cs = [.int .i64 x.f0, .int .i64 x.f1, .slice A2 x.f2.length c2, .int .i64 x.f3, .int .i64 x.f4, .slice A5 x.f5.length c5] ∧ x.f2.length ≤ c2 ∧ Kd.string.C w A2 x.f2.length x.f2 ∧ x.f5.length ≤ c5 ∧ Kd.string.C w A5 x.f5.length x.f5 := by
  obtain ⟨_, _, rfl, rfl, ⟨_, _, rfl, rfl, ⟨_, _, rfl, ⟨A2, c2, rfl, l2, g2⟩, ⟨_, _, rfl, rfl, ⟨_, _, rfl, rfl, ⟨A5, c5, rfl, l5, g5⟩⟩⟩⟩⟩⟩ := h
  exact ⟨A2, c2, A5, c5, rfl, l2, g2, l5, g5⟩
theorem k53_openM {w : World} {base : Nat} {ok : Nat → Prop} {x : S53} {cs : List Value} (h : k53.M w base ok x cs) : ∃ v2 v5, cs = [.int .i64 x.f0, .int .i64 x.f1, v2, .int .i64 x.f3, .int .i64 x.f4, v5] ∧ Kd.string.R 9 w base ok v2 x.f2 ∧ Kd.string.R 9 w base ok v5 x.f5 := by
  obtain ⟨_, _, rfl, rfl, ⟨_, _, rfl, rfl, ⟨_, _, rfl, ⟨v2, rfl, g2⟩, ⟨_, _, rfl, rfl, ⟨_, _, rfl, rfl, ⟨v5, rfl, g5⟩⟩⟩⟩⟩⟩ := h
  exact ⟨v2, v5, rfl, g2, g5⟩
theorem k53_mk (w : World) (x : S53) {A2 : Option Addr} {c2 : Nat} (l2 : x.f2.length ≤ c2) (g2 : Kd.string.C w A2 x.f2.length x.f2) {A5 : Option Addr} {c5 : Nat} (l5 : x.f5.length ≤ c5) (g5 : Kd.string.C w A5 x.f5.length x.f5) : k53.K w x [.int .i64 x.f0, .int .i64 x.f1, .slice A2 x.f2.length c2, .int .i64 x.f3, .int .i64 x.f4, .slice A5 x.f5.length c5] := ⟨[.int .i64 x.f0], [.int .i64 x.f1, .slice A2 x.f2.length c2, .int .i64 x.f3, .int .i64 x.f4, .slice A5 x.f5.length c5], rfl, rfl, ⟨[.int .i64 x.f1], [.slice A2 x.f2.length c2, .int .i64 x.f3, .int .i64 x.f4, .slice A5 x.f5.length c5], rfl, rfl, ⟨[.slice A2 x.f2.length c2], [.int .i64 x.f3, .int .i64 x.f4, .slice A5 x.f5.length c5], rfl, ⟨A2, c2, rfl, l2, g2⟩, ⟨[.int .i64 x.f3], [.int .i64 x.f4, .slice A5 x.f5.length c5], rfl, rfl, ⟨[.int .i64 x.f4], [.slice A5 x.f5.length c5], rfl, rfl, ⟨A5, c5, rfl, l5, g5⟩⟩⟩⟩⟩⟩
theorem k53_mkM (w : World) (base : Nat) (ok : Nat → Prop) (x : S53) {v2 : Value} (g2 : Kd.string.R 9 w base ok v2 x.f2) {v5 : Value} (g5 : Kd.string.R 9 w base ok v5 x.f5) : k53.M w base ok x [.int .i64 x.f0, .int .i64 x.f1, v2, .int .i64 x.f3, .int .i64 x.f4, v5] := ⟨[.int .i64 x.f0], [.int .i64 x.f1, v2, .int .i64 x.f3, .int .i64 x.f4, v5], rfl, rfl, ⟨[.int .i64 x.f1], [v2, .int .i64 x.f3, .int .i64 x.f4, v5], rfl, rfl, ⟨[v2], [.int .i64 x.f3, .int .i64 x.f4, v5], rfl, ⟨v2, rfl, g2⟩, ⟨[.int .i64 x.f3], [.int .i64 x.f4, v5], rfl, rfl, ⟨[.int .i64 x.f4], [v5], rfl, rfl, ⟨v5, rfl, g5⟩⟩⟩⟩⟩⟩
def rd_T53 (xs : List S53) (i : Int) : S53 := xs.getD i.toNat z53
theorem at_T53 {w : World} {A : Option Addr} {n : Nat} {xs : List S53} (h : Kd.C k53 w A n xs) (i : Int) (h0 : 0 ≤ i) (h1 : i < n) : ∃ ad A2 c2 A5 c5, A = some ad ∧ w.cell? (ad.add (i.toNat * 6)) = some (.int .i64 (rd_T53 xs i).f0) ∧ w.cell? ⟨(ad.add (i.toNat * 6)).block, (ad.add (i.toNat * 6)).off + 1, none⟩ = some (.int .i64 (rd_T53 xs i).f1) ∧ w.cell? ⟨(ad.add (i.toNat * 6)).block, (ad.add (i.toNat * 6)).off + 2, none⟩ = some (.slice A2 (rd_T53 xs i).f2.length c2) ∧ w.cell? ⟨(ad.add (i.toNat * 6)).block, (ad.add (i.toNat * 6)).off + 3, none⟩ = some (.int .i64 (rd_T53 xs i).f3) ∧ w.cell? ⟨(ad.add (i.toNat * 6)).block, (ad.add (i.toNat * 6)).off + 4, none⟩ = some (.int .i64 (rd_T53 xs i).f4) ∧ w.cell? ⟨(ad.add (i.toNat * 6)).block, (ad.add (i.toNat * 6)).off + 5, none⟩ = some (.slice A5 (rd_T53 xs i).f5.length c5) ∧ (rd_T53 xs i).f2.length ≤ c2 ∧ Kd.string.C w A2 (rd_T53 xs i).f2.length (rd_T53 xs i).f2 ∧ (rd_T53 xs i).f5.length ≤ c5 ∧ Kd.string.C w A5 (rd_T53 xs i).f5.length (rd_T53 xs i).f5 := by
  obtain ⟨ad, c, e, _, hK, hc0⟩ := Kd.C_get h z53 i h0 h1
  have hc : ∀ j u, c[j]? = some u → w.cell? (ad.add (i.toNat * 6 + j)) = some u := hc0
  obtain ⟨A2, c2, A5, c5, rfl, l2, g2, l5, g5⟩ := k53_open hK
  exact ⟨ad, A2, c2, A5, c5, e, hc 0 _ rfl, by rw [← add_field _ _ 1 (by omega)]; exact hc 1 _ rfl, by rw [← add_field _ _ 2 (by omega)]; exact hc 2 _ rfl, by rw [← add_field _ _ 3 (by omega)]; exact hc 3 _ rfl, by rw [← add_field _ _ 4 (by omega)]; exact hc 4 _ rfl, by rw [← add_field _ _ 5 (by omega)]; exact hc 5 _ rfl, l2, g2, l5, g5⟩

/-! #### struct type 56 -/
structure S56 where
  f0 : Int
  f1 : Int
  f2 : (List ByteArray)
  f3 : Int
  f4 : Int
  f5 : (List ByteArray)
def z56 : S56 := ⟨(0 : Int), (0 : Int), ([] : List ByteArray), (0 : Int), (0 : Int), ([] : List ByteArray)⟩
def k56 : Kd S56 := Kd.iso (Kd.pair (Kd.int .i64) (Kd.pair (Kd.int .i64) (sepPair (Kd.slice 9 Kd.string) (Kd.pair (Kd.int .i64) (Kd.pair (Kd.int .i64) (Kd.slice 9 Kd.string)))))) (fun x : S56 => (x.f0, x.f1, x.f2, x.f3, x.f4, x.f5))
theorem k56_open {w : World} {x : S56} {cs : List Value} (h : k56.K w x cs) : ∃ A2 c2 A5 c5, cs = [.int .i64 x.f0, .int .i64 x.f1, .slice A2 x.f2.length c2, .int .i64 x.f3, .int .i64 x.f4, .slice A5 x.f5.length c5] ∧ x.f2.length ≤ c2 ∧ Kd.string.C w A2 x.f2.length x.f2 ∧ x.f5.length ≤ c5 ∧ Kd.string.C w A5 x.f5.length x.f5 := by
  obtain ⟨_, _, rfl, rfl, ⟨_, _, rfl, rfl, ⟨_, _, rfl, ⟨A2, c2, rfl, l2, g2⟩, ⟨_, _, rfl, rfl, ⟨_, _, rfl, rfl, ⟨A5, c5, rfl, l5, g5⟩⟩⟩⟩⟩⟩ := h
  exact ⟨A2, c2, A5, c5, rfl, l2, g2, l5, g5⟩
theorem k56_openM {w : World} {base : Nat} {ok : Nat → Prop} {x : S56} {cs : List Value} (h : k56.M w base ok x cs) : ∃ v2 v5, cs = [.int .i64 x.f0, .int .i64 x.f1, v2, .int .i64 x.f3, .int .i64 x.f4, v5] ∧ Kd.string.R 9 w base ok v2 x.f2 ∧ Kd.string.R 9 w base ok v5 x.f5 := by
  obtain ⟨_, _, rfl, rfl, ⟨_, _, rfl, rfl, ⟨_, _, rfl, ⟨v2, rfl, g2⟩, ⟨_, _, rfl, rfl, ⟨_, _, rfl, rfl, ⟨v5, rfl, g5⟩⟩⟩⟩⟩⟩ := h
  exact ⟨v2, v5, rfl, g2, Kd.R_mono g5 (fun _ h_ => h_.1)⟩
theorem k56_openMS {w : World} {base : Nat} {ok : Nat → Prop} {x : S56} {cs : List Value} (h : k56.M w base ok x cs) : ∃ v2 v5, cs = [.int .i64 x.f0, .int .i64 x.f1, v2, .int .i64 x.f3, .int .i64 x.f4, v5] ∧ Kd.string.R 9 w base ok v2 x.f2 ∧ Kd.string.R 9 w base ok v5 x.f5 ∧ (∀ k, v5.ownBlock = some k → v2.ownBlock ≠ some k) := by
  obtain ⟨_, _, rfl, rfl, ⟨_, _, rfl, rfl, ⟨_, _, rfl, ⟨v2, rfl, g2⟩, ⟨_, _, rfl, rfl, ⟨_, _, rfl, rfl, ⟨v5, rfl, g5⟩⟩⟩⟩⟩⟩ := h
  exact ⟨v2, v5, rfl, g2, Kd.R_mono g5 (fun _ h_ => h_.1), fun k h_ => (g5.1 k h_).2 _ (List.mem_singleton.2 rfl)⟩
theorem k56_mk (w : World) (x : S56) {A2 : Option Addr} {c2 : Nat} (l2 : x.f2.length ≤ c2) (g2 : Kd.string.C w A2 x.f2.length x.f2) {A5 : Option Addr} {c5 : Nat} (l5 : x.f5.length ≤ c5) (g5 : Kd.string.C w A5 x.f5.length x.f5) : k56.K w x [.int .i64 x.f0, .int .i64 x.f1, .slice A2 x.f2.length c2, .int .i64 x.f3, .int .i64 x.f4, .slice A5 x.f5.length c5] := ⟨[.int .i64 x.f0], [.int .i64 x.f1, .slice A2 x.f2.length c2, .int .i64 x.f3, .int .i64 x.f4, .slice A5 x.f5.length c5], rfl, rfl, ⟨[.int .i64 x.f1], [.slice A2 x.f2.length c2, .int .i64 x.f3, .int .i64 x.f4, .slice A5 x.f5.length c5], rfl, rfl, ⟨[.slice A2 x.f2.length c2], [.int .i64 x.f3, .int .i64 x.f4, .slice A5 x.f5.length c5], rfl, ⟨A2, c2, rfl, l2, g2⟩, ⟨[.int .i64 x.f3], [.int .i64 x.f4, .slice A5 x.f5.length c5], rfl, rfl, ⟨[.int .i64 x.f4], [.slice A5 x.f5.length c5], rfl, rfl, ⟨A5, c5, rfl, l5, g5⟩⟩⟩⟩⟩⟩
theorem k56_mkM {v2 v5 : Value} (hsep : ∀ k, v5.ownBlock = some k → v2.ownBlock ≠ some k) (w : World) (base : Nat) (ok : Nat → Prop) (x : S56) (g2 : Kd.string.R 9 w base ok v2 x.f2) (g5 : Kd.string.R 9 w base ok v5 x.f5) : k56.M w base ok x [.int .i64 x.f0, .int .i64 x.f1, v2, .int .i64 x.f3, .int .i64 x.f4, v5] := ⟨[.int .i64 x.f0], [.int .i64 x.f1, v2, .int .i64 x.f3, .int .i64 x.f4, v5], rfl, rfl, ⟨[.int .i64 x.f1], [v2, .int .i64 x.f3, .int .i64 x.f4, v5], rfl, rfl, ⟨[v2], [.int .i64 x.f3, .int .i64 x.f4, v5], rfl, ⟨v2, rfl, g2⟩, ⟨[.int .i64 x.f3], [.int .i64 x.f4, v5], rfl, rfl, ⟨[.int .i64 x.f4], [v5], rfl, rfl, ⟨v5, rfl, Kd.R_mono (Kd.R_tight rfl g5) (fun k hk => ⟨g5.1 k hk.symm, fun v hv => by rw [List.mem_singleton.1 hv]; exact hsep k hk.symm⟩)⟩⟩⟩⟩⟩⟩
def rd_T56 (xs : List S56) (i : Int) : S56 := xs.getD i.toNat z56
theorem at_T56 {w : World} {A : Option Addr} {n : Nat} {xs : List S56} (h : Kd.C k56 w A n xs) (i : Int) (h0 : 0 ≤ i) (h1 : i < n) : ∃ ad A2 c2 A5 c5, A = some ad ∧ w.cell? (ad.add (i.toNat * 6)) = some (.int .i64 (rd_T56 xs i).f0) ∧ w.cell? ⟨(ad.add (i.toNat * 6)).block, (ad.add (i.toNat * 6)).off + 1, none⟩ = some (.int .i64 (rd_T56 xs i).f1) ∧ w.cell? ⟨(ad.add (i.toNat * 6)).block, (ad.add (i.toNat * 6)).off + 2, none⟩ = some (.slice A2 (rd_T56 xs i).f2.length c2) ∧ w.cell? ⟨(ad.add (i.toNat * 6)).block, (ad.add (i.toNat * 6)).off + 3, none⟩ = some (.int .i64 (rd_T56 xs i).f3) ∧ w.cell? ⟨(ad.add (i.toNat * 6)).block, (ad.add (i.toNat * 6)).off + 4, none⟩ = some (.int .i64 (rd_T56 xs i).f4) ∧ w.cell? ⟨(ad.add (i.toNat * 6)).block, (ad.add (i.toNat * 6)).off + 5, none⟩ = some (.slice A5 (rd_T56 xs i).f5.length c5) ∧ (rd_T56 xs i).f2.length ≤ c2 ∧ Kd.string.C w A2 (rd_T56 xs i).f2.length (rd_T56 xs i).f2 ∧ (rd_T56 xs i).f5.length ≤ c5 ∧ Kd.string.C w A5 (rd_T56 xs i).f5.length (rd_T56 xs i).f5 := by
  obtain ⟨ad, c, e, _, hK, hc0⟩ := Kd.C_get h z56 i h0 h1
  have hc : ∀ j u, c[j]? = some u → w.cell? (ad.add (i.toNat * 6 + j)) = some u := hc0
  obtain ⟨A2, c2, A5, c5, rfl, l2, g2, l5, g5⟩ := k56_open hK
  exact ⟨ad, A2, c2, A5, c5, e, hc 0 _ rfl, by rw [← add_field _ _ 1 (by omega)]; exact hc 1 _ rfl, by rw [← add_field _ _ 2 (by omega)]; exact hc 2 _ rfl, by rw [← add_field _ _ 3 (by omega)]; exact hc 3 _ rfl, by rw [← add_field _ _ 4 (by omega)]; exact hc 4 _ rfl, by rw [← add_field _ _ 5 (by omega)]; exact hc 5 _ rfl, l2, g2, l5, g5⟩

/-! #### struct type 67 -/
structure S67 where
  f0 : Int
  f1 : Int
  f2 : (List ByteArray)
def z67 : S67 := ⟨(0 : Int), (0 : Int), ([] : List ByteArray)⟩
def k67 : Kd S67 := Kd.iso (Kd.pair (Kd.int .i64) (Kd.pair (Kd.int .i64) (Kd.slice 9 Kd.string))) (fun x : S67 => (x.f0, x.f1, x.f2))
theorem k67_open {w : World} {x : S67} {cs : List Value} (h : k67.K w x cs) : ∃ A2 c2, cs = [.int .i64 x.f0, .int .i64 x.f1, .slice A2 x.f2.length c2] ∧ x.f2.length ≤ c2 ∧ Kd.string.C w A2 x.f2.length x.f2 := by
  obtain ⟨_, _, rfl, rfl, ⟨_, _, rfl, rfl, ⟨A2, c2, rfl, l2, g2⟩⟩⟩ := h
  exact ⟨A2, c2, rfl, l2, g2⟩
theorem k67_openM {w : World} {base : Nat} {ok : Nat → Prop} {x : S67} {cs : List Value} (h : k67.M w base ok x cs) : ∃ v2, cs = [.int .i64 x.f0, .int .i64 x.f1, v2] ∧ Kd.string.R 9 w base ok v2 x.f2 := by
  obtain ⟨_, _, rfl, rfl, ⟨_, _, rfl, rfl, ⟨v2, rfl, g2⟩⟩⟩ := h
  exact ⟨v2, rfl, g2⟩
theorem k67_mk (w : World) (x : S67) {A2 : Option Addr} {c2 : Nat} (l2 : x.f2.length ≤ c2) (g2 : Kd.string.C w A2 x.f2.length x.f2) : k67.K w x [.int .i64 x.f0, .int .i64 x.f1, .slice A2 x.f2.length c2] := ⟨[.int .i64 x.f0], [.int .i64 x.f1, .slice A2 x.f2.length c2], rfl, rfl, ⟨[.int .i64 x.f1], [.slice A2 x.f2.length c2], rfl, rfl, ⟨A2, c2, rfl, l2, g2⟩⟩⟩
theorem k67_mkM (w : World) (base : Nat) (ok : Nat → Prop) (x : S67) {v2 : Value} (g2 : Kd.string.R 9 w base ok v2 x.f2) : k67.M w base ok x [.int .i64 x.f0, .int .i64 x.f1, v2] := ⟨[.int .i64 x.f0], [.int .i64 x.f1, v2], rfl, rfl, ⟨[.int .i64 x.f1], [v2], rfl, rfl, ⟨v2, rfl, g2⟩⟩⟩
def rd_T67 (xs : List S67) (i : Int) : S67 := xs.getD i.toNat z67
theorem at_T67 {w : World} {A : Option Addr} {n : Nat} {xs : List S67} (h : Kd.C k67 w A n xs) (i : Int) (h0 : 0 ≤ i) (h1 : i < n) : ∃ ad A2 c2, A = some ad ∧ w.cell? (ad.add (i.toNat * 3)) = some (.int .i64 (rd_T67 xs i).f0) ∧ w.cell? ⟨(ad.add (i.toNat * 3)).block, (ad.add (i.toNat * 3)).off + 1, none⟩ = some (.int .i64 (rd_T67 xs i).f1) ∧ w.cell? ⟨(ad.add (i.toNat * 3)).block, (ad.add (i.toNat * 3)).off + 2, none⟩ = some (.slice A2 (rd_T67 xs i).f2.length c2) ∧ (rd_T67 xs i).f2.length ≤ c2 ∧ Kd.string.C w A2 (rd_T67 xs i).f2.length (rd_T67 xs i).f2 := by
  obtain ⟨ad, c, e, _, hK, hc0⟩ := Kd.C_get h z67 i h0 h1
  have hc : ∀ j u, c[j]? = some u → w.cell? (ad.add (i.toNat * 3 + j)) = some u := hc0
  obtain ⟨A2, c2, rfl, l2, g2⟩ := k67_open hK
  exact ⟨ad, A2, c2, e, hc 0 _ rfl, by rw [← add_field _ _ 1 (by omega)]; exact hc 1 _ rfl, by rw [← add_field _ _ 2 (by omega)]; exact hc 2 _ rfl, l2, g2⟩

/-! #### struct type 70 -/
structure S70 where
  f0 : Int
  f1 : Int
  f2 : (List ByteArray)
def z70 : S70 := ⟨(0 : Int), (0 : Int), ([] : List ByteArray)⟩
def k70 : Kd S70 := Kd.iso (Kd.pair (Kd.int .i64) (Kd.pair (Kd.int .i64) (Kd.slice 9 Kd.string))) (fun x : S70 => (x.f0, x.f1, x.f2))
theorem k70_open {w : World} {x : S70} {cs : List Value} (h : k70.K w x cs) : ∃ A2 c2, cs = [.int .i64 x.f0, .int .i64 x.f1, .slice A2 x.f2.length c2] ∧ x.f2.length ≤ c2 ∧ Kd.string.C w A2 x.f2.length x.f2 := by
  obtain ⟨_, _, rfl, rfl, ⟨_, _, rfl, rfl, ⟨A2, c2, rfl, l2, g2⟩⟩⟩ := h
  exact ⟨A2, c2, rfl, l2, g2⟩
theorem k70_openM {w : World} {base : Nat} {ok : Nat → Prop} {x : S70} {cs : List Value} (h : k70.M w base ok x cs) : ∃ v2, cs = [.int .i64 x.f0, .int .i64 x.f1, v2] ∧ Kd.string.R 9 w base ok v2 x.f2 := by
  obtain ⟨_, _, rfl, rfl, ⟨_, _, rfl, rfl, ⟨v2, rfl, g2⟩⟩⟩ := h
  exact ⟨v2, rfl, g2⟩
theorem k70_mk (w : World) (x : S70) {A2 : Option Addr} {c2 : Nat} (l2 : x.f2.length ≤ c2) (g2 : Kd.string.C w A2 x.f2.length x.f2) : k70.K w x [.int .i64 x.f0, .int .i64 x.f1, .slice A2 x.f2.length c2] := ⟨[.int .i64 x.f0], [.int .i64 x.f1, .slice A2 x.f2.length c2], rfl, rfl, ⟨[.int .i64 x.f1], [.slice A2 x.f2.length c2], rfl, rfl, ⟨A2, c2, rfl, l2, g2⟩⟩⟩
theorem k70_mkM (w : World) (base : Nat) (ok : Nat → Prop) (x : S70) {v2 : Value} (g2 : Kd.string.R 9 w base ok v2 x.f2) : k70.M w base ok x [.int .i64 x.f0, .int .i64 x.f1, v2] := ⟨[.int .i64 x.f0], [.int .i64 x.f1, v2], rfl, rfl, ⟨[.int .i64 x.f1], [v2], rfl, rfl, ⟨v2, rfl, g2⟩⟩⟩
def rd_T70 (xs : List S70) (i : Int) : S70 := xs.getD i.toNat z70
theorem at_T70 {w : World} {A : Option Addr} {n : Nat} {xs : List S70} (h : Kd.C k70 w A n xs) (i : Int) (h0 : 0 ≤ i) (h1 : i < n) : ∃ ad A2 c2, A = some ad ∧ w.cell? (ad.add (i.toNat * 3)) = some (.int .i64 (rd_T70 xs i).f0) ∧ w.cell? ⟨(ad.add (i.toNat * 3)).block, (ad.add (i.toNat * 3)).off + 1, none⟩ = some (.int .i64 (rd_T70 xs i).f1) ∧ w.cell? ⟨(ad.add (i.toNat * 3)).block, (ad.add (i.toNat * 3)).off + 2, none⟩ = some (.slice A2 (rd_T70 xs i).f2.length c2) ∧ (rd_T70 xs i).f2.length ≤ c2 ∧ Kd.string.C w A2 (rd_T70 xs i).f2.length (rd_T70 xs i).f2 := by
  obtain ⟨ad, c, e, _, hK, hc0⟩ := Kd.C_get h z70 i h0 h1
  have hc : ∀ j u, c[j]? = some u → w.cell? (ad.add (i.toNat * 3 + j)) = some u := hc0
  obtain ⟨A2, c2, rfl, l2, g2⟩ := k70_open hK
  exact ⟨ad, A2, c2, e, hc 0 _ rfl, by rw [← add_field _ _ 1 (by omega)]; exact hc 1 _ rfl, by rw [← add_field _ _ 2 (by omega)]; exact hc 2 _ rfl, l2, g2⟩

end Go.Proofs.YtfmbpldjbmhnnaaDoor.My

/- How an argument that came in reads: out of the form's own reading (DataW.trod) the reading that the printed contracts ask (Kd.K), kind by kind. No condition. -/
namespace Go.Proofs.YtfmbpldjbmhnnaaDoor.Opens
open Go.ChangeShapes Go.WideShapes Go.Proofs.YtfmbpldjbmhnnaaDoorW.PrintWords
set_option linter.unusedVariables false
set_option linter.unusedSimpArgs false

/-- Whatever the form reads at type t is a value of the kind d, and meets Q. -/
def Opens {α : Type} (P : Program) (t : TypeId) (d : Kd α) (Q : α → Prop) : Prop :=
  ∀ (H : Type) (enc : TypeId × Value → H) (w : World) (base : Nat) (spare : Nat → Bool) (held : Bool) (n : Nat) (cs : List Value) (x : DataW H × List MemPlace),
    DataW.trod enc P w base spare held n t cs = some x → ∃ a : α, d.K w a cs ∧ Q a

theorem opens_int {P : Program} {t : TypeId} (k : IntKind) (ht : P.underlying t = some (.int k)) : Opens P t (Kd.int k) (fun z => (Lit.int k z).wf = true) := by
  intro H enc w base spare held n cs x h
  obtain ⟨z, rfl, _, hw⟩ := DataW.trod_int ht h
  exact ⟨z, rfl, hw⟩

theorem opens_string {P : Program} {t : TypeId} (ht : P.underlying t = some .string) : Opens P t Kd.string (fun s => s.size ≤ maxLen) := by
  intro H enc w base spare held n cs x h
  obtain ⟨s, rfl, _, hs⟩ := DataW.trod_string ht h
  exact ⟨s, rfl, hs⟩

theorem add_add (ad : Addr) (i j : Nat) : (ad.add i).add j = ad.add (i + j) := by
  unfold Addr.add
  by_cases h1 : i = 0 <;> by_cases h2 : j = 0 <;> simp [h1, h2, Nat.add_assoc]

theorem opens_slice {α : Type} {P : Program} {t e : TypeId} {d : Kd α} {Q : α → Prop} (ht : P.underlying t = some (.slice e)) (hc : P.cellsOf e = d.sz) (ho : Opens P e d Q) :
    Opens P t (Kd.slice e d) (fun xs => xs.length ≤ maxLen ∧ ∀ a ∈ xs, Q a) := by
  intro H enc w base spare held n cs x h
  rcases Go.Deep.open_slice ht h with ⟨rfl, _⟩ | ⟨a, len, cap, m, n', D, Pl, rfl, hb, hl, hm, hmm, rfl, hx⟩
  · refine ⟨[], ⟨none, 0, rfl, Nat.le_refl _, rfl, Nat.zero_le _, fun h => absurd h (Nat.lt_irrefl 0)⟩, by simp⟩
  · have hlm : len ≤ m := by rw [hmm]; split <;> omega
    have h1 : ∀ i, i < len → ∃ b : α × List Value, b.2.length = d.sz ∧ d.K w b.1 b.2 ∧ Q b.1 ∧ ∀ j u, b.2[j]? = some u → w.cell? (a.add (i * d.sz + j)) = some u := by
      intro i hi
      obtain ⟨cs', hcs, htr⟩ := hx i (by omega)
      rw [hc] at hcs
      obtain ⟨_, hlen, hcell⟩ := World.cells?_some hcs
      obtain ⟨b, hK, hQ⟩ := ho H enc w base spare held n' cs' _ htr
      refine ⟨(b, cs'), hlen, hK, hQ, fun j u hu => ?_⟩
      have hj : j < d.sz := by
        rw [← hlen]
        exact (List.getElem?_eq_some_iff.1 hu).1
      rw [← add_add, hcell j hj]
      exact hu
    have hne : ∀ i, i < len → Nonempty (α × List Value) := fun i hi => ⟨(h1 i hi).choose⟩
    rcases Nat.eq_zero_or_pos len with h0 | h0
    · subst h0
      exact ⟨[], ⟨some a, cap, rfl, Nat.zero_le _, rfl, Nat.zero_le _, fun h => absurd h (Nat.lt_irrefl 0)⟩, by simp⟩
    · haveI : Inhabited (α × List Value) := ⟨(h1 0 h0).choose⟩
      obtain ⟨f, hf⟩ := Go.Deep.choose_lt (p := fun i (b : α × List Value) => b.2.length = d.sz ∧ d.K w b.1 b.2 ∧ Q b.1 ∧ ∀ j u, b.2[j]? = some u → w.cell? (a.add (i * d.sz + j)) = some u) h1
      have hlen : ((List.range len).map fun i => (f i).1).length = len := by simp
      refine ⟨(List.range len).map fun i => (f i).1, ⟨some a, cap, by rw [hlen], by rw [hlen]; exact hl, by rw [hlen], by rw [hlen]; unfold maxLen at hm; omega, fun _ => ⟨a, rfl, fun j p hj => ?_⟩⟩, by rw [hlen]; omega, fun b hb => ?_⟩
      · have hjl : j < len := by
          have := (List.getElem?_eq_some_iff.1 hj).1
          simpa using this
        have hp : (f j).1 = p := by
          simp [List.getElem?_map, List.getElem?_range hjl] at hj
          exact hj
        obtain ⟨g1, g2, g3, g4⟩ := hf j hjl
        exact ⟨(f j).2, g1, hp ▸ g2, g4⟩
      · obtain ⟨i, hi, rfl⟩ := List.mem_map.1 hb
        exact (hf i (by simpa using hi)).2.2.1

/-- The fields of a struct from cell o on. -/
def OpensL {α : Type} (P : Program) (fs : List Field) (o : Nat) (d : Kd α) (Q : α → Prop) : Prop :=
  ∀ (H : Type) (enc : TypeId × Value → H) (w : World) (base : Nat) (spare : Nat → Bool) (held : Bool) (n : Nat) (cs : List Value),
    cs.length = o + d.sz → (∀ f ∈ fs, ∃ x : DataW H × List MemPlace, DataW.trod enc P w base spare held n f.type ((cs.drop f.offset).take (P.cellsOf f.type)) = some x) → ∃ a : α, d.K w a (cs.drop o) ∧ Q a

theorem opensL_one {α : Type} {P : Program} {f : Field} {o : Nat} {d : Kd α} {Q : α → Prop} (ho : f.offset = o) (hc : P.cellsOf f.type = d.sz) (h : Opens P f.type d Q) : OpensL P [f] o d Q := by
  intro H enc w base spare held n cs hl hf
  obtain ⟨x, hx⟩ := hf f (by simp)
  rw [ho, hc, List.take_of_length_le (by rw [List.length_drop]; omega)] at hx
  exact h H enc w base spare held n _ x hx

theorem opensL_cons {α β : Type} {P : Program} {f : Field} {fs : List Field} {o : Nat} {d : Kd α} {d' : Kd β} {Q : α → Prop} {Q' : β → Prop} (ho : f.offset = o) (hc : P.cellsOf f.type = d.sz) (h : Opens P f.type d Q)
    (hs : OpensL P fs (o + d.sz) d' Q') : OpensL P (f :: fs) o (Kd.pair d d') (fun x => Q x.1 ∧ Q' x.2) := by
  intro H enc w base spare held n cs hl hf
  have hl' : cs.length = o + (d.sz + d'.sz) := hl
  obtain ⟨x, hx⟩ := hf f (by simp)
  rw [ho, hc] at hx
  obtain ⟨a, hK, hQ⟩ := h H enc w base spare held n _ x hx
  obtain ⟨b, hK', hQ'⟩ := hs H enc w base spare held n cs (by omega) (fun g hg => hf g (by simp [hg]))
  refine ⟨(a, b), ⟨_, _, ?_, hK, hK'⟩, hQ, hQ'⟩
  rw [← List.drop_drop, List.take_append_drop]

theorem opens_struct {α β : Type} {P : Program} {t : TypeId} {fs : Array Field} {d : Kd α} {Q : α → Prop} (ht : P.underlying t = some (.struct fs)) (hc : P.cellsOf t = d.sz) (g : β → α) (mk : α → β) (hg : ∀ a, g (mk a) = a)
    (hs : OpensL P fs.toList 0 d Q) : Opens P t (Kd.iso d g) (fun x => Q (g x)) := by
  intro H enc w base spare held n cs x h
  obtain ⟨xs, n', _, rfl, hl, hlen, hf⟩ := DataW.trod_struct ht h
  obtain ⟨a, hK, hQ⟩ := hs H enc w base spare held n' cs (by rw [hl, hc, Nat.zero_add]) (fun f hf' => by
    obtain ⟨i, hi, rfl⟩ := List.mem_iff_getElem.1 hf'
    have hi' : i < xs.length := by rw [hlen]; simpa using hi
    refine ⟨xs[i], ?_⟩
    have := hf i fs.toList[i] (by simp [List.getElem?_eq_getElem hi])
    simpa [List.getElem?_eq_getElem hi'] using this)
  rw [List.drop_zero] at hK
  exact ⟨mk a, by show d.K w (g (mk a)) cs; rw [hg]; exact hK, by show Q (g (mk a)); rw [hg]; exact hQ⟩

/-- A slice that came in as a parameter. -/
theorem Opens.row {α : Type} {P : Program} {t e : TypeId} {d : Kd α} {Q : List α → Prop} (h : Opens P t (Kd.slice e d) Q) {H : Type} {enc : TypeId × Value → H} {w : World} {base : Nat} {spare : Nat → Bool} {held : Bool} {a : Option Addr} {len cap : Nat} {x : DataW H} {p : List MemPlace}
    (hr : ∃ m, DataW.trod enc P w base spare held m t (Value.slice a len cap).cells.toList = some (x, p)) :
    ∃ l : List α, l.length = len ∧ l.length ≤ cap ∧ Kd.C d w a l.length l ∧ Q l := by
  obtain ⟨m, hm⟩ := hr
  obtain ⟨l, ⟨A, c, e1, hl, hC⟩, hQ⟩ := h _ _ _ _ _ _ _ _ _ hm
  simp [Value.cells] at e1
  obtain ⟨rfl, rfl, rfl⟩ := e1
  exact ⟨l, rfl, hl, hC, hQ⟩
end Go.Proofs.YtfmbpldjbmhnnaaDoor.Opens

/- Written by this session's program (wip/gen): how the laws' arguments read. No condition. -/
namespace Go.Proofs.YtfmbpldjbmhnnaaDoor.My
open Go.RowKit Go.Proofs.YtfmbpldjbmhnnaaDoorW.PrintWords Go.Proofs.YtfmbpldjbmhnnaaDoorW.PrintLast Go.Proofs.YtfmbpldjbmhnnaaDoorW.PrintMore
attribute [local go_sem] max2_int min2_int max_two min_two max_three min_three max_four min_four
set_option linter.unusedVariables false
set_option linter.unusedSimpArgs false

open Go.Proofs.YtfmbpldjbmhnnaaDoor.Opens
def Wint (z : Int) : Prop := (Lit.int .i64 z).wf = true
def Wu8 (z : Int) : Prop := (Lit.int .u8 z).wf = true
def Wbool (_ : Bool) : Prop := True
def Wstr (s : ByteArray) : Prop := s.size ≤ maxLen
def WL {α : Type} (Q : α → Prop) (xs : List α) : Prop := xs.length ≤ maxLen ∧ ∀ a ∈ xs, Q a
def W53 (x : S53) : Prop := Wint x.f0 ∧ (Wint x.f1 ∧ ((WL Wstr) x.f2 ∧ (Wint x.f3 ∧ (Wint x.f4 ∧ ((WL Wstr) x.f5)))))
theorem opens53 : Opens Tryd.prog 53 k53 W53 := opens_struct Tryd.underlying53 (by kernel_rfl) (fun x : S53 => (x.f0, x.f1, x.f2, x.f3, x.f4, x.f5)) (fun a => ⟨a.1, a.2.1, a.2.2.1, a.2.2.2.1, a.2.2.2.2.1, a.2.2.2.2.2⟩) (fun _ => rfl) (opensL_cons rfl (by kernel_rfl) (opens_int .i64 Tryd.underlying3) (opensL_cons rfl (by kernel_rfl) (opens_int .i64 Tryd.underlying3) (opensL_cons rfl (by kernel_rfl) (opens_slice Tryd.underlying37 (by kernel_rfl) (opens_string Tryd.underlying9)) (opensL_cons rfl (by kernel_rfl) (opens_int .i64 Tryd.underlying3) (opensL_cons rfl (by kernel_rfl) (opens_int .i64 Tryd.underlying3) (opensL_one rfl (by kernel_rfl) (opens_slice Tryd.underlying37 (by kernel_rfl) (opens_string Tryd.underlying9))))))))
def W67 (x : S67) : Prop := Wint x.f0 ∧ (Wint x.f1 ∧ ((WL Wstr) x.f2))
theorem opens67 : Opens Tryd.prog 67 k67 W67 := opens_struct Tryd.underlying67 (by kernel_rfl) (fun x : S67 => (x.f0, x.f1, x.f2)) (fun a => ⟨a.1, a.2.1, a.2.2⟩) (fun _ => rfl) (opensL_cons rfl (by kernel_rfl) (opens_int .i64 Tryd.underlying3) (opensL_cons rfl (by kernel_rfl) (opens_int .i64 Tryd.underlying3) (opensL_one rfl (by kernel_rfl) (opens_slice Tryd.underlying37 (by kernel_rfl) (opens_string Tryd.underlying9)))))
end Go.Proofs.YtfmbpldjbmhnnaaDoor.My

/- Written by this session's program (wip/gen): a plain function with the same answers as the Go function, and the proof that the Go code comes to them. Asked: that the plain function has an answer. -/
namespace Go.Proofs.YtfmbpldjbmhnnaaDoor.My
open Go.RowKit Go.Proofs.YtfmbpldjbmhnnaaDoorW.PrintWords Go.Proofs.YtfmbpldjbmhnnaaDoorW.PrintLast Go.Proofs.YtfmbpldjbmhnnaaDoorW.PrintMore
attribute [local go_sem] max2_int min2_int max_two min_two max_three min_three max_four min_four
set_option linter.unusedVariables false
set_option linter.unusedSimpArgs false

/-! ### impl_in: function 64 -/
def impl_in.f (a0 : Int) (a1 : Int) (a2 : Int) : Option (Bool) := if a0 ≥ a1 then (some (decide (a0 ≤ a2))) else (some false)
set_option maxHeartbeats 8000000 in
set_option maxRecDepth 100000 in
theorem impl_in.calls (a0 : Int) (a1 : Int) (a2 : Int) (r : Bool) (w : World) (h : impl_in.f a0 a1 a2 = some r) :
  Calls Tryd.prog 64 #[.int .i64 a0, .int .i64 a1, .int .i64 a2] w fun e w' => e = .returned (.bool r) ∧ Drawn0 w w' := by
 have H : (if a0 ≥ a1 then (some (decide (a0 ≤ a2))) else (some false)) = some r := h
 clear h
 by_cases c4 : a0 ≥ a1
 ·rw [if_pos c4] at H
  have c4b0 : decide (a1 ≤ a0) = true := decide_eq_true c4
  clear c4
  obtain rfl := Option.some.inj H
  go_enter Tryd.func64, Tryd.ntmps64
  go_wp2
  go_ret
  exact ⟨by first | rfl | (simp; done) | (simp [*]; done), by repeat (first | exact Drawn0.refl _ | apply Drawn0.step)⟩
 ·rw [if_neg c4] at H
  have c4b0 : decide (a1 ≤ a0) = false := decide_eq_false c4
  clear c4
  obtain rfl := Option.some.inj H
  go_enter Tryd.func64, Tryd.ntmps64
  go_wp2
  go_ret
  exact ⟨by first | rfl | (simp; done) | (simp [*]; done), by repeat (first | exact Drawn0.refl _ | apply Drawn0.step)⟩

end Go.Proofs.YtfmbpldjbmhnnaaDoor.My

/- Written by this session's program (wip/gen): a plain function with the same answers as the Go function, and the proof that the Go code comes to them. Asked: that the plain function has an answer. -/
namespace Go.Proofs.YtfmbpldjbmhnnaaDoor.My
open Go.RowKit Go.Proofs.YtfmbpldjbmhnnaaDoorW.PrintWords Go.Proofs.YtfmbpldjbmhnnaaDoorW.PrintLast Go.Proofs.YtfmbpldjbmhnnaaDoorW.PrintMore
attribute [local go_sem] max2_int min2_int max_two min_two max_three min_three max_four min_four
set_option linter.unusedVariables false
set_option linter.unusedSimpArgs false

/-! ### impl_isRange: function 38 -/
def impl_isRange.f (a0 : Int) (a1 : Int) : Option (Bool) := (impl_in.f a0 0 999).bind fun t115 => (if t115 = true then ((impl_in.f a1 0 999).bind fun t116 => (some t116)) else (some false))
set_option maxHeartbeats 8000000 in
set_option maxRecDepth 100000 in
theorem impl_isRange.calls (a0 : Int) (a1 : Int) (r : Bool) (w : World) (h : impl_isRange.f a0 a1 = some r) :
  Calls Tryd.prog 38 #[.int .i64 a0, .int .i64 a1] w fun e w' => e = .returned (.bool r) ∧ Drawn0 w w' := by
 have H : ((impl_in.f a0 0 999).bind fun t115 => (if t115 = true then ((impl_in.f a1 0 999).bind fun t116 => (some t116)) else (some false))) = some r := h
 clear h
 replace H := Option.bind_eq_some_iff.mp H
 obtain ⟨t115, A30, H⟩ := H
 replace H : (if t115 = true then ((impl_in.f a1 0 999).bind fun t116 => (some t116)) else (some false)) = some r := H
 have A3 := Aside0.mk A30
 clear A30
 by_cases c4 : t115 = true
 ·subst c4
  have H1 : ((impl_in.f a1 0 999).bind fun t116 => (some t116)) = some r := by rw [if_pos rfl] at H; exact H
  clear H
  have H := H1
  clear H1
  replace H := Option.bind_eq_some_iff.mp H
  obtain ⟨t116, A50, H⟩ := H
  replace H : (some t116) = some r := H
  have A5 := Aside0.mk A50
  clear A50
  obtain rfl := Option.some.inj H
  go_enter Tryd.func38, Tryd.ntmps38
  go_wp2_with (first | ((with_reducible refine gateC (f := 64) rfl ?_); refine goesL_ (some 6) rfl rfl Tryd.func64 (by kernel_rfl) rfl #[.int .i64 a0, .int .i64 0, .int .i64 999] rfl zm ?_; (with_reducible refine (impl_in.calls a0 0 999 true _ A3.out).mono ?_); rintro e w' ⟨rfl, ⟨nd, rfl⟩⟩; refine ⟨_, rfl, ?_⟩) | (go_at_call 64; (with_reducible refine (impl_in.calls a1 0 999 t116 _ A5.out).mono ?_); rintro e w' ⟨rfl, ⟨nd, rfl⟩⟩))
  go_ret
  exact ⟨by first | rfl | (simp; done) | (simp [*]; done), by repeat (first | exact Drawn0.refl _ | apply Drawn0.step)⟩
 ·replace c4 := Bool.eq_false_iff.mpr c4
  subst c4
  have H1 : (some false) = some r := by rw [if_neg (show ¬ (false = true) by decide)] at H; exact H
  clear H
  have H := H1
  clear H1
  obtain rfl := Option.some.inj H
  go_enter Tryd.func38, Tryd.ntmps38
  go_wp2_with (first | ((with_reducible refine gateC (f := 64) rfl ?_); refine goesL_ (some 6) rfl rfl Tryd.func64 (by kernel_rfl) rfl #[.int .i64 a0, .int .i64 0, .int .i64 999] rfl zm ?_; (with_reducible refine (impl_in.calls a0 0 999 false _ A3.out).mono ?_); rintro e w' ⟨rfl, ⟨nd, rfl⟩⟩; refine ⟨_, rfl, ?_⟩))
  go_ret
  exact ⟨by first | rfl | (simp; done) | (simp [*]; done), by repeat (first | exact Drawn0.refl _ | apply Drawn0.step)⟩

end Go.Proofs.YtfmbpldjbmhnnaaDoor.My

/-
  DERIVED: THE SHELF's CONTRACTS AT THIS DUMP, IN PLAIN WORDS (tools/lay-plain.mjs out of 'YtfmbpldjbmhnnaaDoorShelf.lean', which tools/lay-shelf.mjs wrote): THE SAME DECLARATIONS UNDER THE SAME NAMES: 'import', 'namespace', 'open', 'def', 'theorem' AND NOTHING ELSE: no command of the shelf's: FOR A HAND-IN. Each laying: the table of numbers ('.._ren') and one theorem, a field a fact of the dump's own or the kernel's comparison; each contract: ONE APPLICATION.
-/
namespace Go.Proofs
open Go.Shelf
def Tryd.laysM171_ren : Go.Shelf.Ren := ⟨fun | 171 => 65 | 243 => 79 | 246 => 95 | 283 => 107 | 284 => 108 | 285 => 109 | 286 => 110 | 129 => 123 | 317 => 122 | 318 => 124 | 319 => 125 | 320 => 126 | 337 => 134 | 338 => 135 | n => n, fun | 3 => 3 | 9 => 9 | 2 => 2 | 4 => 4 | 171 => 104 | 0 => 0 | 53 => 105 | 37 => 89 | 5 => 5 | 173 => 108 | 212 => 122 | 51 => 123 | 20 => 20 | 213 => 124 | 46 => 112 | 232 => 136 | 233 => 137 | n => n, fun | 17 => 3 | 18 => 4 | 19 => 5 | n => n⟩
theorem Tryd.laysM171 : Go.Proofs.LaysM.n171 Tryd.prog Tryd.laysM171_ren := {
  mixed := by kernel_rfl
  f129 := Tryd.func123.trans (congrArg some (by kernel_rfl))
  f171 := Tryd.func65.trans (congrArg some (by kernel_rfl))
  f243 := Tryd.func79.trans (congrArg some (by kernel_rfl))
  f246 := Tryd.func95.trans (congrArg some (by kernel_rfl))
  f283 := Tryd.func107.trans (congrArg some (by kernel_rfl))
  f284 := Tryd.func108.trans (congrArg some (by kernel_rfl))
  f285 := Tryd.func109.trans (congrArg some (by kernel_rfl))
  f286 := Tryd.func110.trans (congrArg some (by kernel_rfl))
  f317 := Tryd.func122.trans (congrArg some (by kernel_rfl))
  f318 := Tryd.func124.trans (congrArg some (by kernel_rfl))
  f319 := Tryd.func125.trans (congrArg some (by kernel_rfl))
  f320 := Tryd.func126.trans (congrArg some (by kernel_rfl))
  f337 := Tryd.func134.trans (congrArg some (by kernel_rfl))
  f338 := Tryd.func135.trans (congrArg some (by kernel_rfl))
  t0 := Tryd.underlying0
  a0 := Tryd.isAgg0
  z0 := Tryd.sizeOf0
  v0 := Tryd.zeroValue0
  t2 := Tryd.underlying2
  a2 := Tryd.isAgg2
  z2 := Tryd.sizeOf2
  v2 := Tryd.zeroValue2
  t3 := Tryd.underlying3
  a3 := Tryd.isAgg3
  z3 := Tryd.sizeOf3
  v3 := Tryd.zeroValue3
  t4 := Tryd.underlying4
  a4 := Tryd.isAgg4
  z4 := Tryd.sizeOf4
  v4 := Tryd.zeroValue4
  t5 := Tryd.underlying5
  a5 := Tryd.isAgg5
  z5 := Tryd.sizeOf5
  v5 := Tryd.zeroValue5
  t9 := Tryd.underlying9
  a9 := Tryd.isAgg9
  z9 := Tryd.sizeOf9
  v9 := Tryd.zeroValue9
  t20 := Tryd.underlying20
  a20 := Tryd.isAgg20
  z20 := Tryd.sizeOf20
  v20 := Tryd.zeroValue20
  t37 := Tryd.underlying89
  a37 := Tryd.isAgg89
  z37 := Tryd.sizeOf89
  v37 := Tryd.zeroValue89
  t46 := Tryd.underlying112
  a46 := Tryd.isAgg112
  z46 := Tryd.sizeOf112
  v46 := Tryd.zeroValue112
  t51 := Tryd.underlying123
  a51 := Tryd.isAgg123
  z51 := Tryd.sizeOf123
  v51 := Tryd.zeroValue123
  t53 := Tryd.underlying105
  a53 := Tryd.isAgg105
  z53 := Tryd.sizeOf105
  v53 := Tryd.zeroValue105
  t171 := Tryd.underlying104
  a171 := Tryd.isAgg104
  z171 := Tryd.sizeOf104
  v171 := Tryd.zeroValue104
  t173 := Tryd.underlying108
  a173 := Tryd.isAgg108
  z173 := Tryd.sizeOf108
  v173 := Tryd.zeroValue108
  t212 := Tryd.underlying122
  a212 := Tryd.isAgg122
  z212 := Tryd.sizeOf122
  v212 := Tryd.zeroValue122
  t213 := Tryd.underlying124
  a213 := Tryd.isAgg124
  z213 := Tryd.sizeOf124
  t232 := Tryd.underlying136
  a232 := Tryd.isAgg136
  z232 := Tryd.sizeOf136
  v232 := Tryd.zeroValue136
  t233 := Tryd.underlying137
  a233 := Tryd.isAgg137
  z233 := Tryd.sizeOf137
  v233 := Tryd.zeroValue137
  g17 := by kernel_rfl
  g18 := by kernel_rfl
  g19 := by kernel_rfl
  i0 := by kernel_rfl
  i2 := by kernel_rfl
  i3 := by kernel_rfl
  i4 := by kernel_rfl
  i5 := by kernel_rfl
  i9 := by kernel_rfl
  i20 := by kernel_rfl
  i37 := by kernel_rfl
  i46 := by kernel_rfl
  i51 := by kernel_rfl
  i53 := by kernel_rfl
  i171 := by kernel_rfl
  i173 := by kernel_rfl
  i212 := by kernel_rfl
  i232 := by kernel_rfl
  i233 := by kernel_rfl
  m17 := by kernel_rfl
  m18 := by kernel_rfl
  m19 := by kernel_rfl }
open Go.RowKit Go.Sort Go.Lib in
/-- strconv.Itoa: "Itoa is equivalent to FormatInt(int64(i), 10).": i's DECIMAL NUMERAL ('Lib.itoa': a '-' where i is negative, then the digits), FOR EVERY int. The world behind the call: the world before it, new blocks behind the heap (the library's 'var a [24]byte'), draws. (LAID: no walk: one application.) -/
theorem Tryd.strconv_Itoa (n : Int) (h0 : -9223372036854775808 ≤ n) (h1 : n ≤ 9223372036854775807) (w : World) (htab : Lib.TabIs Tryd.prog w "internal/strconv.uint64pow10" .u64 Lib.pow10Tab) :
    Calls Tryd.prog 65 #[.int .i64 n] w fun e w' => e = .returned (.string ⟨(Lib.itoa n).toArray⟩) ∧ ∃ k os, w' = grow (w.drewN k) os := Any.strconv_Itoa Tryd.laysM171 n h0 h1 w htab
def Tryd.laysC172_ren : Go.Shelf.Ren := ⟨fun | 172 => 66 | 244 => 80 | 245 => 81 | 247 => 96 | 279 => 97 | 280 => 98 | 281 => 99 | 282 => 100 | 287 => 111 | 316 => 112 | 171 => 65 | 205 => 113 | 321 => 127 | 322 => 128 | 243 => 79 | 246 => 95 | 283 => 107 | 284 => 108 | 285 => 109 | 286 => 110 | 129 => 123 | 317 => 122 | 318 => 124 | 319 => 125 | 320 => 126 | 337 => 134 | 338 => 135 | n => n, fun | 9 => 9 | 3 => 3 | 75 => 76 | 76 => 77 | 4 => 4 | 5 => 5 | 167 => 97 | 37 => 89 | 0 => 0 | 85 => 98 | 2 => 2 | 168 => 100 | 53 => 105 | 175 => 110 | 46 => 112 | 210 => 115 | 127 => 128 | 145 => 131 | 143 => 129 | 21 => 21 | 171 => 104 | 173 => 108 | 212 => 122 | 51 => 123 | 20 => 20 | 213 => 124 | 232 => 136 | 233 => 137 | 80 => 138 | n => n, fun | 15 => 0 | 16 => 1 | 17 => 3 | 18 => 4 | 19 => 5 | n => n⟩
theorem Tryd.laysC172 : Go.Proofs.LaysC.n172 Tryd.prog Tryd.laysC172_ren := {
  mixed := by kernel_rfl
  f129 := Tryd.func123.trans (congrArg some (by kernel_rfl))
  f171 := Tryd.func65.trans (congrArg some (by kernel_rfl))
  f172 := Tryd.func66.trans (congrArg some (by kernel_rfl))
  f205 := Tryd.func113.trans (congrArg some (by kernel_rfl))
  f243 := Tryd.func79.trans (congrArg some (by kernel_rfl))
  f244 := Tryd.func80.trans (congrArg some (by kernel_rfl))
  f245 := Tryd.func81.trans (congrArg some (by kernel_rfl))
  f246 := Tryd.func95.trans (congrArg some (by kernel_rfl))
  f247 := Tryd.func96.trans (congrArg some (by kernel_rfl))
  f279 := Tryd.func97.trans (congrArg some (by kernel_rfl))
  f280 := Tryd.func98.trans (congrArg some (by kernel_rfl))
  f281 := Tryd.func99.trans (congrArg some (by kernel_rfl))
  f282 := Tryd.func100.trans (congrArg some (by kernel_rfl))
  f283 := Tryd.func107.trans (congrArg some (by kernel_rfl))
  f284 := Tryd.func108.trans (congrArg some (by kernel_rfl))
  f285 := Tryd.func109.trans (congrArg some (by kernel_rfl))
  f286 := Tryd.func110.trans (congrArg some (by kernel_rfl))
  f287 := Tryd.func111.trans (congrArg some (by kernel_rfl))
  f316 := Tryd.func112.trans (congrArg some (by kernel_rfl))
  f317 := Tryd.func122.trans (congrArg some (by kernel_rfl))
  f318 := Tryd.func124.trans (congrArg some (by kernel_rfl))
  f319 := Tryd.func125.trans (congrArg some (by kernel_rfl))
  f320 := Tryd.func126.trans (congrArg some (by kernel_rfl))
  f321 := Tryd.func127.trans (congrArg some (by kernel_rfl))
  f322 := Tryd.func128.trans (congrArg some (by kernel_rfl))
  f337 := Tryd.func134.trans (congrArg some (by kernel_rfl))
  f338 := Tryd.func135.trans (congrArg some (by kernel_rfl))
  t0 := Tryd.underlying0
  a0 := Tryd.isAgg0
  z0 := Tryd.sizeOf0
  v0 := Tryd.zeroValue0
  t2 := Tryd.underlying2
  a2 := Tryd.isAgg2
  z2 := Tryd.sizeOf2
  v2 := Tryd.zeroValue2
  t3 := Tryd.underlying3
  a3 := Tryd.isAgg3
  z3 := Tryd.sizeOf3
  v3 := Tryd.zeroValue3
  t4 := Tryd.underlying4
  a4 := Tryd.isAgg4
  z4 := Tryd.sizeOf4
  v4 := Tryd.zeroValue4
  t5 := Tryd.underlying5
  a5 := Tryd.isAgg5
  z5 := Tryd.sizeOf5
  v5 := Tryd.zeroValue5
  t9 := Tryd.underlying9
  a9 := Tryd.isAgg9
  z9 := Tryd.sizeOf9
  v9 := Tryd.zeroValue9
  t20 := Tryd.underlying20
  a20 := Tryd.isAgg20
  z20 := Tryd.sizeOf20
  v20 := Tryd.zeroValue20
  t21 := Tryd.underlying21
  a21 := Tryd.isAgg21
  z21 := Tryd.sizeOf21
  v21 := Tryd.zeroValue21
  t37 := Tryd.underlying89
  a37 := Tryd.isAgg89
  z37 := Tryd.sizeOf89
  v37 := Tryd.zeroValue89
  t46 := Tryd.underlying112
  a46 := Tryd.isAgg112
  z46 := Tryd.sizeOf112
  v46 := Tryd.zeroValue112
  t51 := Tryd.underlying123
  a51 := Tryd.isAgg123
  z51 := Tryd.sizeOf123
  v51 := Tryd.zeroValue123
  t53 := Tryd.underlying105
  a53 := Tryd.isAgg105
  z53 := Tryd.sizeOf105
  v53 := Tryd.zeroValue105
  t75 := Tryd.underlying76
  a75 := Tryd.isAgg76
  z75 := Tryd.sizeOf76
  v75 := Tryd.zeroValue76
  t76 := Tryd.underlying77
  a76 := Tryd.isAgg77
  z76 := Tryd.sizeOf77
  v76 := Tryd.zeroValue77
  t85 := Tryd.underlying98
  a85 := Tryd.isAgg98
  z85 := Tryd.sizeOf98
  v85 := Tryd.zeroValue98
  t127 := Tryd.underlying128
  a127 := Tryd.isAgg128
  z127 := Tryd.sizeOf128
  v127 := Tryd.zeroValue128
  t143 := Tryd.underlying129
  a143 := Tryd.isAgg129
  z143 := Tryd.sizeOf129
  v143 := Tryd.zeroValue129
  t145 := Tryd.underlying131
  a145 := Tryd.isAgg131
  z145 := Tryd.sizeOf131
  v145 := Tryd.zeroValue131
  t167 := Tryd.underlying97
  a167 := Tryd.isAgg97
  z167 := Tryd.sizeOf97
  v167 := Tryd.zeroValue97
  t168 := Tryd.underlying100
  a168 := Tryd.isAgg100
  z168 := Tryd.sizeOf100
  v168 := Tryd.zeroValue100
  t171 := Tryd.underlying104
  a171 := Tryd.isAgg104
  z171 := Tryd.sizeOf104
  v171 := Tryd.zeroValue104
  t173 := Tryd.underlying108
  a173 := Tryd.isAgg108
  z173 := Tryd.sizeOf108
  v173 := Tryd.zeroValue108
  t175 := Tryd.underlying110
  a175 := Tryd.isAgg110
  z175 := Tryd.sizeOf110
  v175 := Tryd.zeroValue110
  t210 := Tryd.underlying115
  a210 := Tryd.isAgg115
  z210 := Tryd.sizeOf115
  v210 := Tryd.zeroValue115
  t212 := Tryd.underlying122
  a212 := Tryd.isAgg122
  z212 := Tryd.sizeOf122
  v212 := Tryd.zeroValue122
  t213 := Tryd.underlying124
  a213 := Tryd.isAgg124
  z213 := Tryd.sizeOf124
  t232 := Tryd.underlying136
  a232 := Tryd.isAgg136
  z232 := Tryd.sizeOf136
  v232 := Tryd.zeroValue136
  t233 := Tryd.underlying137
  a233 := Tryd.isAgg137
  z233 := Tryd.sizeOf137
  v233 := Tryd.zeroValue137
  g15 := by kernel_rfl
  g16 := by kernel_rfl
  g17 := by kernel_rfl
  g18 := by kernel_rfl
  g19 := by kernel_rfl
  t80 := Tryd.underlying138
  a80 := Tryd.isAgg138
  z80 := Tryd.sizeOf138
  v80 := Tryd.zeroValue138
  i0 := by kernel_rfl
  i2 := by kernel_rfl
  i3 := by kernel_rfl
  i4 := by kernel_rfl
  i5 := by kernel_rfl
  i9 := by kernel_rfl
  i20 := by kernel_rfl
  i21 := by kernel_rfl
  i37 := by kernel_rfl
  i46 := by kernel_rfl
  i51 := by kernel_rfl
  i53 := by kernel_rfl
  i75 := by kernel_rfl
  i76 := by kernel_rfl
  i80 := by kernel_rfl
  i85 := by kernel_rfl
  i127 := by kernel_rfl
  i143 := by kernel_rfl
  i145 := by kernel_rfl
  i167 := by kernel_rfl
  i168 := by kernel_rfl
  i171 := by kernel_rfl
  i173 := by kernel_rfl
  i175 := by kernel_rfl
  i210 := by kernel_rfl
  i212 := by kernel_rfl
  i232 := by kernel_rfl
  i233 := by kernel_rfl
  m15 := by kernel_rfl
  m16 := by kernel_rfl
  m17 := by kernel_rfl
  m18 := by kernel_rfl
  m19 := by kernel_rfl
  c0 := by kernel_rfl
  c2 := by kernel_rfl
  c3 := by kernel_rfl
  c4 := by kernel_rfl
  c5 := by kernel_rfl
  c9 := by kernel_rfl
  c20 := by kernel_rfl
  c21 := by kernel_rfl
  c37 := by kernel_rfl
  c46 := by kernel_rfl
  c51 := by kernel_rfl
  c53 := by kernel_rfl
  c75 := by kernel_rfl
  c76 := by kernel_rfl
  c80 := by kernel_rfl
  c85 := by kernel_rfl
  c127 := by kernel_rfl
  c143 := by kernel_rfl
  c145 := by kernel_rfl
  c167 := by kernel_rfl
  c168 := by kernel_rfl
  c171 := by kernel_rfl
  c173 := by kernel_rfl
  c175 := by kernel_rfl
  c210 := by kernel_rfl
  c212 := by kernel_rfl
  c213 := by kernel_rfl
  c232 := by kernel_rfl
  c233 := by kernel_rfl }
open Go.RowKit in
/-- strconv.Atoi, AT EVERY STRING THAT SPELLS AN int ('Lib.atoiAll .. = .ok v'; of whatever length: leading zeros count): v, AND NO ERROR. The world: as it was, or with the one new row that '[]byte(..)' lays. (LAID: no walk: one application.) -/
theorem Tryd.strconv_Atoi_ok (s : ByteArray) (hmax : s.size ≤ 9223372036854775806) (v : Int) (h : Lib.atoiAll s.data.toList = .ok v) (w : World) :
    Calls Tryd.prog 66 #[.string s] w fun e w' => e = .returned (.tuple #[.int .i64 v, .nilIface]) ∧ (w' = w ∨ ∃ t, w' = Lib.bytesWorld w 5 t) := Any.strconv_Atoi_ok Tryd.laysC172 s hmax v h w
open Go.RowKit in
theorem Tryd.strconv_Atoi_range_var (s : ByteArray) (hlim : s.size ≤ 281474976710656) (h : Lib.atoiAll s.data.toList = .range) (tp : TypeId) (p : Value) (w : World) (hvar : w.var? Tryd.prog "strconv.ErrRange" = some #[.iface tp p]) :
    Calls Tryd.prog 66 #[.string s] w fun e w' => ∃ N, e = .returned (.tuple #[.int .i64 (Lib.atoiSat s.data.toList), .iface 100 (.pointer (some ⟨N, 0, none⟩))]) ∧ w.heap.size ≤ N ∧ w'.heap[N]? = some (.cells #[.string ⟨#[65, 116, 111, 105]⟩, .string s, .iface tp p] 115 (0, 0)) ∧ Below w.heap.size w w' := Any.strconv_Atoi_range_var Tryd.laysC172 s hlim h tp p w hvar
end Go.Proofs

/- What the row lists of the library's variables, in every world that a walk of this seat comes to. No condition. -/
namespace Go.Proofs.YtfmbpldjbmhnnaaDoor.My
open Go.RowKit Go.Joins

/-- The table of powers of ten lies as the row lists it; where 'es' says so, both sentinels hold values. -/
structure Door (es : Bool) (w : World) : Prop where
  tab : Lib.TabIs Tryd.prog w "internal/strconv.uint64pow10" .u64 Lib.pow10Tab
  syn : es = true → ∃ tp p, w.var? Tryd.prog "strconv.ErrSyntax" = some #[.iface tp p]
  rng : es = true → ∃ tp p, w.var? Tryd.prog "strconv.ErrRange" = some #[.iface tp p]
theorem door_gTab : ∃ g, Tryd.prog.globalNamed "internal/strconv.uint64pow10" = some g := Option.isSome_iff_exists.1 (by kernel_rfl)
theorem door_gSyn : ∃ g, Tryd.prog.globalNamed "strconv.ErrSyntax" = some g := Option.isSome_iff_exists.1 (by kernel_rfl)
theorem door_gRng : ∃ g, Tryd.prog.globalNamed "strconv.ErrRange" = some g := Option.isSome_iff_exists.1 (by kernel_rfl)
theorem Door.below {es : Bool} {w w' : World} (h : Door es w) (hb : Below w.heap.size w w') : Door es w' := by
  obtain ⟨g1, e1⟩ := door_gTab
  obtain ⟨g2, e2⟩ := door_gSyn
  obtain ⟨g3, e3⟩ := door_gRng
  refine ⟨var_stays e1 h.tab hb (Nat.le_refl _), fun e => ?_, fun e => ?_⟩
  · obtain ⟨tp, p, hv⟩ := h.syn e
    exact ⟨tp, p, var_stays e2 hv hb (Nat.le_refl _)⟩
  · obtain ⟨tp, p, hv⟩ := h.rng e
    exact ⟨tp, p, var_stays e3 hv hb (Nat.le_refl _)⟩
theorem doorTab {rest : List (String × DataW Unit)} {W : World} (h : laidMet Tryd.prog (("internal/strconv.uint64pow10", Lib.tabData .u64 Lib.pow10Tab) :: rest) W) : Lib.TabIs Tryd.prog W "internal/strconv.uint64pow10" .u64 Lib.pow10Tab :=
  Lib.tabIs_of_head (g := 3) (by kernel_rfl) (by kernel_rfl) Tryd.underlying122 Tryd.underlying105 (by kernel_rfl) (by kernel_rfl) h
theorem door_star : "*" ++ "errors.errorString" = "*errors.errorString" := by decide
theorem door_row (u : TypeId) (h : Tryd.prog.typeName? 3 u = some "*errors.errorString") : u = 129 :=
  typeName_ptr_named (nm := "errors.errorString") (by rw [door_star]; kernel_rfl) (by kernel_rfl) (by decide) u (by rw [door_star]; exact h)
theorem doorSyn {text : List UInt8} {rest : List (String × DataW Unit)} {W : World} (h : laidMet Tryd.prog (("strconv.ErrSyntax", .iface "*errors.errorString" (.ptr (.agg [.lit (.string text)]))) :: rest) W) : ∃ tp p, W.var? Tryd.prog "strconv.ErrSyntax" = some #[.iface tp p] := by
  obtain ⟨a0, s0, hv0, -, -, -⟩ := laid_sentinel (g := 0) h (by kernel_rfl) (by kernel_rfl) Tryd.underlying76 door_row Tryd.underlying129 Tryd.underlying131 rfl rfl Tryd.underlying9 (by kernel_rfl) (by kernel_rfl)
  exact ⟨_, _, hv0⟩
theorem doorRng {text : List UInt8} {rest : List (String × DataW Unit)} {W : World} (h : laidMet Tryd.prog (("strconv.ErrRange", .iface "*errors.errorString" (.ptr (.agg [.lit (.string text)]))) :: rest) W) : ∃ tp p, W.var? Tryd.prog "strconv.ErrRange" = some #[.iface tp p] := by
  obtain ⟨a0, s0, hv0, -, -, -⟩ := laid_sentinel (g := 1) h (by kernel_rfl) (by kernel_rfl) Tryd.underlying76 door_row Tryd.underlying129 Tryd.underlying131 rfl rfl Tryd.underlying9 (by kernel_rfl) (by kernel_rfl)
  exact ⟨_, _, hv0⟩
/-- strconv.Atoi at what is no numeral: 0, and an error that is not nil. -/
theorem atoi_bad (s : ByteArray) (hlim : s.size ≤ 281474976710656) (h1 : ∀ v, Lib.atoiAll s.data.toList ≠ .ok v) (h2 : Lib.atoiAll s.data.toList ≠ .range) (w : World) (ht : Door true w) :
    Calls Tryd.prog 66 #[.string s] w fun e w' => ∃ u N, e = .returned (.tuple #[.int .i64 0, .iface u (.pointer (some ⟨N, 0, none⟩))]) ∧ Below w.heap.size w w' := by
  obtain ⟨tp, p, hv⟩ := ht.syn rfl
  rcases hA : Lib.atoiAll s.data.toList with v | _ | _
  · exact absurd hA (h1 v)
  · exact (Any.strconv_Atoi_syntax_var Tryd.laysC172 s hlim hA tp p w hv).mono fun e w' ⟨N, he, _, _, hb⟩ => ⟨_, N, he, hb⟩
  · exact absurd hA h2
/-- strconv.Atoi at a numeral that no int holds. -/
theorem atoi_far (s : ByteArray) (hlim : s.size ≤ 281474976710656) (h : Lib.atoiAll s.data.toList = .range) (w : World) (ht : Door true w) :
    Calls Tryd.prog 66 #[.string s] w fun e w' => ∃ u N, e = .returned (.tuple #[.int .i64 (Lib.atoiSat s.data.toList), .iface u (.pointer (some ⟨N, 0, none⟩))]) ∧ Below w.heap.size w w' := by
  obtain ⟨tp, p, hv⟩ := ht.rng rfl
  exact (Any.strconv_Atoi_range_var Tryd.laysC172 s hlim h tp p w hv).mono fun e w' ⟨N, he, _, _, hb⟩ => ⟨_, N, he, hb⟩
end Go.Proofs.YtfmbpldjbmhnnaaDoor.My

/- Written by this session's program (wip/gen): a plain function with the same answers as the Go function, and the proof that the Go code comes to them. Asked: that the plain function has an answer. -/
namespace Go.Proofs.YtfmbpldjbmhnnaaDoor.My
open Go.RowKit Go.Proofs.YtfmbpldjbmhnnaaDoorW.PrintWords Go.Proofs.YtfmbpldjbmhnnaaDoorW.PrintLast Go.Proofs.YtfmbpldjbmhnnaaDoorW.PrintMore
attribute [local go_sem] max2_int min2_int max_two min_two max_three min_three max_four min_four
set_option linter.unusedVariables false
set_option linter.unusedSimpArgs false

/-! ### impl_readNumber: function 43 -/
/-- What is read of a text, and whether it is a number from 0 on in its one form. -/
def impl_readNumber.v (a0 : ByteArray) : Int × Bool := match Lib.atoiAll a0.data.toList with
 | .ok v => (v, decide (0 ≤ v) && decide (a0.size ≤ 4) && (Lib.itoa v == a0.toList))
 | .range => (Lib.atoiSat a0.data.toList, false)
 | _ => (0, false)
def impl_readNumber.f (a0 : ByteArray) : Option (Int × Bool) := if a0.size ≤ 281474976710656 then some (impl_readNumber.v a0) else none
set_option maxHeartbeats 4000000 in
set_option maxRecDepth 100000 in
theorem impl_readNumber.calls (a0 : ByteArray) (r1 : Int) (r2 : Bool) (w : World) (ht : Door true w) (h : impl_readNumber.f a0 = some (r1, r2)) :
  Calls Tryd.prog 43 #[.string a0] w fun e w' => e = .returned (.tuple #[.int .i64 r1, .bool r2]) ∧ Below w.heap.size w w' := by
 unfold impl_readNumber.f at h
 split at h
 case isFalse => cases h
 case isTrue hs =>
 injection h with h
 unfold impl_readNumber.v at h
 rcases hA : Lib.atoiAll a0.data.toList with v | _ | _
 ·rw [hA] at h
  simp only [Prod.mk.injEq] at h
  obtain ⟨rfl, rfl⟩ := h
  have hbd := Lib.atoiAll_bounds hA
  have HA := Aside0.mk hA
  have HT := Aside0.mk ht
  have HS := Aside0.mk hs
  have HV := Aside0.mk hbd
  clear hA ht hs hbd
  by_cases h0 : 0 ≤ v
  ·have k0 : decide (0 ≤ v) = true := decide_eq_true h0
   by_cases h4 : a0.size ≤ 4
   ·have k4 : decide ((a0.size : Int) ≤ 4) = true := decide_eq_true (by omega)
    have k5 : decide (a0.size ≤ 4) = true := decide_eq_true h4
    clear h0 h4
    go_enter Tryd.func43, Tryd.ntmps43
    go_wp2_with (first | (go_at_call 66; refine (Tryd.strconv_Atoi_ok a0 (by have := HS.out; omega) v HA.out _).mono ?_; rintro e w1 ⟨rfl, hw⟩; have HB := Aside0.mk (show Below w.heap.size w w1 from by rcases hw with rfl | ⟨t, rfl⟩ <;> first | exact Below.refl _ _ | exact Lib.bytesWorld_below ..); clear hw) | (go_at_call 65; refine (Tryd.strconv_Itoa v HV.out.1 HV.out.2 _ (Door.below HT.out HB.out).tab).mono ?_; rintro e w2 ⟨rfl, kk, os, rfl⟩; have HB2 := Aside0.mk (below_step HB.out (Lib.below_grow _ _ (Nat.le_refl _) kk os)); clear HB))
    go_ret2
    refine ⟨?_, HB2.out⟩
    rw [k0, k5]
    rfl
   ·have k4 : decide ((a0.size : Int) ≤ 4) = false := decide_eq_false (by omega)
    have k5 : decide (a0.size ≤ 4) = false := decide_eq_false h4
    clear h0 h4
    go_enter Tryd.func43, Tryd.ntmps43
    go_wp2_with (go_at_call 66; refine (Tryd.strconv_Atoi_ok a0 (by have := HS.out; omega) v HA.out _).mono ?_; rintro e w1 ⟨rfl, hw⟩; have HB := Aside0.mk (show Below w.heap.size w w1 from by rcases hw with rfl | ⟨t, rfl⟩ <;> first | exact Below.refl _ _ | exact Lib.bytesWorld_below ..); clear hw)
    go_ret2
    refine ⟨?_, HB.out⟩
    rw [k0, k5]
    rfl
  ·have k0 : decide (0 ≤ v) = false := decide_eq_false h0
   clear h0
   go_enter Tryd.func43, Tryd.ntmps43
   go_wp2_with (go_at_call 66; refine (Tryd.strconv_Atoi_ok a0 (by have := HS.out; omega) v HA.out _).mono ?_; rintro e w1 ⟨rfl, hw⟩; have HB := Aside0.mk (show Below w.heap.size w w1 from by rcases hw with rfl | ⟨t, rfl⟩ <;> first | exact Below.refl _ _ | exact Lib.bytesWorld_below ..); clear hw)
   go_ret2
   refine ⟨?_, HB.out⟩
   rw [k0]
   rfl
 ·have h1 : ∀ v, Lib.atoiAll a0.data.toList ≠ .ok v := fun v e => by rw [hA] at e; cases e
  have h2 : Lib.atoiAll a0.data.toList ≠ .range := fun e => by rw [hA] at e; cases e
  rw [hA] at h
  simp only [Prod.mk.injEq] at h
  obtain ⟨rfl, rfl⟩ := h
  have H1 := Aside0.mk h1
  have H2 := Aside0.mk h2
  have HT := Aside0.mk ht
  have HS := Aside0.mk hs
  clear hA ht hs h1 h2
  go_enter Tryd.func43, Tryd.ntmps43
  go_wp2_with (go_at_call 66; refine (atoi_bad a0 HS.out H1.out H2.out _ HT.out).mono ?_; rintro e w1 ⟨u, N, rfl, hb⟩; have HB := Aside0.mk hb; clear hb)
  go_ret2
  exact ⟨rfl, HB.out⟩
 ·rw [hA] at h
  simp only [Prod.mk.injEq] at h
  obtain ⟨rfl, rfl⟩ := h
  have HA := Aside0.mk hA
  have HT := Aside0.mk ht
  have HS := Aside0.mk hs
  clear hA ht hs
  go_enter Tryd.func43, Tryd.ntmps43
  go_wp2_with (go_at_call 66; refine (atoi_far a0 HS.out HA.out _ HT.out).mono ?_; rintro e w1 ⟨u, N, rfl, hb⟩; have HB := Aside0.mk hb; clear hb)
  go_ret2
  exact ⟨rfl, HB.out⟩

end Go.Proofs.YtfmbpldjbmhnnaaDoor.My

/- Written by this session's program (wip/gen): a plain function with the same answers as the Go function, and the proof that the Go code comes to them. Asked: that the plain function has an answer. -/
namespace Go.Proofs.YtfmbpldjbmhnnaaDoor.My
open Go.RowKit Go.Proofs.YtfmbpldjbmhnnaaDoorW.PrintWords Go.Proofs.YtfmbpldjbmhnnaaDoorW.PrintLast Go.Proofs.YtfmbpldjbmhnnaaDoorW.PrintMore
attribute [local go_sem] max2_int min2_int max_two min_two max_three min_three max_four min_four
set_option linter.unusedVariables false
set_option linter.unusedSimpArgs false

/-! ### stringslite_IndexByte: function 118 -/
def stringslite_IndexByte.f (a0 : ByteArray) (a1 : Int) : Option (Int) := some (Lib.indexByte a0.data.toList a1.toNat.toUInt8)
set_option maxHeartbeats 1000000 in
set_option maxRecDepth 100000 in
theorem stringslite_IndexByte.calls (a0 : ByteArray) (a1 : Int) (r : Int) (w : World) (h : stringslite_IndexByte.f a0 a1 = some r) :
  Calls Tryd.prog 118 #[.string a0, .int .u8 a1] w fun e w' => e = .returned (.int .i64 r) ∧ Drawn0 w w' := by
 obtain rfl : Lib.indexByte a0.data.toList a1.toNat.toUInt8 = r := Option.some.inj h
 clear h
 go_enter Tryd.func118, Tryd.ntmps118
 go_wp2
 rw [run_callFunc_extern Tryd.func132 (by kernel_rfl) (by kernel_rfl) (by kernel_rfl) (e := Extern.BytealgIndexByte.indexByte) (by kernel_rfl), Lib.run_indexByteString]
 simp only [Result.andThen]
 rw [Oper.upon_value]
 go_wp2
 go_ret
 exact ⟨rfl, Drawn0.refl _⟩

end Go.Proofs.YtfmbpldjbmhnnaaDoor.My

/- Written by this session's program (wip/gen): a plain function with the same answers as the Go function, and the proof that the Go code comes to them. Asked: that the plain function has an answer. -/
namespace Go.Proofs.YtfmbpldjbmhnnaaDoor.My
open Go.RowKit Go.Proofs.YtfmbpldjbmhnnaaDoorW.PrintWords Go.Proofs.YtfmbpldjbmhnnaaDoorW.PrintLast Go.Proofs.YtfmbpldjbmhnnaaDoorW.PrintMore
attribute [local go_sem] max2_int min2_int max_two min_two max_three min_three max_four min_four
set_option linter.unusedVariables false
set_option linter.unusedSimpArgs false

/-! ### stringslite_Index: function 104 -/
def stringslite_Index.j0 : Nat → ByteArray → ByteArray → Int → Bool → Option (Int)
 | 0, _, _, _, _ => none
 | k + 1, x0, x1, x5, x16 => if x16 = true then (some 0) else (if x5 = 1 then (if 0 < (x1.size : Int) then ((stringslite_IndexByte.f x0 (bt x1 0)).bind fun t213 => (some t213)) else (none)) else (if x5 ≥ (x0.size : Int) then (some (-1)) else (none)))
def stringslite_Index.f (k : Nat) (a0 : ByteArray) (a1 : ByteArray) : Option (Int) := if (a1.size : Int) = 0 then (stringslite_Index.j0 k a0 a1 (a1.size : Int) true) else (stringslite_Index.j0 k a0 a1 (a1.size : Int) (a1.toList == a0.toList))
set_option maxHeartbeats 8000000 in
set_option maxRecDepth 100000 in
theorem stringslite_Index.calls (k : Nat) (a0 : ByteArray) (a1 : ByteArray) (r : Int) (w : World) (h : stringslite_Index.f k a0 a1 = some r) :
  Calls Tryd.prog 104 #[.string a0, .string a1] w fun e w' => e = .returned (.int .i64 r) ∧ Drawn0 w w' := by
 have H : (if (a1.size : Int) = 0 then (stringslite_Index.j0 k a0 a1 (a1.size : Int) true) else (stringslite_Index.j0 k a0 a1 (a1.size : Int) (a1.toList == a0.toList))) = some r := h
 clear h
 have HC3 := Aside0.mk H
 clear H
 go_enter Tryd.func104, Tryd.ntmps104
 go_upto_region 2 with (fail)
 go_cut [16] (fun v16 wc => ∃ (kq : Nat) (x16_2 : Bool), v16 = .bool x16_2 ∧ Aside0 (stringslite_Index.j0 kq a0 a1 (a1.size : Int) x16_2 = some r) ∧ Aside0 (kq ≤ k) ∧ Drawn0 w wc)
 case first =>
  have H := HC3.out
  clear HC3
  by_cases c4 : (a1.size : Int) = 0
  ·rw [if_pos c4] at H
   have c4b0 : ((a1.size : Int) == 0) = true := beq_iff_eq.mpr c4
   have c4b1 : ((a1.size : Int) != 0) = false := bne_eq_false_iff_eq.mpr c4
   clear c4
   (first | rw [c4b0] | (simp only [i64_w, i32_w]; rw [c4b0]) | skip)
   have H' := Aside0.mk H
   clear H
   go_wp2
   go_meet
   case rel => exact ⟨_, (true), zf, H', ⟨by first | omega | exact Nat.le_refl _⟩, by repeat (first | exact Drawn0.refl _ | apply Drawn0.step)⟩
  ·rw [if_neg c4] at H
   have c4b0 : ((a1.size : Int) == 0) = false := beq_eq_false_iff_ne.mpr c4
   have c4b1 : ((a1.size : Int) != 0) = true := bne_iff_ne.mpr c4
   (first | rw [c4b0] | (simp only [i64_w, i32_w]; rw [c4b0]) | skip)
   have H' := Aside0.mk H
   clear H
   go_wp2
   go_meet
   case rel => exact ⟨_, ((a1.toList == a0.toList)), zf, H', ⟨by first | omega | exact Nat.le_refl _⟩, by repeat (first | exact Drawn0.refl _ | apply Drawn0.step)⟩
 case rest =>
  clear HC3
  try clear c1
  try clear p2
  try clear c4
  try clear c4b0
  try clear c4b1
  obtain ⟨kq, x16_2, rfl, HA, HJ2, ⟨mc2, rfl⟩⟩ := hcut
  cases kq with
  | zero => exact absurd HA.out (by simp [stringslite_Index.j0])
  | succ kj2 =>
   have H := HA.out
   clear HA
   simp only [stringslite_Index.j0] at H
   by_cases c5 : x16_2 = true
   ·subst c5
    have H1 : (some 0) = some r := by rw [if_pos rfl] at H; exact H
    clear H
    have H := H1
    clear H1
    obtain rfl := Option.some.inj H
    go_wp2
    go_ret
    exact ⟨by first | rfl | (simp; done) | (simp [*]; done), by repeat (first | exact Drawn0.refl _ | apply Drawn0.step)⟩
   ·replace c5 := Bool.eq_false_iff.mpr c5
    subst c5
    have H1 : (if (a1.size : Int) = 1 then (if 0 < (a1.size : Int) then ((stringslite_IndexByte.f a0 (bt a1 0)).bind fun t213 => (some t213)) else (none)) else (if (a1.size : Int) ≥ (a0.size : Int) then (some (-1)) else (none))) = some r := by rw [if_neg (show ¬ (false = true) by decide)] at H; exact H
    clear H
    have H := H1
    clear H1
    by_cases c6 : (a1.size : Int) = 1
    ·rw [if_pos c6] at H
     have c6b0 : ((a1.size : Int) == 1) = true := beq_iff_eq.mpr c6
     have c6b1 : ((a1.size : Int) != 1) = false := bne_eq_false_iff_eq.mpr c6
     clear c6
     by_cases c7 : 0 < (a1.size : Int)
     ·rw [if_pos c7] at H
      have c7b0 : decide (0 < (a1.size : Int)) = true := decide_eq_true c7
      have c7b1 : decide (0 < a1.size) = true := decide_eq_true (by omega)
      clear c7
      replace H := Option.bind_eq_some_iff.mp H
      obtain ⟨t213, A90, H⟩ := H
      replace H : (some t213) = some r := H
      have A9 := Aside0.mk A90
      clear A90
      obtain rfl := Option.some.inj H
      have p8 : 0 ≤ (0 : Int) := (by omega)
      have q8 : 0 < a1.size := (by have : (0 : Int) < (a1.size : Int) := oa; omega)
      have hx8 : ∀ h : 0 < a1.size, ((a1[0]'h).toNat : Int) = bt a1 0 := bt_at a1 0
      clear p8
      have qi8 : (0 < (a1.size : Int)) = True := eq_true oa
      replace q8 := eq_true q8
      go_wp2_with (first | ((with_reducible refine gateC (f := 118) rfl ?_); refine goesL_ (some 30) rfl rfl Tryd.func118 (by kernel_rfl) rfl #[.string a0, .int .u8 (bt a1 0)] rfl zm ?_; (with_reducible refine (stringslite_IndexByte.calls a0 (bt a1 0) t213 _ A9.out).mono ?_); rintro e w' ⟨rfl, ⟨nd, rfl⟩⟩; refine ⟨_, rfl, ?_⟩))
      go_ret
      exact ⟨by first | rfl | (simp; done) | (simp [*]; done), by repeat (first | exact Drawn0.refl _ | apply Drawn0.step)⟩
     ·rw [if_neg c7] at H
      exact absurd H (by simp)
    ·rw [if_neg c6] at H
     have c6b0 : ((a1.size : Int) == 1) = false := beq_eq_false_iff_ne.mpr c6
     have c6b1 : ((a1.size : Int) != 1) = true := bne_iff_ne.mpr c6
     by_cases c10 : (a1.size : Int) ≥ (a0.size : Int)
     ·rw [if_pos c10] at H
      have c10b0 : decide ((a0.size : Int) ≤ (a1.size : Int)) = true := decide_eq_true c10
      have c10b1 : decide (a0.size ≤ a1.size) = true := decide_eq_true (Int.ofNat_le.mp c10)
      clear c10
      obtain rfl := Option.some.inj H
      go_wp2
      go_ret
      exact ⟨by first | rfl | (simp; done) | (simp [*]; done), by repeat (first | exact Drawn0.refl _ | apply Drawn0.step)⟩
     ·rw [if_neg c10] at H
      exact absurd H (by simp)

end Go.Proofs.YtfmbpldjbmhnnaaDoor.My

/- Written by this session's program (wip/gen): a plain function with the same answers as the Go function, and the proof that the Go code comes to them. Asked: that the plain function has an answer. -/
namespace Go.Proofs.YtfmbpldjbmhnnaaDoor.My
open Go.RowKit Go.Proofs.YtfmbpldjbmhnnaaDoorW.PrintWords Go.Proofs.YtfmbpldjbmhnnaaDoorW.PrintLast Go.Proofs.YtfmbpldjbmhnnaaDoorW.PrintMore
attribute [local go_sem] max2_int min2_int max_two min_two max_three min_three max_four min_four
set_option linter.unusedVariables false
set_option linter.unusedSimpArgs false

/-! ### stringslite_Cut: function 87 -/
def stringslite_Cut.f (k : Nat) (a0 : ByteArray) (a1 : ByteArray) : Option (ByteArray × ByteArray × Bool) := (stringslite_Index.f k a0 a1).bind fun t214 => (if t214 ≥ 0 then (if 0 ≤ t214 then (if t214 ≤ (a0.size : Int) then (if 0 ≤ (wrap64 (t214 + (a1.size : Int))) then (if (wrap64 (t214 + (a1.size : Int))) ≤ (a0.size : Int) then (some (a0.extract 0 (t214 : Int).toNat, a0.extract ((wrap64 (t214 + (a1.size : Int))) : Int).toNat a0.size, true)) else (none)) else (none)) else (none)) else (none)) else (some (a0, (⟨#[]⟩ : ByteArray), false)))
set_option maxHeartbeats 8000000 in
set_option maxRecDepth 100000 in
theorem stringslite_Cut.calls (k : Nat) (a0 : ByteArray) (a1 : ByteArray) (r1 : ByteArray) (r2 : ByteArray) (r3 : Bool) (w : World) (h : stringslite_Cut.f k a0 a1 = some (r1, r2, r3)) :
  Calls Tryd.prog 87 #[.string a0, .string a1] w fun e w' => e = .returned (.tuple #[.string r1, .string r2, .bool r3]) ∧ Drawn0 w w' := by
 have H : ((stringslite_Index.f k a0 a1).bind fun t214 => (if t214 ≥ 0 then (if 0 ≤ t214 then (if t214 ≤ (a0.size : Int) then (if 0 ≤ (wrap64 (t214 + (a1.size : Int))) then (if (wrap64 (t214 + (a1.size : Int))) ≤ (a0.size : Int) then (some (a0.extract 0 (t214 : Int).toNat, a0.extract ((wrap64 (t214 + (a1.size : Int))) : Int).toNat a0.size, true)) else (none)) else (none)) else (none)) else (none)) else (some (a0, (⟨#[]⟩ : ByteArray), false)))) = some (r1, r2, r3) := h
 clear h
 replace H := Option.bind_eq_some_iff.mp H
 obtain ⟨t214, A30, H⟩ := H
 replace H : (if t214 ≥ 0 then (if 0 ≤ t214 then (if t214 ≤ (a0.size : Int) then (if 0 ≤ (wrap64 (t214 + (a1.size : Int))) then (if (wrap64 (t214 + (a1.size : Int))) ≤ (a0.size : Int) then (some (a0.extract 0 (t214 : Int).toNat, a0.extract ((wrap64 (t214 + (a1.size : Int))) : Int).toNat a0.size, true)) else (none)) else (none)) else (none)) else (none)) else (some (a0, (⟨#[]⟩ : ByteArray), false))) = some (r1, r2, r3) := H
 have A3 := Aside0.mk A30
 clear A30
 by_cases c4 : t214 ≥ 0
 ·rw [if_pos c4] at H
  have c4b0 : decide (0 ≤ t214) = true := decide_eq_true c4
  clear c4
  by_cases c5 : 0 ≤ t214
  ·rw [if_pos c5] at H
   have c5b0 := eq_true c5
   have c5b1 : decide (0 ≤ t214) = true := decide_eq_true c5
   clear c5
   by_cases c6 : t214 ≤ (a0.size : Int)
   ·rw [if_pos c6] at H
    have c6b0 := eq_true c6
    have c6b1 : decide (t214 ≤ (a0.size : Int)) = true := decide_eq_true c6
    clear c6
    obtain ⟨ji7, hji7⟩ : ∃ j_ : Int, (wrap64 (t214 + (a1.size : Int))) = j_ := ⟨_, rfl⟩
    replace H : (if 0 ≤ (ji7) then (if (ji7) ≤ (a0.size : Int) then (some (a0.extract 0 (t214 : Int).toNat, a0.extract ((ji7) : Int).toNat a0.size, true)) else (none)) else (none)) = some (r1, r2, r3) := by first | (rw [hji7] at H; exact H) | (simp only [hji7] at H ⊢; exact H)
    (try rw [hji7] at A3)
    have hji7w : (IntKind.i64.wrap (t214 + (a1.size : Int))) = ji7 := (i64_w _).trans hji7
    by_cases c8 : 0 ≤ (ji7)
    ·rw [if_pos c8] at H
     have c8b0 := eq_true c8
     have c8b1 : decide (0 ≤ (ji7)) = true := decide_eq_true c8
     clear c8
     by_cases c9 : (ji7) ≤ (a0.size : Int)
     ·rw [if_pos c9] at H
      have c9b0 := eq_true c9
      have c9b1 : decide ((ji7) ≤ (a0.size : Int)) = true := decide_eq_true c9
      clear c9
      simp only [Option.some.injEq, Prod.mk.injEq] at H
      obtain ⟨rfl, rfl, rfl⟩ := H
      go_enter Tryd.func87, Tryd.ntmps87
      go_wp2_with (first | (go_at_call 104; (with_reducible refine (stringslite_Index.calls k a0 a1 t214 _ A3.out).mono ?_); rintro e w' ⟨rfl, ⟨nd, rfl⟩⟩; (try exact zd)))
      repeat (go_quiet (first | (go_at_call 104; (with_reducible refine (stringslite_Index.calls k a0 a1 t214 _ A3.out).mono ?_); rintro e w' ⟨rfl, ⟨nd, rfl⟩⟩; (try exact zd))); try go_wp2_with (first | (go_at_call 104; (with_reducible refine (stringslite_Index.calls k a0 a1 t214 _ A3.out).mono ?_); rintro e w' ⟨rfl, ⟨nd, rfl⟩⟩; (try exact zd))))
      go_ret3
      exact ⟨by first | rfl | (simp; done) | (simp only [← hji7] <;> (first | rfl | simp)) | (simp [*]; done), by repeat (first | exact Drawn0.refl _ | apply Drawn0.step)⟩
     ·rw [if_neg c9] at H
      exact absurd H (by simp)
    ·rw [if_neg c8] at H
     exact absurd H (by simp)
   ·rw [if_neg c6] at H
    exact absurd H (by simp)
  ·rw [if_neg c5] at H
   exact absurd H (by simp)
 ·rw [if_neg c4] at H
  have c4b0 : decide (0 ≤ t214) = false := decide_eq_false c4
  clear c4
  simp only [Option.some.injEq, Prod.mk.injEq] at H
  obtain ⟨rfl, rfl, rfl⟩ := H
  go_enter Tryd.func87, Tryd.ntmps87
  go_wp2_with (first | (go_at_call 104; (with_reducible refine (stringslite_Index.calls k a0 a1 t214 _ A3.out).mono ?_); rintro e w' ⟨rfl, ⟨nd, rfl⟩⟩; (try exact zd)))
  repeat (go_quiet (first | (go_at_call 104; (with_reducible refine (stringslite_Index.calls k a0 a1 t214 _ A3.out).mono ?_); rintro e w' ⟨rfl, ⟨nd, rfl⟩⟩; (try exact zd))); try go_wp2_with (first | (go_at_call 104; (with_reducible refine (stringslite_Index.calls k a0 a1 t214 _ A3.out).mono ?_); rintro e w' ⟨rfl, ⟨nd, rfl⟩⟩; (try exact zd))))
  go_ret3
  exact ⟨by first | rfl | (simp; done) | (simp [*]; done), by repeat (first | exact Drawn0.refl _ | apply Drawn0.step)⟩

end Go.Proofs.YtfmbpldjbmhnnaaDoor.My

/- Written by this session's program (wip/gen): a plain function with the same answers as the Go function, and the proof that the Go code comes to them. Asked: that the plain function has an answer. -/
namespace Go.Proofs.YtfmbpldjbmhnnaaDoor.My
open Go.RowKit Go.Proofs.YtfmbpldjbmhnnaaDoorW.PrintWords Go.Proofs.YtfmbpldjbmhnnaaDoorW.PrintLast Go.Proofs.YtfmbpldjbmhnnaaDoorW.PrintMore
attribute [local go_sem] max2_int min2_int max_two min_two max_three min_three max_four min_four
set_option linter.unusedVariables false
set_option linter.unusedSimpArgs false

/-! ### strings_Cut: function 74 -/
def strings_Cut.f (k : Nat) (a0 : ByteArray) (a1 : ByteArray) : Option (ByteArray × ByteArray × Bool) := (stringslite_Cut.f k a0 a1).bind fun bt215 => (some (bt215.1, bt215.2.1, bt215.2.2))
set_option maxHeartbeats 8000000 in
set_option maxRecDepth 100000 in
theorem strings_Cut.calls (k : Nat) (a0 : ByteArray) (a1 : ByteArray) (r1 : ByteArray) (r2 : ByteArray) (r3 : Bool) (w : World) (h : strings_Cut.f k a0 a1 = some (r1, r2, r3)) :
  Calls Tryd.prog 74 #[.string a0, .string a1] w fun e w' => e = .returned (.tuple #[.string r1, .string r2, .bool r3]) ∧ Drawn0 w w' := by
 have H : ((stringslite_Cut.f k a0 a1).bind fun bt215 => (some (bt215.1, bt215.2.1, bt215.2.2))) = some (r1, r2, r3) := h
 clear h
 replace H := Option.bind_eq_some_iff.mp H
 obtain ⟨⟨t215, t216, t217⟩, A30, H⟩ := H
 replace H : (some (t215, t216, t217)) = some (r1, r2, r3) := H
 have A3 := Aside0.mk A30
 clear A30
 simp only [Option.some.injEq, Prod.mk.injEq] at H
 obtain ⟨rfl, rfl, rfl⟩ := H
 go_enter Tryd.func74, Tryd.ntmps74
 go_wp2_with (first | ((with_reducible refine gateC (f := 87) rfl ?_); refine goesL_ (some 9) rfl rfl Tryd.func87 (by kernel_rfl) rfl #[.string a0, .string a1] rfl zm ?_; (with_reducible refine (stringslite_Cut.calls k a0 a1 t215 t216 t217 _ A3.out).mono ?_); rintro e w' ⟨rfl, ⟨nd, rfl⟩⟩; refine ⟨_, rfl, ?_⟩))
 go_ret3
 exact ⟨by first | rfl | (simp; done) | (simp [*]; done), by repeat (first | exact Drawn0.refl _ | apply Drawn0.step)⟩

end Go.Proofs.YtfmbpldjbmhnnaaDoor.My

/- Written by this session's program (wip/gen): a plain function with the same answers as the Go function, and the proof that the Go code comes to them. Asked: that the plain function has an answer. -/
namespace Go.Proofs.YtfmbpldjbmhnnaaDoor.My
open Go.RowKit Go.Proofs.YtfmbpldjbmhnnaaDoorW.PrintWords Go.Proofs.YtfmbpldjbmhnnaaDoorW.PrintLast Go.Proofs.YtfmbpldjbmhnnaaDoorW.PrintMore
attribute [local go_sem] max2_int min2_int max_two min_two max_three min_three max_four min_four
set_option linter.unusedVariables false
set_option linter.unusedSimpArgs false

/-! ### impl_readTwo: function 55 -/
def impl_readTwo.f (k : Nat) (a0 : ByteArray) : Option (Int × Int × Bool × Bool) := (strings_Cut.f k a0 (⟨#[44]⟩ : ByteArray)).bind fun bt218 => ((impl_readNumber.f bt218.1).bind fun bt221 => (if bt218.2.2 = true then ((impl_readNumber.f bt218.2.1).bind fun bt223 => (if bt221.2 = true then (some (bt221.1, bt223.1, true, bt223.2)) else (some (bt221.1, bt223.1, true, false)))) else (some (bt221.1, bt221.1, false, bt221.2))))
set_option maxHeartbeats 8000000 in
set_option maxRecDepth 100000 in
theorem impl_readTwo.calls (k : Nat) (a0 : ByteArray) (r1 : Int) (r2 : Int) (r3 : Bool) (r4 : Bool) (w : World) (ht : Door true w) (h : impl_readTwo.f k a0 = some (r1, r2, r3, r4)) :
  Calls Tryd.prog 55 #[.string a0] w fun e w' => e = .returned (.tuple #[.int .i64 r1, .int .i64 r2, .bool r3, .bool r4]) ∧ Below w.heap.size w w' := by
 have HT := Aside0.mk ht
 clear ht
 have HB := Aside0.mk (Below.refl w.heap.size w)
 have H : ((strings_Cut.f k a0 (⟨#[44]⟩ : ByteArray)).bind fun bt218 => ((impl_readNumber.f bt218.1).bind fun bt221 => (if bt218.2.2 = true then ((impl_readNumber.f bt218.2.1).bind fun bt223 => (if bt221.2 = true then (some (bt221.1, bt223.1, true, bt223.2)) else (some (bt221.1, bt223.1, true, false)))) else (some (bt221.1, bt221.1, false, bt221.2))))) = some (r1, r2, r3, r4) := h
 clear h
 replace H := Option.bind_eq_some_iff.mp H
 obtain ⟨⟨t218, t219, t220⟩, A20, H⟩ := H
 replace H : ((impl_readNumber.f t218).bind fun bt221 => (if t220 = true then ((impl_readNumber.f t219).bind fun bt223 => (if bt221.2 = true then (some (bt221.1, bt223.1, true, bt223.2)) else (some (bt221.1, bt223.1, true, false)))) else (some (bt221.1, bt221.1, false, bt221.2)))) = some (r1, r2, r3, r4) := H
 have A2 := Aside0.mk A20
 clear A20
 replace H := Option.bind_eq_some_iff.mp H
 obtain ⟨⟨t221, t222⟩, A30, H⟩ := H
 replace H : (if t220 = true then ((impl_readNumber.f t219).bind fun bt223 => (if t222 = true then (some (t221, bt223.1, true, bt223.2)) else (some (t221, bt223.1, true, false)))) else (some (t221, t221, false, t222))) = some (r1, r2, r3, r4) := H
 have A3 := Aside0.mk A30
 clear A30
 by_cases c4 : t220 = true
 ·subst c4
  have H1 : ((impl_readNumber.f t219).bind fun bt223 => (if t222 = true then (some (t221, bt223.1, true, bt223.2)) else (some (t221, bt223.1, true, false)))) = some (r1, r2, r3, r4) := by rw [if_pos rfl] at H; exact H
  clear H
  have H := H1
  clear H1
  replace H := Option.bind_eq_some_iff.mp H
  obtain ⟨⟨t223, t224⟩, A50, H⟩ := H
  replace H : (if t222 = true then (some (t221, t223, true, t224)) else (some (t221, t223, true, false))) = some (r1, r2, r3, r4) := H
  have A5 := Aside0.mk A50
  clear A50
  by_cases c6 : t222 = true
  ·subst c6
   have H1 : (some (t221, t223, true, t224)) = some (r1, r2, r3, r4) := by rw [if_pos rfl] at H; exact H
   clear H
   have H := H1
   clear H1
   simp only [Option.some.injEq, Prod.mk.injEq] at H
   obtain ⟨rfl, rfl, rfl, rfl⟩ := H
   go_enter Tryd.func55, Tryd.ntmps55
   go_wp2_with (first | ((with_reducible refine gateC (f := 74) rfl ?_); refine goesL_ (some 15) rfl rfl Tryd.func74 (by kernel_rfl) rfl #[.string a0, .string (⟨#[44]⟩ : ByteArray)] rfl zm ?_; (with_reducible refine (strings_Cut.calls k a0 (⟨#[44]⟩ : ByteArray) t218 t219 true _ A2.out).mono ?_); rintro e w' ⟨rfl, ⟨nd, rfl⟩⟩; refine ⟨_, rfl, ?_⟩) | ((with_reducible refine gateC (f := 43) rfl ?_); refine goesL_ (some 21) rfl rfl Tryd.func43 (by kernel_rfl) rfl #[.string t218] rfl zm ?_; (with_reducible refine (impl_readNumber.calls t218 t221 true _ ?sideT A3.out).mono ?_); (case sideT => exact Door.below HT.out zb); rintro e w7 ⟨rfl, hb⟩; refine ⟨_, rfl, ?_⟩; have n0_ := Aside0.mk (below_step zb hb); clear HB; have HB := n0_; clear n0_; (try clear hb); (try clear hb2); (try clear hk); (try clear hi)) | ((with_reducible refine gateC (f := 43) rfl ?_); refine goesL_ (some 31) rfl rfl Tryd.func43 (by kernel_rfl) rfl #[.string t219] rfl zm ?_; (with_reducible refine (impl_readNumber.calls t219 t223 t224 _ ?sideT A5.out).mono ?_); (case sideT => exact Door.below HT.out zb); rintro e w8 ⟨rfl, hb⟩; refine ⟨_, rfl, ?_⟩; have n0_ := Aside0.mk (below_step zb hb); clear HB; have HB := n0_; clear n0_; (try clear hb); (try clear hb2); (try clear hk); (try clear hi)))
   refine bodyPost_ret (results_list (rs := [.tmp 2, .tmp 3, .tmp 4, .tmp 5]) rfl (by simp) (.tmp (.tmp (.tmp (.tmp .nil))))) rfl ?_
   exact ⟨by first | rfl | (simp [errW_none, errW_some] <;> rfl) | (simp [*, errW_none, errW_some] <;> rfl), by repeat (first | (with_reducible first | exact HB.out | apply below_alloc | apply pw_below_drewN | apply below_drew1) | exact HB.out)⟩
  ·replace c6 := Bool.eq_false_iff.mpr c6
   subst c6
   have H1 : (some (t221, t223, true, false)) = some (r1, r2, r3, r4) := by rw [if_neg (show ¬ (false = true) by decide)] at H; exact H
   clear H
   have H := H1
   clear H1
   simp only [Option.some.injEq, Prod.mk.injEq] at H
   obtain ⟨rfl, rfl, rfl, rfl⟩ := H
   go_enter Tryd.func55, Tryd.ntmps55
   go_wp2_with (first | ((with_reducible refine gateC (f := 74) rfl ?_); refine goesL_ (some 15) rfl rfl Tryd.func74 (by kernel_rfl) rfl #[.string a0, .string (⟨#[44]⟩ : ByteArray)] rfl zm ?_; (with_reducible refine (strings_Cut.calls k a0 (⟨#[44]⟩ : ByteArray) t218 t219 true _ A2.out).mono ?_); rintro e w' ⟨rfl, ⟨nd, rfl⟩⟩; refine ⟨_, rfl, ?_⟩) | ((with_reducible refine gateC (f := 43) rfl ?_); refine goesL_ (some 21) rfl rfl Tryd.func43 (by kernel_rfl) rfl #[.string t218] rfl zm ?_; (with_reducible refine (impl_readNumber.calls t218 t221 false _ ?sideT A3.out).mono ?_); (case sideT => exact Door.below HT.out zb); rintro e w9 ⟨rfl, hb⟩; refine ⟨_, rfl, ?_⟩; have n0_ := Aside0.mk (below_step zb hb); clear HB; have HB := n0_; clear n0_; (try clear hb); (try clear hb2); (try clear hk); (try clear hi)) | ((with_reducible refine gateC (f := 43) rfl ?_); refine goesL_ (some 31) rfl rfl Tryd.func43 (by kernel_rfl) rfl #[.string t219] rfl zm ?_; (with_reducible refine (impl_readNumber.calls t219 t223 t224 _ ?sideT A5.out).mono ?_); (case sideT => exact Door.below HT.out zb); rintro e w10 ⟨rfl, hb⟩; refine ⟨_, rfl, ?_⟩; have n0_ := Aside0.mk (below_step zb hb); clear HB; have HB := n0_; clear n0_; (try clear hb); (try clear hb2); (try clear hk); (try clear hi)))
   refine bodyPost_ret (results_list (rs := [.tmp 2, .tmp 3, .tmp 4, .tmp 5]) rfl (by simp) (.tmp (.tmp (.tmp (.tmp .nil))))) rfl ?_
   exact ⟨by first | rfl | (simp [errW_none, errW_some] <;> rfl) | (simp [*, errW_none, errW_some] <;> rfl), by repeat (first | (with_reducible first | exact HB.out | apply below_alloc | apply pw_below_drewN | apply below_drew1) | exact HB.out)⟩
 ·replace c4 := Bool.eq_false_iff.mpr c4
  subst c4
  have H1 : (some (t221, t221, false, t222)) = some (r1, r2, r3, r4) := by rw [if_neg (show ¬ (false = true) by decide)] at H; exact H
  clear H
  have H := H1
  clear H1
  simp only [Option.some.injEq, Prod.mk.injEq] at H
  obtain ⟨rfl, rfl, rfl, rfl⟩ := H
  go_enter Tryd.func55, Tryd.ntmps55
  go_wp2_with (first | ((with_reducible refine gateC (f := 74) rfl ?_); refine goesL_ (some 15) rfl rfl Tryd.func74 (by kernel_rfl) rfl #[.string a0, .string (⟨#[44]⟩ : ByteArray)] rfl zm ?_; (with_reducible refine (strings_Cut.calls k a0 (⟨#[44]⟩ : ByteArray) t218 t219 false _ A2.out).mono ?_); rintro e w' ⟨rfl, ⟨nd, rfl⟩⟩; refine ⟨_, rfl, ?_⟩) | ((with_reducible refine gateC (f := 43) rfl ?_); refine goesL_ (some 21) rfl rfl Tryd.func43 (by kernel_rfl) rfl #[.string t218] rfl zm ?_; (with_reducible refine (impl_readNumber.calls t218 t221 t222 _ ?sideT A3.out).mono ?_); (case sideT => exact Door.below HT.out zb); rintro e w11 ⟨rfl, hb⟩; refine ⟨_, rfl, ?_⟩; have n0_ := Aside0.mk (below_step zb hb); clear HB; have HB := n0_; clear n0_; (try clear hb); (try clear hb2); (try clear hk); (try clear hi)))
  refine bodyPost_ret (results_list (rs := [.tmp 2, .tmp 3, .tmp 4, .tmp 5]) rfl (by simp) (.tmp (.tmp (.tmp (.tmp .nil))))) rfl ?_
  exact ⟨by first | rfl | (simp [errW_none, errW_some] <;> rfl) | (simp [*, errW_none, errW_some] <;> rfl), by repeat (first | (with_reducible first | exact HB.out | apply below_alloc | apply pw_below_drewN | apply below_drew1) | exact HB.out)⟩

end Go.Proofs.YtfmbpldjbmhnnaaDoor.My

/- Written by this session's program (wip/gen): a plain function with the same answers as the Go function, and the proof that the Go code comes to them. Asked: that the plain function has an answer. -/
namespace Go.Proofs.YtfmbpldjbmhnnaaDoor.My
open Go.RowKit Go.Proofs.YtfmbpldjbmhnnaaDoorW.PrintWords Go.Proofs.YtfmbpldjbmhnnaaDoorW.PrintLast Go.Proofs.YtfmbpldjbmhnnaaDoorW.PrintMore
attribute [local go_sem] max2_int min2_int max_two min_two max_three min_three max_four min_four
set_option linter.unusedVariables false
set_option linter.unusedSimpArgs false

/-! ### impl_ReadCount: function 27 -/
def impl_ReadCount.j0 : Nat → Int → Int → Bool → Option (Int × Int × Bool)
 | 0, _, _, _ => none
 | k + 1, x5, x6, x8 => if x6 > 0 then (if x8 = true then ((impl_isRange.f (wrap64 (x5 - 1)) x6).bind fun t265 => (if t265 = true then (some (wrap64 (x5 - 1), x6, true)) else (some (0, 0, false)))) else (some (0, 0, false))) else (if x8 = true then ((impl_isRange.f x5 x6).bind fun t266 => (if t266 = true then (some (x5, x6, true)) else (some (0, 0, false)))) else (some (0, 0, false)))
def impl_ReadCount.f (k : Nat) (a0 : ByteArray) : Option (Int × Int × Bool) := (impl_readTwo.f k a0).bind fun bt261 => (if bt261.2.2.1 = true then (impl_ReadCount.j0 k bt261.1 bt261.2.1 bt261.2.2.2) else (impl_ReadCount.j0 k bt261.1 1 bt261.2.2.2))
set_option maxHeartbeats 8000000 in
set_option maxRecDepth 100000 in
theorem impl_ReadCount.calls (k : Nat) (a0 : ByteArray) (r1 : Int) (r2 : Int) (r3 : Bool) (w : World) (ht : Door true w) (h : impl_ReadCount.f k a0 = some (r1, r2, r3)) :
  Calls Tryd.prog 27 #[.string a0] w fun e w' => e = .returned (.tuple #[.int .i64 r1, .int .i64 r2, .bool r3]) ∧ Below w.heap.size w w' := by
 have HT := Aside0.mk ht
 clear ht
 have HB := Aside0.mk (Below.refl w.heap.size w)
 have H : ((impl_readTwo.f k a0).bind fun bt261 => (if bt261.2.2.1 = true then (impl_ReadCount.j0 k bt261.1 bt261.2.1 bt261.2.2.2) else (impl_ReadCount.j0 k bt261.1 1 bt261.2.2.2))) = some (r1, r2, r3) := h
 clear h
 replace H := Option.bind_eq_some_iff.mp H
 obtain ⟨⟨t261, t262, t263, t264⟩, A20, H⟩ := H
 replace H : (if t263 = true then (impl_ReadCount.j0 k t261 t262 t264) else (impl_ReadCount.j0 k t261 1 t264)) = some (r1, r2, r3) := H
 have A2 := Aside0.mk A20
 clear A20
 have HC3 := Aside0.mk H
 clear H
 go_enter Tryd.func27, Tryd.ntmps27
 go_upto_if 17 with (first | ((with_reducible refine gateC (f := 55) rfl ?_); refine goesL_ (some 11) rfl rfl Tryd.func55 (by kernel_rfl) rfl #[.string a0] rfl zm ?_; (with_reducible refine (impl_readTwo.calls k a0 t261 t262 t263 t264 _ ?sideT A2.out).mono ?_); (case sideT => exact Door.below HT.out zb); rintro e w4 ⟨rfl, hb⟩; refine ⟨_, rfl, ?_⟩; have n0_ := Aside0.mk (below_step zb hb); clear HB; have HB := n0_; clear n0_; (try clear hb); (try clear hb2); (try clear hk); (try clear hi)))
 (try simp only [Act.put, List.setIfInBounds_toArray, List.set_cons_zero, List.set_cons_succ])
 go_cut [6] (fun v6 wc => ∃ (kq : Nat) (x6_2 : Int), v6 = .int .i64 x6_2 ∧ Aside0 (impl_ReadCount.j0 kq t261 x6_2 t264 = some (r1, r2, r3)) ∧ Aside0 (kq ≤ k) ∧ Aside0 (Below w.heap.size w wc))
 case first =>
  have H := HC3.out
  clear HC3
  by_cases c5 : t263 = true
  ·subst c5
   have H1 : (impl_ReadCount.j0 k t261 t262 t264) = some (r1, r2, r3) := by rw [if_pos rfl] at H; exact H
   clear H
   have H := H1
   clear H1
   have H' := Aside0.mk H
   clear H
   go_wp2
   go_meet
   case rel => exact ⟨_, (t262), zf, H', ⟨by first | omega | exact Nat.le_refl _⟩, ⟨by repeat (first | (with_reducible first | exact HB.out | apply below_alloc | apply pw_below_drewN | apply below_drew1) | exact HB.out)⟩⟩
  ·replace c5 := Bool.eq_false_iff.mpr c5
   subst c5
   have H1 : (impl_ReadCount.j0 k t261 1 t264) = some (r1, r2, r3) := by rw [if_neg (show ¬ (false = true) by decide)] at H; exact H
   clear H
   have H := H1
   clear H1
   have H' := Aside0.mk H
   clear H
   go_wp2
   go_meet
   case rel => exact ⟨_, (1), zf, H', ⟨by first | omega | exact Nat.le_refl _⟩, ⟨by repeat (first | (with_reducible first | exact HB.out | apply below_alloc | apply pw_below_drewN | apply below_drew1) | exact HB.out)⟩⟩
 case rest =>
  clear HC3
  try clear c2
  try clear p2
  try clear c5
  obtain ⟨kq, x6_2, rfl, HA, HJ2, HB⟩ := hcut
  cases kq with
  | zero => exact absurd HA.out (by simp [impl_ReadCount.j0])
  | succ kj2 =>
   have H := HA.out
   clear HA
   simp only [impl_ReadCount.j0] at H
   by_cases c6 : x6_2 > 0
   ·rw [if_pos c6] at H
    have c6b0 : decide (0 < x6_2) = true := decide_eq_true c6
    clear c6
    by_cases c7 : t264 = true
    ·subst c7
     have H1 : ((impl_isRange.f (wrap64 (t261 - 1)) x6_2).bind fun t265 => (if t265 = true then (some (wrap64 (t261 - 1), x6_2, true)) else (some (0, 0, false)))) = some (r1, r2, r3) := by rw [if_pos rfl] at H; exact H
     clear H
     have H := H1
     clear H1
     replace H := Option.bind_eq_some_iff.mp H
     obtain ⟨t265, A80, H⟩ := H
     replace H : (if t265 = true then (some (wrap64 (t261 - 1), x6_2, true)) else (some (0, 0, false))) = some (r1, r2, r3) := H
     have A8 := Aside0.mk A80
     clear A80
     by_cases c9 : t265 = true
     ·subst c9
      have H1 : (some (wrap64 (t261 - 1), x6_2, true)) = some (r1, r2, r3) := by rw [if_pos rfl] at H; exact H
      clear H
      have H := H1
      clear H1
      simp only [Option.some.injEq, Prod.mk.injEq] at H
      obtain ⟨rfl, rfl, rfl⟩ := H
      go_wp2_with (first | (go_at_call 38; (with_reducible refine (impl_isRange.calls (wrap64 (t261 - 1)) x6_2 true _ A8.out).mono ?_); rintro e w' ⟨rfl, ⟨nd, rfl⟩⟩))
      go_ret3
      exact ⟨by first | rfl | (simp [errW_none, errW_some] <;> rfl) | (simp [*, errW_none, errW_some] <;> rfl), by repeat (first | (with_reducible first | exact HB.out | apply below_alloc | apply pw_below_drewN | apply below_drew1) | exact HB.out)⟩
     ·replace c9 := Bool.eq_false_iff.mpr c9
      subst c9
      have H1 : (some (0, 0, false)) = some (r1, r2, r3) := by rw [if_neg (show ¬ (false = true) by decide)] at H; exact H
      clear H
      have H := H1
      clear H1
      simp only [Option.some.injEq, Prod.mk.injEq] at H
      obtain ⟨rfl, rfl, rfl⟩ := H
      go_wp2_with (first | (go_at_call 38; (with_reducible refine (impl_isRange.calls (wrap64 (t261 - 1)) x6_2 false _ A8.out).mono ?_); rintro e w' ⟨rfl, ⟨nd, rfl⟩⟩))
      go_ret3
      exact ⟨by first | rfl | (simp [errW_none, errW_some] <;> rfl) | (simp [*, errW_none, errW_some] <;> rfl), by repeat (first | (with_reducible first | exact HB.out | apply below_alloc | apply pw_below_drewN | apply below_drew1) | exact HB.out)⟩
    ·replace c7 := Bool.eq_false_iff.mpr c7
     subst c7
     have H1 : (some (0, 0, false)) = some (r1, r2, r3) := by rw [if_neg (show ¬ (false = true) by decide)] at H; exact H
     clear H
     have H := H1
     clear H1
     simp only [Option.some.injEq, Prod.mk.injEq] at H
     obtain ⟨rfl, rfl, rfl⟩ := H
     go_wp2
     go_ret3
     exact ⟨by first | rfl | (simp [errW_none, errW_some] <;> rfl) | (simp [*, errW_none, errW_some] <;> rfl), by repeat (first | (with_reducible first | exact HB.out | apply below_alloc | apply pw_below_drewN | apply below_drew1) | exact HB.out)⟩
   ·rw [if_neg c6] at H
    have c6b0 : decide (0 < x6_2) = false := decide_eq_false c6
    clear c6
    by_cases c10 : t264 = true
    ·subst c10
     have H1 : ((impl_isRange.f t261 x6_2).bind fun t266 => (if t266 = true then (some (t261, x6_2, true)) else (some (0, 0, false)))) = some (r1, r2, r3) := by rw [if_pos rfl] at H; exact H
     clear H
     have H := H1
     clear H1
     replace H := Option.bind_eq_some_iff.mp H
     obtain ⟨t266, A110, H⟩ := H
     replace H : (if t266 = true then (some (t261, x6_2, true)) else (some (0, 0, false))) = some (r1, r2, r3) := H
     have A11 := Aside0.mk A110
     clear A110
     by_cases c12 : t266 = true
     ·subst c12
      have H1 : (some (t261, x6_2, true)) = some (r1, r2, r3) := by rw [if_pos rfl] at H; exact H
      clear H
      have H := H1
      clear H1
      simp only [Option.some.injEq, Prod.mk.injEq] at H
      obtain ⟨rfl, rfl, rfl⟩ := H
      go_wp2_with (first | (go_at_call 38; (with_reducible refine (impl_isRange.calls t261 x6_2 true _ A11.out).mono ?_); rintro e w' ⟨rfl, ⟨nd, rfl⟩⟩))
      go_ret3
      exact ⟨by first | rfl | (simp [errW_none, errW_some] <;> rfl) | (simp [*, errW_none, errW_some] <;> rfl), by repeat (first | (with_reducible first | exact HB.out | apply below_alloc | apply pw_below_drewN | apply below_drew1) | exact HB.out)⟩
     ·replace c12 := Bool.eq_false_iff.mpr c12
      subst c12
      have H1 : (some (0, 0, false)) = some (r1, r2, r3) := by rw [if_neg (show ¬ (false = true) by decide)] at H; exact H
      clear H
      have H := H1
      clear H1
      simp only [Option.some.injEq, Prod.mk.injEq] at H
      obtain ⟨rfl, rfl, rfl⟩ := H
      go_wp2_with (first | (go_at_call 38; (with_reducible refine (impl_isRange.calls t261 x6_2 false _ A11.out).mono ?_); rintro e w' ⟨rfl, ⟨nd, rfl⟩⟩))
      go_ret3
      exact ⟨by first | rfl | (simp [errW_none, errW_some] <;> rfl) | (simp [*, errW_none, errW_some] <;> rfl), by repeat (first | (with_reducible first | exact HB.out | apply below_alloc | apply pw_below_drewN | apply below_drew1) | exact HB.out)⟩
    ·replace c10 := Bool.eq_false_iff.mpr c10
     subst c10
     have H1 : (some (0, 0, false)) = some (r1, r2, r3) := by rw [if_neg (show ¬ (false = true) by decide)] at H; exact H
     clear H
     have H := H1
     clear H1
     simp only [Option.some.injEq, Prod.mk.injEq] at H
     obtain ⟨rfl, rfl, rfl⟩ := H
     go_wp2
     go_ret3
     exact ⟨by first | rfl | (simp [errW_none, errW_some] <;> rfl) | (simp [*, errW_none, errW_some] <;> rfl), by repeat (first | (with_reducible first | exact HB.out | apply below_alloc | apply pw_below_drewN | apply below_drew1) | exact HB.out)⟩

end Go.Proofs.YtfmbpldjbmhnnaaDoor.My

/- Written by this session's program (wip/gen): a plain function with the same answers as the Go function, and the proof that the Go code comes to them. Asked: that the plain function has an answer. -/
namespace Go.Proofs.YtfmbpldjbmhnnaaDoor.My
open Go.RowKit Go.Proofs.YtfmbpldjbmhnnaaDoorW.PrintWords Go.Proofs.YtfmbpldjbmhnnaaDoorW.PrintLast Go.Proofs.YtfmbpldjbmhnnaaDoorW.PrintMore
attribute [local go_sem] max2_int min2_int max_two min_two max_three min_three max_four min_four
set_option linter.unusedVariables false
set_option linter.unusedSimpArgs false

/-! ### spec_l1In: function 61 -/
def spec_l1In.f (a0 : Int) (a1 : Int) (a2 : Int) : Option (Bool) := if a0 ≥ a1 then (some (decide (a0 ≤ a2))) else (some false)
set_option maxHeartbeats 8000000 in
set_option maxRecDepth 100000 in
theorem spec_l1In.calls (a0 : Int) (a1 : Int) (a2 : Int) (r : Bool) (w : World) (h : spec_l1In.f a0 a1 a2 = some r) :
  Calls Tryd.prog 61 #[.int .i64 a0, .int .i64 a1, .int .i64 a2] w fun e w' => e = .returned (.bool r) ∧ Drawn0 w w' := by
 have H : (if a0 ≥ a1 then (some (decide (a0 ≤ a2))) else (some false)) = some r := h
 clear h
 by_cases c4 : a0 ≥ a1
 ·rw [if_pos c4] at H
  have c4b0 : decide (a1 ≤ a0) = true := decide_eq_true c4
  clear c4
  obtain rfl := Option.some.inj H
  go_enter Tryd.func61, Tryd.ntmps61
  go_wp2
  go_ret
  exact ⟨by first | rfl | (simp; done) | (simp [*]; done), by repeat (first | exact Drawn0.refl _ | apply Drawn0.step)⟩
 ·rw [if_neg c4] at H
  have c4b0 : decide (a1 ≤ a0) = false := decide_eq_false c4
  clear c4
  obtain rfl := Option.some.inj H
  go_enter Tryd.func61, Tryd.ntmps61
  go_wp2
  go_ret
  exact ⟨by first | rfl | (simp; done) | (simp [*]; done), by repeat (first | exact Drawn0.refl _ | apply Drawn0.step)⟩

end Go.Proofs.YtfmbpldjbmhnnaaDoor.My

/- Written by this session's program (wip/gen): a plain function with the same answers as the Go function, and the proof that the Go code comes to them. Asked: that the plain function has an answer. -/
namespace Go.Proofs.YtfmbpldjbmhnnaaDoor.My
open Go.RowKit Go.Proofs.YtfmbpldjbmhnnaaDoorW.PrintWords Go.Proofs.YtfmbpldjbmhnnaaDoorW.PrintLast Go.Proofs.YtfmbpldjbmhnnaaDoorW.PrintMore
attribute [local go_sem] max2_int min2_int max_two min_two max_three min_three max_four min_four
set_option linter.unusedVariables false
set_option linter.unusedSimpArgs false

/-! ### spec_l1Read: function 42 -/
mutual
def spec_l1Read.j0 : Nat → ByteArray → Bool → Option (Int)
 | 0, _, _ => none
 | k + 1, x0, x18 => if x18 = true then (some (-1)) else (spec_l1Read.l0 k x0 0 0)
def spec_l1Read.l0 : Nat → ByteArray → Int → Int → Option (Int)
 | 0, _, _, _ => none
 | k + 1, x0, x3, x4 => if x4 < (x0.size : Int) then (if 0 ≤ x4 then (if (bt x0 x4) < 48 then (some (-1)) else (if (bt x0 x4) > 57 then (some (-1)) else (spec_l1Read.l0 k x0 (wrap64 ((wrap64 (10 * x3)) + (((bt x0 x4) - 48) % 256))) (wrap64 (x4 + 1))))) else (none)) else (some x3)
end
def spec_l1Read.f (k : Nat) (a0 : ByteArray) : Option (Int) := (spec_l1In.f (a0.size : Int) 1 6).bind fun t161 => (if t161 = true then (if 0 < (a0.size : Int) then (if (bt a0 0) = 48 then (spec_l1Read.j0 k a0 (decide ((a0.size : Int) > 1))) else (spec_l1Read.j0 k a0 false)) else (none)) else (spec_l1Read.j0 k a0 true))
set_option maxHeartbeats 8000000 in
set_option maxRecDepth 100000 in
theorem spec_l1Read.calls (k : Nat) (a0 : ByteArray) (r : Int) (w : World) (h : spec_l1Read.f k a0 = some r) :
  Calls Tryd.prog 42 #[.string a0] w fun e w' => e = .returned (.int .i64 r) ∧ Drawn0 w w' := by
 have H : ((spec_l1In.f (a0.size : Int) 1 6).bind fun t161 => (if t161 = true then (if 0 < (a0.size : Int) then (if (bt a0 0) = 48 then (spec_l1Read.j0 k a0 (decide ((a0.size : Int) > 1))) else (spec_l1Read.j0 k a0 false)) else (none)) else (spec_l1Read.j0 k a0 true))) = some r := h
 clear h
 have HC2 := Aside0.mk H
 clear H
 go_enter Tryd.func42, Tryd.ntmps42
 go_upto_region 1 with (fail)
 go_cut [18] (fun v18 wc => ∃ (kq : Nat) (x18_1 : Bool), v18 = .bool x18_1 ∧ Aside0 (spec_l1Read.j0 kq a0 x18_1 = some r) ∧ Aside0 (kq ≤ k) ∧ Drawn0 w wc)
 case first =>
  have H := HC2.out
  clear HC2
  replace H := Option.bind_eq_some_iff.mp H
  obtain ⟨t161, A30, H⟩ := H
  replace H : (if t161 = true then (if 0 < (a0.size : Int) then (if (bt a0 0) = 48 then (spec_l1Read.j0 k a0 (decide ((a0.size : Int) > 1))) else (spec_l1Read.j0 k a0 false)) else (none)) else (spec_l1Read.j0 k a0 true)) = some r := H
  have A3 := Aside0.mk A30
  clear A30
  by_cases c4 : t161 = true
  ·subst c4
   have H1 : (if 0 < (a0.size : Int) then (if (bt a0 0) = 48 then (spec_l1Read.j0 k a0 (decide ((a0.size : Int) > 1))) else (spec_l1Read.j0 k a0 false)) else (none)) = some r := by rw [if_pos rfl] at H; exact H
   clear H
   have H := H1
   clear H1
   by_cases c5 : 0 < (a0.size : Int)
   ·rw [if_pos c5] at H
    have c5b0 : decide (0 < (a0.size : Int)) = true := decide_eq_true c5
    have c5b1 : decide (0 < a0.size) = true := decide_eq_true (by omega)
    clear c5
    (first | rw [c5b0] | (simp only [i64_w, i32_w]; rw [c5b0]) | skip)
    by_cases c7 : (bt a0 0) = 48
    ·rw [if_pos c7] at H
     have c7b0 : ((bt a0 0) == 48) = true := beq_iff_eq.mpr c7
     have c7b1 : ((bt a0 0) != 48) = false := bne_eq_false_iff_eq.mpr c7
     clear c7
     have H' := Aside0.mk H
     clear H
     go_wp2_with (first | ((with_reducible refine gateC (f := 61) rfl ?_); refine goesL_ (some 7) rfl rfl Tryd.func61 (by kernel_rfl) rfl #[.int .i64 (a0.size : Int), .int .i64 1, .int .i64 6] rfl zm ?_; (with_reducible refine (spec_l1In.calls (a0.size : Int) 1 6 true _ A3.out).mono ?_); rintro e w' ⟨rfl, ⟨nd, rfl⟩⟩; refine ⟨_, rfl, ?_⟩; have p6 : 0 ≤ (0 : Int) := (by omega); have q6 : 0 < a0.size := (by have : (0 : Int) < (a0.size : Int) := oa; omega); have hx6 : ∀ h : 0 < a0.size, ((a0[0]'h).toNat : Int) = bt a0 0 := bt_at a0 0; clear p6; have qi6 : (0 < (a0.size : Int)) = True := eq_true oa; replace q6 := eq_true q6))
     go_meet
     case rel => exact ⟨_, (decide ((a0.size : Int) > 1)), zf, H', ⟨by first | omega | exact Nat.le_refl _⟩, by repeat (first | exact Drawn0.refl _ | apply Drawn0.step)⟩
    ·rw [if_neg c7] at H
     have c7b0 : ((bt a0 0) == 48) = false := beq_eq_false_iff_ne.mpr c7
     have c7b1 : ((bt a0 0) != 48) = true := bne_iff_ne.mpr c7
     have H' := Aside0.mk H
     clear H
     go_wp2_with (first | ((with_reducible refine gateC (f := 61) rfl ?_); refine goesL_ (some 7) rfl rfl Tryd.func61 (by kernel_rfl) rfl #[.int .i64 (a0.size : Int), .int .i64 1, .int .i64 6] rfl zm ?_; (with_reducible refine (spec_l1In.calls (a0.size : Int) 1 6 true _ A3.out).mono ?_); rintro e w' ⟨rfl, ⟨nd, rfl⟩⟩; refine ⟨_, rfl, ?_⟩; have p6 : 0 ≤ (0 : Int) := (by omega); have q6 : 0 < a0.size := (by have : (0 : Int) < (a0.size : Int) := oa; omega); have hx6 : ∀ h : 0 < a0.size, ((a0[0]'h).toNat : Int) = bt a0 0 := bt_at a0 0; clear p6; have qi6 : (0 < (a0.size : Int)) = True := eq_true oa; replace q6 := eq_true q6))
     go_meet
     case rel => exact ⟨_, (false), zf, H', ⟨by first | omega | exact Nat.le_refl _⟩, by repeat (first | exact Drawn0.refl _ | apply Drawn0.step)⟩
   ·rw [if_neg c5] at H
    exact absurd H (by simp)
  ·replace c4 := Bool.eq_false_iff.mpr c4
   subst c4
   have H1 : (spec_l1Read.j0 k a0 true) = some r := by rw [if_neg (show ¬ (false = true) by decide)] at H; exact H
   clear H
   have H := H1
   clear H1
   have H' := Aside0.mk H
   clear H
   go_wp2_with (first | ((with_reducible refine gateC (f := 61) rfl ?_); refine goesL_ (some 7) rfl rfl Tryd.func61 (by kernel_rfl) rfl #[.int .i64 (a0.size : Int), .int .i64 1, .int .i64 6] rfl zm ?_; (with_reducible refine (spec_l1In.calls (a0.size : Int) 1 6 false _ A3.out).mono ?_); rintro e w' ⟨rfl, ⟨nd, rfl⟩⟩; refine ⟨_, rfl, ?_⟩))
   go_meet
   case rel => exact ⟨_, (true), zf, H', ⟨by first | omega | exact Nat.le_refl _⟩, by repeat (first | exact Drawn0.refl _ | apply Drawn0.step)⟩
 case rest =>
  clear HC2
  try clear p2
  try clear c4
  try clear c5
  try clear c5b0
  try clear c5b1
  try clear c6
  try clear p6
  try clear q6
  try clear hx6
  try clear qi6
  try clear c7
  try clear c7b0
  try clear c7b1
  try clear p6
  try clear q6
  obtain ⟨kq, x18_1, rfl, HA, HJ1, ⟨mc1, rfl⟩⟩ := hcut
  cases kq with
  | zero => exact absurd HA.out (by simp [spec_l1Read.j0])
  | succ kj1 =>
   have H := HA.out
   clear HA
   simp only [spec_l1Read.j0] at H
   by_cases c8 : x18_1 = true
   ·subst c8
    have H1 : (some (-1)) = some r := by rw [if_pos rfl] at H; exact H
    clear H
    have H := H1
    clear H1
    obtain rfl := Option.some.inj H
    go_wp2
    go_ret
    exact ⟨by first | rfl | (simp; done) | (simp [*]; done), by repeat (first | exact Drawn0.refl _ | apply Drawn0.step)⟩
   ·replace c8 := Bool.eq_false_iff.mpr c8
    subst c8
    have H1 : (spec_l1Read.l0 kj1 a0 0 0) = some r := by rw [if_neg (show ¬ (false = true) by decide)] at H; exact H
    clear H
    have H := H1
    clear H1
    have H' := Aside0.mk H
    clear H
    go_wp2
    go_loopg [3, 4] kj1 (fun kq v3 v4 w' => ∃ (x3_2 : Int) (x4_2 : Int), v3 = .int .i64 x3_2 ∧ v4 = .int .i64 x4_2 ∧ Aside0 (spec_l1Read.l0 kq a0 x3_2 x4_2 = some r) ∧ Aside0 (kq ≤ kj1) ∧ Drawn0 w w')
    case atStart => exact ⟨(0), (0), zf, zf, H', ⟨Nat.le_refl _⟩, by repeat (first | exact Drawn0.refl _ | apply Drawn0.step)⟩
    case round =>
     clear H'
     try clear c1
     try clear p2
     try clear c4
     try clear c5
     try clear c5b0
     try clear c5b1
     try clear c6
     try clear p6
     try clear q6
     try clear hx6
     try clear qi6
     try clear c7
     try clear c7b0
     try clear c7b1
     try clear c8
     try clear p2
     try clear p6
     try clear q6
     obtain ⟨x3_2, x4_2, rfl, rfl, HA, HK2, ⟨m2, rfl⟩⟩ := hrel
     cases gk with
     | zero => exact absurd HA.out (by simp [spec_l1Read.l0])
     | succ k2 =>
      have H := HA.out
      clear HA
      simp only [spec_l1Read.l0] at H
      by_cases c9 : x4_2 < (a0.size : Int)
      ·rw [if_pos c9] at H
       have c9b0 : decide (x4_2 < (a0.size : Int)) = true := decide_eq_true c9
       clear c9
       by_cases c10 : 0 ≤ x4_2
       ·rw [if_pos c10] at H
        have c10b0 : decide (0 ≤ x4_2) = true := decide_eq_true c10
        clear c10
        by_cases c12 : (bt a0 x4_2) < 48
        ·rw [if_pos c12] at H
         have c12b0 : decide ((bt a0 x4_2) < 48) = true := decide_eq_true c12
         clear c12
         obtain rfl := Option.some.inj H
         have p11 : 0 ≤ (x4_2 : Int) := oa
         have q11 : x4_2 < (a0.size : Int) := oa
         have hx11 := bt_at a0 x4_2
         replace p11 := eq_true p11
         replace q11 := eq_true q11
         go_wp2
         go_ret
         exact ⟨by first | rfl | (simp; done) | (simp [*]; done), by repeat (first | exact Drawn0.refl _ | apply Drawn0.step)⟩
        ·rw [if_neg c12] at H
         have c12b0 : decide ((bt a0 x4_2) < 48) = false := decide_eq_false c12
         clear c12
         by_cases c14 : (bt a0 x4_2) > 57
         ·rw [if_pos c14] at H
          have c14b0 : decide (57 < (bt a0 x4_2)) = true := decide_eq_true c14
          clear c14
          obtain rfl := Option.some.inj H
          have p11 : 0 ≤ (x4_2 : Int) := oa
          have q11 : x4_2 < (a0.size : Int) := oa
          have hx11 := bt_at a0 x4_2
          replace p11 := eq_true p11
          replace q11 := eq_true q11
          have p13 : 0 ≤ (x4_2 : Int) := oa
          have q13 : x4_2 < (a0.size : Int) := oa
          have hx13 := bt_at a0 x4_2
          replace p13 := eq_true p13
          replace q13 := eq_true q13
          go_wp2
          go_ret
          exact ⟨by first | rfl | (simp; done) | (simp [*]; done), by repeat (first | exact Drawn0.refl _ | apply Drawn0.step)⟩
         ·rw [if_neg c14] at H
          have c14b0 : decide (57 < (bt a0 x4_2)) = false := decide_eq_false c14
          clear c14
          have H' := Aside0.mk H
          clear H
          have p11 : 0 ≤ (x4_2 : Int) := oa
          have q11 : x4_2 < (a0.size : Int) := oa
          have hx11 := bt_at a0 x4_2
          replace p11 := eq_true p11
          replace q11 := eq_true q11
          have p13 : 0 ≤ (x4_2 : Int) := oa
          have q13 : x4_2 < (a0.size : Int) := oa
          have hx13 := bt_at a0 x4_2
          replace p13 := eq_true p13
          replace q13 := eq_true q13
          have p15 : 0 ≤ (x4_2 : Int) := oa
          have q15 : x4_2 < (a0.size : Int) := oa
          have hx15 := bt_at a0 x4_2
          replace p15 := eq_true p15
          replace q15 := eq_true q15
          go_wp2
          go_roundg k2
          case measure => have := HJ1.out; have := HK2.out; omega
          case rel => exact ⟨(wrap64 ((wrap64 (10 * x3_2)) + (((bt a0 x4_2) - 48) % 256))), (wrap64 (x4_2 + 1)), zf, zf, H', ⟨by have := HJ1.out; have := HK2.out; omega⟩, by repeat (first | exact Drawn0.refl _ | apply Drawn0.step)⟩
       ·rw [if_neg c10] at H
        exact absurd H (by simp)
      ·rw [if_neg c9] at H
       have c9b0 : decide (x4_2 < (a0.size : Int)) = false := decide_eq_false c9
       clear c9
       obtain rfl := Option.some.inj H
       go_wp2
       go_ret
       exact ⟨by first | rfl | (simp; done) | (simp [*]; done), by repeat (first | exact Drawn0.refl _ | apply Drawn0.step)⟩

end Go.Proofs.YtfmbpldjbmhnnaaDoor.My

/- Written by this session's program (wip/gen): a plain function with the same answers as the Go function, and the proof that the Go code comes to them. Asked: that the plain function has an answer. -/
namespace Go.Proofs.YtfmbpldjbmhnnaaDoor.My
open Go.RowKit Go.Proofs.YtfmbpldjbmhnnaaDoorW.PrintWords Go.Proofs.YtfmbpldjbmhnnaaDoorW.PrintLast Go.Proofs.YtfmbpldjbmhnnaaDoorW.PrintMore
attribute [local go_sem] max2_int min2_int max_two min_two max_three min_three max_four min_four
set_option linter.unusedVariables false
set_option linter.unusedSimpArgs false

/-! ### spec_ReadNumber: function 15 -/
def spec_ReadNumber.f (k : Nat) (a0 : ByteArray) : Option (Int × Bool) := (spec_l1Read.f k a0).bind fun t162 => (if (a0.size : Int) > 4 then (some (0, false)) else (if t162 < 0 then (some (0, false)) else (some (t162, true))))
set_option maxHeartbeats 8000000 in
set_option maxRecDepth 100000 in
theorem spec_ReadNumber.calls (k : Nat) (a0 : ByteArray) (r1 : Int) (r2 : Bool) (w : World) (h : spec_ReadNumber.f k a0 = some (r1, r2)) :
  Calls Tryd.prog 15 #[.string a0] w fun e w' => e = .returned (.tuple #[.int .i64 r1, .bool r2]) ∧ Drawn0 w w' := by
 have H : ((spec_l1Read.f k a0).bind fun t162 => (if (a0.size : Int) > 4 then (some (0, false)) else (if t162 < 0 then (some (0, false)) else (some (t162, true))))) = some (r1, r2) := h
 clear h
 replace H := Option.bind_eq_some_iff.mp H
 obtain ⟨t162, A20, H⟩ := H
 replace H : (if (a0.size : Int) > 4 then (some (0, false)) else (if t162 < 0 then (some (0, false)) else (some (t162, true)))) = some (r1, r2) := H
 have A2 := Aside0.mk A20
 clear A20
 by_cases c3 : (a0.size : Int) > 4
 ·rw [if_pos c3] at H
  have c3b0 : decide (4 < (a0.size : Int)) = true := decide_eq_true c3
  have c3b1 : decide (4 < a0.size) = true := decide_eq_true (by omega)
  clear c3
  simp only [Option.some.injEq, Prod.mk.injEq] at H
  obtain ⟨rfl, rfl⟩ := H
  go_enter Tryd.func15, Tryd.ntmps15
  go_wp2_with (first | ((with_reducible refine gateC (f := 42) rfl ?_); refine goesL_ (some 6) rfl rfl Tryd.func42 (by kernel_rfl) rfl #[.string a0] rfl zm ?_; (with_reducible refine (spec_l1Read.calls k a0 t162 _ A2.out).mono ?_); rintro e w' ⟨rfl, ⟨nd, rfl⟩⟩; refine ⟨_, rfl, ?_⟩))
  go_ret2
  exact ⟨by first | rfl | (simp; done) | (simp [*]; done), by repeat (first | exact Drawn0.refl _ | apply Drawn0.step)⟩
 ·rw [if_neg c3] at H
  have c3b0 : decide (4 < (a0.size : Int)) = false := decide_eq_false c3
  have c3b1 : decide (4 < a0.size) = false := decide_eq_false (by omega)
  clear c3
  by_cases c4 : t162 < 0
  ·rw [if_pos c4] at H
   have c4b0 : decide (t162 < 0) = true := decide_eq_true c4
   clear c4
   simp only [Option.some.injEq, Prod.mk.injEq] at H
   obtain ⟨rfl, rfl⟩ := H
   go_enter Tryd.func15, Tryd.ntmps15
   go_wp2_with (first | ((with_reducible refine gateC (f := 42) rfl ?_); refine goesL_ (some 6) rfl rfl Tryd.func42 (by kernel_rfl) rfl #[.string a0] rfl zm ?_; (with_reducible refine (spec_l1Read.calls k a0 t162 _ A2.out).mono ?_); rintro e w' ⟨rfl, ⟨nd, rfl⟩⟩; refine ⟨_, rfl, ?_⟩))
   go_ret2
   exact ⟨by first | rfl | (simp; done) | (simp [*]; done), by repeat (first | exact Drawn0.refl _ | apply Drawn0.step)⟩
  ·rw [if_neg c4] at H
   have c4b0 : decide (t162 < 0) = false := decide_eq_false c4
   clear c4
   simp only [Option.some.injEq, Prod.mk.injEq] at H
   obtain ⟨rfl, rfl⟩ := H
   go_enter Tryd.func15, Tryd.ntmps15
   go_wp2_with (first | ((with_reducible refine gateC (f := 42) rfl ?_); refine goesL_ (some 6) rfl rfl Tryd.func42 (by kernel_rfl) rfl #[.string a0] rfl zm ?_; (with_reducible refine (spec_l1Read.calls k a0 t162 _ A2.out).mono ?_); rintro e w' ⟨rfl, ⟨nd, rfl⟩⟩; refine ⟨_, rfl, ?_⟩))
   go_ret2
   exact ⟨by first | rfl | (simp; done) | (simp [*]; done), by repeat (first | exact Drawn0.refl _ | apply Drawn0.step)⟩

end Go.Proofs.YtfmbpldjbmhnnaaDoor.My

/- Written by this session's program (wip/gen): a plain function with the same answers as the Go function, and the proof that the Go code comes to them. Asked: that the plain function has an answer. -/
namespace Go.Proofs.YtfmbpldjbmhnnaaDoor.My
open Go.RowKit Go.Proofs.YtfmbpldjbmhnnaaDoorW.PrintWords Go.Proofs.YtfmbpldjbmhnnaaDoorW.PrintLast Go.Proofs.YtfmbpldjbmhnnaaDoorW.PrintMore
attribute [local go_sem] max2_int min2_int max_two min_two max_three min_three max_four min_four
set_option linter.unusedVariables false
set_option linter.unusedSimpArgs false

/-! ### spec_l1Split: function 54 -/
def spec_l1Split.l0 : Nat → ByteArray → Int → List ByteArray → Int → Int → Option (List ByteArray)
 | 0, _, _, _, _, _ => none
 | k + 1, x0, x1, x5, x6, x7 => if x7 < (x0.size : Int) then (if 0 ≤ x7 then (if (bt x0 x7) = x1 then (if 0 ≤ x6 then (if x6 ≤ x7 then (if x7 ≤ (x0.size : Int) then (if x5.length < 8796093022208 then (spec_l1Split.l0 k x0 x1 (x5 ++ [x0.extract (x6 : Int).toNat (x7 : Int).toNat]) (wrap64 (x7 + 1)) (wrap64 (x7 + 1))) else (none)) else (none)) else (none)) else (none)) else (spec_l1Split.l0 k x0 x1 x5 x6 (wrap64 (x7 + 1)))) else (none)) else (if 0 ≤ x6 then (if x6 ≤ (x0.size : Int) then (if x5.length < 8796093022208 then (some (x5 ++ [x0.extract (x6 : Int).toNat x0.size])) else (none)) else (none)) else (none))
def spec_l1Split.f (k : Nat) (a0 : ByteArray) (a1 : Int) : Option (List ByteArray) := spec_l1Split.l0 k a0 a1 ([] : List ByteArray) 0 0
set_option maxHeartbeats 8000000 in
set_option maxRecDepth 100000 in
theorem spec_l1Split.calls (k : Nat) (a0 : ByteArray) (a1 : Int) (r : List ByteArray) (w : World) (h : spec_l1Split.f k a0 a1 = some r) :
  Calls Tryd.prog 54 #[.string a0, .int .u8 a1] w fun e w' => ∃ v0_ : Value, e = .returned (v0_) ∧ Kd.R Kd.string 9 w' w.heap.size (fun _ => True) v0_ r ∧ Below w.heap.size w w' := by
 have HB := Aside0.mk (Below.refl w.heap.size w)
 have H : (spec_l1Split.l0 k a0 a1 ([] : List ByteArray) 0 0) = some r := h
 clear h
 have H' := Aside0.mk H
 clear H
 go_enter Tryd.func54, Tryd.ntmps54
 go_wp2
 go_loopg [5, 6, 7] k (fun kq v5 v6 v7 w' => ∃ (x5_1 : List ByteArray) (x6_1 : Int) (x7_1 : Int), v6 = .int .i64 x6_1 ∧ v7 = .int .i64 x7_1 ∧ Aside0 (spec_l1Split.l0 kq a0 a1 x5_1 x6_1 x7_1 = some r) ∧ Aside0 (kq ≤ k) ∧ Aside0 (Kd.R Kd.string 9 w' w.heap.size (fun _ => True) v5 x5_1) ∧ Aside0 (Below w.heap.size w w'))
 case atStart => exact ⟨(([] : List ByteArray)), (0), (0), zf, zf, H', ⟨Nat.le_refl _⟩, ⟨by first | exact Kd.R_nil _ _ _ _ _ | exact Kd.Q_nil _ _ _ _ _ | exact Kd.S_nil _ _ _ _ _⟩, ⟨by repeat (first | (with_reducible first | exact HB.out | apply below_alloc | apply pw_below_drewN | apply below_drew1) | exact HB.out)⟩⟩
 case round =>
  clear H'
  try clear p2
  obtain ⟨x5_1, x6_1, x7_1, rfl, rfl, HA, HK1, HO_5, HB⟩ := hrel
  cases gk with
  | zero => exact absurd HA.out (by simp [spec_l1Split.l0])
  | succ k1 =>
   have H := HA.out
   clear HA
   simp only [spec_l1Split.l0] at H
   by_cases c3 : x7_1 < (a0.size : Int)
   ·rw [if_pos c3] at H
    have c3b0 : decide (x7_1 < (a0.size : Int)) = true := decide_eq_true c3
    clear c3
    by_cases c4 : 0 ≤ x7_1
    ·rw [if_pos c4] at H
     have c4b0 : decide (0 ≤ x7_1) = true := decide_eq_true c4
     clear c4
     by_cases c6 : (bt a0 x7_1) = a1
     ·rw [if_pos c6] at H
      have c6b0 : ((bt a0 x7_1) == a1) = true := beq_iff_eq.mpr c6
      have c6b1 : ((bt a0 x7_1) != a1) = false := bne_eq_false_iff_eq.mpr c6
      clear c6
      by_cases c7 : 0 ≤ x6_1
      ·rw [if_pos c7] at H
       have c7b0 := eq_true c7
       have c7b1 : decide (0 ≤ x6_1) = true := decide_eq_true c7
       clear c7
       by_cases c8 : x6_1 ≤ x7_1
       ·rw [if_pos c8] at H
        have c8b0 := eq_true c8
        have c8b1 : decide (x6_1 ≤ x7_1) = true := decide_eq_true c8
        clear c8
        by_cases c9 : x7_1 ≤ (a0.size : Int)
        ·rw [if_pos c9] at H
         have c9b0 := eq_true c9
         have c9b1 : decide (x7_1 ≤ (a0.size : Int)) = true := decide_eq_true c9
         clear c9
         by_cases c10 : x5_1.length < 8796093022208
         ·rw [if_pos c10] at H
          have LMc10 := Aside0.mk c10
          clear c10
          obtain ⟨y193, hy193⟩ : ∃ y_ : List ByteArray, y_ = (x5_1 ++ [a0.extract (x6_1 : Int).toNat (x7_1 : Int).toNat]) := ⟨_, rfl⟩
          replace H : (spec_l1Split.l0 k1 a0 a1 y193 (wrap64 (x7_1 + 1)) (wrap64 (x7_1 + 1))) = some r := by first | (rw [hy193]; with_reducible exact H) | (have H2_ := (Option.bind_some _ _).symm.trans H; rw [hy193]; with_reducible exact H2_) | (have H2_ := (Option.bind_some _ _).symm.trans H; with_reducible exact H2_) | with_reducible exact H | (rw [hy193]; exact H) | exact H
          have Ny193 := Aside0.mk hy193
          clear hy193
          have H' := Aside0.mk H
          clear H
          have p5 : 0 ≤ (x7_1 : Int) := oa
          have q5 : x7_1 < (a0.size : Int) := oa
          have hx5 := bt_at a0 x7_1
          replace p5 := eq_true p5
          replace q5 := eq_true q5
          go_wp2_with (first | ((with_reducible refine gateB (b := .append) (xs := #[.tmp 19, .tmp 24]) rfl ?_); at_builtin; refine Kd.R_append Kd.string (w0 := w) w.heap.size rfl (.tmp 19) (.tmp 24) 37 9 (.string ⟨#[]⟩) 16 rfl Tryd.underlying37 info9 rfl (by decide) (by omega) u5 x5_1 (a0.extract (x6_1 : Int).toNat (x7_1 : Int).toNat) [.string (a0.extract (x6_1 : Int).toNat (x7_1 : Int).toNat)] (fun _ => True) (fun _ => False) rfl rfl ?aP (fun _ hk => hk.elim) ?aF ?aO ?aB ?aS ?aL ?_; (case aP => exact rfl); (case aB => exact zb); (case aF => exact (fun _ _ => trivial)); (case aO => exact (zr HO_5.out)); (case aS => exact (below_size zb)); (case aL => have := LMc10.out; omega); intro v194 w11 ho hb hg hat; rw [← Ny193.out] at ho; have n0_ := Aside0.mk (hb); have n1_ := Aside0.mk (ho); clear HB; clear HO_5; have HB := n0_; have HO195 := n1_; clear n0_ n1_; clear ho hb hg hat))
          go_roundg k1
          case measure => have := HK1.out; omega
          case rel => exact ⟨(y193), (wrap64 (x7_1 + 1)), (wrap64 (x7_1 + 1)), zf, zf, H', ⟨by have := HK1.out; omega⟩, ⟨by (with_reducible repeat (first | apply Kd.R_alloc | apply Kd.R_drewN | apply Kd.R_drew)); exact HO195.out⟩, ⟨by repeat (first | (with_reducible first | exact HB.out | apply below_alloc | apply pw_below_drewN | apply below_drew1) | exact HB.out)⟩⟩
         ·rw [if_neg c10] at H
          exact absurd H (by simp)
        ·rw [if_neg c9] at H
         exact absurd H (by simp)
       ·rw [if_neg c8] at H
        exact absurd H (by simp)
      ·rw [if_neg c7] at H
       exact absurd H (by simp)
     ·rw [if_neg c6] at H
      have c6b0 : ((bt a0 x7_1) == a1) = false := beq_eq_false_iff_ne.mpr c6
      have c6b1 : ((bt a0 x7_1) != a1) = true := bne_iff_ne.mpr c6
      have H' := Aside0.mk H
      clear H
      have p5 : 0 ≤ (x7_1 : Int) := oa
      have q5 : x7_1 < (a0.size : Int) := oa
      have hx5 := bt_at a0 x7_1
      replace p5 := eq_true p5
      replace q5 := eq_true q5
      go_wp2
      go_roundg k1
      case measure => have := HK1.out; omega
      case rel => exact ⟨(x5_1), (x6_1), (wrap64 (x7_1 + 1)), zf, zf, H', ⟨by have := HK1.out; omega⟩, ⟨by (with_reducible repeat (first | apply Kd.R_alloc | apply Kd.R_drewN | apply Kd.R_drew)); exact HO_5.out⟩, ⟨by repeat (first | (with_reducible first | exact HB.out | apply below_alloc | apply pw_below_drewN | apply below_drew1) | exact HB.out)⟩⟩
    ·rw [if_neg c4] at H
     exact absurd H (by simp)
   ·rw [if_neg c3] at H
    have c3b0 : decide (x7_1 < (a0.size : Int)) = false := decide_eq_false c3
    clear c3
    by_cases c12 : 0 ≤ x6_1
    ·rw [if_pos c12] at H
     have c12b0 := eq_true c12
     have c12b1 : decide (0 ≤ x6_1) = true := decide_eq_true c12
     clear c12
     by_cases c13 : x6_1 ≤ (a0.size : Int)
     ·rw [if_pos c13] at H
      have c13b0 := eq_true c13
      have c13b1 : decide (x6_1 ≤ (a0.size : Int)) = true := decide_eq_true c13
      clear c13
      by_cases c14 : x5_1.length < 8796093022208
      ·rw [if_pos c14] at H
       have LMc14 := Aside0.mk c14
       clear c14
       obtain ⟨y196, hy196⟩ : ∃ y_ : List ByteArray, y_ = (x5_1 ++ [a0.extract (x6_1 : Int).toNat a0.size]) := ⟨_, rfl⟩
       replace H : (some y196) = some r := by first | (rw [hy196]; with_reducible exact H) | (have H2_ := (Option.bind_some _ _).symm.trans H; rw [hy196]; with_reducible exact H2_) | (have H2_ := (Option.bind_some _ _).symm.trans H; with_reducible exact H2_) | with_reducible exact H | (rw [hy196]; exact H) | exact H
       have Ny196 := Aside0.mk hy196
       clear hy196
       obtain rfl := Option.some.inj H
       go_wp2_with (first | ((with_reducible refine gateB (b := .append) (xs := #[.tmp 28, .tmp 32]) rfl ?_); at_builtin; refine Kd.R_append Kd.string (w0 := w) w.heap.size rfl (.tmp 28) (.tmp 32) 37 9 (.string ⟨#[]⟩) 16 rfl Tryd.underlying37 info9 rfl (by decide) (by omega) u5 x5_1 (a0.extract (x6_1 : Int).toNat a0.size) [.string (a0.extract (x6_1 : Int).toNat a0.size)] (fun _ => True) (fun _ => False) rfl rfl ?aP (fun _ hk => hk.elim) ?aF ?aO ?aB ?aS ?aL ?_; (case aP => exact rfl); (case aB => exact zb); (case aF => exact (fun _ _ => trivial)); (case aO => exact (zr HO_5.out)); (case aS => exact (below_size zb)); (case aL => have := LMc14.out; omega); intro v197 w15 ho hb hg hat; rw [← Ny196.out] at ho; have n0_ := Aside0.mk (hb); have n1_ := Aside0.mk (ho); clear HB; clear HO_5; have HB := n0_; have HO198 := n1_; clear n0_ n1_; clear ho hb hg hat))
       go_ret
       exact ⟨_, by first | rfl | (simp [errW_none, errW_some] <;> rfl) | (simp [*, errW_none, errW_some] <;> rfl), by (with_reducible repeat (first | apply Kd.R_alloc | apply Kd.R_drewN | apply Kd.R_drew)); exact HO198.out, by repeat (first | (with_reducible first | exact HB.out | apply below_alloc | apply pw_below_drewN | apply below_drew1) | exact HB.out)⟩
      ·rw [if_neg c14] at H
       exact absurd H (by simp)
     ·rw [if_neg c13] at H
      exact absurd H (by simp)
    ·rw [if_neg c12] at H
     exact absurd H (by simp)

end Go.Proofs.YtfmbpldjbmhnnaaDoor.My

/- Written by this session's program (wip/gen): a plain function with the same answers as the Go function, and the proof that the Go code comes to them. Asked: that the plain function has an answer. -/
namespace Go.Proofs.YtfmbpldjbmhnnaaDoor.My
open Go.RowKit Go.Proofs.YtfmbpldjbmhnnaaDoorW.PrintWords Go.Proofs.YtfmbpldjbmhnnaaDoorW.PrintLast Go.Proofs.YtfmbpldjbmhnnaaDoorW.PrintMore
attribute [local go_sem] max2_int min2_int max_two min_two max_three min_three max_four min_four
set_option linter.unusedVariables false
set_option linter.unusedSimpArgs false

/-! ### spec_l4Range: function 36 -/
def spec_l4Range.f (a0 : Int) (a1 : Int) : Option (Bool) := (spec_l1In.f a0 0 999).bind fun t101 => (if t101 = true then ((spec_l1In.f a1 0 999).bind fun t102 => (some t102)) else (some false))
set_option maxHeartbeats 8000000 in
set_option maxRecDepth 100000 in
theorem spec_l4Range.calls (a0 : Int) (a1 : Int) (r : Bool) (w : World) (h : spec_l4Range.f a0 a1 = some r) :
  Calls Tryd.prog 36 #[.int .i64 a0, .int .i64 a1] w fun e w' => e = .returned (.bool r) ∧ Drawn0 w w' := by
 have H : ((spec_l1In.f a0 0 999).bind fun t101 => (if t101 = true then ((spec_l1In.f a1 0 999).bind fun t102 => (some t102)) else (some false))) = some r := h
 clear h
 replace H := Option.bind_eq_some_iff.mp H
 obtain ⟨t101, A30, H⟩ := H
 replace H : (if t101 = true then ((spec_l1In.f a1 0 999).bind fun t102 => (some t102)) else (some false)) = some r := H
 have A3 := Aside0.mk A30
 clear A30
 by_cases c4 : t101 = true
 ·subst c4
  have H1 : ((spec_l1In.f a1 0 999).bind fun t102 => (some t102)) = some r := by rw [if_pos rfl] at H; exact H
  clear H
  have H := H1
  clear H1
  replace H := Option.bind_eq_some_iff.mp H
  obtain ⟨t102, A50, H⟩ := H
  replace H : (some t102) = some r := H
  have A5 := Aside0.mk A50
  clear A50
  obtain rfl := Option.some.inj H
  go_enter Tryd.func36, Tryd.ntmps36
  go_wp2_with (first | ((with_reducible refine gateC (f := 61) rfl ?_); refine goesL_ (some 6) rfl rfl Tryd.func61 (by kernel_rfl) rfl #[.int .i64 a0, .int .i64 0, .int .i64 999] rfl zm ?_; (with_reducible refine (spec_l1In.calls a0 0 999 true _ A3.out).mono ?_); rintro e w' ⟨rfl, ⟨nd, rfl⟩⟩; refine ⟨_, rfl, ?_⟩) | (go_at_call 61; (with_reducible refine (spec_l1In.calls a1 0 999 t102 _ A5.out).mono ?_); rintro e w' ⟨rfl, ⟨nd, rfl⟩⟩))
  go_ret
  exact ⟨by first | rfl | (simp; done) | (simp [*]; done), by repeat (first | exact Drawn0.refl _ | apply Drawn0.step)⟩
 ·replace c4 := Bool.eq_false_iff.mpr c4
  subst c4
  have H1 : (some false) = some r := by rw [if_neg (show ¬ (false = true) by decide)] at H; exact H
  clear H
  have H := H1
  clear H1
  obtain rfl := Option.some.inj H
  go_enter Tryd.func36, Tryd.ntmps36
  go_wp2_with (first | ((with_reducible refine gateC (f := 61) rfl ?_); refine goesL_ (some 6) rfl rfl Tryd.func61 (by kernel_rfl) rfl #[.int .i64 a0, .int .i64 0, .int .i64 999] rfl zm ?_; (with_reducible refine (spec_l1In.calls a0 0 999 false _ A3.out).mono ?_); rintro e w' ⟨rfl, ⟨nd, rfl⟩⟩; refine ⟨_, rfl, ?_⟩))
  go_ret
  exact ⟨by first | rfl | (simp; done) | (simp [*]; done), by repeat (first | exact Drawn0.refl _ | apply Drawn0.step)⟩

end Go.Proofs.YtfmbpldjbmhnnaaDoor.My

/- Written by this session's program (wip/gen): a plain function with the same answers as the Go function, and the proof that the Go code comes to them. Asked: that the plain function has an answer. -/
namespace Go.Proofs.YtfmbpldjbmhnnaaDoor.My
open Go.RowKit Go.Proofs.YtfmbpldjbmhnnaaDoorW.PrintWords Go.Proofs.YtfmbpldjbmhnnaaDoorW.PrintLast Go.Proofs.YtfmbpldjbmhnnaaDoorW.PrintMore
attribute [local go_sem] max2_int min2_int max_two min_two max_three min_three max_four min_four
set_option linter.unusedVariables false
set_option linter.unusedSimpArgs false

/-! ### spec_ReadCount: function 26 -/
def spec_ReadCount.j0 : Nat → List ByteArray → Int → Bool → Int → Option (Int × Int × Bool)
 | 0, _, _, _, _ => none
 | k + 1, x5, x6, x7, x8 => if x8 > 0 then (if x7 = true then (if (x5.length : Int) > 2 then (some (0, 0, false)) else ((spec_l4Range.f (wrap64 (x6 - 1)) x8).bind fun t259 => (if t259 = true then (some (wrap64 (x6 - 1), x8, true)) else (some (0, 0, false))))) else (some (0, 0, false))) else (if x7 = true then (if (x5.length : Int) > 2 then (some (0, 0, false)) else ((spec_l4Range.f x6 x8).bind fun t260 => (if t260 = true then (some (x6, x8, true)) else (some (0, 0, false))))) else (some (0, 0, false)))
def spec_ReadCount.f (k : Nat) (a0 : ByteArray) : Option (Int × Int × Bool) := (spec_l1Split.f k a0 44).bind fun t250 => (if 0 < (t250.length : Int) then ((spec_ReadNumber.f k (rdOf ByteArray.empty t250 0)).bind fun bt254 => (if (t250.length : Int) = 2 then (if 1 < (t250.length : Int) then ((spec_ReadNumber.f k (rdOf ByteArray.empty t250 1)).bind fun bt257 => (if bt254.2 = true then (spec_ReadCount.j0 k t250 bt254.1 bt257.2 bt257.1) else (spec_ReadCount.j0 k t250 bt254.1 false bt257.1))) else (none)) else (spec_ReadCount.j0 k t250 bt254.1 bt254.2 1))) else (none))
set_option maxHeartbeats 8000000 in
set_option maxRecDepth 100000 in
theorem spec_ReadCount.calls (k : Nat) (a0 : ByteArray) (r1 : Int) (r2 : Int) (r3 : Bool) (w : World) (h : spec_ReadCount.f k a0 = some (r1, r2, r3)) :
  Calls Tryd.prog 26 #[.string a0] w fun e w' => e = .returned (.tuple #[.int .i64 r1, .int .i64 r2, .bool r3]) ∧ Below w.heap.size w w' := by
 have HB := Aside0.mk (Below.refl w.heap.size w)
 have H : ((spec_l1Split.f k a0 44).bind fun t250 => (if 0 < (t250.length : Int) then ((spec_ReadNumber.f k (rdOf ByteArray.empty t250 0)).bind fun bt254 => (if (t250.length : Int) = 2 then (if 1 < (t250.length : Int) then ((spec_ReadNumber.f k (rdOf ByteArray.empty t250 1)).bind fun bt257 => (if bt254.2 = true then (spec_ReadCount.j0 k t250 bt254.1 bt257.2 bt257.1) else (spec_ReadCount.j0 k t250 bt254.1 false bt257.1))) else (none)) else (spec_ReadCount.j0 k t250 bt254.1 bt254.2 1))) else (none))) = some (r1, r2, r3) := h
 clear h
 replace H := Option.bind_eq_some_iff.mp H
 obtain ⟨t250, A20, H⟩ := H
 replace H : (if 0 < (t250.length : Int) then ((spec_ReadNumber.f k (rdOf ByteArray.empty t250 0)).bind fun bt254 => (if (t250.length : Int) = 2 then (if 1 < (t250.length : Int) then ((spec_ReadNumber.f k (rdOf ByteArray.empty t250 1)).bind fun bt257 => (if bt254.2 = true then (spec_ReadCount.j0 k t250 bt254.1 bt257.2 bt257.1) else (spec_ReadCount.j0 k t250 bt254.1 false bt257.1))) else (none)) else (spec_ReadCount.j0 k t250 bt254.1 bt254.2 1))) else (none)) = some (r1, r2, r3) := H
 have A2 := Aside0.mk A20
 clear A20
 by_cases c3 : 0 < (t250.length : Int)
 ·rw [if_pos c3] at H
  have c3b0 : decide (0 < (t250.length : Int)) = true := decide_eq_true c3
  have c3b1 : decide (0 < t250.length) = true := decide_eq_true (by omega)
  clear c3
  replace H := Option.bind_eq_some_iff.mp H
  obtain ⟨⟨t254, t255⟩, A40, H⟩ := H
  replace H : (if (t250.length : Int) = 2 then (if 1 < (t250.length : Int) then ((spec_ReadNumber.f k (rdOf ByteArray.empty t250 1)).bind fun bt257 => (if t255 = true then (spec_ReadCount.j0 k t250 t254 bt257.2 bt257.1) else (spec_ReadCount.j0 k t250 t254 false bt257.1))) else (none)) else (spec_ReadCount.j0 k t250 t254 t255 1)) = some (r1, r2, r3) := H
  have A4 := Aside0.mk A40
  clear A40
  have HC5 := Aside0.mk H
  clear H
  go_enter Tryd.func26, Tryd.ntmps26
  go_upto_if 23 with (first | ((with_reducible refine gateC (f := 54) rfl ?_); refine goesL_ (some 13) rfl rfl Tryd.func54 (by kernel_rfl) rfl #[.string a0, .int .u8 44] rfl zm ?_; (with_reducible refine (spec_l1Split.calls k a0 44 t250 _ A2.out).mono ?_); rintro e w6 ⟨v251, rfl, ho0, hb⟩; refine ⟨_, rfl, ?_⟩; have n0_ := Aside0.mk (Kd.R_lower ho0 (below_size zb)); have n1_ := Aside0.mk (below_step zb hb); clear HB; have HO252 := n0_; have HB := n1_; clear n0_ n1_; (try clear hb); (try clear hb2); (try clear hk); (try clear hi); (try clear ho0); obtain ⟨Ao7, co7, eo7⟩ := Kd.R_slice HO252.out; subst eo7; have p253 : 0 ≤ (0 : Int) := (by omega); have q253 : 0 < (t250.length : Int) := oa; obtain ⟨ad253, e253, hx253_0⟩ := Kd.at_string (Kd.R_reads' HO252.out).2.2 0 p253 q253; cases e253; have qi253 : (0 < t250.length) = True := eq_true (by omega); (try rw [show ((0 : Int)).toNat = 0 from rfl] at hx253_0); (try rw [Addr.add_zero'] at hx253_0); replace p253 := eq_true p253; replace q253 := eq_true q253) | ((with_reducible refine gateC (f := 15) rfl ?_); refine goesL_ (some 18) rfl rfl Tryd.func15 (by kernel_rfl) rfl #[.string (rdOf ByteArray.empty t250 0)] rfl zm ?_; (with_reducible refine (spec_ReadNumber.calls k (rdOf ByteArray.empty t250 0) t254 t255 _ A4.out).mono ?_); rintro e w' ⟨rfl, ⟨nd, rfl⟩⟩; refine ⟨_, rfl, ?_⟩))
  (try simp only [Act.put, List.setIfInBounds_toArray, List.set_cons_zero, List.set_cons_succ])
  go_cut [7, 8] (fun v7 v8 wc => ∃ (kq : Nat) (x7_4 : Bool) (x8_4 : Int), v7 = .bool x7_4 ∧ v8 = .int .i64 x8_4 ∧ Aside0 (spec_ReadCount.j0 kq t250 t254 x7_4 x8_4 = some (r1, r2, r3)) ∧ Aside0 (kq ≤ k) ∧ Aside0 (Kd.R Kd.string 9 wc w.heap.size (fun _ => True) (.slice (some ad253) t250.length co7) t250) ∧ Aside0 (Below w.heap.size w wc))
  case first =>
   have H := HC5.out
   clear HC5
   by_cases c8 : (t250.length : Int) = 2
   ·rw [if_pos c8] at H
    have c8b0 : ((t250.length : Int) == 2) = true := beq_iff_eq.mpr c8
    have c8b1 : ((t250.length : Int) != 2) = false := bne_eq_false_iff_eq.mpr c8
    clear c8
    (first | rw [c8b0] | (simp only [i64_w, i32_w]; rw [c8b0]) | skip)
    by_cases c9 : 1 < (t250.length : Int)
    ·rw [if_pos c9] at H
     have c9b0 : decide (1 < (t250.length : Int)) = true := decide_eq_true c9
     have c9b1 : decide (1 < t250.length) = true := decide_eq_true (by omega)
     clear c9
     replace H := Option.bind_eq_some_iff.mp H
     obtain ⟨⟨t257, t258⟩, A100, H⟩ := H
     replace H : (if t255 = true then (spec_ReadCount.j0 k t250 t254 t258 t257) else (spec_ReadCount.j0 k t250 t254 false t257)) = some (r1, r2, r3) := H
     have A10 := Aside0.mk A100
     clear A100
     by_cases c11 : t255 = true
     ·subst c11
      have H1 : (spec_ReadCount.j0 k t250 t254 t258 t257) = some (r1, r2, r3) := by rw [if_pos rfl] at H; exact H
      clear H
      have H := H1
      clear H1
      have H' := Aside0.mk H
      clear H
      have p256 : 0 ≤ (1 : Int) := (by omega)
      have q256 : 1 < (t250.length : Int) := oa
      obtain ⟨ad256, e256, hx256_0⟩ := Kd.at_string (Kd.R_reads' HO252.out).2.2 1 p256 q256
      obtain rfl : ad253 = ad256 := (by injection e256)
      (try simp only [show (1 : Int).toNat = 1 from rfl, Nat.reduceMul, Nat.reduceEqDiff, Go.Addr.add, ↓reduceIte] at hx256_0)
      have qi256 : (1 < t250.length) = True := eq_true (by omega)
      (try rw [show ((1 : Int)).toNat = 1 from rfl] at hx256_0)
      replace p256 := eq_true p256
      replace q256 := eq_true q256
      go_wp2_with (first | ((with_reducible refine gateC (f := 15) rfl ?_); refine goesL_ (some 28) rfl rfl Tryd.func15 (by kernel_rfl) rfl #[.string (rdOf ByteArray.empty t250 1)] rfl zm ?_; (with_reducible refine (spec_ReadNumber.calls k (rdOf ByteArray.empty t250 1) t257 t258 _ A10.out).mono ?_); rintro e w' ⟨rfl, ⟨nd, rfl⟩⟩; refine ⟨_, rfl, ?_⟩))
      go_meet
      case rel => exact ⟨_, (t258), (t257), zf, zf, H', ⟨by first | omega | exact Nat.le_refl _⟩, ⟨by (with_reducible repeat (first | apply Kd.R_alloc | apply Kd.R_drewN | apply Kd.R_drew)); exact HO252.out⟩, ⟨by repeat (first | (with_reducible first | exact HB.out | apply below_alloc | apply pw_below_drewN | apply below_drew1) | exact HB.out)⟩⟩
     ·replace c11 := Bool.eq_false_iff.mpr c11
      subst c11
      have H1 : (spec_ReadCount.j0 k t250 t254 false t257) = some (r1, r2, r3) := by rw [if_neg (show ¬ (false = true) by decide)] at H; exact H
      clear H
      have H := H1
      clear H1
      have H' := Aside0.mk H
      clear H
      have p256 : 0 ≤ (1 : Int) := (by omega)
      have q256 : 1 < (t250.length : Int) := oa
      obtain ⟨ad256, e256, hx256_0⟩ := Kd.at_string (Kd.R_reads' HO252.out).2.2 1 p256 q256
      obtain rfl : ad253 = ad256 := (by injection e256)
      (try simp only [show (1 : Int).toNat = 1 from rfl, Nat.reduceMul, Nat.reduceEqDiff, Go.Addr.add, ↓reduceIte] at hx256_0)
      have qi256 : (1 < t250.length) = True := eq_true (by omega)
      (try rw [show ((1 : Int)).toNat = 1 from rfl] at hx256_0)
      replace p256 := eq_true p256
      replace q256 := eq_true q256
      go_wp2_with (first | ((with_reducible refine gateC (f := 15) rfl ?_); refine goesL_ (some 28) rfl rfl Tryd.func15 (by kernel_rfl) rfl #[.string (rdOf ByteArray.empty t250 1)] rfl zm ?_; (with_reducible refine (spec_ReadNumber.calls k (rdOf ByteArray.empty t250 1) t257 t258 _ A10.out).mono ?_); rintro e w' ⟨rfl, ⟨nd, rfl⟩⟩; refine ⟨_, rfl, ?_⟩))
      go_meet
      case rel => exact ⟨_, (false), (t257), zf, zf, H', ⟨by first | omega | exact Nat.le_refl _⟩, ⟨by (with_reducible repeat (first | apply Kd.R_alloc | apply Kd.R_drewN | apply Kd.R_drew)); exact HO252.out⟩, ⟨by repeat (first | (with_reducible first | exact HB.out | apply below_alloc | apply pw_below_drewN | apply below_drew1) | exact HB.out)⟩⟩
    ·rw [if_neg c9] at H
     exact absurd H (by simp)
   ·rw [if_neg c8] at H
    have c8b0 : ((t250.length : Int) == 2) = false := beq_eq_false_iff_ne.mpr c8
    have c8b1 : ((t250.length : Int) != 2) = true := bne_iff_ne.mpr c8
    (first | rw [c8b0] | (simp only [i64_w, i32_w]; rw [c8b0]) | skip)
    have H' := Aside0.mk H
    clear H
    go_wp2
    go_meet
    case rel => exact ⟨_, (t255), (1), zf, zf, H', ⟨by first | omega | exact Nat.le_refl _⟩, ⟨by (with_reducible repeat (first | apply Kd.R_alloc | apply Kd.R_drewN | apply Kd.R_drew)); exact HO252.out⟩, ⟨by repeat (first | (with_reducible first | exact HB.out | apply below_alloc | apply pw_below_drewN | apply below_drew1) | exact HB.out)⟩⟩
  case rest =>
   clear HC5
   try clear c1
   try clear c2
   try clear p2
   try clear q2
   try clear hx2
   try clear qi2
   try clear c3
   try clear c3b0
   try clear c3b1
   try clear c5
   try clear c8
   try clear c8b0
   try clear c8b1
   try clear c9
   try clear c9b0
   try clear c9b1
   try clear c11
   try clear hx253_0
   try clear hx256_0
   try clear p253
   try clear p256
   try clear q253
   try clear q256
   obtain ⟨kq, x7_4, x8_4, rfl, rfl, HA, HJ4, HO_5, HB⟩ := hcut
   cases kq with
   | zero => exact absurd HA.out (by simp [spec_ReadCount.j0])
   | succ kj4 =>
    have H := HA.out
    clear HA
    simp only [spec_ReadCount.j0] at H
    by_cases c12 : x8_4 > 0
    ·rw [if_pos c12] at H
     have c12b0 : decide (0 < x8_4) = true := decide_eq_true c12
     clear c12
     by_cases c13 : x7_4 = true
     ·subst c13
      have H1 : (if (t250.length : Int) > 2 then (some (0, 0, false)) else ((spec_l4Range.f (wrap64 (t254 - 1)) x8_4).bind fun t259 => (if t259 = true then (some (wrap64 (t254 - 1), x8_4, true)) else (some (0, 0, false))))) = some (r1, r2, r3) := by rw [if_pos rfl] at H; exact H
      clear H
      have H := H1
      clear H1
      by_cases c14 : (t250.length : Int) > 2
      ·rw [if_pos c14] at H
       have c14b0 : decide (2 < (t250.length : Int)) = true := decide_eq_true c14
       have c14b1 : decide (2 < t250.length) = true := decide_eq_true (by omega)
       clear c14
       simp only [Option.some.injEq, Prod.mk.injEq] at H
       obtain ⟨rfl, rfl, rfl⟩ := H
       go_wp2
       go_ret3
       exact ⟨by first | rfl | (simp [errW_none, errW_some] <;> rfl) | (simp [*, errW_none, errW_some] <;> rfl), by repeat (first | (with_reducible first | exact HB.out | apply below_alloc | apply pw_below_drewN | apply below_drew1) | exact HB.out)⟩
      ·rw [if_neg c14] at H
       have c14b0 : decide (2 < (t250.length : Int)) = false := decide_eq_false c14
       have c14b1 : decide (2 < t250.length) = false := decide_eq_false (by omega)
       clear c14
       replace H := Option.bind_eq_some_iff.mp H
       obtain ⟨t259, A150, H⟩ := H
       replace H : (if t259 = true then (some (wrap64 (t254 - 1), x8_4, true)) else (some (0, 0, false))) = some (r1, r2, r3) := H
       have A15 := Aside0.mk A150
       clear A150
       by_cases c16 : t259 = true
       ·subst c16
        have H1 : (some (wrap64 (t254 - 1), x8_4, true)) = some (r1, r2, r3) := by rw [if_pos rfl] at H; exact H
        clear H
        have H := H1
        clear H1
        simp only [Option.some.injEq, Prod.mk.injEq] at H
        obtain ⟨rfl, rfl, rfl⟩ := H
        go_wp2_with (first | (go_at_call 36; (with_reducible refine (spec_l4Range.calls (wrap64 (t254 - 1)) x8_4 true _ A15.out).mono ?_); rintro e w' ⟨rfl, ⟨nd, rfl⟩⟩))
        go_ret3
        exact ⟨by first | rfl | (simp [errW_none, errW_some] <;> rfl) | (simp [*, errW_none, errW_some] <;> rfl), by repeat (first | (with_reducible first | exact HB.out | apply below_alloc | apply pw_below_drewN | apply below_drew1) | exact HB.out)⟩
       ·replace c16 := Bool.eq_false_iff.mpr c16
        subst c16
        have H1 : (some (0, 0, false)) = some (r1, r2, r3) := by rw [if_neg (show ¬ (false = true) by decide)] at H; exact H
        clear H
        have H := H1
        clear H1
        simp only [Option.some.injEq, Prod.mk.injEq] at H
        obtain ⟨rfl, rfl, rfl⟩ := H
        go_wp2_with (first | (go_at_call 36; (with_reducible refine (spec_l4Range.calls (wrap64 (t254 - 1)) x8_4 false _ A15.out).mono ?_); rintro e w' ⟨rfl, ⟨nd, rfl⟩⟩))
        go_ret3
        exact ⟨by first | rfl | (simp [errW_none, errW_some] <;> rfl) | (simp [*, errW_none, errW_some] <;> rfl), by repeat (first | (with_reducible first | exact HB.out | apply below_alloc | apply pw_below_drewN | apply below_drew1) | exact HB.out)⟩
     ·replace c13 := Bool.eq_false_iff.mpr c13
      subst c13
      have H1 : (some (0, 0, false)) = some (r1, r2, r3) := by rw [if_neg (show ¬ (false = true) by decide)] at H; exact H
      clear H
      have H := H1
      clear H1
      simp only [Option.some.injEq, Prod.mk.injEq] at H
      obtain ⟨rfl, rfl, rfl⟩ := H
      go_wp2
      go_ret3
      exact ⟨by first | rfl | (simp [errW_none, errW_some] <;> rfl) | (simp [*, errW_none, errW_some] <;> rfl), by repeat (first | (with_reducible first | exact HB.out | apply below_alloc | apply pw_below_drewN | apply below_drew1) | exact HB.out)⟩
    ·rw [if_neg c12] at H
     have c12b0 : decide (0 < x8_4) = false := decide_eq_false c12
     clear c12
     by_cases c17 : x7_4 = true
     ·subst c17
      have H1 : (if (t250.length : Int) > 2 then (some (0, 0, false)) else ((spec_l4Range.f t254 x8_4).bind fun t260 => (if t260 = true then (some (t254, x8_4, true)) else (some (0, 0, false))))) = some (r1, r2, r3) := by rw [if_pos rfl] at H; exact H
      clear H
      have H := H1
      clear H1
      by_cases c18 : (t250.length : Int) > 2
      ·rw [if_pos c18] at H
       have c18b0 : decide (2 < (t250.length : Int)) = true := decide_eq_true c18
       have c18b1 : decide (2 < t250.length) = true := decide_eq_true (by omega)
       clear c18
       simp only [Option.some.injEq, Prod.mk.injEq] at H
       obtain ⟨rfl, rfl, rfl⟩ := H
       go_wp2
       go_ret3
       exact ⟨by first | rfl | (simp [errW_none, errW_some] <;> rfl) | (simp [*, errW_none, errW_some] <;> rfl), by repeat (first | (with_reducible first | exact HB.out | apply below_alloc | apply pw_below_drewN | apply below_drew1) | exact HB.out)⟩
      ·rw [if_neg c18] at H
       have c18b0 : decide (2 < (t250.length : Int)) = false := decide_eq_false c18
       have c18b1 : decide (2 < t250.length) = false := decide_eq_false (by omega)
       clear c18
       replace H := Option.bind_eq_some_iff.mp H
       obtain ⟨t260, A190, H⟩ := H
       replace H : (if t260 = true then (some (t254, x8_4, true)) else (some (0, 0, false))) = some (r1, r2, r3) := H
       have A19 := Aside0.mk A190
       clear A190
       by_cases c20 : t260 = true
       ·subst c20
        have H1 : (some (t254, x8_4, true)) = some (r1, r2, r3) := by rw [if_pos rfl] at H; exact H
        clear H
        have H := H1
        clear H1
        simp only [Option.some.injEq, Prod.mk.injEq] at H
        obtain ⟨rfl, rfl, rfl⟩ := H
        go_wp2_with (first | (go_at_call 36; (with_reducible refine (spec_l4Range.calls t254 x8_4 true _ A19.out).mono ?_); rintro e w' ⟨rfl, ⟨nd, rfl⟩⟩))
        go_ret3
        exact ⟨by first | rfl | (simp [errW_none, errW_some] <;> rfl) | (simp [*, errW_none, errW_some] <;> rfl), by repeat (first | (with_reducible first | exact HB.out | apply below_alloc | apply pw_below_drewN | apply below_drew1) | exact HB.out)⟩
       ·replace c20 := Bool.eq_false_iff.mpr c20
        subst c20
        have H1 : (some (0, 0, false)) = some (r1, r2, r3) := by rw [if_neg (show ¬ (false = true) by decide)] at H; exact H
        clear H
        have H := H1
        clear H1
        simp only [Option.some.injEq, Prod.mk.injEq] at H
        obtain ⟨rfl, rfl, rfl⟩ := H
        go_wp2_with (first | (go_at_call 36; (with_reducible refine (spec_l4Range.calls t254 x8_4 false _ A19.out).mono ?_); rintro e w' ⟨rfl, ⟨nd, rfl⟩⟩))
        go_ret3
        exact ⟨by first | rfl | (simp [errW_none, errW_some] <;> rfl) | (simp [*, errW_none, errW_some] <;> rfl), by repeat (first | (with_reducible first | exact HB.out | apply below_alloc | apply pw_below_drewN | apply below_drew1) | exact HB.out)⟩
     ·replace c17 := Bool.eq_false_iff.mpr c17
      subst c17
      have H1 : (some (0, 0, false)) = some (r1, r2, r3) := by rw [if_neg (show ¬ (false = true) by decide)] at H; exact H
      clear H
      have H := H1
      clear H1
      simp only [Option.some.injEq, Prod.mk.injEq] at H
      obtain ⟨rfl, rfl, rfl⟩ := H
      go_wp2
      go_ret3
      exact ⟨by first | rfl | (simp [errW_none, errW_some] <;> rfl) | (simp [*, errW_none, errW_some] <;> rfl), by repeat (first | (with_reducible first | exact HB.out | apply below_alloc | apply pw_below_drewN | apply below_drew1) | exact HB.out)⟩
 ·rw [if_neg c3] at H
  exact absurd H (by simp)

end Go.Proofs.YtfmbpldjbmhnnaaDoor.My

/- Written by this session's program (wip/gen): a plain function with the same answers as the Go function, and the proof that the Go code comes to them. Asked: that the plain function has an answer. -/
namespace Go.Proofs.YtfmbpldjbmhnnaaDoor.My
open Go.RowKit Go.Proofs.YtfmbpldjbmhnnaaDoorW.PrintWords Go.Proofs.YtfmbpldjbmhnnaaDoorW.PrintLast Go.Proofs.YtfmbpldjbmhnnaaDoorW.PrintMore
attribute [local go_sem] max2_int min2_int max_two min_two max_three min_three max_four min_four
set_option linter.unusedVariables false
set_option linter.unusedSimpArgs false

/-! ### laws_FnExactReadCount: function 9 -/
def laws_FnExactReadCount.f (k : Nat) (a0 : ByteArray) : Option (Bool) := if (a0.size : Int) > 1048576 then (some true) else ((spec_ReadCount.f k a0).bind fun bt267 => ((impl_ReadCount.f k a0).bind fun bt270 => (if bt270.1 = bt267.1 then (if bt270.2.1 = bt267.2.1 then (if (bt270.2.2 != bt267.2.2) = true then (some false) else (some true)) else (some false)) else (some false))))
set_option maxHeartbeats 8000000 in
set_option maxRecDepth 100000 in
theorem laws_FnExactReadCount.calls (k : Nat) (a0 : ByteArray) (r : Bool) (w : World) (ht : Door true w) (h : laws_FnExactReadCount.f k a0 = some r) :
  Calls Tryd.prog 9 #[.string a0] w fun e w' => e = .returned (.bool r) ∧ Below w.heap.size w w' := by
 have HT := Aside0.mk ht
 clear ht
 have HB := Aside0.mk (Below.refl w.heap.size w)
 have H : (if (a0.size : Int) > 1048576 then (some true) else ((spec_ReadCount.f k a0).bind fun bt267 => ((impl_ReadCount.f k a0).bind fun bt270 => (if bt270.1 = bt267.1 then (if bt270.2.1 = bt267.2.1 then (if (bt270.2.2 != bt267.2.2) = true then (some false) else (some true)) else (some false)) else (some false))))) = some r := h
 clear h
 by_cases c2 : (a0.size : Int) > 1048576
 ·rw [if_pos c2] at H
  have c2b0 : decide (1048576 < (a0.size : Int)) = true := decide_eq_true c2
  have c2b1 : decide (1048576 < a0.size) = true := decide_eq_true (by omega)
  clear c2
  obtain rfl := Option.some.inj H
  go_enter Tryd.func9, Tryd.ntmps9
  go_wp2
  go_ret
  exact ⟨by first | rfl | (simp [errW_none, errW_some] <;> rfl) | (simp [*, errW_none, errW_some] <;> rfl), by repeat (first | (with_reducible first | exact HB.out | apply below_alloc | apply pw_below_drewN | apply below_drew1) | exact HB.out)⟩
 ·rw [if_neg c2] at H
  have c2b0 : decide (1048576 < (a0.size : Int)) = false := decide_eq_false c2
  have c2b1 : decide (1048576 < a0.size) = false := decide_eq_false (by omega)
  clear c2
  replace H := Option.bind_eq_some_iff.mp H
  obtain ⟨⟨t267, t268, t269⟩, A30, H⟩ := H
  replace H : ((impl_ReadCount.f k a0).bind fun bt270 => (if bt270.1 = t267 then (if bt270.2.1 = t268 then (if (bt270.2.2 != t269) = true then (some false) else (some true)) else (some false)) else (some false))) = some r := H
  have A3 := Aside0.mk A30
  clear A30
  replace H := Option.bind_eq_some_iff.mp H
  obtain ⟨⟨t270, t271, t272⟩, A40, H⟩ := H
  replace H : (if t270 = t267 then (if t271 = t268 then (if (t272 != t269) = true then (some false) else (some true)) else (some false)) else (some false)) = some r := H
  have A4 := Aside0.mk A40
  clear A40
  by_cases c5 : t270 = t267
  ·rw [if_pos c5] at H
   have c5b0 : (t270 == t267) = true := beq_iff_eq.mpr c5
   have c5b1 : (t270 != t267) = false := bne_eq_false_iff_eq.mpr c5
   clear c5
   by_cases c6 : t271 = t268
   ·rw [if_pos c6] at H
    have c6b0 : (t271 == t268) = true := beq_iff_eq.mpr c6
    have c6b1 : (t271 != t268) = false := bne_eq_false_iff_eq.mpr c6
    clear c6
    by_cases c7 : (t272 != t269) = true
    ·rw [if_pos c7] at H
     have c7b0 : (t272 != t269) = true := c7
     (try (have c7b1 : decide (t272 = t269) = false := by simpa using c7))
     (try (have c7b2 : (t272 == t269) = false := by simpa using c7))
     (try (have c7b3 : ¬ (t272 = t269) := by simpa using c7))
     clear c7
     obtain rfl := Option.some.inj H
     go_enter Tryd.func9, Tryd.ntmps9
     go_wp2_with (first | ((with_reducible refine gateC (f := 26) rfl ?_); refine goesL_ (some 14) rfl rfl Tryd.func26 (by kernel_rfl) rfl #[.string a0] rfl zm ?_; (with_reducible refine (spec_ReadCount.calls k a0 t267 t268 t269 _ A3.out).mono ?_); rintro e w8 ⟨rfl, hb⟩; refine ⟨_, rfl, ?_⟩; have n0_ := Aside0.mk (below_step zb hb); clear HB; have HB := n0_; clear n0_; (try clear hb); (try clear hb2); (try clear hk); (try clear hi)) | ((with_reducible refine gateC (f := 27) rfl ?_); refine goesL_ (some 20) rfl rfl Tryd.func27 (by kernel_rfl) rfl #[.string a0] rfl zm ?_; (with_reducible refine (impl_ReadCount.calls k a0 t270 t271 t272 _ ?sideT A4.out).mono ?_); (case sideT => exact Door.below HT.out zb); rintro e w9 ⟨rfl, hb⟩; refine ⟨_, rfl, ?_⟩; have n0_ := Aside0.mk (below_step zb hb); clear HB; have HB := n0_; clear n0_; (try clear hb); (try clear hb2); (try clear hk); (try clear hi)))
     go_ret
     exact ⟨by first | rfl | (simp [errW_none, errW_some] <;> rfl) | (simp [*, errW_none, errW_some] <;> rfl), by repeat (first | (with_reducible first | exact HB.out | apply below_alloc | apply pw_below_drewN | apply below_drew1) | exact HB.out)⟩
    ·rw [if_neg c7] at H
     have c7b0 : (t272 != t269) = false := by simpa using c7
     (try (have c7b1 : decide (t272 = t269) = true := by simpa using c7))
     (try (have c7b2 : (t272 == t269) = true := by simpa using c7))
     clear c7
     obtain rfl := Option.some.inj H
     go_enter Tryd.func9, Tryd.ntmps9
     go_wp2_with (first | ((with_reducible refine gateC (f := 26) rfl ?_); refine goesL_ (some 14) rfl rfl Tryd.func26 (by kernel_rfl) rfl #[.string a0] rfl zm ?_; (with_reducible refine (spec_ReadCount.calls k a0 t267 t268 t269 _ A3.out).mono ?_); rintro e w10 ⟨rfl, hb⟩; refine ⟨_, rfl, ?_⟩; have n0_ := Aside0.mk (below_step zb hb); clear HB; have HB := n0_; clear n0_; (try clear hb); (try clear hb2); (try clear hk); (try clear hi)) | ((with_reducible refine gateC (f := 27) rfl ?_); refine goesL_ (some 20) rfl rfl Tryd.func27 (by kernel_rfl) rfl #[.string a0] rfl zm ?_; (with_reducible refine (impl_ReadCount.calls k a0 t270 t271 t272 _ ?sideT A4.out).mono ?_); (case sideT => exact Door.below HT.out zb); rintro e w11 ⟨rfl, hb⟩; refine ⟨_, rfl, ?_⟩; have n0_ := Aside0.mk (below_step zb hb); clear HB; have HB := n0_; clear n0_; (try clear hb); (try clear hb2); (try clear hk); (try clear hi)))
     go_ret
     exact ⟨by first | rfl | (simp [errW_none, errW_some] <;> rfl) | (simp [*, errW_none, errW_some] <;> rfl), by repeat (first | (with_reducible first | exact HB.out | apply below_alloc | apply pw_below_drewN | apply below_drew1) | exact HB.out)⟩
   ·rw [if_neg c6] at H
    have c6b0 : (t271 == t268) = false := beq_eq_false_iff_ne.mpr c6
    have c6b1 : (t271 != t268) = true := bne_iff_ne.mpr c6
    obtain rfl := Option.some.inj H
    go_enter Tryd.func9, Tryd.ntmps9
    go_wp2_with (first | ((with_reducible refine gateC (f := 26) rfl ?_); refine goesL_ (some 14) rfl rfl Tryd.func26 (by kernel_rfl) rfl #[.string a0] rfl zm ?_; (with_reducible refine (spec_ReadCount.calls k a0 t267 t268 t269 _ A3.out).mono ?_); rintro e w12 ⟨rfl, hb⟩; refine ⟨_, rfl, ?_⟩; have n0_ := Aside0.mk (below_step zb hb); clear HB; have HB := n0_; clear n0_; (try clear hb); (try clear hb2); (try clear hk); (try clear hi)) | ((with_reducible refine gateC (f := 27) rfl ?_); refine goesL_ (some 20) rfl rfl Tryd.func27 (by kernel_rfl) rfl #[.string a0] rfl zm ?_; (with_reducible refine (impl_ReadCount.calls k a0 t270 t271 t272 _ ?sideT A4.out).mono ?_); (case sideT => exact Door.below HT.out zb); rintro e w13 ⟨rfl, hb⟩; refine ⟨_, rfl, ?_⟩; have n0_ := Aside0.mk (below_step zb hb); clear HB; have HB := n0_; clear n0_; (try clear hb); (try clear hb2); (try clear hk); (try clear hi)))
    go_ret
    exact ⟨by first | rfl | (simp [errW_none, errW_some] <;> rfl) | (simp [*, errW_none, errW_some] <;> rfl), by repeat (first | (with_reducible first | exact HB.out | apply below_alloc | apply pw_below_drewN | apply below_drew1) | exact HB.out)⟩
  ·rw [if_neg c5] at H
   have c5b0 : (t270 == t267) = false := beq_eq_false_iff_ne.mpr c5
   have c5b1 : (t270 != t267) = true := bne_iff_ne.mpr c5
   obtain rfl := Option.some.inj H
   go_enter Tryd.func9, Tryd.ntmps9
   go_wp2_with (first | ((with_reducible refine gateC (f := 26) rfl ?_); refine goesL_ (some 14) rfl rfl Tryd.func26 (by kernel_rfl) rfl #[.string a0] rfl zm ?_; (with_reducible refine (spec_ReadCount.calls k a0 t267 t268 t269 _ A3.out).mono ?_); rintro e w14 ⟨rfl, hb⟩; refine ⟨_, rfl, ?_⟩; have n0_ := Aside0.mk (below_step zb hb); clear HB; have HB := n0_; clear n0_; (try clear hb); (try clear hb2); (try clear hk); (try clear hi)) | ((with_reducible refine gateC (f := 27) rfl ?_); refine goesL_ (some 20) rfl rfl Tryd.func27 (by kernel_rfl) rfl #[.string a0] rfl zm ?_; (with_reducible refine (impl_ReadCount.calls k a0 t270 t271 t272 _ ?sideT A4.out).mono ?_); (case sideT => exact Door.below HT.out zb); rintro e w15 ⟨rfl, hb⟩; refine ⟨_, rfl, ?_⟩; have n0_ := Aside0.mk (below_step zb hb); clear HB; have HB := n0_; clear n0_; (try clear hb); (try clear hb2); (try clear hk); (try clear hi)))
   go_ret
   exact ⟨by first | rfl | (simp [errW_none, errW_some] <;> rfl) | (simp [*, errW_none, errW_some] <;> rfl), by repeat (first | (with_reducible first | exact HB.out | apply below_alloc | apply pw_below_drewN | apply below_drew1) | exact HB.out)⟩

end Go.Proofs.YtfmbpldjbmhnnaaDoor.My

/- Written by this session's program (wip/gen): the law's pure statement. -/
namespace Go.Proofs.YtfmbpldjbmhnnaaDoor.My
open Go.RowKit Go.Proofs.YtfmbpldjbmhnnaaDoorW.PrintWords Go.Proofs.YtfmbpldjbmhnnaaDoorW.PrintLast Go.Proofs.YtfmbpldjbmhnnaaDoorW.PrintMore
attribute [local go_sem] max2_int min2_int max_two min_two max_three min_three max_four min_four
set_option linter.unusedVariables false
set_option linter.unusedSimpArgs false

/-- What is left to prove of laws_FnExactReadCount. -/
def laws_FnExactReadCount.Pure : Prop := ∀ (a0 : ByteArray), Wstr a0 → ∃ k, laws_FnExactReadCount.f k a0 = some true
end Go.Proofs.YtfmbpldjbmhnnaaDoor.My

/- Plain Lean, no program in sight: what holds from some number of rounds on, whole numbers that do not wrap, lists by an index. -/
namespace Go.Proofs.YtfmbpldjbmhnnaaDoor.Pl
open Go.RowKit Go.Proofs.YtfmbpldjbmhnnaaDoorW.PrintWords Go.Proofs.YtfmbpldjbmhnnaaDoorW.PrintLast
set_option linter.unusedVariables false
set_option linter.unusedSimpArgs false

section
variable {α β : Type}
theorem ev_pos {c : Prop} [Decidable c] {g g' : Nat → Option α} {r : α} (hc : c) (h : Ev g r) : Ev (fun k => if c then g k else g' k) r :=
  Ev.congr (fun _ => if_pos hc) h
theorem ev_neg {c : Prop} [Decidable c] {g g' : Nat → Option α} {r : α} (hc : ¬ c) (h : Ev g' r) : Ev (fun k => if c then g k else g' k) r :=
  Ev.congr (fun _ => if_neg hc) h
theorem ev_ite {c : Prop} [Decidable c] {g g' : Nat → Option α} {r : α} (h : c → Ev g r) (h' : ¬ c → Ev g' r) : Ev (fun k => if c then g k else g' k) r := by
  by_cases hc : c
  · exact ev_pos hc (h hc)
  · exact ev_neg hc (h' hc)
theorem ev_some {r r' : α} (h : r = r') : Ev (fun _ => some r) r' := h ▸ Ev.now r
theorem ev_const {o : Option α} {r : α} (h : o = some r) : Ev (fun _ => o) r := ⟨0, fun _ _ => h⟩
theorem ev_to {g : Nat → Option α} {r r' : α} (h : Ev g r) (e : r = r') : Ev g r' := e ▸ h
theorem ev_bind {g : Nat → Option α} {f : Nat → α → Option β} {a : α} {r : β} (h : Ev g a) (k : Ev (fun n => f n a) r) : Ev (fun n => (g n).bind fun t => f n t) r := Ev.bind h k
end

theorem wrap64_id {x : Int} (h : -9223372036854775808 ≤ x) (h' : x ≤ 9223372036854775807) : wrap64 x = x := by
  unfold wrap64
  omega
theorem wrap_succ (i : Nat) (h : i < 9223372036854775807) : wrap64 ((i : Int) + 1) = ((i + 1 : Nat) : Int) := by
  rw [wrap64_id (by omega) (by omega)]
  omega
theorem wrap_pred (n : Nat) (h0 : 0 < n) (h : n ≤ 9223372036854775807) : wrap64 ((n : Int) - 1) = ((n - 1 : Nat) : Int) := by
  rw [wrap64_id (by omega) (by omega)]
  omega
theorem wrap_sub (n m : Nat) (h0 : m ≤ n) (h : n ≤ 9223372036854775807) : wrap64 ((n : Int) - (m : Int)) = ((n - m : Nat) : Int) := by
  rw [wrap64_id (by omega) (by omega)]
  omega
theorem wrap_add (n m : Nat) (h : n + m ≤ 9223372036854775807) : wrap64 ((n : Int) + (m : Int)) = ((n + m : Nat) : Int) := by
  rw [wrap64_id (by omega) (by omega)]
  omega

theorem rdOf_nat {α : Type} (d : α) (xs : List α) (i : Nat) : rdOf d xs (i : Int) = xs.getD i d := rfl
theorem rd_nat (xs : List Int) (i : Nat) : rd xs (i : Int) = xs.getD i 0 := rfl
theorem getD_lt {α : Type} (xs : List α) (d : α) (i : Nat) (h : i < xs.length) : xs.getD i d = xs[i] := by
  simp [List.getD_eq_getElem?_getD, List.getElem?_eq_getElem h]
theorem rdOf_lt {α : Type} (d : α) (xs : List α) (i : Nat) (h : i < xs.length) : rdOf d xs (i : Int) = xs[i] := getD_lt xs d i h
theorem ba_ext {a b : ByteArray} (h : a.toList = b.toList) : a = b := by
  rw [Lib.toList_data, Lib.toList_data] at h
  cases a with | mk a => cases b with | mk b =>
  cases a with | mk a => cases b with | mk b =>
  simp_all
theorem ba_iff {a b : ByteArray} : a.toList = b.toList ↔ a = b := ⟨ba_ext, fun h => by rw [h]⟩
theorem drop_cons {α : Type} (xs : List α) (i : Nat) (h : i < xs.length) : xs.drop i = xs[i] :: xs.drop (i + 1) := List.drop_eq_getElem_cons h
theorem bt_nat (s : ByteArray) (i : Nat) (h : i < s.size) : bt s (i : Int) = ((s.data.toList[i]'(by rw [data_length]; exact h)).toNat : Int) := by
  unfold bt
  rw [dif_pos (by simpa using h)]
  simp [ByteArray.getElem_eq_getElem_data]
theorem u8_eq {b c : UInt8} (h : (b.toNat : Int) = (c.toNat : Int)) : b = c := UInt8.toNat_inj.1 (by omega)
theorem u8_ne {b c : UInt8} (h : ¬ (b.toNat : Int) = (c.toNat : Int)) : ¬ c = b := fun e => h (by rw [e])
end Go.Proofs.YtfmbpldjbmhnnaaDoor.Pl

/- Plain Lean: whether a number lies between two. No condition. -/
namespace Go.Proofs.YtfmbpldjbmhnnaaDoor.Pl
open Go.RowKit Go.Proofs.YtfmbpldjbmhnnaaDoorW.PrintWords Go.Proofs.YtfmbpldjbmhnnaaDoorW.PrintLast Go.Proofs.YtfmbpldjbmhnnaaDoor.My
set_option linter.unusedVariables false
set_option linter.unusedSimpArgs false

def inB (n lo hi : Int) : Bool := decide (lo ≤ n) && decide (n ≤ hi)
theorem inB_iff (a b c : Int) : inB a b c = true ↔ b ≤ a ∧ a ≤ c := by
  unfold inB
  rw [Bool.and_eq_true, decide_eq_true_eq, decide_eq_true_eq]
theorem impl_in_eq (a b c : Int) : impl_in.f a b c = some (inB a b c) := by
  unfold impl_in.f inB
  by_cases h : b ≤ a
  · rw [if_pos h]; simp [h]
  · rw [if_neg (by omega)]; simp [h]
theorem spec_l1In_eq (a b c : Int) : spec_l1In.f a b c = some (inB a b c) := by
  unfold spec_l1In.f inB
  by_cases h : b ≤ a
  · rw [if_pos h]; simp [h]
  · rw [if_neg (by omega)]; simp [h]
end Go.Proofs.YtfmbpldjbmhnnaaDoor.Pl

/- Written by this session's program (wip/gen): a plain function with the same answers as the Go function, and the proof that the Go code comes to them. Asked: that the plain function has an answer. -/
namespace Go.Proofs.YtfmbpldjbmhnnaaDoor.My
open Go.RowKit Go.Proofs.YtfmbpldjbmhnnaaDoorW.PrintWords Go.Proofs.YtfmbpldjbmhnnaaDoorW.PrintLast Go.Proofs.YtfmbpldjbmhnnaaDoorW.PrintMore
attribute [local go_sem] max2_int min2_int max_two min_two max_three min_three max_four min_four
set_option linter.unusedVariables false
set_option linter.unusedSimpArgs false

/-! ### strconv_Itoa_65: function 65 -/
def strconv_Itoa_65.f (a0 : Int) : Option (ByteArray) := if -9223372036854775808 ≤ a0 ∧ a0 ≤ 9223372036854775807 then some ⟨(Lib.itoa a0).toArray⟩ else none
theorem strconv_Itoa_65.calls (es : Bool) (a0 : Int) (r : ByteArray) (w : World) (ht : Door es w) (h : strconv_Itoa_65.f a0 = some r) :
  Calls Tryd.prog 65 #[.int .i64 a0] w fun e w' => e = .returned (.string r) ∧ Below w.heap.size w w' := by
 unfold strconv_Itoa_65.f at h
 split at h
 ·rename_i c
  injection h with h
  subst h
  refine (Tryd.strconv_Itoa a0 c.1 c.2 w ht.tab).mono ?_
  rintro e w' ⟨rfl, k, os, rfl⟩
  exact ⟨rfl, Lib.below_grow _ _ (Nat.le_refl _) _ _⟩
 ·cases h

end Go.Proofs.YtfmbpldjbmhnnaaDoor.My

/- Written by this session's program (wip/gen): a plain function with the same answers as the Go function, and the proof that the Go code comes to them. Asked: that the plain function has an answer. -/
namespace Go.Proofs.YtfmbpldjbmhnnaaDoor.My
open Go.RowKit Go.Proofs.YtfmbpldjbmhnnaaDoorW.PrintWords Go.Proofs.YtfmbpldjbmhnnaaDoorW.PrintLast Go.Proofs.YtfmbpldjbmhnnaaDoorW.PrintMore
attribute [local go_sem] max2_int min2_int max_two min_two max_three min_three max_four min_four
set_option linter.unusedVariables false
set_option linter.unusedSimpArgs false

/-! ### spec_l1Num: function 62 -/
def spec_l1Num.f : Nat → Int → Option (ByteArray)
 | 0, _ => none
 | k + 1, a0 => if a0 < 10 then (some (strOfNums (([(wrap64 (48 + a0)) % 256] : List Int)))) else ((spec_l1Num.f k (wrap64 (Int.tdiv a0 10))).bind fun t106 => ((some (([(wrap64 (48 + (Int.tmod a0 10))) % 256] : List Int) : List Int)).bind fun y107 => (if t106.size + (strOfNums y107).size ≤ 9223372036854775807 then (some (t106 ++ (strOfNums y107))) else (none))))
def spec_l1Num.T3 : Bool × List (List Nat × List Nat) := (true, [([], []), ([0], [0]), ([1], [1]), ([], []), ([3], [3]), ([4], [4]), ([5], [5]), ([6], [6]), ([7], [7]), ([2, 8], [2, 8]), ([9, 2, 0, 1, 2, 3, 4, 5, 6, 7, 8, 9], [9])])
def spec_l1Num.B3 : List Nat := [0, 1, 3, 0, 8, 24, 56, 120, 248, 511, 1023]
theorem spec_l1Num.tab3 : rtab .any (opsOf Tryd.f62 3) = spec_l1Num.T3 := by kernel_rfl
theorem spec_l1Num.bits3 : waitsOk spec_l1Num.T3.2 spec_l1Num.B3 = true := by kernel_rfl
set_option maxHeartbeats 8000000 in
set_option maxRecDepth 100000 in
theorem spec_l1Num.calls (k : Nat) : ∀ (a0 : Int) (r : ByteArray) (w : World) (h : spec_l1Num.f k a0 = some r),
  Calls Tryd.prog 62 #[.int .i64 a0] w fun e w' => e = .returned (.string r) ∧ Below w.heap.size w w' := by
 induction k using Nat.strongRecOn with
 | _ k ih =>
 intro a0 r w h
 cases k with
 | zero => exact absurd h (by simp [spec_l1Num.f])
 | succ k =>
 simp only [spec_l1Num.f] at h
 have HB := Aside0.mk (Below.refl w.heap.size w)
 have H : (if a0 < 10 then (some (strOfNums (([(wrap64 (48 + a0)) % 256] : List Int)))) else ((spec_l1Num.f k (wrap64 (Int.tdiv a0 10))).bind fun t106 => ((some (([(wrap64 (48 + (Int.tmod a0 10))) % 256] : List Int) : List Int)).bind fun y107 => (if t106.size + (strOfNums y107).size ≤ 9223372036854775807 then (some (t106 ++ (strOfNums y107))) else (none))))) = some r := h
 clear h
 by_cases c2 : a0 < 10
 ·rw [if_pos c2] at H
  have c2b0 : decide (a0 < 10) = true := decide_eq_true c2
  clear c2
  obtain ⟨y103, hy103⟩ : ∃ y_ : List Int, y_ = (([(wrap64 (48 + a0)) % 256] : List Int)) := ⟨_, rfl⟩
  replace H : (some (strOfNums y103)) = some r := by first | (rw [hy103]; with_reducible exact H) | (have H2_ := (Option.bind_some _ _).symm.trans H; rw [hy103]; with_reducible exact H2_) | (have H2_ := (Option.bind_some _ _).symm.trans H; with_reducible exact H2_) | with_reducible exact H | (rw [hy103]; exact H) | exact H
  have Ny103 := Aside0.mk hy103
  clear hy103
  obtain rfl := Option.some.inj H
  go_enter Tryd.func62, Tryd.ntmps62
  go_wp2_with (first | ((with_reducible refine gate_dst (N := 8) rfl ?_); refine Kd.R_lit (Kd.int .u8) _ 5 ?hg (N := 8) ?hd (xs := ([(wrap64 (48 + a0)) % 256] : List Int)) (inner := [.int .u8 ((wrap64 (48 + a0)) % 256)]) (ok := fun _ => True) (okp := fun _ => True) ?hr ?hp (fun _ hk => hk) trivial (Below.refl _ _) (Nat.le_refl _) (by simp) ?_; (case hd => rfl); (case hg => rfl); (case hr => first | (go_simp; done) | (go_simp; rfl)); (case hp => exact (Reps.one (show Kd.M (Kd.int .u8) _ _ _ ((wrap64 (48 + a0)) % 256) [.int .u8 ((wrap64 (48 + a0)) % 256)] from rfl) (Reps.none _ _))); intro v104 w3 ho4 hb hg_ hnew_; clear hg_ hnew_; (first | rw [← Ny103.out] at ho4 | (simp only [Int.reduceToNat] at ho4; rw [← Ny103.out] at ho4)); have n0_ := Aside0.mk (Kd.R_lower ho4 (below_size zb)); have n1_ := Aside0.mk (below_step zb hb); clear HB; have HO105 := n0_; have HB := n1_; clear n0_ n1_; clear hb ho4; have hcv5 := own_string (P := Tryd.prog) Tryd.underlying89 Tryd.underlying5 Tryd.underlying9 (Kd.own_of_R HO105.out)))
  go_ret
  exact ⟨by first | rfl | (simp [errW_none, errW_some] <;> rfl) | (simp [*, errW_none, errW_some] <;> rfl), by repeat (first | (with_reducible first | exact HB.out | apply below_alloc | apply pw_below_drewN | apply below_drew1) | exact HB.out)⟩
 ·rw [if_neg c2] at H
  have c2b0 : decide (a0 < 10) = false := decide_eq_false c2
  clear c2
  replace H := Option.bind_eq_some_iff.mp H
  obtain ⟨t106, A60, H⟩ := H
  replace H : ((some (([(wrap64 (48 + (Int.tmod a0 10))) % 256] : List Int) : List Int)).bind fun y107 => (if t106.size + (strOfNums y107).size ≤ 9223372036854775807 then (some (t106 ++ (strOfNums y107))) else (none))) = some r := H
  have A6 := Aside0.mk A60
  clear A60
  obtain ⟨y107, hy107⟩ : ∃ y_ : List Int, y_ = (([(wrap64 (48 + (Int.tmod a0 10))) % 256] : List Int)) := ⟨_, rfl⟩
  replace H : (if t106.size + (strOfNums y107).size ≤ 9223372036854775807 then (some (t106 ++ (strOfNums y107))) else (none)) = some r := by first | (rw [hy107]; with_reducible exact H) | (have H2_ := (Option.bind_some _ _).symm.trans H; rw [hy107]; with_reducible exact H2_) | (have H2_ := (Option.bind_some _ _).symm.trans H; with_reducible exact H2_) | with_reducible exact H | (rw [hy107]; exact H) | exact H
  have Ny107 := Aside0.mk hy107
  clear hy107
  by_cases c7 : t106.size + (strOfNums y107).size ≤ 9223372036854775807
  ·rw [if_pos c7] at H
   have c7b0 := eq_true c7
   have c7b1 : decide (t106.size + (strOfNums y107).size ≤ 9223372036854775807) = true := decide_eq_true c7
   try have c7b2 : (9223372036854775807 < t106.size + (strOfNums y107).size) = False := eq_false (Nat.not_lt.2 c7)
   obtain rfl := Option.some.inj H
   go_enter Tryd.func62, Tryd.ntmps62
   try go_wp2
   have n0_ := Aside0.mk (below_drew1 HB.out)
   clear HB
   have HB := n0_
   clear n0_
   refine start_ (n := 11) (S := fun w' => True) (ds := []) #[O,O,O,O,O,O,O,O,O,O,O] (by kernel_rfl) rfl rfl trivial (fun hHeld => ?_); refine with_tabW spec_l1Num.tab3 spec_l1Num.bits3 (fun HT_ HW_ => ?_)
   generalize w.drew = w8 at HB hHeld ⊢
   refine pure_ (i := 0) (N := some 10) (v := ?_) (a' := ?_) #[Y,O,O,O,O,O,O,O,O,O,O] rfl rfl zx (fun _ _ _ h => h) (Or.inl ⟨by rfl, ?_⟩) ?_ ?_
   rotate_left; (intro w'; go_simp; with_reducible rfl); rotate_left; (simp only [Act.put,qa,qb,qc,i64_w,i32_w]; rfl)
   refine pure_ (i := 1) (N := some 11) (v := ?_) (a' := ?_) #[Y,Y,O,O,O,O,O,O,O,O,O] rfl rfl zx (fun _ _ _ h => h) (Or.inl ⟨by rfl, ?_⟩) ?_ ?_
   rotate_left; (intro w'; go_simp; with_reducible rfl); rotate_left; (simp only [Act.put,qa,qb,qc,i64_w,i32_w]; rfl)
   refine pure_ (i := 3) (N := some 13) (v := ?_) (a' := ?_) #[Y,Y,O,Y,O,O,O,O,O,O,O] rfl rfl zx (fun _ _ _ h => h) (Or.inl ⟨by rfl, ?_⟩) ?_ ?_
   rotate_left; (intro w'; go_simp; with_reducible rfl); rotate_left; (simp only [Act.put,qa,qb,qc,i64_w,i32_w]; rfl)
   refine pure_ (i := 4) (N := some 14) (v := ?_) (a' := ?_) #[Y,Y,O,Y,Y,O,O,O,O,O,O] rfl rfl zx (fun _ _ _ h => h) (Or.inl ⟨by rfl, ?_⟩) ?_ ?_
   rotate_left; (intro w'; go_simp; with_reducible rfl); rotate_left; (simp only [Act.put,qa,qb,qc,i64_w,i32_w]; rfl)
   refine pure_ (i := 5) (N := some 15) (v := ?_) (a' := ?_) #[Y,Y,O,Y,Y,Y,O,O,O,O,O] rfl rfl zx (fun _ _ _ h => h) (Or.inl ⟨by rfl, ?_⟩) ?_ ?_
   rotate_left; (intro w'; go_simp; with_reducible rfl); rotate_left; (simp only [Act.put,qa,qb,qc,i64_w,i32_w]; rfl)
   refine pure_ (i := 6) (N := some 16) (v := ?_) (a' := ?_) #[Y,Y,O,Y,Y,Y,Y,O,O,O,O] rfl rfl zx (fun _ _ _ h => h) (Or.inl ⟨by rfl, ?_⟩) ?_ ?_
   rotate_left; (intro w'; go_simp; with_reducible rfl); rotate_left; (simp only [Act.put,qa,qb,qc,i64_w,i32_w]; rfl)
   refine join_ (σ := Value) 2 #[Y,Y,Y,Y,Y,Y,Y,Y,Y,O,O] (fun s_ => [(12, .string t106), (17, s_), (18, .string (strOfNums y107))]) (fun s_ w' => (Kd.R (Kd.int .u8) 5 w' w.heap.size (fun _ => True) s_ y107) ∧ (Below w.heap.size w w')) ?_ ?_
   rotate_left
   ·intro hCont
    refine two_ (i := 2) (j := 7) (Ni := some 12) (Nj := some 17) #[Y,Y,Y,Y,Y,Y,Y,O,O,O,O] #[Y,Y,O,Y,Y,Y,Y,Y,O,O,O] rfl rfl rfl rfl (two_of HT_.out (by kernel_rfl)) (by decide) (by decide) (fun K hK => ?_) (fun K hK => ?_)
    ·skip
     refine goes_ Tryd.func62 (by kernel_rfl) rfl #[.int .i64 (wrap64 (Int.tdiv a0 10))] (by rfl) rfl rfl zm ?_
     with_reducible refine (ih k (by omega) (wrap64 (Int.tdiv a0 10)) t106 _ A6.out).mono ?_
     rintro e w9 ⟨rfl, hb⟩
     refine ⟨_, rfl, ?_⟩
     have n0_ := Aside0.mk (below_step zb hb)
     clear HB
     have HB := n0_
     clear n0_
     (try clear hb)
     (try clear hb2)
     (try clear hk)
     (try clear hi)
     refine hK.out _ _ trivial (fun hHeld => ?_)
     clear hK K
     refine norm_ (a' := ?_) ?_ ?_
     rotate_left
     ·show Act.put _ (some 12) _ = _
      simp only [Act.put,qa,qb,qc,i64_w,i32_w]
      rfl
     refine one_ (i := 7) (N := some 17) #[Y,Y,Y,Y,Y,Y,Y,Y,O,O,O] rfl rfl (one_of HT_.out (by kernel_rfl)) (by decide) (fun K hK => ?_)
     refine Kd.R_lit_step (Kd.int .u8) _ 5 ?hg (N := 17) ?hd (xs := ([(wrap64 (48 + (Int.tmod a0 10))) % 256] : List Int)) (inner := [.int .u8 ((wrap64 (48 + (Int.tmod a0 10))) % 256)]) (ok := fun _ => True) (okp := fun _ => True) ?hr ?hp (fun _ hk => hk) trivial (Below.refl _ _) (Nat.le_refl _) (by simp) ?_; (case hd => rfl); (case hg => rfl); (case hr => first | (go_simp; done) | (go_simp; rfl)); (case hp => exact (Reps.one (show Kd.M (Kd.int .u8) _ _ _ ((wrap64 (48 + (Int.tmod a0 10))) % 256) [.int .u8 ((wrap64 (48 + (Int.tmod a0 10))) % 256)] from rfl) (Reps.none _ _)))
     intro v108 w10 ho11 hb hg_ hnew_
     clear hg_ hnew_
     (first | rw [← Ny107.out] at ho11 | (simp only [Int.reduceToNat] at ho11; rw [← Ny107.out] at ho11))
     have n0_ := Aside0.mk (Kd.R_lower ho11 (below_size zb))
     have n1_ := Aside0.mk (below_step zb hb)
     clear HB
     have HO109 := n0_
     have HB := n1_
     clear n0_ n1_
     clear hb ho11
     refine hK.out _ _ trivial (fun hHeld => ?_)
     clear hK K
     refine norm_ (a' := ?_) ?_ ?_
     rotate_left
     ·show Act.put _ (some 17) _ = _
      simp only [Act.put,qa,qb,qc,i64_w,i32_w]
      rfl
     refine one_ (i := 8) (N := some 18) #[Y,Y,Y,Y,Y,Y,Y,Y,Y,O,O] rfl rfl (one_of HT_.out (by kernel_rfl)) (by decide) (fun K hK => ?_)
     have hcv12 := own_string (P := Tryd.prog) Tryd.underlying89 Tryd.underlying5 Tryd.underlying9 (Kd.own_of_R HO109.out)
     refine value_ (w1 := ?_) (v := ?_) (by rfl) rfl ?_ ?_
     rotate_left 2
     ·go_simp
      constructor
      ·rfl
      ·rfl
     clear hcv12
     refine hK.out _ _ trivial (fun hHeld => ?_)
     clear hK K
     refine norm_ (a' := ?_) ?_ ?_
     rotate_left
     ·show Act.put _ (some 18) _ = _
      simp only [Act.put,qa,qb,qc,i64_w,i32_w]
      rfl
     exact norm_ (by simp only [putAll, Act.put, List.setIfInBounds_toArray, List.set_cons_zero, List.set_cons_succ]) (hCont (v108) _ ⟨(zr HO109.out), zb⟩)
    ·skip
     refine Kd.R_lit_step (Kd.int .u8) _ 5 ?hg (N := 17) ?hd (xs := ([(wrap64 (48 + (Int.tmod a0 10))) % 256] : List Int)) (inner := [.int .u8 ((wrap64 (48 + (Int.tmod a0 10))) % 256)]) (ok := fun _ => True) (okp := fun _ => True) ?hr ?hp (fun _ hk => hk) trivial (Below.refl _ _) (Nat.le_refl _) (by simp) ?_; (case hd => rfl); (case hg => rfl); (case hr => first | (go_simp; done) | (go_simp; rfl)); (case hp => exact (Reps.one (show Kd.M (Kd.int .u8) _ _ _ ((wrap64 (48 + (Int.tmod a0 10))) % 256) [.int .u8 ((wrap64 (48 + (Int.tmod a0 10))) % 256)] from rfl) (Reps.none _ _)))
     intro v108 w9 ho10 hb hg_ hnew_
     clear hg_ hnew_
     (first | rw [← Ny107.out] at ho10 | (simp only [Int.reduceToNat] at ho10; rw [← Ny107.out] at ho10))
     have n0_ := Aside0.mk (Kd.R_lower ho10 (below_size zb))
     have n1_ := Aside0.mk (below_step zb hb)
     clear HB
     have HO109 := n0_
     have HB := n1_
     clear n0_ n1_
     clear hb ho10
     refine hK.out _ _ trivial (fun hHeld => ?_)
     clear hK K
     refine norm_ (a' := ?_) ?_ ?_
     rotate_left
     ·show Act.put _ (some 17) _ = _
      simp only [Act.put,qa,qb,qc,i64_w,i32_w]
      rfl
     refine two_ (i := 2) (j := 8) (Ni := some 12) (Nj := some 18) #[Y,Y,Y,Y,Y,Y,Y,Y,O,O,O] #[Y,Y,O,Y,Y,Y,Y,Y,Y,O,O] rfl rfl rfl rfl (two_of HT_.out (by kernel_rfl)) (by decide) (by decide) (fun K hK => ?_) (fun K hK => ?_)
     ·skip
      refine goes_ Tryd.func62 (by kernel_rfl) rfl #[.int .i64 (wrap64 (Int.tdiv a0 10))] (by rfl) rfl rfl zm ?_
      with_reducible refine (ih k (by omega) (wrap64 (Int.tdiv a0 10)) t106 _ A6.out).mono ?_
      rintro e w11 ⟨rfl, hb⟩
      refine ⟨_, rfl, ?_⟩
      have n0_ := Aside0.mk (Kd.R_below (zr HO109.out) hb)
      have n1_ := Aside0.mk (below_step zb hb)
      clear HO109
      clear HB
      have HO109 := n0_
      have HB := n1_
      clear n0_ n1_
      (try clear hb)
      (try clear hb2)
      (try clear hk)
      (try clear hi)
      refine hK.out _ _ trivial (fun hHeld => ?_)
      clear hK K
      refine norm_ (a' := ?_) ?_ ?_
      rotate_left
      ·show Act.put _ (some 12) _ = _
       simp only [Act.put,qa,qb,qc,i64_w,i32_w]
       rfl
      refine one_ (i := 8) (N := some 18) #[Y,Y,Y,Y,Y,Y,Y,Y,Y,O,O] rfl rfl (one_of HT_.out (by kernel_rfl)) (by decide) (fun K hK => ?_)
      have hcv12 := own_string (P := Tryd.prog) Tryd.underlying89 Tryd.underlying5 Tryd.underlying9 (Kd.own_of_R HO109.out)
      refine value_ (w1 := ?_) (v := ?_) (by rfl) rfl ?_ ?_
      rotate_left 2
      ·go_simp
       constructor
       ·rfl
       ·rfl
      clear hcv12
      refine hK.out _ _ trivial (fun hHeld => ?_)
      clear hK K
      refine norm_ (a' := ?_) ?_ ?_
      rotate_left
      ·show Act.put _ (some 18) _ = _
       simp only [Act.put,qa,qb,qc,i64_w,i32_w]
       rfl
      exact norm_ (by simp only [putAll, Act.put, List.setIfInBounds_toArray, List.set_cons_zero, List.set_cons_succ]) (hCont (v108) _ ⟨(zr HO109.out), zb⟩)
     ·skip
      have hcv11 := own_string (P := Tryd.prog) Tryd.underlying89 Tryd.underlying5 Tryd.underlying9 (Kd.own_of_R HO109.out)
      refine value_ (w1 := ?_) (v := ?_) (by rfl) rfl ?_ ?_
      rotate_left 2
      ·go_simp
       constructor
       ·rfl
       ·rfl
      clear hcv11
      refine hK.out _ _ trivial (fun hHeld => ?_)
      clear hK K
      refine norm_ (a' := ?_) ?_ ?_
      rotate_left
      ·show Act.put _ (some 18) _ = _
       simp only [Act.put,qa,qb,qc,i64_w,i32_w]
       rfl
      refine one_ (i := 2) (N := some 12) #[Y,Y,Y,Y,Y,Y,Y,Y,Y,O,O] rfl rfl (one_of HT_.out (by kernel_rfl)) (by decide) (fun K hK => ?_)
      refine goes_ Tryd.func62 (by kernel_rfl) rfl #[.int .i64 (wrap64 (Int.tdiv a0 10))] (by rfl) rfl rfl zm ?_
      with_reducible refine (ih k (by omega) (wrap64 (Int.tdiv a0 10)) t106 _ A6.out).mono ?_
      rintro e w12 ⟨rfl, hb⟩
      refine ⟨_, rfl, ?_⟩
      have n0_ := Aside0.mk (Kd.R_below (zr HO109.out) hb)
      have n1_ := Aside0.mk (below_step zb hb)
      clear HO109
      clear HB
      have HO109 := n0_
      have HB := n1_
      clear n0_ n1_
      (try clear hb)
      (try clear hb2)
      (try clear hk)
      (try clear hi)
      refine hK.out _ _ trivial (fun hHeld => ?_)
      clear hK K
      refine norm_ (a' := ?_) ?_ ?_
      rotate_left
      ·show Act.put _ (some 12) _ = _
       simp only [Act.put,qa,qb,qc,i64_w,i32_w]
       rfl
      exact norm_ (by simp only [putAll, Act.put, List.setIfInBounds_toArray, List.set_cons_zero, List.set_cons_succ]) (hCont (v108) _ ⟨(zr HO109.out), zb⟩)
   rintro v108 w13 ⟨h0_, h1_⟩
   have n0_ : Aside0 (Kd.R (Kd.int .u8) 5 w13 w.heap.size (fun _ => True) v108 y107) := ⟨h0_⟩
   have n1_ : Aside0 (Below w.heap.size w w13) := ⟨h1_⟩
   clear HB
   clear h0_ h1_
   have HO109 := n0_
   have HB := n1_
   clear n0_ n1_
   have hHeld := trivial
   refine norm_ (a' := ?_) ?_ ?_
   rotate_left
   ·simp only [putAll, Act.put, List.setIfInBounds_toArray, List.set_cons_zero, List.set_cons_succ]
    rfl
   refine pure_ (i := 9) (N := some 19) (v := ?_) (a' := ?_) #[Y,Y,Y,Y,Y,Y,Y,Y,Y,Y,O] rfl rfl zx (fun _ _ _ h => h) (Or.inl ⟨by rfl, ?_⟩) ?_ ?_
   rotate_left; (intro w'; go_simp; with_reducible rfl); rotate_left; (simp only [Act.put,qa,qb,qc,i64_w,i32_w]; rfl)
   refine pure_ (i := 10) (N := some 2) (v := ?_) (a' := ?_) #[Y,Y,Y,Y,Y,Y,Y,Y,Y,Y,Y] rfl rfl zx (fun _ _ _ h => h) (Or.inl ⟨by rfl, ?_⟩) ?_ ?_
   rotate_left; (intro w'; go_simp; with_reducible rfl); rotate_left; (simp only [Act.put,qa,qb,qc,i64_w,i32_w]; rfl)
   refine done_ (done_of HT_.out (by kernel_rfl)) ?_
   try go_wp2
   go_ret
   exact ⟨by first | rfl | (simp [errW_none, errW_some] <;> rfl) | (simp [*, errW_none, errW_some] <;> rfl), by repeat (first | (with_reducible first | exact HB.out | apply below_alloc | apply pw_below_drewN | apply below_drew1) | exact HB.out)⟩
  ·rw [if_neg c7] at H
   exact absurd H (by simp)

end Go.Proofs.YtfmbpldjbmhnnaaDoor.My

/- Plain Lean: the numeral of a whole number, the program's and the reference's. Asked: 0 or more, below 2^62. -/
namespace Go.Proofs.YtfmbpldjbmhnnaaDoor.Pl
open Go.RowKit Go.Proofs.YtfmbpldjbmhnnaaDoorW.PrintWords Go.Proofs.YtfmbpldjbmhnnaaDoorW.PrintLast Go.Proofs.YtfmbpldjbmhnnaaDoor.My
set_option linter.unusedVariables false
set_option linter.unusedSimpArgs false

def num (n : Nat) : ByteArray := ⟨(Lib.decDigits n).toArray⟩
theorem num_data (n : Nat) : (num n).data.toList = Lib.decDigits n := rfl
theorem num_size (n : Nat) (h : n < 18446744073709551616) : (num n).size ≤ 20 := by
  have h1 : (num n).size = (Lib.decDigits n).length := by rw [← data_length, num_data]
  rw [h1, Lib.decDigits_length]
  exact Lib.nDigits_le20 n h
theorem itoa_eq (n : Nat) (h : n ≤ 9223372036854775807) : strconv_Itoa_65.f (n : Int) = some (num n) := by
  unfold strconv_Itoa_65.f
  rw [if_pos (by omega), Lib.itoa_nonneg]
  rfl
theorem digit_eq (d : Nat) (h : d < 10) : strOfNums [(wrap64 (48 + (d : Int))) % 256] = ⟨#[UInt8.ofNat (48 + d)]⟩ := by
  rw [wrap64_id (by omega) (by omega)]
  have e : ((48 + (d : Int)) % 256) = ((48 + d : Nat) : Int) := by omega
  rw [e]
  unfold strOfNums
  rw [List.map_cons, List.map_nil, Int.toNat_natCast]
theorem l1Num_ev : ∀ (n : Nat), n ≤ 4611686018427387904 → Ev (fun k => spec_l1Num.f k (n : Int)) (num n) := by
  intro n
  induction n using Nat.strongRecOn with
  | _ n ih =>
    intro hn
    refine Ev.step (fun k => spec_l1Num.f.eq_2 ..) ?_
    by_cases h : n < 10
    · refine ev_pos (by omega) (ev_some ?_)
      rw [digit_eq n h]
      unfold num
      rw [Lib.decDigits_one h]
    · have e1 : wrap64 (Int.tdiv (n : Int) 10) = ((n / 10 : Nat) : Int) := by
        rw [Int.tdiv_eq_ediv_of_nonneg (by omega), wrap64_id (by omega) (by omega)]
        omega
      have e2 : Int.tmod (n : Int) 10 = ((n % 10 : Nat) : Int) := by
        rw [Int.tmod_eq_emod_of_nonneg (by omega)]
        omega
      rw [e1, e2]
      refine ev_neg (by omega) (ev_bind (ih (n / 10) (by omega) (by omega)) ?_)
      simp only [Option.bind_some]
      rw [digit_eq (n % 10) (by omega)]
      refine ev_pos ?_ (ev_some ?_)
      · have := num_size (n / 10) (by omega)
        have e3 : (⟨#[UInt8.ofNat (48 + n % 10)]⟩ : ByteArray).size = 1 := rfl
        omega
      · refine ba_ext ?_
        rw [Lib.toList_data, Lib.toList_data, num_data, Lib.decDigits.eq_def n, dif_neg h]
        simp [num, ByteArray.toList_data_append]
end Go.Proofs.YtfmbpldjbmhnnaaDoor.Pl

/- Written by this session's program (wip/gen): a plain function with the same answers as the Go function, and the proof that the Go code comes to them. Asked: that the plain function has an answer. -/
namespace Go.Proofs.YtfmbpldjbmhnnaaDoor.My
open Go.RowKit Go.Proofs.YtfmbpldjbmhnnaaDoorW.PrintWords Go.Proofs.YtfmbpldjbmhnnaaDoorW.PrintLast Go.Proofs.YtfmbpldjbmhnnaaDoorW.PrintMore
attribute [local go_sem] max2_int min2_int max_two min_two max_three min_three max_four min_four
set_option linter.unusedVariables false
set_option linter.unusedSimpArgs false

/-! ### impl_ReadNumber: function 16 -/
def impl_ReadNumber.f (a0 : ByteArray) : Option (Int × Bool) := (impl_readNumber.f a0).bind fun bt187 => (if bt187.2 = true then (some (bt187.1, true)) else (some (0, false)))
set_option maxHeartbeats 8000000 in
set_option maxRecDepth 100000 in
theorem impl_ReadNumber.calls (a0 : ByteArray) (r1 : Int) (r2 : Bool) (w : World) (ht : Door true w) (h : impl_ReadNumber.f a0 = some (r1, r2)) :
  Calls Tryd.prog 16 #[.string a0] w fun e w' => e = .returned (.tuple #[.int .i64 r1, .bool r2]) ∧ Below w.heap.size w w' := by
 have HT := Aside0.mk ht
 clear ht
 have HB := Aside0.mk (Below.refl w.heap.size w)
 have H : ((impl_readNumber.f a0).bind fun bt187 => (if bt187.2 = true then (some (bt187.1, true)) else (some (0, false)))) = some (r1, r2) := h
 clear h
 replace H := Option.bind_eq_some_iff.mp H
 obtain ⟨⟨t187, t188⟩, A20, H⟩ := H
 replace H : (if t188 = true then (some (t187, true)) else (some (0, false))) = some (r1, r2) := H
 have A2 := Aside0.mk A20
 clear A20
 by_cases c3 : t188 = true
 ·subst c3
  have H1 : (some (t187, true)) = some (r1, r2) := by rw [if_pos rfl] at H; exact H
  clear H
  have H := H1
  clear H1
  simp only [Option.some.injEq, Prod.mk.injEq] at H
  obtain ⟨rfl, rfl⟩ := H
  go_enter Tryd.func16, Tryd.ntmps16
  go_wp2_with (first | ((with_reducible refine gateC (f := 43) rfl ?_); refine goesL_ (some 8) rfl rfl Tryd.func43 (by kernel_rfl) rfl #[.string a0] rfl zm ?_; (with_reducible refine (impl_readNumber.calls a0 t187 true _ ?sideT A2.out).mono ?_); (case sideT => exact Door.below HT.out zb); rintro e w4 ⟨rfl, hb⟩; refine ⟨_, rfl, ?_⟩; have n0_ := Aside0.mk (below_step zb hb); clear HB; have HB := n0_; clear n0_; (try clear hb); (try clear hb2); (try clear hk); (try clear hi)))
  go_ret2
  exact ⟨by first | rfl | (simp [errW_none, errW_some] <;> rfl) | (simp [*, errW_none, errW_some] <;> rfl), by repeat (first | (with_reducible first | exact HB.out | apply below_alloc | apply pw_below_drewN | apply below_drew1) | exact HB.out)⟩
 ·replace c3 := Bool.eq_false_iff.mpr c3
  subst c3
  have H1 : (some (0, false)) = some (r1, r2) := by rw [if_neg (show ¬ (false = true) by decide)] at H; exact H
  clear H
  have H := H1
  clear H1
  simp only [Option.some.injEq, Prod.mk.injEq] at H
  obtain ⟨rfl, rfl⟩ := H
  go_enter Tryd.func16, Tryd.ntmps16
  go_wp2_with (first | ((with_reducible refine gateC (f := 43) rfl ?_); refine goesL_ (some 8) rfl rfl Tryd.func43 (by kernel_rfl) rfl #[.string a0] rfl zm ?_; (with_reducible refine (impl_readNumber.calls a0 t187 false _ ?sideT A2.out).mono ?_); (case sideT => exact Door.below HT.out zb); rintro e w5 ⟨rfl, hb⟩; refine ⟨_, rfl, ?_⟩; have n0_ := Aside0.mk (below_step zb hb); clear HB; have HB := n0_; clear n0_; (try clear hb); (try clear hb2); (try clear hk); (try clear hi)))
  go_ret2
  exact ⟨by first | rfl | (simp [errW_none, errW_some] <;> rfl) | (simp [*, errW_none, errW_some] <;> rfl), by repeat (first | (with_reducible first | exact HB.out | apply below_alloc | apply pw_below_drewN | apply below_drew1) | exact HB.out)⟩

end Go.Proofs.YtfmbpldjbmhnnaaDoor.My

/- Plain Lean: a number read of a text, the program's way and the reference's. Asked: texts of at most 2^20 bytes. -/
namespace Go.Proofs.YtfmbpldjbmhnnaaDoor.Pl
open Go.RowKit Go.Proofs.YtfmbpldjbmhnnaaDoorW.PrintWords Go.Proofs.YtfmbpldjbmhnnaaDoorW.PrintLast Go.Proofs.YtfmbpldjbmhnnaaDoor.My
set_option linter.unusedVariables false
set_option linter.unusedSimpArgs false

theorem digitVal_of (d : Nat) (h : d < 10) : Lib.digitVal (UInt8.ofNat (48 + d)) = some d := by
  unfold Lib.digitVal
  have e : (UInt8.ofNat (48 + d)).toNat = 48 + d := by
    rw [UInt8.toNat_ofNat']
    omega
  rw [e, if_pos (by omega)]
  congr 1
  omega
theorem digitVal_some {b : UInt8} {d : Nat} (h : Lib.digitVal b = some d) : d < 10 ∧ b = UInt8.ofNat (48 + d) := by
  unfold Lib.digitVal at h
  split at h
  · rename_i c
    injection h with h
    refine ⟨by omega, UInt8.toNat_inj.1 ?_⟩
    rw [UInt8.toNat_ofNat']
    omega
  · cases h
theorem decFrom_append : ∀ (l r : List UInt8) (a : Nat), Lib.decFrom a (l ++ r) = (Lib.decFrom a l).bind fun b => Lib.decFrom b r
  | [], r, a => rfl
  | c :: t, r, a => by
    simp only [List.cons_append, Lib.decFrom]
    cases Lib.digitVal c with
    | none => rfl
    | some d => exact decFrom_append t r _
theorem decFrom_one (a : Nat) (b : UInt8) : Lib.decFrom a [b] = (Lib.digitVal b).map fun d => a * 10 + d := by
  simp only [Lib.decFrom]
  cases Lib.digitVal b <;> rfl
theorem decDigits_ne (n : Nat) : Lib.decDigits n ≠ [] := by
  rw [Lib.decDigits.eq_def]
  split
  · simp
  · simp
theorem decFrom_digits : ∀ (n : Nat), Lib.decFrom 0 (Lib.decDigits n) = some n := by
  intro n
  induction n using Nat.strongRecOn with
  | _ n ih =>
    by_cases h : n < 10
    · rw [Lib.decDigits_one h, decFrom_one, digitVal_of n h]
      simp
    · rw [Lib.decDigits.eq_def, dif_neg h, decFrom_append, ih (n / 10) (by omega), Option.bind_some, decFrom_one, digitVal_of _ (by omega)]
      simp only [Option.map_some, Option.some.injEq]
      omega
theorem head_digits : ∀ (n : Nat), 0 < n → (Lib.decDigits n).head? ≠ some 48 := by
  intro n
  induction n using Nat.strongRecOn with
  | _ n ih =>
    intro hn
    by_cases h : n < 10
    · rw [Lib.decDigits_one h]
      intro e
      simp only [List.head?_cons, Option.some.injEq] at e
      have e2 := congrArg UInt8.toNat e
      rw [UInt8.toNat_ofNat'] at e2
      have e3 : (48 : UInt8).toNat = 48 := rfl
      omega
    · rw [Lib.decDigits.eq_def, dif_neg h]
      have h1 := ih (n / 10) (by omega) (by omega)
      have h2 := decDigits_ne (n / 10)
      cases hd : Lib.decDigits (n / 10) with
      | nil => exact absurd hd h2
      | cons c t =>
        rw [hd] at h1
        simpa using h1
theorem digits_of_dec : ∀ (k : Nat) (l : List UInt8) (n : Nat), l.length = k → l ≠ [] → l.head? ≠ some 48 → Lib.decFrom 0 l = some n → Lib.decDigits n = l ∧ 0 < n := by
  intro k
  induction k with
  | zero => intro l n hl hne _ _; exact absurd (List.eq_nil_of_length_eq_zero hl) hne
  | succ k ih =>
    intro l n hl hne hh hd
    obtain ⟨l', b, rfl⟩ : ∃ l' b, l = l' ++ [b] := ⟨l.dropLast, l.getLast hne, (List.dropLast_concat_getLast hne).symm⟩
    rw [List.length_append, List.length_singleton] at hl
    rw [decFrom_append] at hd
    obtain ⟨a, ha, hb⟩ := Option.bind_eq_some_iff.1 hd
    rw [decFrom_one] at hb
    obtain ⟨d, hd', rfl⟩ := Option.map_eq_some_iff.1 hb
    obtain ⟨d1, rfl⟩ := digitVal_some hd'
    cases hl' : l' with
    | nil =>
      subst hl'
      simp only [Lib.decFrom, Option.some.injEq] at ha
      subst ha
      have d0 : d ≠ 0 := fun e => hh (by subst e; rfl)
      refine ⟨?_, by omega⟩
      rw [Lib.decDigits_one (by omega)]
      simp
    | cons c t =>
      rw [← hl']
      have hne' : l' ≠ [] := by rw [hl']; simp
      have hh' : l'.head? ≠ some 48 := by rw [hl'] at hh ⊢; simpa using hh
      obtain ⟨e, p⟩ := ih l' a (by omega) hne' hh' ha
      refine ⟨?_, by omega⟩
      rw [Lib.decDigits.eq_def, dif_neg (by omega), show (a * 10 + d) / 10 = a from by omega, e, show (a * 10 + d) % 10 = d from by omega]

/-- The number that a text is in its one form, of at most four digits. -/
def rd4 (l : List UInt8) : Option Nat := if l.length ≤ 4 ∧ (l.length ≤ 1 ∨ l.head? ≠ some 48) then Lib.decNat l else none
theorem rd4_some {l : List UInt8} {n : Nat} (h : rd4 l = some n) : Lib.decDigits n = l ∧ l.length ≤ 4 ∧ Lib.decNat l = some n := by
  unfold rd4 at h
  split at h
  · rename_i c
    refine ⟨?_, c.1, h⟩
    unfold Lib.decNat at h
    split at h
    · cases h
    · rename_i hne
      have hne : l ≠ [] := by simpa using hne
      by_cases hh : l.head? = some 48
      · have h1 : l.length ≤ 1 := by rcases c.2 with c | c; exact c; exact absurd hh c
        obtain ⟨b, rfl⟩ : ∃ b, l = [b] := by
          cases l with
          | nil => exact absurd rfl hne
          | cons b t => cases t with
            | nil => exact ⟨b, rfl⟩
            | cons _ _ => simp at h1
        simp only [List.head?_cons, Option.some.injEq] at hh
        subst hh
        have e : Lib.decFrom 0 [48] = some 0 := rfl
        rw [e] at h
        injection h with h
        subst h
        exact Lib.decDigits_one (by decide)
      · exact (digits_of_dec l.length l n rfl hne hh h).1
  · cases h
theorem rd4_digits {n : Nat} (h : (Lib.decDigits n).length ≤ 4) : rd4 (Lib.decDigits n) = some n := by
  unfold rd4
  rw [if_pos]
  · unfold Lib.decNat
    rw [if_neg (by simpa using decDigits_ne n)]
    exact decFrom_digits n
  · refine ⟨h, ?_⟩
    by_cases h0 : n = 0
    · subst h0
      rw [Lib.decDigits_one (by decide)]
      exact .inl (Nat.le_refl 1)
    · exact .inr (head_digits n (by omega))
theorem rd4_lt {l : List UInt8} {n : Nat} (h : rd4 l = some n) : n < 10000 := by
  obtain ⟨h1, h2, _⟩ := rd4_some h
  have h3 := Lib.lt_pow_nDigits n
  rw [← Lib.decDigits_length, h1] at h3
  have h4 : 10 ^ l.length ≤ 10 ^ 4 := Nat.pow_le_pow_right (by decide) h2
  omega
theorem size_len (s : ByteArray) : s.data.toList.length = s.size := data_length s
theorem readNumber_some {s : ByteArray} {n : Nat} (h : rd4 s.data.toList = some n) : impl_readNumber.v s = ((n : Int), true) := by
  obtain ⟨h1, h2, h3⟩ := rd4_some h
  have hA : Lib.atoiAll s.data.toList = .ok (n : Int) := by
    cases hl : s.data.toList with
    | nil => rw [hl] at h3; cases h3
    | cons c r =>
      rw [hl] at h2 h3
      have hc : ∃ d, Lib.digitVal c = some d := by
        unfold Lib.decNat at h3
        rw [if_neg (by simp)] at h3
        exact Lib.digit_of_decFrom _ _ _ h3 0 c rfl
      obtain ⟨d, hd⟩ := hc
      obtain ⟨d1, hc⟩ := digitVal_some hd
      have e2 := congrArg UInt8.toNat hc
      rw [UInt8.toNat_ofNat'] at e2
      rw [Lib.atoiAll_plain c r (by omega) (by omega), Lib.signless_short (by omega), h3]
      rfl
  unfold impl_readNumber.v
  rw [hA]
  simp only
  rw [Lib.itoa_nonneg, h1]
  have h4 : s.size ≤ 4 := by rw [← size_len]; exact h2
  have e0 : (s.data.toList == s.toList) = true := by rw [Lib.toList_data]; exact beq_self_eq_true _
  rw [e0, decide_eq_true h4, decide_eq_true (show (0 : Int) ≤ (n : Int) by omega)]
  rfl
theorem readNumber_none {s : ByteArray} (h : rd4 s.data.toList = none) : (impl_readNumber.v s).2 = false := by
  cases hb : (impl_readNumber.v s).2 with
  | false => rfl
  | true =>
    exfalso
    unfold impl_readNumber.v at hb
    rcases hA : Lib.atoiAll s.data.toList with v | _ | _
    · rw [hA] at hb
      simp only [Bool.and_eq_true, decide_eq_true_eq, beq_iff_eq] at hb
      obtain ⟨⟨h0, h4⟩, he⟩ := hb
      obtain ⟨n, rfl⟩ : ∃ n : Nat, v = (n : Int) := ⟨v.toNat, by omega⟩
      rw [Lib.itoa_nonneg, Lib.toList_data] at he
      have := rd4_digits (n := n) (by rw [he, size_len]; exact h4)
      rw [he, h] at this
      cases this
    · rw [hA] at hb; cases hb
    · rw [hA] at hb; cases hb
theorem readNumber_eq (s : ByteArray) (hs : s.size ≤ 1048576) : impl_readNumber.f s = some (impl_readNumber.v s) := by
  unfold impl_readNumber.f
  rw [if_pos (by omega)]

/-- What both ways to read one number come to. -/
def numR (s : ByteArray) : Int × Bool := match rd4 s.data.toList with
  | some n => ((n : Int), true)
  | none => (0, false)
theorem impl_ReadNumber_eq (s : ByteArray) (hs : s.size ≤ 1048576) : impl_ReadNumber.f s = some (numR s) := by
  unfold impl_ReadNumber.f numR
  rw [readNumber_eq s hs, Option.bind_some]
  cases h : rd4 s.data.toList with
  | some n => rw [readNumber_some h]; rfl
  | none => rw [if_neg (by rw [readNumber_none h]; simp)]
theorem bt_drop (s : ByteArray) (i : Nat) (h : i < s.size) : ∃ c, s.data.toList.drop i = c :: s.data.toList.drop (i + 1) ∧ bt s (i : Int) = (c.toNat : Int) := by
  have hl : i < s.data.toList.length := by rw [size_len]; exact h
  exact ⟨s.data.toList[i], List.drop_eq_getElem_cons hl, bt_nat s i h⟩
theorem l1Read_l0 (s : ByteArray) (hs : s.size ≤ 6) : ∀ d i (acc : Nat), i + d = s.size → acc < 10 ^ i → Ev (fun k => spec_l1Read.l0 k s (acc : Int) (i : Int)) (match Lib.decFrom acc (s.data.toList.drop i) with | some n => (n : Int) | none => -1) := by
  intro d
  induction d with
  | zero =>
    intro i acc hi ha
    refine Ev.step (fun k => spec_l1Read.l0.eq_2 ..) (ev_neg (by omega) (ev_some ?_))
    rw [List.drop_eq_nil_of_le (by rw [size_len]; omega)]
    rfl
  | succ d ih =>
    intro i acc hi ha
    obtain ⟨c, hc, hb⟩ := bt_drop s i (by omega)
    have h6 : 10 ^ i ≤ 10 ^ 6 := Nat.pow_le_pow_right (by decide) (by omega)
    have e6 : (10 : Nat) ^ 6 = 1000000 := by decide
    have hc8 := c.toNat_lt
    refine Ev.step (fun k => spec_l1Read.l0.eq_2 ..) (ev_pos (by omega) (ev_pos (by omega) ?_))
    rw [hb, hc]
    simp only [Lib.decFrom, Lib.digitVal]
    by_cases h : 48 ≤ c.toNat ∧ c.toNat ≤ 57
    · rw [if_pos h]
      refine ev_neg (by omega) (ev_neg (by omega) ?_)
      have e1 : wrap64 ((wrap64 (10 * (acc : Int))) + (((c.toNat : Int) - 48) % 256)) = ((acc * 10 + (c.toNat - 48) : Nat) : Int) := by
        rw [wrap64_id (x := 10 * (acc : Int)) (by omega) (by omega), wrap64_id (by omega) (by omega)]
        omega
      rw [e1, wrap_succ i (by omega)]
      exact ih (i + 1) _ (by omega) (by rw [Nat.pow_succ]; omega)
    · rw [if_neg h]
      by_cases h1 : (c.toNat : Int) < 48
      · exact ev_pos h1 (ev_some rfl)
      · exact ev_neg h1 (ev_pos (by omega) (ev_some rfl))
theorem spec_ReadNumber_ev (s : ByteArray) (hs : s.size ≤ 1048576) : Ev (fun k => spec_ReadNumber.f k s) (numR s) := by
  simp only [spec_ReadNumber.f, spec_l1Read.f]
  have hl := size_len s
  by_cases hin : inB (s.size : Int) 1 6 = true
  · have hb := (inB_iff _ _ _).1 hin
    obtain ⟨c, hc, hbt⟩ := bt_drop s 0 (by omega)
    rw [List.drop_zero] at hc
    have go : ∀ b : Bool, b = decide (s.data.toList.head? = some 48 ∧ 1 < s.size) → Ev (fun k => (spec_l1Read.j0 k s b).bind fun t162 => (if (s.size : Int) > 4 then (some ((0 : Int), false)) else (if t162 < 0 then (some (0, false)) else (some (t162, true))))) (numR s) := by
      intro b hbb
      by_cases hd : s.data.toList.head? = some 48 ∧ 1 < s.size
      · rw [decide_eq_true hd] at hbb
        subst hbb
        have eR : numR s = (0, false) := by
          unfold numR rd4
          rw [if_neg (by rintro ⟨_, h | h⟩; omega; exact h hd.1)]
        rw [eR]
        exact ev_bind (a := (-1 : Int)) (Ev.step (fun k => spec_l1Read.j0.eq_2 ..) (ev_pos rfl (ev_some rfl))) (ev_ite (fun _ => ev_some rfl) (fun _ => ev_pos (by decide) (ev_some rfl)))
      · rw [decide_eq_false hd] at hbb
        subst hbb
        refine ev_bind (a := (match Lib.decFrom 0 s.data.toList with | some n => (n : Int) | none => -1)) (Ev.step (fun k => spec_l1Read.j0.eq_2 ..) (ev_neg (by simp) (l1Read_l0 s (by omega) s.size 0 0 (by omega) (by decide)))) ?_
        by_cases h4 : (s.size : Int) > 4
        · have eR : numR s = (0, false) := by
            unfold numR rd4
            rw [if_neg (by omega)]
          rw [eR]
          exact ev_pos h4 (ev_some rfl)
        · have eR : numR s = (match Lib.decFrom 0 s.data.toList with | some n => ((n : Int), true) | none => (0, false)) := by
            have hc2 : s.data.toList.length ≤ 4 ∧ (s.data.toList.length ≤ 1 ∨ s.data.toList.head? ≠ some 48) := by
              refine ⟨by omega, ?_⟩
              by_cases h1 : 1 < s.size
              · exact .inr (fun e => hd ⟨e, h1⟩)
              · exact .inl (by omega)
            unfold numR rd4
            rw [if_pos hc2]
            unfold Lib.decNat
            rw [if_neg (by rw [hc]; simp)]
          rw [eR]
          refine ev_neg h4 ?_
          cases hx : Lib.decFrom 0 s.data.toList with
          | none => exact ev_pos (show (-1 : Int) < 0 by decide) (ev_some rfl)
          | some n => exact ev_neg (show ¬ ((n : Int) < 0) by omega) (ev_some rfl)
    refine Ev.congr (fun k => ?_) (go _ rfl)
    rw [spec_l1In_eq, Option.bind_some, if_pos hin, if_pos (by omega)]
    by_cases h48 : bt s 0 = 48
    · rw [if_pos h48]
      have e : s.data.toList.head? = some 48 := by
        rw [hc]
        simp only [List.head?_cons, Option.some.injEq]
        refine UInt8.toNat_inj.1 ?_
        have := hbt.symm.trans h48
        have e3 : (48 : UInt8).toNat = 48 := rfl
        omega
      have e2 : decide ((s.size : Int) > 1) = decide (s.data.toList.head? = some 48 ∧ 1 < s.size) := by
        rw [e]
        exact decide_eq_decide.2 (by simp; omega)
      rw [e2]
    · rw [if_neg h48]
      have e : ¬ (s.data.toList.head? = some 48 ∧ 1 < s.size) := by
        rintro ⟨e, _⟩
        rw [hc] at e
        simp only [List.head?_cons, Option.some.injEq] at e
        subst e
        exact h48 hbt
      rw [decide_eq_false e]
  · have hq : ∀ k, ((spec_l1In.f (s.size : Int) 1 6).bind fun t161 => (if t161 = true then (if 0 < (s.size : Int) then (if (bt s 0) = 48 then (spec_l1Read.j0 k s (decide ((s.size : Int) > 1))) else (spec_l1Read.j0 k s false)) else (none)) else (spec_l1Read.j0 k s true))) = spec_l1Read.j0 k s true := fun k => by rw [spec_l1In_eq, Option.bind_some, if_neg hin]
    refine Ev.congr (fun k => by rw [hq k]) ?_
    refine ev_bind (a := (-1 : Int)) (Ev.step (fun k => spec_l1Read.j0.eq_2 ..) (ev_pos rfl (ev_some rfl))) ?_
    have e : numR s = (0, false) := by
      unfold numR rd4
      rw [inB_iff] at hin
      by_cases h0 : s.size = 0
      · have hn : s.data.toList = [] := List.eq_nil_of_length_eq_zero (by omega)
        rw [hn]
        rfl
      · rw [if_neg (by omega)]
    rw [e]
    exact ev_ite (fun _ => ev_some rfl) (fun _ => ev_pos (by decide) (ev_some rfl))
end Go.Proofs.YtfmbpldjbmhnnaaDoor.Pl

/- Written by this session's program (wip/gen): a plain function with the same answers as the Go function, and the proof that the Go code comes to them. Asked: that the plain function has an answer. -/
namespace Go.Proofs.YtfmbpldjbmhnnaaDoor.My
open Go.RowKit Go.Proofs.YtfmbpldjbmhnnaaDoorW.PrintWords Go.Proofs.YtfmbpldjbmhnnaaDoorW.PrintLast Go.Proofs.YtfmbpldjbmhnnaaDoorW.PrintMore
attribute [local go_sem] max2_int min2_int max_two min_two max_three min_three max_four min_four
set_option linter.unusedVariables false
set_option linter.unusedSimpArgs false

/-! ### impl_endOf: function 41 -/
def impl_endOf.f (a0 : Int) (a1 : Int) : Option (Int) := some (wrap64 (a0 + a1))
set_option maxHeartbeats 8000000 in
set_option maxRecDepth 100000 in
theorem impl_endOf.calls (a0 : Int) (a1 : Int) (r : Int) (w : World) (h : impl_endOf.f a0 a1 = some r) :
  Calls Tryd.prog 41 #[.int .i64 a0, .int .i64 a1] w fun e w' => e = .returned (.int .i64 r) ∧ Drawn0 w w' := by
 have H : (some (wrap64 (a0 + a1))) = some r := h
 clear h
 obtain rfl := Option.some.inj H
 go_enter Tryd.func41, Tryd.ntmps41
 go_wp2
 go_ret
 exact ⟨by first | rfl | (simp; done) | (simp [*]; done), by repeat (first | exact Drawn0.refl _ | apply Drawn0.step)⟩

end Go.Proofs.YtfmbpldjbmhnnaaDoor.My

/- Written by this session's program (wip/gen): a plain function with the same answers as the Go function, and the proof that the Go code comes to them. Asked: that the plain function has an answer. -/
namespace Go.Proofs.YtfmbpldjbmhnnaaDoor.My
open Go.RowKit Go.Proofs.YtfmbpldjbmhnnaaDoorW.PrintWords Go.Proofs.YtfmbpldjbmhnnaaDoorW.PrintLast Go.Proofs.YtfmbpldjbmhnnaaDoorW.PrintMore
attribute [local go_sem] max2_int min2_int max_two min_two max_three min_three max_four min_four
set_option linter.unusedVariables false
set_option linter.unusedSimpArgs false

/-! ### impl_numberOf: function 40 -/
def impl_numberOf.f (a0 : Int) (a1 : Int) : Option (Int) := if a1 > 0 then (some (wrap64 (a0 + 1))) else (some a0)
set_option maxHeartbeats 8000000 in
set_option maxRecDepth 100000 in
theorem impl_numberOf.calls (a0 : Int) (a1 : Int) (r : Int) (w : World) (h : impl_numberOf.f a0 a1 = some r) :
  Calls Tryd.prog 40 #[.int .i64 a0, .int .i64 a1] w fun e w' => e = .returned (.int .i64 r) ∧ Drawn0 w w' := by
 have H : (if a1 > 0 then (some (wrap64 (a0 + 1))) else (some a0)) = some r := h
 clear h
 by_cases c3 : a1 > 0
 ·rw [if_pos c3] at H
  have c3b0 : decide (0 < a1) = true := decide_eq_true c3
  clear c3
  obtain rfl := Option.some.inj H
  go_enter Tryd.func40, Tryd.ntmps40
  go_wp2
  go_ret
  exact ⟨by first | rfl | (simp; done) | (simp [*]; done), by repeat (first | exact Drawn0.refl _ | apply Drawn0.step)⟩
 ·rw [if_neg c3] at H
  have c3b0 : decide (0 < a1) = false := decide_eq_false c3
  clear c3
  obtain rfl := Option.some.inj H
  go_enter Tryd.func40, Tryd.ntmps40
  go_wp2
  go_ret
  exact ⟨by first | rfl | (simp; done) | (simp [*]; done), by repeat (first | exact Drawn0.refl _ | apply Drawn0.step)⟩

end Go.Proofs.YtfmbpldjbmhnnaaDoor.My

/- Written by this session's program (wip/gen): a plain function with the same answers as the Go function, and the proof that the Go code comes to them. Asked: that the plain function has an answer. -/
namespace Go.Proofs.YtfmbpldjbmhnnaaDoor.My
open Go.RowKit Go.Proofs.YtfmbpldjbmhnnaaDoorW.PrintWords Go.Proofs.YtfmbpldjbmhnnaaDoorW.PrintLast Go.Proofs.YtfmbpldjbmhnnaaDoorW.PrintMore
attribute [local go_sem] max2_int min2_int max_two min_two max_three min_three max_four min_four
set_option linter.unusedVariables false
set_option linter.unusedSimpArgs false

/-! ### impl_pairOf: function 39 -/
def impl_pairOf.f (a0 : Int) (a1 : Int) : Option (ByteArray) := if a0 = a1 then ((strconv_Itoa_65.f a0).bind fun t142 => (some t142)) else ((strconv_Itoa_65.f a0).bind fun t143 => (if t143.size + 1 ≤ 9223372036854775807 then ((strconv_Itoa_65.f a1).bind fun t144 => (if (t143 ++ (⟨#[44]⟩ : ByteArray)).size + t144.size ≤ 9223372036854775807 then (some ((t143 ++ (⟨#[44]⟩ : ByteArray)) ++ t144)) else (none))) else (none)))
set_option maxHeartbeats 8000000 in
set_option maxRecDepth 100000 in
theorem impl_pairOf.calls (es : Bool) (a0 : Int) (a1 : Int) (r : ByteArray) (w : World) (ht : Door es w) (h : impl_pairOf.f a0 a1 = some r) :
  Calls Tryd.prog 39 #[.int .i64 a0, .int .i64 a1] w fun e w' => e = .returned (.string r) ∧ Below w.heap.size w w' := by
 have HT := Aside0.mk ht
 clear ht
 have HB := Aside0.mk (Below.refl w.heap.size w)
 have H : (if a0 = a1 then ((strconv_Itoa_65.f a0).bind fun t142 => (some t142)) else ((strconv_Itoa_65.f a0).bind fun t143 => (if t143.size + 1 ≤ 9223372036854775807 then ((strconv_Itoa_65.f a1).bind fun t144 => (if (t143 ++ (⟨#[44]⟩ : ByteArray)).size + t144.size ≤ 9223372036854775807 then (some ((t143 ++ (⟨#[44]⟩ : ByteArray)) ++ t144)) else (none))) else (none)))) = some r := h
 clear h
 by_cases c3 : a0 = a1
 ·rw [if_pos c3] at H
  have c3b0 : (a0 == a1) = true := beq_iff_eq.mpr c3
  have c3b1 : (a0 != a1) = false := bne_eq_false_iff_eq.mpr c3
  clear c3
  replace H := Option.bind_eq_some_iff.mp H
  obtain ⟨t142, A40, H⟩ := H
  replace H : (some t142) = some r := H
  have A4 := Aside0.mk A40
  clear A40
  obtain rfl := Option.some.inj H
  go_enter Tryd.func39, Tryd.ntmps39
  go_wp2_with (first | ((with_reducible refine gateC (f := 65) rfl ?_); refine goesL_ (some 9) rfl rfl Tryd.func65 (by kernel_rfl) rfl #[.int .i64 a0] rfl zm ?_; (with_reducible refine (strconv_Itoa_65.calls es a0 t142 _ ?sideT A4.out).mono ?_); (case sideT => exact Door.below HT.out zb); rintro e w5 ⟨rfl, hb⟩; refine ⟨_, rfl, ?_⟩; have n0_ := Aside0.mk (below_step zb hb); clear HB; have HB := n0_; clear n0_; (try clear hb); (try clear hb2); (try clear hk); (try clear hi)))
  go_ret
  exact ⟨by first | rfl | (simp [errW_none, errW_some] <;> rfl) | (simp [*, errW_none, errW_some] <;> rfl), by repeat (first | (with_reducible first | exact HB.out | apply below_alloc | apply pw_below_drewN | apply below_drew1) | exact HB.out)⟩
 ·rw [if_neg c3] at H
  have c3b0 : (a0 == a1) = false := beq_eq_false_iff_ne.mpr c3
  have c3b1 : (a0 != a1) = true := bne_iff_ne.mpr c3
  replace H := Option.bind_eq_some_iff.mp H
  obtain ⟨t143, A60, H⟩ := H
  replace H : (if t143.size + 1 ≤ 9223372036854775807 then ((strconv_Itoa_65.f a1).bind fun t144 => (if (t143 ++ (⟨#[44]⟩ : ByteArray)).size + t144.size ≤ 9223372036854775807 then (some ((t143 ++ (⟨#[44]⟩ : ByteArray)) ++ t144)) else (none))) else (none)) = some r := H
  have A6 := Aside0.mk A60
  clear A60
  by_cases c7 : t143.size + 1 ≤ 9223372036854775807
  ·rw [if_pos c7] at H
   have c7b0 := eq_true c7
   have c7b1 : decide (t143.size + 1 ≤ 9223372036854775807) = true := decide_eq_true c7
   try have c7b2 : (9223372036854775807 < t143.size + 1) = False := eq_false (Nat.not_lt.2 c7)
   replace H := Option.bind_eq_some_iff.mp H
   obtain ⟨t144, A80, H⟩ := H
   replace H : (if (t143 ++ (⟨#[44]⟩ : ByteArray)).size + t144.size ≤ 9223372036854775807 then (some ((t143 ++ (⟨#[44]⟩ : ByteArray)) ++ t144)) else (none)) = some r := H
   have A8 := Aside0.mk A80
   clear A80
   by_cases c9 : (t143 ++ (⟨#[44]⟩ : ByteArray)).size + t144.size ≤ 9223372036854775807
   ·rw [if_pos c9] at H
    have c9b0 := eq_true c9
    have c9b1 : decide ((t143 ++ (⟨#[44]⟩ : ByteArray)).size + t144.size ≤ 9223372036854775807) = true := decide_eq_true c9
    try have c9b2 : (9223372036854775807 < (t143 ++ (⟨#[44]⟩ : ByteArray)).size + t144.size) = False := eq_false (Nat.not_lt.2 c9)
    try have c9b9 := c9
    try simp only [ByteArray.size_append, show (⟨#[44]⟩ : ByteArray).size = 1 from rfl] at c9b9
    try have c9b8 := eq_false (Nat.not_lt.2 c9b9)
    try replace c9b9 := eq_true c9b9
    obtain rfl := Option.some.inj H
    go_enter Tryd.func39, Tryd.ntmps39
    go_wp2_with (first | ((with_reducible refine gateC (f := 65) rfl ?_); refine goesL_ (some 11) rfl rfl Tryd.func65 (by kernel_rfl) rfl #[.int .i64 a0] rfl zm ?_; (with_reducible refine (strconv_Itoa_65.calls es a0 t143 _ ?sideT A6.out).mono ?_); (case sideT => exact Door.below HT.out zb); rintro e w10 ⟨rfl, hb⟩; refine ⟨_, rfl, ?_⟩; have n0_ := Aside0.mk (below_step zb hb); clear HB; have HB := n0_; clear n0_; (try clear hb); (try clear hb2); (try clear hk); (try clear hi)) | ((with_reducible refine gateC (f := 65) rfl ?_); refine goesL_ (some 14) rfl rfl Tryd.func65 (by kernel_rfl) rfl #[.int .i64 a1] rfl zm ?_; (with_reducible refine (strconv_Itoa_65.calls es a1 t144 _ ?sideT A8.out).mono ?_); (case sideT => exact Door.below HT.out zb); rintro e w11 ⟨rfl, hb⟩; refine ⟨_, rfl, ?_⟩; have n0_ := Aside0.mk (below_step zb hb); clear HB; have HB := n0_; clear n0_; (try clear hb); (try clear hb2); (try clear hk); (try clear hi)))
    go_ret
    exact ⟨by first | rfl | (simp [errW_none, errW_some] <;> rfl) | (simp [*, errW_none, errW_some] <;> rfl), by repeat (first | (with_reducible first | exact HB.out | apply below_alloc | apply pw_below_drewN | apply below_drew1) | exact HB.out)⟩
   ·rw [if_neg c9] at H
    exact absurd H (by simp)
  ·rw [if_neg c7] at H
   exact absurd H (by simp)

end Go.Proofs.YtfmbpldjbmhnnaaDoor.My

/- Written by this session's program (wip/gen): a plain function with the same answers as the Go function, and the proof that the Go code comes to them. Asked: that the plain function has an answer. -/
namespace Go.Proofs.YtfmbpldjbmhnnaaDoor.My
open Go.RowKit Go.Proofs.YtfmbpldjbmhnnaaDoorW.PrintWords Go.Proofs.YtfmbpldjbmhnnaaDoorW.PrintLast Go.Proofs.YtfmbpldjbmhnnaaDoorW.PrintMore
attribute [local go_sem] max2_int min2_int max_two min_two max_three min_three max_four min_four
set_option linter.unusedVariables false
set_option linter.unusedSimpArgs false

/-! ### impl_PairText: function 12 -/
def impl_PairText.f (a0 : Int) (a1 : Int) : Option (ByteArray × Bool) := (impl_isRange.f a0 a1).bind fun t145 => (if t145 = true then ((impl_numberOf.f a0 a1).bind fun t146 => ((impl_endOf.f a0 a1).bind fun t147 => ((impl_pairOf.f t146 t147).bind fun t148 => (some (t148, true))))) else (some ((⟨#[]⟩ : ByteArray), false)))
set_option maxHeartbeats 8000000 in
set_option maxRecDepth 100000 in
theorem impl_PairText.calls (es : Bool) (a0 : Int) (a1 : Int) (r1 : ByteArray) (r2 : Bool) (w : World) (ht : Door es w) (h : impl_PairText.f a0 a1 = some (r1, r2)) :
  Calls Tryd.prog 12 #[.int .i64 a0, .int .i64 a1] w fun e w' => e = .returned (.tuple #[.string r1, .bool r2]) ∧ Below w.heap.size w w' := by
 have HT := Aside0.mk ht
 clear ht
 have HB := Aside0.mk (Below.refl w.heap.size w)
 have H : ((impl_isRange.f a0 a1).bind fun t145 => (if t145 = true then ((impl_numberOf.f a0 a1).bind fun t146 => ((impl_endOf.f a0 a1).bind fun t147 => ((impl_pairOf.f t146 t147).bind fun t148 => (some (t148, true))))) else (some ((⟨#[]⟩ : ByteArray), false)))) = some (r1, r2) := h
 clear h
 replace H := Option.bind_eq_some_iff.mp H
 obtain ⟨t145, A30, H⟩ := H
 replace H : (if t145 = true then ((impl_numberOf.f a0 a1).bind fun t146 => ((impl_endOf.f a0 a1).bind fun t147 => ((impl_pairOf.f t146 t147).bind fun t148 => (some (t148, true))))) else (some ((⟨#[]⟩ : ByteArray), false))) = some (r1, r2) := H
 have A3 := Aside0.mk A30
 clear A30
 by_cases c4 : t145 = true
 ·subst c4
  have H1 : ((impl_numberOf.f a0 a1).bind fun t146 => ((impl_endOf.f a0 a1).bind fun t147 => ((impl_pairOf.f t146 t147).bind fun t148 => (some (t148, true))))) = some (r1, r2) := by rw [if_pos rfl] at H; exact H
  clear H
  have H := H1
  clear H1
  replace H := Option.bind_eq_some_iff.mp H
  obtain ⟨t146, A50, H⟩ := H
  replace H : ((impl_endOf.f a0 a1).bind fun t147 => ((impl_pairOf.f t146 t147).bind fun t148 => (some (t148, true)))) = some (r1, r2) := H
  have A5 := Aside0.mk A50
  clear A50
  replace H := Option.bind_eq_some_iff.mp H
  obtain ⟨t147, A60, H⟩ := H
  replace H : ((impl_pairOf.f t146 t147).bind fun t148 => (some (t148, true))) = some (r1, r2) := H
  have A6 := Aside0.mk A60
  clear A60
  replace H := Option.bind_eq_some_iff.mp H
  obtain ⟨t148, A70, H⟩ := H
  replace H : (some (t148, true)) = some (r1, r2) := H
  have A7 := Aside0.mk A70
  clear A70
  simp only [Option.some.injEq, Prod.mk.injEq] at H
  obtain ⟨rfl, rfl⟩ := H
  go_enter Tryd.func12, Tryd.ntmps12
  go_wp2_with (first | ((with_reducible refine gateC (f := 38) rfl ?_); refine goesL_ (some 8) rfl rfl Tryd.func38 (by kernel_rfl) rfl #[.int .i64 a0, .int .i64 a1] rfl zm ?_; (with_reducible refine (impl_isRange.calls a0 a1 true _ A3.out).mono ?_); rintro e w' ⟨rfl, ⟨nd, rfl⟩⟩; refine ⟨_, rfl, ?_⟩) | ((with_reducible refine gateC (f := 40) rfl ?_); refine goesL_ (some 12) rfl rfl Tryd.func40 (by kernel_rfl) rfl #[.int .i64 a0, .int .i64 a1] rfl zm ?_; (with_reducible refine (impl_numberOf.calls a0 a1 t146 _ A5.out).mono ?_); rintro e w' ⟨rfl, ⟨nd, rfl⟩⟩; refine ⟨_, rfl, ?_⟩) | ((with_reducible refine gateC (f := 41) rfl ?_); refine goesL_ (some 15) rfl rfl Tryd.func41 (by kernel_rfl) rfl #[.int .i64 a0, .int .i64 a1] rfl zm ?_; (with_reducible refine (impl_endOf.calls a0 a1 t147 _ A6.out).mono ?_); rintro e w' ⟨rfl, ⟨nd, rfl⟩⟩; refine ⟨_, rfl, ?_⟩) | ((with_reducible refine gateC (f := 39) rfl ?_); refine goesL_ (some 16) rfl rfl Tryd.func39 (by kernel_rfl) rfl #[.int .i64 t146, .int .i64 t147] rfl zm ?_; (with_reducible refine (impl_pairOf.calls es t146 t147 t148 _ ?sideT A7.out).mono ?_); (case sideT => exact Door.below HT.out zb); rintro e w8 ⟨rfl, hb⟩; refine ⟨_, rfl, ?_⟩; have n0_ := Aside0.mk (below_step zb hb); clear HB; have HB := n0_; clear n0_; (try clear hb); (try clear hb2); (try clear hk); (try clear hi)))
  go_ret2
  exact ⟨by first | rfl | (simp [errW_none, errW_some] <;> rfl) | (simp [*, errW_none, errW_some] <;> rfl), by repeat (first | (with_reducible first | exact HB.out | apply below_alloc | apply pw_below_drewN | apply below_drew1) | exact HB.out)⟩
 ·replace c4 := Bool.eq_false_iff.mpr c4
  subst c4
  have H1 : (some ((⟨#[]⟩ : ByteArray), false)) = some (r1, r2) := by rw [if_neg (show ¬ (false = true) by decide)] at H; exact H
  clear H
  have H := H1
  clear H1
  simp only [Option.some.injEq, Prod.mk.injEq] at H
  obtain ⟨rfl, rfl⟩ := H
  go_enter Tryd.func12, Tryd.ntmps12
  go_wp2_with (first | ((with_reducible refine gateC (f := 38) rfl ?_); refine goesL_ (some 8) rfl rfl Tryd.func38 (by kernel_rfl) rfl #[.int .i64 a0, .int .i64 a1] rfl zm ?_; (with_reducible refine (impl_isRange.calls a0 a1 false _ A3.out).mono ?_); rintro e w' ⟨rfl, ⟨nd, rfl⟩⟩; refine ⟨_, rfl, ?_⟩))
  go_ret2
  exact ⟨by first | rfl | (simp [errW_none, errW_some] <;> rfl) | (simp [*, errW_none, errW_some] <;> rfl), by repeat (first | (with_reducible first | exact HB.out | apply below_alloc | apply pw_below_drewN | apply below_drew1) | exact HB.out)⟩

end Go.Proofs.YtfmbpldjbmhnnaaDoor.My

/- Written by this session's program (wip/gen): a plain function with the same answers as the Go function, and the proof that the Go code comes to them. Asked: that the plain function has an answer. -/
namespace Go.Proofs.YtfmbpldjbmhnnaaDoor.My
open Go.RowKit Go.Proofs.YtfmbpldjbmhnnaaDoorW.PrintWords Go.Proofs.YtfmbpldjbmhnnaaDoorW.PrintLast Go.Proofs.YtfmbpldjbmhnnaaDoorW.PrintMore
attribute [local go_sem] max2_int min2_int max_two min_two max_three min_three max_four min_four
set_option linter.unusedVariables false
set_option linter.unusedSimpArgs false

/-! ### spec_l4Number: function 63 -/
def spec_l4Number.f (a0 : Int) (a1 : Int) : Option (Int) := if a1 > 0 then (some (wrap64 (a0 + 1))) else (some a0)
set_option maxHeartbeats 8000000 in
set_option maxRecDepth 100000 in
theorem spec_l4Number.calls (a0 : Int) (a1 : Int) (r : Int) (w : World) (h : spec_l4Number.f a0 a1 = some r) :
  Calls Tryd.prog 63 #[.int .i64 a0, .int .i64 a1] w fun e w' => e = .returned (.int .i64 r) ∧ Drawn0 w w' := by
 have H : (if a1 > 0 then (some (wrap64 (a0 + 1))) else (some a0)) = some r := h
 clear h
 by_cases c3 : a1 > 0
 ·rw [if_pos c3] at H
  have c3b0 : decide (0 < a1) = true := decide_eq_true c3
  clear c3
  obtain rfl := Option.some.inj H
  go_enter Tryd.func63, Tryd.ntmps63
  go_wp2
  go_ret
  exact ⟨by first | rfl | (simp; done) | (simp [*]; done), by repeat (first | exact Drawn0.refl _ | apply Drawn0.step)⟩
 ·rw [if_neg c3] at H
  have c3b0 : decide (0 < a1) = false := decide_eq_false c3
  clear c3
  obtain rfl := Option.some.inj H
  go_enter Tryd.func63, Tryd.ntmps63
  go_wp2
  go_ret
  exact ⟨by first | rfl | (simp; done) | (simp [*]; done), by repeat (first | exact Drawn0.refl _ | apply Drawn0.step)⟩

end Go.Proofs.YtfmbpldjbmhnnaaDoor.My

/- Written by this session's program (wip/gen): a plain function with the same answers as the Go function, and the proof that the Go code comes to them. Asked: that the plain function has an answer. -/
namespace Go.Proofs.YtfmbpldjbmhnnaaDoor.My
open Go.RowKit Go.Proofs.YtfmbpldjbmhnnaaDoorW.PrintWords Go.Proofs.YtfmbpldjbmhnnaaDoorW.PrintLast Go.Proofs.YtfmbpldjbmhnnaaDoorW.PrintMore
attribute [local go_sem] max2_int min2_int max_two min_two max_three min_three max_four min_four
set_option linter.unusedVariables false
set_option linter.unusedSimpArgs false

/-! ### spec_l4Pair: function 37 -/
def spec_l4Pair.f (k : Nat) (a0 : Int) (a1 : Int) : Option (ByteArray) := (spec_l4Number.f a0 a1).bind fun t110 => ((spec_l1Num.f k t110).bind fun t111 => (if a1 > 1 then ((spec_l1Num.f k (wrap64 (a0 + a1))).bind fun t112 => (if 1 + t112.size ≤ 9223372036854775807 then (if t111.size + ((⟨#[44]⟩ : ByteArray) ++ t112).size ≤ 9223372036854775807 then (some (t111 ++ ((⟨#[44]⟩ : ByteArray) ++ t112))) else (none)) else (none))) else (some t111)))
set_option maxHeartbeats 8000000 in
set_option maxRecDepth 100000 in
theorem spec_l4Pair.calls (k : Nat) (a0 : Int) (a1 : Int) (r : ByteArray) (w : World) (h : spec_l4Pair.f k a0 a1 = some r) :
  Calls Tryd.prog 37 #[.int .i64 a0, .int .i64 a1] w fun e w' => e = .returned (.string r) ∧ Below w.heap.size w w' := by
 have HB := Aside0.mk (Below.refl w.heap.size w)
 have H : ((spec_l4Number.f a0 a1).bind fun t110 => ((spec_l1Num.f k t110).bind fun t111 => (if a1 > 1 then ((spec_l1Num.f k (wrap64 (a0 + a1))).bind fun t112 => (if 1 + t112.size ≤ 9223372036854775807 then (if t111.size + ((⟨#[44]⟩ : ByteArray) ++ t112).size ≤ 9223372036854775807 then (some (t111 ++ ((⟨#[44]⟩ : ByteArray) ++ t112))) else (none)) else (none))) else (some t111)))) = some r := h
 clear h
 replace H := Option.bind_eq_some_iff.mp H
 obtain ⟨t110, A30, H⟩ := H
 replace H : ((spec_l1Num.f k t110).bind fun t111 => (if a1 > 1 then ((spec_l1Num.f k (wrap64 (a0 + a1))).bind fun t112 => (if 1 + t112.size ≤ 9223372036854775807 then (if t111.size + ((⟨#[44]⟩ : ByteArray) ++ t112).size ≤ 9223372036854775807 then (some (t111 ++ ((⟨#[44]⟩ : ByteArray) ++ t112))) else (none)) else (none))) else (some t111))) = some r := H
 have A3 := Aside0.mk A30
 clear A30
 replace H := Option.bind_eq_some_iff.mp H
 obtain ⟨t111, A40, H⟩ := H
 replace H : (if a1 > 1 then ((spec_l1Num.f k (wrap64 (a0 + a1))).bind fun t112 => (if 1 + t112.size ≤ 9223372036854775807 then (if t111.size + ((⟨#[44]⟩ : ByteArray) ++ t112).size ≤ 9223372036854775807 then (some (t111 ++ ((⟨#[44]⟩ : ByteArray) ++ t112))) else (none)) else (none))) else (some t111)) = some r := H
 have A4 := Aside0.mk A40
 clear A40
 by_cases c5 : a1 > 1
 ·rw [if_pos c5] at H
  have c5b0 : decide (1 < a1) = true := decide_eq_true c5
  clear c5
  replace H := Option.bind_eq_some_iff.mp H
  obtain ⟨t112, A60, H⟩ := H
  replace H : (if 1 + t112.size ≤ 9223372036854775807 then (if t111.size + ((⟨#[44]⟩ : ByteArray) ++ t112).size ≤ 9223372036854775807 then (some (t111 ++ ((⟨#[44]⟩ : ByteArray) ++ t112))) else (none)) else (none)) = some r := H
  have A6 := Aside0.mk A60
  clear A60
  by_cases c7 : 1 + t112.size ≤ 9223372036854775807
  ·rw [if_pos c7] at H
   have c7b0 := eq_true c7
   have c7b1 : decide (1 + t112.size ≤ 9223372036854775807) = true := decide_eq_true c7
   try have c7b2 : (9223372036854775807 < 1 + t112.size) = False := eq_false (Nat.not_lt.2 c7)
   by_cases c8 : t111.size + ((⟨#[44]⟩ : ByteArray) ++ t112).size ≤ 9223372036854775807
   ·rw [if_pos c8] at H
    have c8b0 := eq_true c8
    have c8b1 : decide (t111.size + ((⟨#[44]⟩ : ByteArray) ++ t112).size ≤ 9223372036854775807) = true := decide_eq_true c8
    try have c8b2 : (9223372036854775807 < t111.size + ((⟨#[44]⟩ : ByteArray) ++ t112).size) = False := eq_false (Nat.not_lt.2 c8)
    try have c8b9 := c8
    try simp only [ByteArray.size_append, show (⟨#[44]⟩ : ByteArray).size = 1 from rfl] at c8b9
    try have c8b8 := eq_false (Nat.not_lt.2 c8b9)
    try replace c8b9 := eq_true c8b9
    obtain rfl := Option.some.inj H
    go_enter Tryd.func37, Tryd.ntmps37
    go_wp2_with (first | ((with_reducible refine gateC (f := 63) rfl ?_); refine goesL_ (some 8) rfl rfl Tryd.func63 (by kernel_rfl) rfl #[.int .i64 a0, .int .i64 a1] rfl zm ?_; (with_reducible refine (spec_l4Number.calls a0 a1 t110 _ A3.out).mono ?_); rintro e w' ⟨rfl, ⟨nd, rfl⟩⟩; refine ⟨_, rfl, ?_⟩) | ((with_reducible refine gateC (f := 62) rfl ?_); refine goesL_ (some 9) rfl rfl Tryd.func62 (by kernel_rfl) rfl #[.int .i64 t110] rfl zm ?_; (with_reducible refine (spec_l1Num.calls k t110 t111 _ A4.out).mono ?_); rintro e w9 ⟨rfl, hb⟩; refine ⟨_, rfl, ?_⟩; have n0_ := Aside0.mk (below_step zb hb); clear HB; have HB := n0_; clear n0_; (try clear hb); (try clear hb2); (try clear hk); (try clear hi)) | ((with_reducible refine gateC (f := 62) rfl ?_); refine goesL_ (some 16) rfl rfl Tryd.func62 (by kernel_rfl) rfl #[.int .i64 (wrap64 (a0 + a1))] rfl zm ?_; (with_reducible refine (spec_l1Num.calls k (wrap64 (a0 + a1)) t112 _ A6.out).mono ?_); rintro e w10 ⟨rfl, hb⟩; refine ⟨_, rfl, ?_⟩; have n0_ := Aside0.mk (below_step zb hb); clear HB; have HB := n0_; clear n0_; (try clear hb); (try clear hb2); (try clear hk); (try clear hi)))
    go_ret
    exact ⟨by first | rfl | (simp [errW_none, errW_some] <;> rfl) | (simp [*, errW_none, errW_some] <;> rfl), by repeat (first | (with_reducible first | exact HB.out | apply below_alloc | apply pw_below_drewN | apply below_drew1) | exact HB.out)⟩
   ·rw [if_neg c8] at H
    exact absurd H (by simp)
  ·rw [if_neg c7] at H
   exact absurd H (by simp)
 ·rw [if_neg c5] at H
  have c5b0 : decide (1 < a1) = false := decide_eq_false c5
  clear c5
  obtain rfl := Option.some.inj H
  go_enter Tryd.func37, Tryd.ntmps37
  go_wp2_with (first | ((with_reducible refine gateC (f := 63) rfl ?_); refine goesL_ (some 8) rfl rfl Tryd.func63 (by kernel_rfl) rfl #[.int .i64 a0, .int .i64 a1] rfl zm ?_; (with_reducible refine (spec_l4Number.calls a0 a1 t110 _ A3.out).mono ?_); rintro e w' ⟨rfl, ⟨nd, rfl⟩⟩; refine ⟨_, rfl, ?_⟩) | ((with_reducible refine gateC (f := 62) rfl ?_); refine goesL_ (some 9) rfl rfl Tryd.func62 (by kernel_rfl) rfl #[.int .i64 t110] rfl zm ?_; (with_reducible refine (spec_l1Num.calls k t110 t111 _ A4.out).mono ?_); rintro e w11 ⟨rfl, hb⟩; refine ⟨_, rfl, ?_⟩; have n0_ := Aside0.mk (below_step zb hb); clear HB; have HB := n0_; clear n0_; (try clear hb); (try clear hb2); (try clear hk); (try clear hi)))
  go_ret
  exact ⟨by first | rfl | (simp [errW_none, errW_some] <;> rfl) | (simp [*, errW_none, errW_some] <;> rfl), by repeat (first | (with_reducible first | exact HB.out | apply below_alloc | apply pw_below_drewN | apply below_drew1) | exact HB.out)⟩

end Go.Proofs.YtfmbpldjbmhnnaaDoor.My

/- Written by this session's program (wip/gen): a plain function with the same answers as the Go function, and the proof that the Go code comes to them. Asked: that the plain function has an answer. -/
namespace Go.Proofs.YtfmbpldjbmhnnaaDoor.My
open Go.RowKit Go.Proofs.YtfmbpldjbmhnnaaDoorW.PrintWords Go.Proofs.YtfmbpldjbmhnnaaDoorW.PrintLast Go.Proofs.YtfmbpldjbmhnnaaDoorW.PrintMore
attribute [local go_sem] max2_int min2_int max_two min_two max_three min_three max_four min_four
set_option linter.unusedVariables false
set_option linter.unusedSimpArgs false

/-! ### spec_PairText: function 11 -/
def spec_PairText.f (k : Nat) (a0 : Int) (a1 : Int) : Option (ByteArray × Bool) := (spec_l4Range.f a0 a1).bind fun t113 => (if t113 = true then ((spec_l4Pair.f k a0 a1).bind fun t114 => (some (t114, true))) else (some ((⟨#[]⟩ : ByteArray), false)))
set_option maxHeartbeats 8000000 in
set_option maxRecDepth 100000 in
theorem spec_PairText.calls (k : Nat) (a0 : Int) (a1 : Int) (r1 : ByteArray) (r2 : Bool) (w : World) (h : spec_PairText.f k a0 a1 = some (r1, r2)) :
  Calls Tryd.prog 11 #[.int .i64 a0, .int .i64 a1] w fun e w' => e = .returned (.tuple #[.string r1, .bool r2]) ∧ Below w.heap.size w w' := by
 have HB := Aside0.mk (Below.refl w.heap.size w)
 have H : ((spec_l4Range.f a0 a1).bind fun t113 => (if t113 = true then ((spec_l4Pair.f k a0 a1).bind fun t114 => (some (t114, true))) else (some ((⟨#[]⟩ : ByteArray), false)))) = some (r1, r2) := h
 clear h
 replace H := Option.bind_eq_some_iff.mp H
 obtain ⟨t113, A30, H⟩ := H
 replace H : (if t113 = true then ((spec_l4Pair.f k a0 a1).bind fun t114 => (some (t114, true))) else (some ((⟨#[]⟩ : ByteArray), false))) = some (r1, r2) := H
 have A3 := Aside0.mk A30
 clear A30
 by_cases c4 : t113 = true
 ·subst c4
  have H1 : ((spec_l4Pair.f k a0 a1).bind fun t114 => (some (t114, true))) = some (r1, r2) := by rw [if_pos rfl] at H; exact H
  clear H
  have H := H1
  clear H1
  replace H := Option.bind_eq_some_iff.mp H
  obtain ⟨t114, A50, H⟩ := H
  replace H : (some (t114, true)) = some (r1, r2) := H
  have A5 := Aside0.mk A50
  clear A50
  simp only [Option.some.injEq, Prod.mk.injEq] at H
  obtain ⟨rfl, rfl⟩ := H
  go_enter Tryd.func11, Tryd.ntmps11
  go_wp2_with (first | ((with_reducible refine gateC (f := 36) rfl ?_); refine goesL_ (some 8) rfl rfl Tryd.func36 (by kernel_rfl) rfl #[.int .i64 a0, .int .i64 a1] rfl zm ?_; (with_reducible refine (spec_l4Range.calls a0 a1 true _ A3.out).mono ?_); rintro e w' ⟨rfl, ⟨nd, rfl⟩⟩; refine ⟨_, rfl, ?_⟩) | ((with_reducible refine gateC (f := 37) rfl ?_); refine goesL_ (some 12) rfl rfl Tryd.func37 (by kernel_rfl) rfl #[.int .i64 a0, .int .i64 a1] rfl zm ?_; (with_reducible refine (spec_l4Pair.calls k a0 a1 t114 _ A5.out).mono ?_); rintro e w6 ⟨rfl, hb⟩; refine ⟨_, rfl, ?_⟩; have n0_ := Aside0.mk (below_step zb hb); clear HB; have HB := n0_; clear n0_; (try clear hb); (try clear hb2); (try clear hk); (try clear hi)))
  go_ret2
  exact ⟨by first | rfl | (simp [errW_none, errW_some] <;> rfl) | (simp [*, errW_none, errW_some] <;> rfl), by repeat (first | (with_reducible first | exact HB.out | apply below_alloc | apply pw_below_drewN | apply below_drew1) | exact HB.out)⟩
 ·replace c4 := Bool.eq_false_iff.mpr c4
  subst c4
  have H1 : (some ((⟨#[]⟩ : ByteArray), false)) = some (r1, r2) := by rw [if_neg (show ¬ (false = true) by decide)] at H; exact H
  clear H
  have H := H1
  clear H1
  simp only [Option.some.injEq, Prod.mk.injEq] at H
  obtain ⟨rfl, rfl⟩ := H
  go_enter Tryd.func11, Tryd.ntmps11
  go_wp2_with (first | ((with_reducible refine gateC (f := 36) rfl ?_); refine goesL_ (some 8) rfl rfl Tryd.func36 (by kernel_rfl) rfl #[.int .i64 a0, .int .i64 a1] rfl zm ?_; (with_reducible refine (spec_l4Range.calls a0 a1 false _ A3.out).mono ?_); rintro e w' ⟨rfl, ⟨nd, rfl⟩⟩; refine ⟨_, rfl, ?_⟩))
  go_ret2
  exact ⟨by first | rfl | (simp [errW_none, errW_some] <;> rfl) | (simp [*, errW_none, errW_some] <;> rfl), by repeat (first | (with_reducible first | exact HB.out | apply below_alloc | apply pw_below_drewN | apply below_drew1) | exact HB.out)⟩

end Go.Proofs.YtfmbpldjbmhnnaaDoor.My

/- Plain Lean: a range's two numbers as a text. No condition. -/
namespace Go.Proofs.YtfmbpldjbmhnnaaDoor.Pl
open Go.RowKit Go.Proofs.YtfmbpldjbmhnnaaDoorW.PrintWords Go.Proofs.YtfmbpldjbmhnnaaDoorW.PrintLast Go.Proofs.YtfmbpldjbmhnnaaDoor.My
set_option linter.unusedVariables false
set_option linter.unusedSimpArgs false

def inRange (a b : Int) : Bool := inB a 0 999 && inB b 0 999
theorem l4Range_eq (a b : Int) : spec_l4Range.f a b = some (inRange a b) := by
  unfold spec_l4Range.f inRange
  rw [spec_l1In_eq, Option.bind_some, spec_l1In_eq, Option.bind_some]
  cases inB a 0 999 <;> rfl
theorem isRange_eq (a b : Int) : impl_isRange.f a b = some (inRange a b) := by
  unfold impl_isRange.f inRange
  rw [impl_in_eq, Option.bind_some, impl_in_eq, Option.bind_some]
  cases inB a 0 999 <;> rfl
theorem inRange_iff (a b : Int) : inRange a b = true ↔ (0 ≤ a ∧ a ≤ 999) ∧ (0 ≤ b ∧ b ≤ 999) := by
  unfold inRange
  rw [Bool.and_eq_true, inB_iff, inB_iff]
/-- The comma between. -/
def comma : ByteArray := ⟨#[44]⟩
def pairV (f l : Nat) : ByteArray := if f = l then num f else num f ++ comma ++ num l
def pairR (a b : Int) : ByteArray × Bool := if inRange a b = true then (pairV (if b > 0 then a + 1 else a).toNat (a + b).toNat, true) else (⟨#[]⟩, false)
theorem num_size' (n : Nat) (h : n ≤ 100000) : (num n).size ≤ 20 := num_size n (by omega)
theorem pairOf_eq (f l : Nat) (hf : f ≤ 100000) (hl : l ≤ 100000) : impl_pairOf.f (f : Int) (l : Int) = some (pairV f l) := by
  unfold impl_pairOf.f pairV
  have h1 := num_size' f hf
  have h2 := num_size' l hl
  by_cases h : f = l
  · rw [if_pos (by omega), if_pos h, itoa_eq f (by omega)]; rfl
  · rw [if_neg (by omega), if_neg h, itoa_eq f (by omega), Option.bind_some, if_pos (by omega), itoa_eq l (by omega), Option.bind_some, if_pos (by
      rw [ByteArray.size_append, show (⟨#[44]⟩ : ByteArray).size = 1 from rfl]; omega)]
    rfl
theorem impl_PairText_eq (a b : Int) : impl_PairText.f a b = some (pairR a b) := by
  unfold impl_PairText.f pairR
  rw [isRange_eq, Option.bind_some]
  by_cases h : inRange a b = true
  · rw [if_pos h, if_pos h]
    rw [inRange_iff] at h
    unfold impl_numberOf.f impl_endOf.f
    rw [wrap64_id (x := a + b) (by omega) (by omega)]
    by_cases hb : b > 0
    · rw [if_pos hb, if_pos hb, Option.bind_some, Option.bind_some, wrap64_id (by omega) (by omega)]
      have := pairOf_eq (a + 1).toNat (a + b).toNat (by omega) (by omega)
      rw [Int.toNat_of_nonneg (by omega), Int.toNat_of_nonneg (by omega)] at this
      rw [this]
      rfl
    · rw [if_neg hb, if_neg hb, Option.bind_some, Option.bind_some]
      have := pairOf_eq a.toNat (a + b).toNat (by omega) (by omega)
      rw [Int.toNat_of_nonneg (by omega), Int.toNat_of_nonneg (by omega)] at this
      rw [this]
      rfl
  · rw [if_neg h, if_neg h]
theorem spec_PairText_ev (a b : Int) : Ev (fun k => spec_PairText.f k a b) (pairR a b) := by
  simp only [spec_PairText.f]
  unfold pairR
  refine ev_bind (ev_const (l4Range_eq a b)) (ev_ite (fun h => ?_) (fun h => ev_some ?_))
  · rw [if_pos h]
    rw [inRange_iff] at h
    simp only [spec_l4Pair.f, spec_l4Number.f]
    have hs := num_size' (a + b).toNat (by omega)
    have e : wrap64 (a + b) = ((a + b).toNat : Int) := by rw [wrap64_id (by omega) (by omega)]; omega
    by_cases hb : b > 0
    · have hs2 := num_size' (a + 1).toNat (by omega)
      have e1 : wrap64 (a + 1) = ((a + 1).toNat : Int) := by rw [wrap64_id (by omega) (by omega)]; omega
      have ev : (if b > 0 then a + 1 else a) = a + 1 := if_pos hb
      rw [ev]
      refine ev_bind (ev_bind (ev_pos hb (ev_some rfl)) ?_) (ev_some rfl)
      rw [e1, e]
      refine ev_bind (l1Num_ev _ (by omega)) (ev_ite (fun h2 => ev_bind (l1Num_ev _ (by omega)) (ev_pos (by omega) (ev_pos ?_ (ev_some ?_)))) (fun h2 => ev_some ?_))
      · rw [ByteArray.size_append, show (⟨#[44]⟩ : ByteArray).size = 1 from rfl]; omega
      · unfold pairV
        rw [if_neg (by omega), ByteArray.append_assoc]
        rfl
      · unfold pairV
        rw [if_pos (by omega)]
    · have e2 : a = ((a.toNat : Nat) : Int) := by omega
      have ev : (if b > 0 then a + 1 else a) = a := if_neg hb
      rw [ev]
      refine ev_bind (ev_bind (ev_neg hb (ev_some rfl)) ?_) (ev_some rfl)
      refine ev_bind (g := fun k => spec_l1Num.f k a) (a := num a.toNat) (by have := l1Num_ev a.toNat (by omega); rw [← e2] at this; exact this) (ev_neg (by omega) (ev_some ?_))
      unfold pairV
      rw [if_pos (by omega)]
  · rw [if_neg h]
end Go.Proofs.YtfmbpldjbmhnnaaDoor.Pl

/- Written by this session's program (wip/gen): a plain function with the same answers as the Go function, and the proof that the Go code comes to them. Asked: that the plain function has an answer. -/
namespace Go.Proofs.YtfmbpldjbmhnnaaDoor.My
open Go.RowKit Go.Proofs.YtfmbpldjbmhnnaaDoorW.PrintWords Go.Proofs.YtfmbpldjbmhnnaaDoorW.PrintLast Go.Proofs.YtfmbpldjbmhnnaaDoorW.PrintMore
attribute [local go_sem] max2_int min2_int max_two min_two max_three min_three max_four min_four
set_option linter.unusedVariables false
set_option linter.unusedSimpArgs false

/-! ### impl_readEnds: function 53 -/
def impl_readEnds.f (k : Nat) (a0 : ByteArray) (a1 : Int) : Option (Int × Int × Bool) := (impl_readTwo.f k a0).bind fun bt225 => (if bt225.2.2.2 = true then (if (mx bt225.1 bt225.2.1) > 1000 then (some (0, 0, false)) else (if bt225.2.2.1 = true then (if bt225.1 > (wrap64 (bt225.2.1 + a1)) then (some (0, 0, false)) else (some (bt225.1, bt225.2.1, true))) else (some (bt225.1, bt225.2.1, true)))) else (some (0, 0, false)))
set_option maxHeartbeats 8000000 in
set_option maxRecDepth 100000 in
theorem impl_readEnds.calls (k : Nat) (a0 : ByteArray) (a1 : Int) (r1 : Int) (r2 : Int) (r3 : Bool) (w : World) (ht : Door true w) (h : impl_readEnds.f k a0 a1 = some (r1, r2, r3)) :
  Calls Tryd.prog 53 #[.string a0, .int .i64 a1] w fun e w' => e = .returned (.tuple #[.int .i64 r1, .int .i64 r2, .bool r3]) ∧ Below w.heap.size w w' := by
 have HT := Aside0.mk ht
 clear ht
 have HB := Aside0.mk (Below.refl w.heap.size w)
 have H : ((impl_readTwo.f k a0).bind fun bt225 => (if bt225.2.2.2 = true then (if (mx bt225.1 bt225.2.1) > 1000 then (some (0, 0, false)) else (if bt225.2.2.1 = true then (if bt225.1 > (wrap64 (bt225.2.1 + a1)) then (some (0, 0, false)) else (some (bt225.1, bt225.2.1, true))) else (some (bt225.1, bt225.2.1, true)))) else (some (0, 0, false)))) = some (r1, r2, r3) := h
 clear h
 replace H := Option.bind_eq_some_iff.mp H
 obtain ⟨⟨t225, t226, t227, t228⟩, A30, H⟩ := H
 replace H : (if t228 = true then (if (mx t225 t226) > 1000 then (some (0, 0, false)) else (if t227 = true then (if t225 > (wrap64 (t226 + a1)) then (some (0, 0, false)) else (some (t225, t226, true))) else (some (t225, t226, true)))) else (some (0, 0, false))) = some (r1, r2, r3) := H
 have A3 := Aside0.mk A30
 clear A30
 by_cases c4 : t228 = true
 ·subst c4
  have H1 : (if (mx t225 t226) > 1000 then (some (0, 0, false)) else (if t227 = true then (if t225 > (wrap64 (t226 + a1)) then (some (0, 0, false)) else (some (t225, t226, true))) else (some (t225, t226, true)))) = some (r1, r2, r3) := by rw [if_pos rfl] at H; exact H
  clear H
  have H := H1
  clear H1
  obtain ⟨ji5, hji5⟩ : ∃ j_ : Int, (mx t225 t226) = j_ := ⟨_, rfl⟩
  replace H : (if (ji5) > 1000 then (some (0, 0, false)) else (if t227 = true then (if t225 > (wrap64 (t226 + a1)) then (some (0, 0, false)) else (some (t225, t226, true))) else (some (t225, t226, true)))) = some (r1, r2, r3) := by first | (rw [hji5] at H; exact H) | (simp only [hji5] at H ⊢; exact H)
  (try rw [hji5] at A3)
  have hji5_ : (if t225 < t226 then t226 else t225) = ji5 := hji5
  by_cases c6 : (ji5) > 1000
  ·rw [if_pos c6] at H
   have c6b0 : decide (1000 < (ji5)) = true := decide_eq_true c6
   clear c6
   simp only [Option.some.injEq, Prod.mk.injEq] at H
   obtain ⟨rfl, rfl, rfl⟩ := H
   go_enter Tryd.func53, Tryd.ntmps53
   go_wp2_with (first | ((with_reducible refine gateC (f := 55) rfl ?_); refine goesL_ (some 13) rfl rfl Tryd.func55 (by kernel_rfl) rfl #[.string a0] rfl zm ?_; (with_reducible refine (impl_readTwo.calls k a0 t225 t226 t227 true _ ?sideT A3.out).mono ?_); (case sideT => exact Door.below HT.out zb); rintro e w7 ⟨rfl, hb⟩; refine ⟨_, rfl, ?_⟩; have n0_ := Aside0.mk (below_step zb hb); clear HB; have HB := n0_; clear n0_; (try clear hb); (try clear hb2); (try clear hk); (try clear hi)))
   go_ret3
   exact ⟨by first | rfl | (simp [errW_none, errW_some] <;> rfl) | (simp only [← hji5]; first | rfl | (simp [errW_none, errW_some] <;> rfl)) | (simp [*, errW_none, errW_some] <;> rfl), by repeat (first | (with_reducible first | exact HB.out | apply below_alloc | apply pw_below_drewN | apply below_drew1) | exact HB.out)⟩
  ·rw [if_neg c6] at H
   have c6b0 : decide (1000 < (ji5)) = false := decide_eq_false c6
   clear c6
   by_cases c8 : t227 = true
   ·subst c8
    have H1 : (if t225 > (wrap64 (t226 + a1)) then (some (0, 0, false)) else (some (t225, t226, true))) = some (r1, r2, r3) := by rw [if_pos rfl] at H; exact H
    clear H
    have H := H1
    clear H1
    by_cases c9 : t225 > (wrap64 (t226 + a1))
    ·rw [if_pos c9] at H
     have c9b0 : decide ((wrap64 (t226 + a1)) < t225) = true := decide_eq_true c9
     clear c9
     simp only [Option.some.injEq, Prod.mk.injEq] at H
     obtain ⟨rfl, rfl, rfl⟩ := H
     go_enter Tryd.func53, Tryd.ntmps53
     go_wp2_with (first | ((with_reducible refine gateC (f := 55) rfl ?_); refine goesL_ (some 13) rfl rfl Tryd.func55 (by kernel_rfl) rfl #[.string a0] rfl zm ?_; (with_reducible refine (impl_readTwo.calls k a0 t225 t226 true true _ ?sideT A3.out).mono ?_); (case sideT => exact Door.below HT.out zb); rintro e w10 ⟨rfl, hb⟩; refine ⟨_, rfl, ?_⟩; have n0_ := Aside0.mk (below_step zb hb); clear HB; have HB := n0_; clear n0_; (try clear hb); (try clear hb2); (try clear hk); (try clear hi)))
     go_ret3
     exact ⟨by first | rfl | (simp [errW_none, errW_some] <;> rfl) | (simp only [← hji5]; first | rfl | (simp [errW_none, errW_some] <;> rfl)) | (simp [*, errW_none, errW_some] <;> rfl), by repeat (first | (with_reducible first | exact HB.out | apply below_alloc | apply pw_below_drewN | apply below_drew1) | exact HB.out)⟩
    ·rw [if_neg c9] at H
     have c9b0 : decide ((wrap64 (t226 + a1)) < t225) = false := decide_eq_false c9
     clear c9
     simp only [Option.some.injEq, Prod.mk.injEq] at H
     obtain ⟨rfl, rfl, rfl⟩ := H
     go_enter Tryd.func53, Tryd.ntmps53
     go_wp2_with (first | ((with_reducible refine gateC (f := 55) rfl ?_); refine goesL_ (some 13) rfl rfl Tryd.func55 (by kernel_rfl) rfl #[.string a0] rfl zm ?_; (with_reducible refine (impl_readTwo.calls k a0 t225 t226 true true _ ?sideT A3.out).mono ?_); (case sideT => exact Door.below HT.out zb); rintro e w11 ⟨rfl, hb⟩; refine ⟨_, rfl, ?_⟩; have n0_ := Aside0.mk (below_step zb hb); clear HB; have HB := n0_; clear n0_; (try clear hb); (try clear hb2); (try clear hk); (try clear hi)))
     go_ret3
     exact ⟨by first | rfl | (simp [errW_none, errW_some] <;> rfl) | (simp only [← hji5]; first | rfl | (simp [errW_none, errW_some] <;> rfl)) | (simp [*, errW_none, errW_some] <;> rfl), by repeat (first | (with_reducible first | exact HB.out | apply below_alloc | apply pw_below_drewN | apply below_drew1) | exact HB.out)⟩
   ·replace c8 := Bool.eq_false_iff.mpr c8
    subst c8
    have H1 : (some (t225, t226, true)) = some (r1, r2, r3) := by rw [if_neg (show ¬ (false = true) by decide)] at H; exact H
    clear H
    have H := H1
    clear H1
    simp only [Option.some.injEq, Prod.mk.injEq] at H
    obtain ⟨rfl, rfl, rfl⟩ := H
    go_enter Tryd.func53, Tryd.ntmps53
    go_wp2_with (first | ((with_reducible refine gateC (f := 55) rfl ?_); refine goesL_ (some 13) rfl rfl Tryd.func55 (by kernel_rfl) rfl #[.string a0] rfl zm ?_; (with_reducible refine (impl_readTwo.calls k a0 t225 t226 false true _ ?sideT A3.out).mono ?_); (case sideT => exact Door.below HT.out zb); rintro e w12 ⟨rfl, hb⟩; refine ⟨_, rfl, ?_⟩; have n0_ := Aside0.mk (below_step zb hb); clear HB; have HB := n0_; clear n0_; (try clear hb); (try clear hb2); (try clear hk); (try clear hi)))
    go_ret3
    exact ⟨by first | rfl | (simp [errW_none, errW_some] <;> rfl) | (simp only [← hji5]; first | rfl | (simp [errW_none, errW_some] <;> rfl)) | (simp [*, errW_none, errW_some] <;> rfl), by repeat (first | (with_reducible first | exact HB.out | apply below_alloc | apply pw_below_drewN | apply below_drew1) | exact HB.out)⟩
 ·replace c4 := Bool.eq_false_iff.mpr c4
  subst c4
  have H1 : (some (0, 0, false)) = some (r1, r2, r3) := by rw [if_neg (show ¬ (false = true) by decide)] at H; exact H
  clear H
  have H := H1
  clear H1
  simp only [Option.some.injEq, Prod.mk.injEq] at H
  obtain ⟨rfl, rfl, rfl⟩ := H
  go_enter Tryd.func53, Tryd.ntmps53
  go_wp2_with (first | ((with_reducible refine gateC (f := 55) rfl ?_); refine goesL_ (some 13) rfl rfl Tryd.func55 (by kernel_rfl) rfl #[.string a0] rfl zm ?_; (with_reducible refine (impl_readTwo.calls k a0 t225 t226 t227 false _ ?sideT A3.out).mono ?_); (case sideT => exact Door.below HT.out zb); rintro e w13 ⟨rfl, hb⟩; refine ⟨_, rfl, ?_⟩; have n0_ := Aside0.mk (below_step zb hb); clear HB; have HB := n0_; clear n0_; (try clear hb); (try clear hb2); (try clear hk); (try clear hi)))
  go_ret3
  exact ⟨by first | rfl | (simp [errW_none, errW_some] <;> rfl) | (simp [*, errW_none, errW_some] <;> rfl), by repeat (first | (with_reducible first | exact HB.out | apply below_alloc | apply pw_below_drewN | apply below_drew1) | exact HB.out)⟩

end Go.Proofs.YtfmbpldjbmhnnaaDoor.My

/- Written by this session's program (wip/gen): a plain function with the same answers as the Go function, and the proof that the Go code comes to them. Asked: that the plain function has an answer. -/
namespace Go.Proofs.YtfmbpldjbmhnnaaDoor.My
open Go.RowKit Go.Proofs.YtfmbpldjbmhnnaaDoorW.PrintWords Go.Proofs.YtfmbpldjbmhnnaaDoorW.PrintLast Go.Proofs.YtfmbpldjbmhnnaaDoorW.PrintMore
attribute [local go_sem] max2_int min2_int max_two min_two max_three min_three max_four min_four
set_option linter.unusedVariables false
set_option linter.unusedSimpArgs false

/-! ### impl_ReadPair: function 25 -/
def impl_ReadPair.f (k : Nat) (a0 : ByteArray) : Option (Int × Int × Bool) := (impl_readEnds.f k a0 0).bind fun bt241 => (some (bt241.1, bt241.2.1, bt241.2.2))
set_option maxHeartbeats 8000000 in
set_option maxRecDepth 100000 in
theorem impl_ReadPair.calls (k : Nat) (a0 : ByteArray) (r1 : Int) (r2 : Int) (r3 : Bool) (w : World) (ht : Door true w) (h : impl_ReadPair.f k a0 = some (r1, r2, r3)) :
  Calls Tryd.prog 25 #[.string a0] w fun e w' => e = .returned (.tuple #[.int .i64 r1, .int .i64 r2, .bool r3]) ∧ Below w.heap.size w w' := by
 have HT := Aside0.mk ht
 clear ht
 have HB := Aside0.mk (Below.refl w.heap.size w)
 have H : ((impl_readEnds.f k a0 0).bind fun bt241 => (some (bt241.1, bt241.2.1, bt241.2.2))) = some (r1, r2, r3) := h
 clear h
 replace H := Option.bind_eq_some_iff.mp H
 obtain ⟨⟨t241, t242, t243⟩, A20, H⟩ := H
 replace H : (some (t241, t242, t243)) = some (r1, r2, r3) := H
 have A2 := Aside0.mk A20
 clear A20
 simp only [Option.some.injEq, Prod.mk.injEq] at H
 obtain ⟨rfl, rfl, rfl⟩ := H
 go_enter Tryd.func25, Tryd.ntmps25
 go_wp2_with (first | ((with_reducible refine gateC (f := 53) rfl ?_); refine goesL_ (some 6) rfl rfl Tryd.func53 (by kernel_rfl) rfl #[.string a0, .int .i64 0] rfl zm ?_; (with_reducible refine (impl_readEnds.calls k a0 0 t241 t242 t243 _ ?sideT A2.out).mono ?_); (case sideT => exact Door.below HT.out zb); rintro e w3 ⟨rfl, hb⟩; refine ⟨_, rfl, ?_⟩; have n0_ := Aside0.mk (below_step zb hb); clear HB; have HB := n0_; clear n0_; (try clear hb); (try clear hb2); (try clear hk); (try clear hi)))
 go_ret3
 exact ⟨by first | rfl | (simp [errW_none, errW_some] <;> rfl) | (simp [*, errW_none, errW_some] <;> rfl), by repeat (first | (with_reducible first | exact HB.out | apply below_alloc | apply pw_below_drewN | apply below_drew1) | exact HB.out)⟩

end Go.Proofs.YtfmbpldjbmhnnaaDoor.My

/- Written by this session's program (wip/gen): a plain function with the same answers as the Go function, and the proof that the Go code comes to them. Asked: that the plain function has an answer. -/
namespace Go.Proofs.YtfmbpldjbmhnnaaDoor.My
open Go.RowKit Go.Proofs.YtfmbpldjbmhnnaaDoorW.PrintWords Go.Proofs.YtfmbpldjbmhnnaaDoorW.PrintLast Go.Proofs.YtfmbpldjbmhnnaaDoorW.PrintMore
attribute [local go_sem] max2_int min2_int max_two min_two max_three min_three max_four min_four
set_option linter.unusedVariables false
set_option linter.unusedSimpArgs false

/-! ### impl_ReadEnd: function 23 -/
def impl_ReadEnd.f (k : Nat) (a0 : ByteArray) : Option (Int × Int × Bool) := (impl_readEnds.f k a0 1).bind fun bt229 => (some (bt229.1, bt229.2.1, bt229.2.2))
set_option maxHeartbeats 8000000 in
set_option maxRecDepth 100000 in
theorem impl_ReadEnd.calls (k : Nat) (a0 : ByteArray) (r1 : Int) (r2 : Int) (r3 : Bool) (w : World) (ht : Door true w) (h : impl_ReadEnd.f k a0 = some (r1, r2, r3)) :
  Calls Tryd.prog 23 #[.string a0] w fun e w' => e = .returned (.tuple #[.int .i64 r1, .int .i64 r2, .bool r3]) ∧ Below w.heap.size w w' := by
 have HT := Aside0.mk ht
 clear ht
 have HB := Aside0.mk (Below.refl w.heap.size w)
 have H : ((impl_readEnds.f k a0 1).bind fun bt229 => (some (bt229.1, bt229.2.1, bt229.2.2))) = some (r1, r2, r3) := h
 clear h
 replace H := Option.bind_eq_some_iff.mp H
 obtain ⟨⟨t229, t230, t231⟩, A20, H⟩ := H
 replace H : (some (t229, t230, t231)) = some (r1, r2, r3) := H
 have A2 := Aside0.mk A20
 clear A20
 simp only [Option.some.injEq, Prod.mk.injEq] at H
 obtain ⟨rfl, rfl, rfl⟩ := H
 go_enter Tryd.func23, Tryd.ntmps23
 go_wp2_with (first | ((with_reducible refine gateC (f := 53) rfl ?_); refine goesL_ (some 6) rfl rfl Tryd.func53 (by kernel_rfl) rfl #[.string a0, .int .i64 1] rfl zm ?_; (with_reducible refine (impl_readEnds.calls k a0 1 t229 t230 t231 _ ?sideT A2.out).mono ?_); (case sideT => exact Door.below HT.out zb); rintro e w3 ⟨rfl, hb⟩; refine ⟨_, rfl, ?_⟩; have n0_ := Aside0.mk (below_step zb hb); clear HB; have HB := n0_; clear n0_; (try clear hb); (try clear hb2); (try clear hk); (try clear hi)))
 go_ret3
 exact ⟨by first | rfl | (simp [errW_none, errW_some] <;> rfl) | (simp [*, errW_none, errW_some] <;> rfl), by repeat (first | (with_reducible first | exact HB.out | apply below_alloc | apply pw_below_drewN | apply below_drew1) | exact HB.out)⟩

end Go.Proofs.YtfmbpldjbmhnnaaDoor.My

/- Written by this session's program (wip/gen): a plain function with the same answers as the Go function, and the proof that the Go code comes to them. Asked: that the plain function has an answer. -/
namespace Go.Proofs.YtfmbpldjbmhnnaaDoor.My
open Go.RowKit Go.Proofs.YtfmbpldjbmhnnaaDoorW.PrintWords Go.Proofs.YtfmbpldjbmhnnaaDoorW.PrintLast Go.Proofs.YtfmbpldjbmhnnaaDoorW.PrintMore
attribute [local go_sem] max2_int min2_int max_two min_two max_three min_three max_four min_four
set_option linter.unusedVariables false
set_option linter.unusedSimpArgs false

/-! ### spec_l4Two: function 52 -/
def spec_l4Two.j0 : Nat → List ByteArray → Int → Bool → Option (Int × Int × Bool)
 | 0, _, _, _ => none
 | k + 1, x5, x6, x29 => if x29 = true then (some (0, 0, false)) else (if (x5.length : Int) = 1 then (some (x6, x6, true)) else (if 1 < (x5.length : Int) then ((spec_ReadNumber.f k (rdOf ByteArray.empty x5 1)).bind fun bt206 => (if bt206.2 = true then (if bt206.1 > 1000 then (some (0, 0, false)) else (some (x6, bt206.1, true))) else (some (0, 0, false)))) else (none)))
def spec_l4Two.f (k : Nat) (a0 : ByteArray) : Option (Int × Int × Bool) := (spec_l1Split.f k a0 44).bind fun t199 => (if 0 < (t199.length : Int) then ((spec_ReadNumber.f k (rdOf ByteArray.empty t199 0)).bind fun bt203 => (if bt203.2 = true then (if (t199.length : Int) > 2 then (spec_l4Two.j0 k t199 bt203.1 true) else (spec_l4Two.j0 k t199 bt203.1 (decide (bt203.1 > 1000)))) else (spec_l4Two.j0 k t199 bt203.1 true))) else (none))
set_option maxHeartbeats 8000000 in
set_option maxRecDepth 100000 in
theorem spec_l4Two.calls (k : Nat) (a0 : ByteArray) (r1 : Int) (r2 : Int) (r3 : Bool) (w : World) (h : spec_l4Two.f k a0 = some (r1, r2, r3)) :
  Calls Tryd.prog 52 #[.string a0] w fun e w' => e = .returned (.tuple #[.int .i64 r1, .int .i64 r2, .bool r3]) ∧ Below w.heap.size w w' := by
 have HB := Aside0.mk (Below.refl w.heap.size w)
 have H : ((spec_l1Split.f k a0 44).bind fun t199 => (if 0 < (t199.length : Int) then ((spec_ReadNumber.f k (rdOf ByteArray.empty t199 0)).bind fun bt203 => (if bt203.2 = true then (if (t199.length : Int) > 2 then (spec_l4Two.j0 k t199 bt203.1 true) else (spec_l4Two.j0 k t199 bt203.1 (decide (bt203.1 > 1000)))) else (spec_l4Two.j0 k t199 bt203.1 true))) else (none))) = some (r1, r2, r3) := h
 clear h
 replace H := Option.bind_eq_some_iff.mp H
 obtain ⟨t199, A20, H⟩ := H
 replace H : (if 0 < (t199.length : Int) then ((spec_ReadNumber.f k (rdOf ByteArray.empty t199 0)).bind fun bt203 => (if bt203.2 = true then (if (t199.length : Int) > 2 then (spec_l4Two.j0 k t199 bt203.1 true) else (spec_l4Two.j0 k t199 bt203.1 (decide (bt203.1 > 1000)))) else (spec_l4Two.j0 k t199 bt203.1 true))) else (none)) = some (r1, r2, r3) := H
 have A2 := Aside0.mk A20
 clear A20
 by_cases c3 : 0 < (t199.length : Int)
 ·rw [if_pos c3] at H
  have c3b0 : decide (0 < (t199.length : Int)) = true := decide_eq_true c3
  have c3b1 : decide (0 < t199.length) = true := decide_eq_true (by omega)
  clear c3
  replace H := Option.bind_eq_some_iff.mp H
  obtain ⟨⟨t203, t204⟩, A40, H⟩ := H
  replace H : (if t204 = true then (if (t199.length : Int) > 2 then (spec_l4Two.j0 k t199 t203 true) else (spec_l4Two.j0 k t199 t203 (decide (t203 > 1000)))) else (spec_l4Two.j0 k t199 t203 true)) = some (r1, r2, r3) := H
  have A4 := Aside0.mk A40
  clear A40
  have HC5 := Aside0.mk H
  clear H
  go_enter Tryd.func52, Tryd.ntmps52
  go_upto_region 3 with (first | ((with_reducible refine gateC (f := 54) rfl ?_); refine goesL_ (some 11) rfl rfl Tryd.func54 (by kernel_rfl) rfl #[.string a0, .int .u8 44] rfl zm ?_; (with_reducible refine (spec_l1Split.calls k a0 44 t199 _ A2.out).mono ?_); rintro e w6 ⟨v200, rfl, ho0, hb⟩; refine ⟨_, rfl, ?_⟩; have n0_ := Aside0.mk (Kd.R_lower ho0 (below_size zb)); have n1_ := Aside0.mk (below_step zb hb); clear HB; have HO201 := n0_; have HB := n1_; clear n0_ n1_; (try clear hb); (try clear hb2); (try clear hk); (try clear hi); (try clear ho0); obtain ⟨Ao7, co7, eo7⟩ := Kd.R_slice HO201.out; subst eo7; have p202 : 0 ≤ (0 : Int) := (by omega); have q202 : 0 < (t199.length : Int) := oa; obtain ⟨ad202, e202, hx202_0⟩ := Kd.at_string (Kd.R_reads' HO201.out).2.2 0 p202 q202; cases e202; have qi202 : (0 < t199.length) = True := eq_true (by omega); (try rw [show ((0 : Int)).toNat = 0 from rfl] at hx202_0); (try rw [Addr.add_zero'] at hx202_0); replace p202 := eq_true p202; replace q202 := eq_true q202) | ((with_reducible refine gateC (f := 15) rfl ?_); refine goesL_ (some 16) rfl rfl Tryd.func15 (by kernel_rfl) rfl #[.string (rdOf ByteArray.empty t199 0)] rfl zm ?_; (with_reducible refine (spec_ReadNumber.calls k (rdOf ByteArray.empty t199 0) t203 t204 _ A4.out).mono ?_); rintro e w' ⟨rfl, ⟨nd, rfl⟩⟩; refine ⟨_, rfl, ?_⟩))
  (try simp only [Act.put, List.setIfInBounds_toArray, List.set_cons_zero, List.set_cons_succ])
  go_cut [29] (fun v29 wc => ∃ (kq : Nat) (x29_4 : Bool), v29 = .bool x29_4 ∧ Aside0 (spec_l4Two.j0 kq t199 t203 x29_4 = some (r1, r2, r3)) ∧ Aside0 (kq ≤ k) ∧ Aside0 (Kd.R Kd.string 9 wc w.heap.size (fun _ => True) (.slice (some ad202) t199.length co7) t199) ∧ Aside0 (Below w.heap.size w wc))
  case first =>
   have H := HC5.out
   clear HC5
   by_cases c8 : t204 = true
   ·subst c8
    have H1 : (if (t199.length : Int) > 2 then (spec_l4Two.j0 k t199 t203 true) else (spec_l4Two.j0 k t199 t203 (decide (t203 > 1000)))) = some (r1, r2, r3) := by rw [if_pos rfl] at H; exact H
    clear H
    have H := H1
    clear H1
    by_cases c9 : (t199.length : Int) > 2
    ·rw [if_pos c9] at H
     have c9b0 : decide (2 < (t199.length : Int)) = true := decide_eq_true c9
     have c9b1 : decide (2 < t199.length) = true := decide_eq_true (by omega)
     clear c9
     (first | rw [c9b0] | (simp only [i64_w, i32_w]; rw [c9b0]) | skip)
     have H' := Aside0.mk H
     clear H
     go_wp2
     go_meet
     case rel => exact ⟨_, (true), zf, H', ⟨by first | omega | exact Nat.le_refl _⟩, ⟨by (with_reducible repeat (first | apply Kd.R_alloc | apply Kd.R_drewN | apply Kd.R_drew)); exact HO201.out⟩, ⟨by repeat (first | (with_reducible first | exact HB.out | apply below_alloc | apply pw_below_drewN | apply below_drew1) | exact HB.out)⟩⟩
    ·rw [if_neg c9] at H
     have c9b0 : decide (2 < (t199.length : Int)) = false := decide_eq_false c9
     have c9b1 : decide (2 < t199.length) = false := decide_eq_false (by omega)
     clear c9
     (first | rw [c9b0] | (simp only [i64_w, i32_w]; rw [c9b0]) | skip)
     have H' := Aside0.mk H
     clear H
     go_wp2
     go_meet
     case rel => exact ⟨_, (decide (t203 > 1000)), zf, H', ⟨by first | omega | exact Nat.le_refl _⟩, ⟨by (with_reducible repeat (first | apply Kd.R_alloc | apply Kd.R_drewN | apply Kd.R_drew)); exact HO201.out⟩, ⟨by repeat (first | (with_reducible first | exact HB.out | apply below_alloc | apply pw_below_drewN | apply below_drew1) | exact HB.out)⟩⟩
   ·replace c8 := Bool.eq_false_iff.mpr c8
    subst c8
    have H1 : (spec_l4Two.j0 k t199 t203 true) = some (r1, r2, r3) := by rw [if_neg (show ¬ (false = true) by decide)] at H; exact H
    clear H
    have H := H1
    clear H1
    have H' := Aside0.mk H
    clear H
    go_wp2
    go_meet
    case rel => exact ⟨_, (true), zf, H', ⟨by first | omega | exact Nat.le_refl _⟩, ⟨by (with_reducible repeat (first | apply Kd.R_alloc | apply Kd.R_drewN | apply Kd.R_drew)); exact HO201.out⟩, ⟨by repeat (first | (with_reducible first | exact HB.out | apply below_alloc | apply pw_below_drewN | apply below_drew1) | exact HB.out)⟩⟩
  case rest =>
   clear HC5
   try clear c1
   try clear p2
   try clear q2
   try clear hx2
   try clear qi2
   try clear c3
   try clear c3b0
   try clear c3b1
   try clear c5
   try clear c8
   try clear c9
   try clear c9b0
   try clear c9b1
   try clear hx202_0
   try clear p202
   try clear q202
   obtain ⟨kq, x29_4, rfl, HA, HJ4, HO_5, HB⟩ := hcut
   cases kq with
   | zero => exact absurd HA.out (by simp [spec_l4Two.j0])
   | succ kj4 =>
    have H := HA.out
    clear HA
    simp only [spec_l4Two.j0] at H
    by_cases c10 : x29_4 = true
    ·subst c10
     have H1 : (some (0, 0, false)) = some (r1, r2, r3) := by rw [if_pos rfl] at H; exact H
     clear H
     have H := H1
     clear H1
     simp only [Option.some.injEq, Prod.mk.injEq] at H
     obtain ⟨rfl, rfl, rfl⟩ := H
     go_wp2
     go_ret3
     exact ⟨by first | rfl | (simp [errW_none, errW_some] <;> rfl) | (simp [*, errW_none, errW_some] <;> rfl), by repeat (first | (with_reducible first | exact HB.out | apply below_alloc | apply pw_below_drewN | apply below_drew1) | exact HB.out)⟩
    ·replace c10 := Bool.eq_false_iff.mpr c10
     subst c10
     have H1 : (if (t199.length : Int) = 1 then (some (t203, t203, true)) else (if 1 < (t199.length : Int) then ((spec_ReadNumber.f kj4 (rdOf ByteArray.empty t199 1)).bind fun bt206 => (if bt206.2 = true then (if bt206.1 > 1000 then (some (0, 0, false)) else (some (t203, bt206.1, true))) else (some (0, 0, false)))) else (none))) = some (r1, r2, r3) := by rw [if_neg (show ¬ (false = true) by decide)] at H; exact H
     clear H
     have H := H1
     clear H1
     by_cases c11 : (t199.length : Int) = 1
     ·rw [if_pos c11] at H
      have c11b0 : ((t199.length : Int) == 1) = true := beq_iff_eq.mpr c11
      have c11b1 : ((t199.length : Int) != 1) = false := bne_eq_false_iff_eq.mpr c11
      clear c11
      simp only [Option.some.injEq, Prod.mk.injEq] at H
      obtain ⟨rfl, rfl, rfl⟩ := H
      go_wp2
      go_ret3
      exact ⟨by first | rfl | (simp [errW_none, errW_some] <;> rfl) | (simp [*, errW_none, errW_some] <;> rfl), by repeat (first | (with_reducible first | exact HB.out | apply below_alloc | apply pw_below_drewN | apply below_drew1) | exact HB.out)⟩
     ·rw [if_neg c11] at H
      have c11b0 : ((t199.length : Int) == 1) = false := beq_eq_false_iff_ne.mpr c11
      have c11b1 : ((t199.length : Int) != 1) = true := bne_iff_ne.mpr c11
      by_cases c12 : 1 < (t199.length : Int)
      ·rw [if_pos c12] at H
       have c12b0 : decide (1 < (t199.length : Int)) = true := decide_eq_true c12
       have c12b1 : decide (1 < t199.length) = true := decide_eq_true (by omega)
       clear c12
       replace H := Option.bind_eq_some_iff.mp H
       obtain ⟨⟨t206, t207⟩, A130, H⟩ := H
       replace H : (if t207 = true then (if t206 > 1000 then (some (0, 0, false)) else (some (t203, t206, true))) else (some (0, 0, false))) = some (r1, r2, r3) := H
       have A13 := Aside0.mk A130
       clear A130
       by_cases c14 : t207 = true
       ·subst c14
        have H1 : (if t206 > 1000 then (some (0, 0, false)) else (some (t203, t206, true))) = some (r1, r2, r3) := by rw [if_pos rfl] at H; exact H
        clear H
        have H := H1
        clear H1
        by_cases c15 : t206 > 1000
        ·rw [if_pos c15] at H
         have c15b0 : decide (1000 < t206) = true := decide_eq_true c15
         clear c15
         simp only [Option.some.injEq, Prod.mk.injEq] at H
         obtain ⟨rfl, rfl, rfl⟩ := H
         have p205 : 0 ≤ (1 : Int) := (by omega)
         have q205 : 1 < (t199.length : Int) := oa
         obtain ⟨ad205, e205, hx205_0⟩ := Kd.at_string (Kd.R_reads' HO_5.out).2.2 1 p205 q205
         obtain rfl : ad202 = ad205 := (by injection e205)
         (try simp only [show (1 : Int).toNat = 1 from rfl, Nat.reduceMul, Nat.reduceEqDiff, Go.Addr.add, ↓reduceIte] at hx205_0)
         have qi205 : (1 < t199.length) = True := eq_true (by omega)
         (try rw [show ((1 : Int)).toNat = 1 from rfl] at hx205_0)
         replace p205 := eq_true p205
         replace q205 := eq_true q205
         go_wp2_with (first | ((with_reducible refine gateC (f := 15) rfl ?_); refine goesL_ (some 39) rfl rfl Tryd.func15 (by kernel_rfl) rfl #[.string (rdOf ByteArray.empty t199 1)] rfl zm ?_; (with_reducible refine (spec_ReadNumber.calls kj4 (rdOf ByteArray.empty t199 1) t206 true _ A13.out).mono ?_); rintro e w' ⟨rfl, ⟨nd, rfl⟩⟩; refine ⟨_, rfl, ?_⟩))
         go_ret3
         exact ⟨by first | rfl | (simp [errW_none, errW_some] <;> rfl) | (simp [*, errW_none, errW_some] <;> rfl), by repeat (first | (with_reducible first | exact HB.out | apply below_alloc | apply pw_below_drewN | apply below_drew1) | exact HB.out)⟩
        ·rw [if_neg c15] at H
         have c15b0 : decide (1000 < t206) = false := decide_eq_false c15
         clear c15
         simp only [Option.some.injEq, Prod.mk.injEq] at H
         obtain ⟨rfl, rfl, rfl⟩ := H
         have p205 : 0 ≤ (1 : Int) := (by omega)
         have q205 : 1 < (t199.length : Int) := oa
         obtain ⟨ad205, e205, hx205_0⟩ := Kd.at_string (Kd.R_reads' HO_5.out).2.2 1 p205 q205
         obtain rfl : ad202 = ad205 := (by injection e205)
         (try simp only [show (1 : Int).toNat = 1 from rfl, Nat.reduceMul, Nat.reduceEqDiff, Go.Addr.add, ↓reduceIte] at hx205_0)
         have qi205 : (1 < t199.length) = True := eq_true (by omega)
         (try rw [show ((1 : Int)).toNat = 1 from rfl] at hx205_0)
         replace p205 := eq_true p205
         replace q205 := eq_true q205
         go_wp2_with (first | ((with_reducible refine gateC (f := 15) rfl ?_); refine goesL_ (some 39) rfl rfl Tryd.func15 (by kernel_rfl) rfl #[.string (rdOf ByteArray.empty t199 1)] rfl zm ?_; (with_reducible refine (spec_ReadNumber.calls kj4 (rdOf ByteArray.empty t199 1) t206 true _ A13.out).mono ?_); rintro e w' ⟨rfl, ⟨nd, rfl⟩⟩; refine ⟨_, rfl, ?_⟩))
         go_ret3
         exact ⟨by first | rfl | (simp [errW_none, errW_some] <;> rfl) | (simp [*, errW_none, errW_some] <;> rfl), by repeat (first | (with_reducible first | exact HB.out | apply below_alloc | apply pw_below_drewN | apply below_drew1) | exact HB.out)⟩
       ·replace c14 := Bool.eq_false_iff.mpr c14
        subst c14
        have H1 : (some (0, 0, false)) = some (r1, r2, r3) := by rw [if_neg (show ¬ (false = true) by decide)] at H; exact H
        clear H
        have H := H1
        clear H1
        simp only [Option.some.injEq, Prod.mk.injEq] at H
        obtain ⟨rfl, rfl, rfl⟩ := H
        have p205 : 0 ≤ (1 : Int) := (by omega)
        have q205 : 1 < (t199.length : Int) := oa
        obtain ⟨ad205, e205, hx205_0⟩ := Kd.at_string (Kd.R_reads' HO_5.out).2.2 1 p205 q205
        obtain rfl : ad202 = ad205 := (by injection e205)
        (try simp only [show (1 : Int).toNat = 1 from rfl, Nat.reduceMul, Nat.reduceEqDiff, Go.Addr.add, ↓reduceIte] at hx205_0)
        have qi205 : (1 < t199.length) = True := eq_true (by omega)
        (try rw [show ((1 : Int)).toNat = 1 from rfl] at hx205_0)
        replace p205 := eq_true p205
        replace q205 := eq_true q205
        go_wp2_with (first | ((with_reducible refine gateC (f := 15) rfl ?_); refine goesL_ (some 39) rfl rfl Tryd.func15 (by kernel_rfl) rfl #[.string (rdOf ByteArray.empty t199 1)] rfl zm ?_; (with_reducible refine (spec_ReadNumber.calls kj4 (rdOf ByteArray.empty t199 1) t206 false _ A13.out).mono ?_); rintro e w' ⟨rfl, ⟨nd, rfl⟩⟩; refine ⟨_, rfl, ?_⟩))
        go_ret3
        exact ⟨by first | rfl | (simp [errW_none, errW_some] <;> rfl) | (simp [*, errW_none, errW_some] <;> rfl), by repeat (first | (with_reducible first | exact HB.out | apply below_alloc | apply pw_below_drewN | apply below_drew1) | exact HB.out)⟩
      ·rw [if_neg c12] at H
       exact absurd H (by simp)
 ·rw [if_neg c3] at H
  exact absurd H (by simp)

end Go.Proofs.YtfmbpldjbmhnnaaDoor.My

/- Written by this session's program (wip/gen): a plain function with the same answers as the Go function, and the proof that the Go code comes to them. Asked: that the plain function has an answer. -/
namespace Go.Proofs.YtfmbpldjbmhnnaaDoor.My
open Go.RowKit Go.Proofs.YtfmbpldjbmhnnaaDoorW.PrintWords Go.Proofs.YtfmbpldjbmhnnaaDoorW.PrintLast Go.Proofs.YtfmbpldjbmhnnaaDoorW.PrintMore
attribute [local go_sem] max2_int min2_int max_two min_two max_three min_three max_four min_four
set_option linter.unusedVariables false
set_option linter.unusedSimpArgs false

/-! ### spec_ReadPair: function 24 -/
def spec_ReadPair.f (k : Nat) (a0 : ByteArray) : Option (Int × Int × Bool) := (spec_l4Two.f k a0).bind fun bt238 => (if bt238.2.2 = true then (if bt238.1 > bt238.2.1 then (some (0, 0, false)) else (some (bt238.1, bt238.2.1, true))) else (some (0, 0, false)))
set_option maxHeartbeats 8000000 in
set_option maxRecDepth 100000 in
theorem spec_ReadPair.calls (k : Nat) (a0 : ByteArray) (r1 : Int) (r2 : Int) (r3 : Bool) (w : World) (h : spec_ReadPair.f k a0 = some (r1, r2, r3)) :
  Calls Tryd.prog 24 #[.string a0] w fun e w' => e = .returned (.tuple #[.int .i64 r1, .int .i64 r2, .bool r3]) ∧ Below w.heap.size w w' := by
 have HB := Aside0.mk (Below.refl w.heap.size w)
 have H : ((spec_l4Two.f k a0).bind fun bt238 => (if bt238.2.2 = true then (if bt238.1 > bt238.2.1 then (some (0, 0, false)) else (some (bt238.1, bt238.2.1, true))) else (some (0, 0, false)))) = some (r1, r2, r3) := h
 clear h
 replace H := Option.bind_eq_some_iff.mp H
 obtain ⟨⟨t238, t239, t240⟩, A20, H⟩ := H
 replace H : (if t240 = true then (if t238 > t239 then (some (0, 0, false)) else (some (t238, t239, true))) else (some (0, 0, false))) = some (r1, r2, r3) := H
 have A2 := Aside0.mk A20
 clear A20
 by_cases c3 : t240 = true
 ·subst c3
  have H1 : (if t238 > t239 then (some (0, 0, false)) else (some (t238, t239, true))) = some (r1, r2, r3) := by rw [if_pos rfl] at H; exact H
  clear H
  have H := H1
  clear H1
  by_cases c4 : t238 > t239
  ·rw [if_pos c4] at H
   have c4b0 : decide (t239 < t238) = true := decide_eq_true c4
   clear c4
   simp only [Option.some.injEq, Prod.mk.injEq] at H
   obtain ⟨rfl, rfl, rfl⟩ := H
   go_enter Tryd.func24, Tryd.ntmps24
   go_wp2_with (first | ((with_reducible refine gateC (f := 52) rfl ?_); refine goesL_ (some 10) rfl rfl Tryd.func52 (by kernel_rfl) rfl #[.string a0] rfl zm ?_; (with_reducible refine (spec_l4Two.calls k a0 t238 t239 true _ A2.out).mono ?_); rintro e w5 ⟨rfl, hb⟩; refine ⟨_, rfl, ?_⟩; have n0_ := Aside0.mk (below_step zb hb); clear HB; have HB := n0_; clear n0_; (try clear hb); (try clear hb2); (try clear hk); (try clear hi)))
   go_ret3
   exact ⟨by first | rfl | (simp [errW_none, errW_some] <;> rfl) | (simp [*, errW_none, errW_some] <;> rfl), by repeat (first | (with_reducible first | exact HB.out | apply below_alloc | apply pw_below_drewN | apply below_drew1) | exact HB.out)⟩
  ·rw [if_neg c4] at H
   have c4b0 : decide (t239 < t238) = false := decide_eq_false c4
   clear c4
   simp only [Option.some.injEq, Prod.mk.injEq] at H
   obtain ⟨rfl, rfl, rfl⟩ := H
   go_enter Tryd.func24, Tryd.ntmps24
   go_wp2_with (first | ((with_reducible refine gateC (f := 52) rfl ?_); refine goesL_ (some 10) rfl rfl Tryd.func52 (by kernel_rfl) rfl #[.string a0] rfl zm ?_; (with_reducible refine (spec_l4Two.calls k a0 t238 t239 true _ A2.out).mono ?_); rintro e w6 ⟨rfl, hb⟩; refine ⟨_, rfl, ?_⟩; have n0_ := Aside0.mk (below_step zb hb); clear HB; have HB := n0_; clear n0_; (try clear hb); (try clear hb2); (try clear hk); (try clear hi)))
   go_ret3
   exact ⟨by first | rfl | (simp [errW_none, errW_some] <;> rfl) | (simp [*, errW_none, errW_some] <;> rfl), by repeat (first | (with_reducible first | exact HB.out | apply below_alloc | apply pw_below_drewN | apply below_drew1) | exact HB.out)⟩
 ·replace c3 := Bool.eq_false_iff.mpr c3
  subst c3
  have H1 : (some (0, 0, false)) = some (r1, r2, r3) := by rw [if_neg (show ¬ (false = true) by decide)] at H; exact H
  clear H
  have H := H1
  clear H1
  simp only [Option.some.injEq, Prod.mk.injEq] at H
  obtain ⟨rfl, rfl, rfl⟩ := H
  go_enter Tryd.func24, Tryd.ntmps24
  go_wp2_with (first | ((with_reducible refine gateC (f := 52) rfl ?_); refine goesL_ (some 10) rfl rfl Tryd.func52 (by kernel_rfl) rfl #[.string a0] rfl zm ?_; (with_reducible refine (spec_l4Two.calls k a0 t238 t239 false _ A2.out).mono ?_); rintro e w7 ⟨rfl, hb⟩; refine ⟨_, rfl, ?_⟩; have n0_ := Aside0.mk (below_step zb hb); clear HB; have HB := n0_; clear n0_; (try clear hb); (try clear hb2); (try clear hk); (try clear hi)))
  go_ret3
  exact ⟨by first | rfl | (simp [errW_none, errW_some] <;> rfl) | (simp [*, errW_none, errW_some] <;> rfl), by repeat (first | (with_reducible first | exact HB.out | apply below_alloc | apply pw_below_drewN | apply below_drew1) | exact HB.out)⟩

end Go.Proofs.YtfmbpldjbmhnnaaDoor.My

/- Written by this session's program (wip/gen): a plain function with the same answers as the Go function, and the proof that the Go code comes to them. Asked: that the plain function has an answer. -/
namespace Go.Proofs.YtfmbpldjbmhnnaaDoor.My
open Go.RowKit Go.Proofs.YtfmbpldjbmhnnaaDoorW.PrintWords Go.Proofs.YtfmbpldjbmhnnaaDoorW.PrintLast Go.Proofs.YtfmbpldjbmhnnaaDoorW.PrintMore
attribute [local go_sem] max2_int min2_int max_two min_two max_three min_three max_four min_four
set_option linter.unusedVariables false
set_option linter.unusedSimpArgs false

/-! ### spec_ReadEnd: function 22 -/
def spec_ReadEnd.f (k : Nat) (a0 : ByteArray) : Option (Int × Int × Bool) := (spec_l4Two.f k a0).bind fun bt208 => (if bt208.2.2 = true then (if bt208.1 > (wrap64 (bt208.2.1 + 1)) then (some (0, 0, false)) else (some (bt208.1, bt208.2.1, true))) else (some (0, 0, false)))
set_option maxHeartbeats 8000000 in
set_option maxRecDepth 100000 in
theorem spec_ReadEnd.calls (k : Nat) (a0 : ByteArray) (r1 : Int) (r2 : Int) (r3 : Bool) (w : World) (h : spec_ReadEnd.f k a0 = some (r1, r2, r3)) :
  Calls Tryd.prog 22 #[.string a0] w fun e w' => e = .returned (.tuple #[.int .i64 r1, .int .i64 r2, .bool r3]) ∧ Below w.heap.size w w' := by
 have HB := Aside0.mk (Below.refl w.heap.size w)
 have H : ((spec_l4Two.f k a0).bind fun bt208 => (if bt208.2.2 = true then (if bt208.1 > (wrap64 (bt208.2.1 + 1)) then (some (0, 0, false)) else (some (bt208.1, bt208.2.1, true))) else (some (0, 0, false)))) = some (r1, r2, r3) := h
 clear h
 replace H := Option.bind_eq_some_iff.mp H
 obtain ⟨⟨t208, t209, t210⟩, A20, H⟩ := H
 replace H : (if t210 = true then (if t208 > (wrap64 (t209 + 1)) then (some (0, 0, false)) else (some (t208, t209, true))) else (some (0, 0, false))) = some (r1, r2, r3) := H
 have A2 := Aside0.mk A20
 clear A20
 by_cases c3 : t210 = true
 ·subst c3
  have H1 : (if t208 > (wrap64 (t209 + 1)) then (some (0, 0, false)) else (some (t208, t209, true))) = some (r1, r2, r3) := by rw [if_pos rfl] at H; exact H
  clear H
  have H := H1
  clear H1
  by_cases c4 : t208 > (wrap64 (t209 + 1))
  ·rw [if_pos c4] at H
   have c4b0 : decide ((wrap64 (t209 + 1)) < t208) = true := decide_eq_true c4
   clear c4
   simp only [Option.some.injEq, Prod.mk.injEq] at H
   obtain ⟨rfl, rfl, rfl⟩ := H
   go_enter Tryd.func22, Tryd.ntmps22
   go_wp2_with (first | ((with_reducible refine gateC (f := 52) rfl ?_); refine goesL_ (some 10) rfl rfl Tryd.func52 (by kernel_rfl) rfl #[.string a0] rfl zm ?_; (with_reducible refine (spec_l4Two.calls k a0 t208 t209 true _ A2.out).mono ?_); rintro e w5 ⟨rfl, hb⟩; refine ⟨_, rfl, ?_⟩; have n0_ := Aside0.mk (below_step zb hb); clear HB; have HB := n0_; clear n0_; (try clear hb); (try clear hb2); (try clear hk); (try clear hi)))
   go_ret3
   exact ⟨by first | rfl | (simp [errW_none, errW_some] <;> rfl) | (simp [*, errW_none, errW_some] <;> rfl), by repeat (first | (with_reducible first | exact HB.out | apply below_alloc | apply pw_below_drewN | apply below_drew1) | exact HB.out)⟩
  ·rw [if_neg c4] at H
   have c4b0 : decide ((wrap64 (t209 + 1)) < t208) = false := decide_eq_false c4
   clear c4
   simp only [Option.some.injEq, Prod.mk.injEq] at H
   obtain ⟨rfl, rfl, rfl⟩ := H
   go_enter Tryd.func22, Tryd.ntmps22
   go_wp2_with (first | ((with_reducible refine gateC (f := 52) rfl ?_); refine goesL_ (some 10) rfl rfl Tryd.func52 (by kernel_rfl) rfl #[.string a0] rfl zm ?_; (with_reducible refine (spec_l4Two.calls k a0 t208 t209 true _ A2.out).mono ?_); rintro e w6 ⟨rfl, hb⟩; refine ⟨_, rfl, ?_⟩; have n0_ := Aside0.mk (below_step zb hb); clear HB; have HB := n0_; clear n0_; (try clear hb); (try clear hb2); (try clear hk); (try clear hi)))
   go_ret3
   exact ⟨by first | rfl | (simp [errW_none, errW_some] <;> rfl) | (simp [*, errW_none, errW_some] <;> rfl), by repeat (first | (with_reducible first | exact HB.out | apply below_alloc | apply pw_below_drewN | apply below_drew1) | exact HB.out)⟩
 ·replace c3 := Bool.eq_false_iff.mpr c3
  subst c3
  have H1 : (some (0, 0, false)) = some (r1, r2, r3) := by rw [if_neg (show ¬ (false = true) by decide)] at H; exact H
  clear H
  have H := H1
  clear H1
  simp only [Option.some.injEq, Prod.mk.injEq] at H
  obtain ⟨rfl, rfl, rfl⟩ := H
  go_enter Tryd.func22, Tryd.ntmps22
  go_wp2_with (first | ((with_reducible refine gateC (f := 52) rfl ?_); refine goesL_ (some 10) rfl rfl Tryd.func52 (by kernel_rfl) rfl #[.string a0] rfl zm ?_; (with_reducible refine (spec_l4Two.calls k a0 t208 t209 false _ A2.out).mono ?_); rintro e w7 ⟨rfl, hb⟩; refine ⟨_, rfl, ?_⟩; have n0_ := Aside0.mk (below_step zb hb); clear HB; have HB := n0_; clear n0_; (try clear hb); (try clear hb2); (try clear hk); (try clear hi)))
  go_ret3
  exact ⟨by first | rfl | (simp [errW_none, errW_some] <;> rfl) | (simp [*, errW_none, errW_some] <;> rfl), by repeat (first | (with_reducible first | exact HB.out | apply below_alloc | apply pw_below_drewN | apply below_drew1) | exact HB.out)⟩

end Go.Proofs.YtfmbpldjbmhnnaaDoor.My
