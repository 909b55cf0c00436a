/- Texts taken together: WInv, WInvWords, WGuard, WNEv, WMore, PRangesTurnx0, PrintA, Awake03, Version, Within, Version2. -/
import Derived.Test.YtiggnmhoececfaaGreatDoorT2
import Derived.Test.YtiggnmhoececfaaGreatDoorT3
import Derived.Test.YtiggnmhoececfaaGreatDoorProg
import Derived.Below
import Derived.Deep.Draws
import Derived.Deep.AppendLies
import Derived.Maps.AppendAt
import Derived.OwnWalk
import Derived.Laws.BytesArg
import Derived.Laws.MakeOwn
import Derived.Laws.OwnMore
import Derived.Deep.OwnRows
import Derived.Tactics
import Derived.Lib.ConvBytes
import Derived.Laws.Slices
import Derived.WalkKit
import Derived.KernelRfl
import Derived.RowKit3
import Derived.Deep.LoopGhost
import Derived.Deep.QuietTactic
import Derived.BigQuiet
import Derived.WideLaws
import Derived.Deep.DeepCutAuto
import Derived.Deep.CutBlock
import Derived.Deep.RegionHeld3
import Derived.Laws.Rows
import Derived.Lib.AppendStr
import Derived.ArgAppend
import Derived.Laws.IdiomCopy
import Derived.OrdersHeld
import Derived.Laws.BitsLemmas
import Derived.RowKit
import Derived.WalkSpells
import Derived.Laws.CopyOwn
import Derived.Lib.QuietBelow
import Derived.RangeFuncNested
import Derived.RangeFuncBound
import Derived.RangeFuncCalls
import Derived.RangeFuncLeaves
import Derived.Shelf.Abstract
import Derived.Shelf.RegionOpen
import Derived.OwnWalkIn
import Derived.TacticsInMore
import Derived.LoopNIn
import Derived.LoopIn

namespace Go.Proofs.YtiggnmhoececfaaGreatDoorW.PrintLast
/-- Number i is listed too. -/
def up (b : Nat → Bool) (i : Nat) : Nat → Bool := fun j => if j = i then true else b j
/-- What is listed: O's operations by b, all else already. -/
def lof (n : Nat) (O : List Nat) (b : Nat → Bool) : List Bool := (List.range n).map fun j => if O.contains j then b j else true
/-- The destinations of what is listed are filled. -/
def putSel (a : Act) (b : Nat → Bool) : List (Nat × Tmp × Value) → Act
  | [] => a
  | e :: r => putSel (if b e.1 = true then a.put (some e.2.1) e.2.2 else a) b r
section
variable {P : Program} {ops : Array Oper} {Q : Exit → Act → World → Prop} {md : Region.Mode} {T : Bool × List (List Nat × List Nat)} {B : List Nat} {O : List Nat} {b : Nat → Bool} {i j n : Nat}
/-- The step of operation i: out of the relation, it not being listed, all it waits for being so, and nothing that waits for it. -/
def StepAt (P : Program) (ops : Array Oper) (Q : Exit → Act → World → Prop) (B : List Nat) (O : List Nat) (I : (Nat → Bool) → Act → World → Prop) (i : Nat) : Prop :=
  ∀ b a w, I b a w → b i = false → (∀ j, (O.contains j && (B.getD i 0).testBit j) = true → b j = true) → (∀ d, (O.contains d && (B.getD d 0).testBit i) = true → b d = false) →
    ∃ oi, ops[i]? = some oi ∧ ∀ K : Act → World → Prop, Shut (∀ a' w', I (up b i) a' w' → K a' w') → if Region.wanted oi (yielded ops a.tmps) = true then Oper.wp P oi a w K Q else K (a.put oi.dst undef) w
/-- Every edge goes to an earlier operation; what is listed already waits for nothing of O; O's numbers are the region's, each once. -/
def baseOk (T : List (List Nat × List Nat)) (O : List Nat) : Bool :=
  (List.range T.length).all (fun d => match T[d]? with
    | some r => (O.contains d || r.1.all fun n => !O.contains n) && r.1.all fun n => decide (n < d)
    | none => false) && O.all (fun i => decide (i < T.length)) && decide O.Nodup
def Closed (T : List (List Nat × List Nat)) (O : List Nat) (b : Nat → Bool) : Prop := ∀ d r, T[d]? = some r → O.contains d = true → b d = true → ∀ n ∈ r.1, O.contains n = true → b n = true
end
end Go.Proofs.YtiggnmhoececfaaGreatDoorW.PrintLast

namespace Go.Proofs.YtiggnmhoececfaaGreatDoorW.PrintWords
open Go.RowKit
end Go.Proofs.YtiggnmhoececfaaGreatDoorW.PrintWords
namespace Go.Proofs.YtiggnmhoececfaaGreatDoorW.PrintLast
section
variable {ops : Array Oper} {a : Act} {o og : Oper} {g : Nat} {t : Tmp} {u : Bool}
end
end Go.Proofs.YtiggnmhoececfaaGreatDoorW.PrintLast

namespace Go.Proofs.YtiggnmhoececfaaGreatDoorW.PrintWords
open Go.RowKit
section
variable {P : Program} {ops : Array Oper} {rest : List Oper} {o : Oper} {a : Act} {Q : Exit → Act → World → Prop} {W : World}
/-- The gate takes the guard off (hw: 'by rfl', 'by kernel_rfl': the guard's slot holds what is wanted). -/
theorem gate_guard (hw : Region.wanted o (yielded ops a.tmps) = true) (h : wpList P ops Q ({ o with guard := none } :: rest) a W) : wpList P ops Q (o :: rest) a W := by
  have h1 : Region.wanted { o with guard := none } (yielded ops a.tmps) = true := rfl
  unfold wpList at h ⊢
  rw [if_pos h1] at h
  rw [if_pos hw]
  exact h
end
end Go.Proofs.YtiggnmhoececfaaGreatDoorW.PrintWords

namespace Go.Proofs.YtiggnmhoececfaaGreatDoorW.PrintWords
open Go.RowKit
namespace Kd
section
variable {α : Type} {d : Kd α} {e base n cap g : Nat} {ok ok' okp : Nat → Prop} {w w1 W : World} {v v1 : Value} {xs ys : List α}
end
section
variable {P : Program} {ops : Array Oper} {rest : List Oper} {o : Oper} {a : Act} {Q : Exit → Act → World → Prop} {Kc : Act → World → Prop} {α : Type}
end
end Kd
end Go.Proofs.YtiggnmhoececfaaGreatDoorW.PrintWords

namespace Go.Proofs.YtiggnmhoececfaaGreatDoorW.PrintMore
open Go.RowKit Go.Proofs.YtiggnmhoececfaaGreatDoorW.PrintWords
namespace Kd
open Go.Proofs.YtiggnmhoececfaaGreatDoorW.PrintWords.Kd
end Kd

namespace Kd
open Go.Proofs.YtiggnmhoececfaaGreatDoorW.PrintWords.Kd
section
variable {α : Type} {d : Kd α} {e base g N : Nat} {ok : Nat → Prop} {W w1 : World} {u v : Value} {xs : List α}
end
end Kd
/-- 'max' and 'min' of two whole numbers. -/
theorem max2_int (k k' : IntKind) (x y : Int) : Builtin.max2 (.int k x) (.int k' y) = pure (.int k (if x < y then y else x)) := by simp only [Builtin.max2, gt_iff_lt]
theorem min2_int (k k' : IntKind) (x y : Int) : Builtin.min2 (.int k x) (.int k' y) = pure (.int k (if y < x then y else x)) := by simp only [Builtin.min2]
theorem max_two (ats : Array TypeId) (ty : TypeId) (a b : Value) : Builtin.max_ ats ty #[a, b] = (Builtin.max2 a b >>= fun s => pure s) := by simp only [Builtin.max_, List.foldlM_cons, List.foldlM_nil]
theorem min_two (ats : Array TypeId) (ty : TypeId) (a b : Value) : Builtin.min_ ats ty #[a, b] = (Builtin.min2 a b >>= fun s => pure s) := by simp only [Builtin.min_, List.foldlM_cons, List.foldlM_nil]
theorem max_three (ats : Array TypeId) (ty : TypeId) (a b c : Value) : Builtin.max_ ats ty #[a, b, c] = (Builtin.max2 a b >>= fun s => Builtin.max2 s c >>= fun s => pure s) := by simp only [Builtin.max_, List.foldlM_cons, List.foldlM_nil]
theorem min_three (ats : Array TypeId) (ty : TypeId) (a b c : Value) : Builtin.min_ ats ty #[a, b, c] = (Builtin.min2 a b >>= fun s => Builtin.min2 s c >>= fun s => pure s) := by simp only [Builtin.min_, List.foldlM_cons, List.foldlM_nil]
theorem max_four (ats : Array TypeId) (ty : TypeId) (a b c d : Value) : Builtin.max_ ats ty #[a, b, c, d] = (Builtin.max2 a b >>= fun s => Builtin.max2 s c >>= fun s => Builtin.max2 s d >>= fun s => pure s) := by simp only [Builtin.max_, List.foldlM_cons, List.foldlM_nil]
theorem min_four (ats : Array TypeId) (ty : TypeId) (a b c d : Value) : Builtin.min_ ats ty #[a, b, c, d] = (Builtin.min2 a b >>= fun s => Builtin.min2 s c >>= fun s => Builtin.min2 s d >>= fun s => pure s) := by simp only [Builtin.min_, List.foldlM_cons, List.foldlM_nil]
end Go.Proofs.YtiggnmhoececfaaGreatDoorW.PrintMore
namespace Go.Proofs.YtiggnmhoececfaaGreatDoorW.PrintWords
open Go.RowKit
section
variable {P : Program} {ops : Array Oper} {rest : List Oper} {o : Oper} {a : Act} {Q : Exit → Act → World → Prop} {W : World}
/-- The operation is a call of this function (a cheap look ahead of a dear step). -/
theorem gate_callee {f : FuncId} {as_ : Array Operand} {ts : Array TypeId} (_ho : o.op = .call { callee := .value (.func f), args := as_, argTypes := ts }) (h : wpList P ops Q (o :: rest) a W) : wpList P ops Q (o :: rest) a W := h
/-- The operation is a builtin over these places. -/
theorem gate_builtin {b : Builtin} {xs : Array Operand} {ts : Array TypeId} (_ho : o.op = .call { callee := .builtin b, args := xs, argTypes := ts }) (h : wpList P ops Q (o :: rest) a W) : wpList P ops Q (o :: rest) a W := h
end
/-- The greater of two whole numbers, as Go's max tells it. -/
def mx (a b : Int) : Int := if a < b then b else a
/-- The smaller of two whole numbers, as Go's min tells it. -/
def mn (a b : Int) : Int := if b < a then b else a
/-- A shift to the left, as Go tells it: a count beyond the width leaves nothing. -/
def shl (k : IntKind) (x y : Int) : Int := k.wrap (x * 2 ^ min y.toNat k.bits)
/-- A shift to the right: a count beyond the width leaves the sign. -/
def shr (k : IntKind) (x y : Int) : Int := x / 2 ^ min y.toNat k.bits
namespace Kd
section
variable {α : Type} {d : Kd α} {e base : Nat} {ok : Nat → Prop} {W w1 : World} {v : Value} {xs : List α}
end
section
variable {α : Type} {d : Kd α} {e base g n cap : Nat} {ok oki okp : Nat → Prop} {W : World} {xs : List α} {i : Int} {c : List Value}
end
section
variable {α : Type} {d : Kd α} {e base b b' g N : Nat} {ok ok1 : Nat → Prop} {W W2 w1 : World} {u v : Value} {xs ys : List α} {S : Nat → Prop}
end
end Kd
end Go.Proofs.YtiggnmhoececfaaGreatDoorW.PrintWords
namespace Go.Proofs.YtiggnmhoececfaaGreatDoorW.PrintWords
open Go.RowKit
namespace Kd
/-- A row that is only read, told by its value: its form, its length, what it leads to (in ok). e and base say nothing; they make it as the others are. -/
def V {α : Type} (d : Kd α) (_e : Nat) (W : World) (_base : Nat) (ok : Nat → Prop) (v : Value) (xs : List α) : Prop := ∃ A c, v = .slice A xs.length c ∧ xs.length ≤ c ∧ F d W ok A xs.length xs
section
variable {α β : Type} {d : Kd α} {e base base' n m c g N' lo hi : Nat} {ok ok' S : Nat → Prop} {w W w1 : World} {A : Option Addr} {ad : Addr} {u v v1 : Value} {xs : List α}
theorem V_nil (d : Kd α) (e : Nat) (W : World) (base : Nat) (ok : Nat → Prop) : V d e W base ok (.slice none 0 0) [] := ⟨none, 0, rfl, Nat.le_refl _, F_nil d W ok⟩
end
end Kd
end Go.Proofs.YtiggnmhoececfaaGreatDoorW.PrintWords

namespace Go.Proofs.YtiggnmhoececfaaGreatDoor.PRangesTurn
open Go.RowKit Go.Proofs.YtiggnmhoececfaaGreatDoorW.PrintWords Go.Proofs.YtiggnmhoececfaaGreatDoorW.PrintLast Go.Proofs.YtiggnmhoececfaaGreatDoorW.PrintMore
attribute [local go_sem] max2_int min2_int max_two min_two max_three min_three max_four min_four   -- for this text's walks alone
set_option linter.unusedVariables false
set_option linter.unusedSimpArgs false

def errW : Option Int → Value
  | none => .nilIface
  | some c => .iface 142 (.int .i64 c)
theorem errW_none : errW none = .nilIface := rfl
theorem errW_some (c : Int) : errW (some c) = .iface 142 (.int .i64 c) := rfl

theorem info3 : (Tryz.prog.info? 3).map (fun i => (i.zero, i.size, i.bytes)) = some (some (.int .i64 0), 1, 8) := by kernel_rfl
theorem info29 : (Tryz.prog.info? 29).map (fun i => (i.zero, i.size, i.bytes)) = some (some (.agg #[(.string ⟨#[]⟩), (.string ⟨#[]⟩), (.string ⟨#[]⟩), (.string ⟨#[]⟩), (.string ⟨#[]⟩), (.int .i64 0)]), 6, 88) := by kernel_rfl
-- the values' own types
/-! #### struct type 29 -/
structure S29 where
  f0 : ByteArray
  f1 : ByteArray
  f2 : ByteArray
  f3 : ByteArray
  f4 : ByteArray
  f5 : Int
def z29 : S29 := ⟨(⟨#[]⟩ : ByteArray), (⟨#[]⟩ : ByteArray), (⟨#[]⟩ : ByteArray), (⟨#[]⟩ : ByteArray), (⟨#[]⟩ : ByteArray), (0 : Int)⟩
def k29 : Kd S29 := Kd.iso (Kd.pair Kd.string (Kd.pair Kd.string (Kd.pair Kd.string (Kd.pair Kd.string (Kd.pair Kd.string (Kd.int .i64)))))) (fun x : S29 => (x.f0, x.f1, x.f2, x.f3, x.f4, x.f5))
theorem k29_open {w : World} {x : S29} {cs : List Value} (h : k29.K w x cs) : cs = [.string x.f0, .string x.f1, .string x.f2, .string x.f3, .string x.f4, .int .i64 x.f5] := by
  obtain ⟨_, _, rfl, rfl, ⟨_, _, rfl, rfl, ⟨_, _, rfl, rfl, ⟨_, _, rfl, rfl, ⟨_, _, rfl, rfl, rfl⟩⟩⟩⟩⟩ := h
  exact rfl
theorem k29_mk (w : World) (x : S29)  : k29.K w x [.string x.f0, .string x.f1, .string x.f2, .string x.f3, .string x.f4, .int .i64 x.f5] := ⟨[.string x.f0], [.string x.f1, .string x.f2, .string x.f3, .string x.f4, .int .i64 x.f5], rfl, rfl, ⟨[.string x.f1], [.string x.f2, .string x.f3, .string x.f4, .int .i64 x.f5], rfl, rfl, ⟨[.string x.f2], [.string x.f3, .string x.f4, .int .i64 x.f5], rfl, rfl, ⟨[.string x.f3], [.string x.f4, .int .i64 x.f5], rfl, rfl, ⟨[.string x.f4], [.int .i64 x.f5], rfl, rfl, rfl⟩⟩⟩⟩⟩
theorem k29_mkM (w : World) (base : Nat) (ok : Nat → Prop) (x : S29)  : k29.M w base ok x [.string x.f0, .string x.f1, .string x.f2, .string x.f3, .string x.f4, .int .i64 x.f5] := ⟨[.string x.f0], [.string x.f1, .string x.f2, .string x.f3, .string x.f4, .int .i64 x.f5], rfl, rfl, ⟨[.string x.f1], [.string x.f2, .string x.f3, .string x.f4, .int .i64 x.f5], rfl, rfl, ⟨[.string x.f2], [.string x.f3, .string x.f4, .int .i64 x.f5], rfl, rfl, ⟨[.string x.f3], [.string x.f4, .int .i64 x.f5], rfl, rfl, ⟨[.string x.f4], [.int .i64 x.f5], rfl, rfl, rfl⟩⟩⟩⟩⟩
def rd_T29 (xs : List S29) (i : Int) : S29 := xs.getD i.toNat z29
theorem at_T29 {w : World} {A : Option Addr} {n : Nat} {xs : List S29} (h : Kd.C k29 w A n xs) (i : Int) (h0 : 0 ≤ i) (h1 : i < n) : ∃ ad , A = some ad ∧ w.cell? (ad.add (i.toNat * 6)) = some (.string (rd_T29 xs i).f0) ∧ w.cell? ⟨(ad.add (i.toNat * 6)).block, (ad.add (i.toNat * 6)).off + 1, none⟩ = some (.string (rd_T29 xs i).f1) ∧ w.cell? ⟨(ad.add (i.toNat * 6)).block, (ad.add (i.toNat * 6)).off + 2, none⟩ = some (.string (rd_T29 xs i).f2) ∧ w.cell? ⟨(ad.add (i.toNat * 6)).block, (ad.add (i.toNat * 6)).off + 3, none⟩ = some (.string (rd_T29 xs i).f3) ∧ w.cell? ⟨(ad.add (i.toNat * 6)).block, (ad.add (i.toNat * 6)).off + 4, none⟩ = some (.string (rd_T29 xs i).f4) ∧ w.cell? ⟨(ad.add (i.toNat * 6)).block, (ad.add (i.toNat * 6)).off + 5, none⟩ = some (.int .i64 (rd_T29 xs i).f5) := by
  obtain ⟨ad, c, e, _, hK, hc0⟩ := Kd.C_get h z29 i h0 h1
  have hc : ∀ j u, c[j]? = some u → w.cell? (ad.add (i.toNat * 6 + j)) = some u := hc0
  obtain rfl := k29_open hK
  exact ⟨ad, e, hc 0 _ rfl, by rw [← add_field _ _ 1 (by omega)]; exact hc 1 _ rfl, by rw [← add_field _ _ 2 (by omega)]; exact hc 2 _ rfl, by rw [← add_field _ _ 3 (by omega)]; exact hc 3 _ rfl, by rw [← add_field _ _ 4 (by omega)]; exact hc 4 _ rfl, by rw [← add_field _ _ 5 (by omega)]; exact hc 5 _ rfl⟩

/-! #### struct type 23 -/
structure S23 where
  f0 : ByteArray
  f1 : ByteArray
  f2 : ByteArray
  f3 : ByteArray
  f4 : ByteArray
  f5 : Int
def z23 : S23 := ⟨(⟨#[]⟩ : ByteArray), (⟨#[]⟩ : ByteArray), (⟨#[]⟩ : ByteArray), (⟨#[]⟩ : ByteArray), (⟨#[]⟩ : ByteArray), (0 : Int)⟩
def k23 : Kd S23 := Kd.iso (Kd.pair Kd.string (Kd.pair Kd.string (Kd.pair Kd.string (Kd.pair Kd.string (Kd.pair Kd.string (Kd.int .i64)))))) (fun x : S23 => (x.f0, x.f1, x.f2, x.f3, x.f4, x.f5))
def rd_T23 (xs : List S23) (i : Int) : S23 := xs.getD i.toNat z23
end Go.Proofs.YtiggnmhoececfaaGreatDoor.PRangesTurn

namespace Go.Proofs.YtiggnmhoececfaaGreatDoor.PRef
open Go.Proofs.YtiggnmhoececfaaGreatDoor.PRangesTurn
open Go.RowKit Go.Proofs.YtiggnmhoececfaaGreatDoorW.PrintWords Go.Proofs.YtiggnmhoececfaaGreatDoorW.PrintLast Go.Proofs.YtiggnmhoececfaaGreatDoorW.PrintMore
attribute [local go_sem] max2_int min2_int max_two min_two max_three min_three max_four min_four   -- for this text's walks alone
set_option linter.unusedVariables false
set_option linter.unusedSimpArgs false

/-! ### digits_leap: function 89 -/
def digits_leap.f (a0 : Int) : Option (Bool) := if (Int.tmod a0 4) = 0 then (if (Int.tmod a0 100) = 0 then (some ((Int.tmod a0 400) == 0)) else (some true)) else (some false)
set_option maxHeartbeats 8000000 in
set_option maxRecDepth 100000 in
theorem digits_leap.calls (a0 : Int) (r : Bool) (w : World) (h : digits_leap.f a0 = some r) :
    Calls Tryz.prog 89 #[.int .i64 a0] w fun e w' => e = .returned (.bool r) ∧ Drawn0 w w' := by
  have H : (if (Int.tmod a0 4) = 0 then (if (Int.tmod a0 100) = 0 then (some ((Int.tmod a0 400) == 0)) else (some true)) else (some false)) = some r := h
  clear h
  by_cases c2 : (Int.tmod a0 4) = 0
  · rw [if_pos c2] at H
    have c2b0 : ((Int.tmod a0 4) == 0) = true := beq_iff_eq.mpr c2
    have c2b1 : ((Int.tmod a0 4) != 0) = false := bne_eq_false_iff_eq.mpr c2
    clear c2
    by_cases c3 : (Int.tmod a0 100) = 0
    · rw [if_pos c3] at H
      have c3b0 : ((Int.tmod a0 100) == 0) = true := beq_iff_eq.mpr c3
      have c3b1 : ((Int.tmod a0 100) != 0) = false := bne_eq_false_iff_eq.mpr c3
      clear c3
      obtain rfl := Option.some.inj H
      go_enter Tryz.func89, Tryz.ntmps89
      go_wp2
      go_ret
      exact ⟨by first | rfl | (simp; done) | (simp [*]; done), by repeat (first | exact Drawn0.refl _ | apply Drawn0.step)⟩
    · rw [if_neg c3] at H
      have c3b0 : ((Int.tmod a0 100) == 0) = false := beq_eq_false_iff_ne.mpr c3
      have c3b1 : ((Int.tmod a0 100) != 0) = true := bne_iff_ne.mpr c3
      obtain rfl := Option.some.inj H
      go_enter Tryz.func89, Tryz.ntmps89
      go_wp2
      go_ret
      exact ⟨by first | rfl | (simp; done) | (simp [*]; done), by repeat (first | exact Drawn0.refl _ | apply Drawn0.step)⟩
  · rw [if_neg c2] at H
    have c2b0 : ((Int.tmod a0 4) == 0) = false := beq_eq_false_iff_ne.mpr c2
    have c2b1 : ((Int.tmod a0 4) != 0) = true := bne_iff_ne.mpr c2
    obtain rfl := Option.some.inj H
    go_enter Tryz.func89, Tryz.ntmps89
    go_wp2
    go_ret
    exact ⟨by first | rfl | (simp; done) | (simp [*]; done), by repeat (first | exact Drawn0.refl _ | apply Drawn0.step)⟩

/-! ### digits_Days: function 78 -/
mutual
def digits_Days.j0 : Nat → Int → Int → Bool → Option (Int)
  | 0, _, _, _ => none
  | k + 1, x0, x1, x10 => if x10 = true then (some 0) else (if x1 = 1 then (digits_Days.j1 k x0 x1 (x1 == 1)) else (if x1 = 3 then (digits_Days.j1 k x0 x1 (x1 == 3)) else (if x1 = 5 then (digits_Days.j1 k x0 x1 (x1 == 5)) else (if x1 = 7 then (digits_Days.j1 k x0 x1 (x1 == 7)) else (if x1 = 8 then (digits_Days.j1 k x0 x1 (x1 == 8)) else (if x1 = 10 then (digits_Days.j1 k x0 x1 (x1 == 10)) else (digits_Days.j1 k x0 x1 (x1 == 12))))))))
def digits_Days.j1 : Nat → Int → Int → Bool → Option (Int)
  | 0, _, _, _ => none
  | k + 1, x0, x11, x12 => if x12 = true then (some 31) else (if x11 = 4 then (digits_Days.j2 k x0 x11 (x11 == 4)) else (if x11 = 6 then (digits_Days.j2 k x0 x11 (x11 == 6)) else (if x11 = 9 then (digits_Days.j2 k x0 x11 (x11 == 9)) else (digits_Days.j2 k x0 x11 (x11 == 11)))))
def digits_Days.j2 : Nat → Int → Int → Bool → Option (Int)
  | 0, _, _, _ => none
  | k + 1, x0, x11, x20 => if x20 = true then (some 30) else (if x11 = 2 then ((digits_leap.f x0).bind fun t152 => (if t152 = true then (some 29) else (some 28))) else (some 0))
end
def digits_Days.f (k : Nat) (a0 : Int) (a1 : Int) : Option (Int) := if a0 < 0 then (digits_Days.j0 k a0 a1 true) else (digits_Days.j0 k a0 a1 (decide (a0 > 9999)))
theorem digits_Days.mono_l : ∀ k, (∀ y0 y1 y2, LeO (digits_Days.j0 k y0 y1 y2) (digits_Days.j0 (k + 1) y0 y1 y2)) ∧ (∀ y0 y1 y2, LeO (digits_Days.j1 k y0 y1 y2) (digits_Days.j1 (k + 1) y0 y1 y2)) ∧ (∀ y0 y1 y2, LeO (digits_Days.j2 k y0 y1 y2) (digits_Days.j2 (k + 1) y0 y1 y2))
  | 0 => ⟨fun _ _ _ r h => by simp [digits_Days.j0] at h, fun _ _ _ r h => by simp [digits_Days.j1] at h, fun _ _ _ r h => by simp [digits_Days.j2] at h⟩
  | k + 1 => by
    obtain ⟨ih0, ih1, ih2⟩ := digits_Days.mono_l k
    refine ⟨?_, ?_, ?_⟩
    · intro y0 y1 y2
      unfold digits_Days.j0
      repeat' first
      | (with_reducible exact ih0 _ _ _)
      | (with_reducible exact ih1 _ _ _)
      | (with_reducible exact ih2 _ _ _)
      | (with_reducible exact LeO.refl _)
      | (with_reducible exact LeO.none _)
      | (with_reducible refine LeO.ite ?_ ?_)
      | (with_reducible refine LeO.bind ?_ (fun _ => ?_))
      | exact ih0 _ _ _
      | exact ih1 _ _ _
      | exact ih2 _ _ _
      | exact LeO.none _
      | refine LeO.ite ?_ ?_
      | refine LeO.bind ?_ (fun _ => ?_)
    · intro y0 y1 y2
      unfold digits_Days.j1
      repeat' first
      | (with_reducible exact ih0 _ _ _)
      | (with_reducible exact ih1 _ _ _)
      | (with_reducible exact ih2 _ _ _)
      | (with_reducible exact LeO.refl _)
      | (with_reducible exact LeO.none _)
      | (with_reducible refine LeO.ite ?_ ?_)
      | (with_reducible refine LeO.bind ?_ (fun _ => ?_))
      | exact ih0 _ _ _
      | exact ih1 _ _ _
      | exact ih2 _ _ _
      | exact LeO.none _
      | refine LeO.ite ?_ ?_
      | refine LeO.bind ?_ (fun _ => ?_)
    · intro y0 y1 y2
      unfold digits_Days.j2
      repeat' first
      | (with_reducible exact ih0 _ _ _)
      | (with_reducible exact ih1 _ _ _)
      | (with_reducible exact ih2 _ _ _)
      | (with_reducible exact LeO.refl _)
      | (with_reducible exact LeO.none _)
      | (with_reducible refine LeO.ite ?_ ?_)
      | (with_reducible refine LeO.bind ?_ (fun _ => ?_))
      | exact ih0 _ _ _
      | exact ih1 _ _ _
      | exact ih2 _ _ _
      | exact LeO.none _
      | refine LeO.ite ?_ ?_
      | refine LeO.bind ?_ (fun _ => ?_)
theorem digits_Days.mono : ∀ a0 a1 k, LeO (digits_Days.f k a0 a1) (digits_Days.f (k + 1) a0 a1) := by
  intro a0 a1 k
  obtain ⟨ih0, ih1, ih2⟩ := digits_Days.mono_l k
  unfold digits_Days.f
  repeat' first
      | (with_reducible exact ih0 _ _ _)
      | (with_reducible exact ih1 _ _ _)
      | (with_reducible exact ih2 _ _ _)
      | (with_reducible exact LeO.refl _)
      | (with_reducible exact LeO.none _)
      | (with_reducible refine LeO.ite ?_ ?_)
      | (with_reducible refine LeO.bind ?_ (fun _ => ?_))
      | exact ih0 _ _ _
      | exact ih1 _ _ _
      | exact ih2 _ _ _
      | exact LeO.none _
      | refine LeO.ite ?_ ?_
      | refine LeO.bind ?_ (fun _ => ?_)
set_option maxHeartbeats 8000000 in
set_option maxRecDepth 100000 in
theorem digits_Days.calls (k : Nat) (a0 : Int) (a1 : Int) (r : Int) (w : World) (h : digits_Days.f k a0 a1 = some r) :
    Calls Tryz.prog 78 #[.int .i64 a0, .int .i64 a1] w fun e w' => e = .returned (.int .i64 r) ∧ Drawn0 w w' := by
  have H : (if a0 < 0 then (digits_Days.j0 k a0 a1 true) else (digits_Days.j0 k a0 a1 (decide (a0 > 9999)))) = some r := h
  clear h
  have HC3 := Aside0.mk H
  clear H
  go_enter Tryz.func78, Tryz.ntmps78
  go_upto_region 1 with (fail)
  go_cut [10] (fun v10 wc => ∃ (kq : Nat) (x10_2 : Bool), v10 = .bool x10_2 ∧ Aside0 (digits_Days.j0 kq a0 a1 x10_2 = some r) ∧ Aside0 (kq ≤ k) ∧ Drawn0 w wc)
  case first =>
    have H := HC3.out
    clear HC3
    by_cases c4 : a0 < 0
    · rw [if_pos c4] at H
      have c4b0 : decide (a0 < 0) = true := decide_eq_true c4
      clear c4
      (first | rw [c4b0] | (simp only [i64_w, i32_w]; rw [c4b0]) | skip)
      have H' := Aside0.mk H
      clear H
      go_wp2
      go_meet
      case rel => exact ⟨_, (true), (by first | rfl | (simp; done) | (simp [*]; done)), H', ⟨by first | omega | exact Nat.le_refl _⟩, by repeat (first | exact Drawn0.refl _ | apply Drawn0.step)⟩
    · rw [if_neg c4] at H
      have c4b0 : decide (a0 < 0) = false := decide_eq_false c4
      clear c4
      (first | rw [c4b0] | (simp only [i64_w, i32_w]; rw [c4b0]) | skip)
      have H' := Aside0.mk H
      clear H
      go_wp2
      go_meet
      case rel => exact ⟨_, (decide (a0 > 9999)), (by first | rfl | (simp; done) | (simp [*]; done)), H', ⟨by first | omega | exact Nat.le_refl _⟩, by repeat (first | exact Drawn0.refl _ | apply Drawn0.step)⟩
  case rest =>
    clear HC3
    try clear p2
    try clear c4
    try clear c4b0
    obtain ⟨kq, x10_2, rfl, HA, HJ2, ⟨mc2, rfl⟩⟩ := hcut
    cases kq with
    | zero => exact absurd HA.out (by simp [digits_Days.j0])
    | succ kj2 =>
      have H := HA.out
      clear HA
      simp only [digits_Days.j0] at H
      by_cases c5 : x10_2 = true
      · subst c5
        have H1 : (some 0) = some r := by rw [if_pos rfl] at H; exact H
        clear H
        have H := H1
        clear H1
        obtain rfl := Option.some.inj H
        go_wp2
        go_ret
        exact ⟨by first | rfl | (simp; done) | (simp [*]; done), by repeat (first | exact Drawn0.refl _ | apply Drawn0.step)⟩
      · replace c5 := Bool.eq_false_iff.mpr c5
        subst c5
        have H1 : (if a1 = 1 then (digits_Days.j1 kj2 a0 a1 (a1 == 1)) else (if a1 = 3 then (digits_Days.j1 kj2 a0 a1 (a1 == 3)) else (if a1 = 5 then (digits_Days.j1 kj2 a0 a1 (a1 == 5)) else (if a1 = 7 then (digits_Days.j1 kj2 a0 a1 (a1 == 7)) else (if a1 = 8 then (digits_Days.j1 kj2 a0 a1 (a1 == 8)) else (if a1 = 10 then (digits_Days.j1 kj2 a0 a1 (a1 == 10)) else (digits_Days.j1 kj2 a0 a1 (a1 == 12)))))))) = some r := by rw [if_neg (show ¬ (false = true) by decide)] at H; exact H
        clear H
        have H := H1
        clear H1
        have HC6 := Aside0.mk H
        clear H
        go_upto_if 12 with (fail)
        go_cut [12] (fun v12 wc => ∃ (kq : Nat) (x12_5 : Bool), v12 = .bool x12_5 ∧ Aside0 (digits_Days.j1 kq a0 a1 x12_5 = some r) ∧ Aside0 (kq ≤ kj2) ∧ Drawn0 w wc)
        case first =>
          have H := HC6.out
          clear HC6
          by_cases c7 : a1 = 1
          · rw [if_pos c7] at H
            have c7b0 : (a1 == 1) = true := beq_iff_eq.mpr c7
            have c7b1 : (a1 != 1) = false := bne_eq_false_iff_eq.mpr c7
            clear c7
            (first | rw [c7b0] | (simp only [i64_w, i32_w]; rw [c7b0]) | skip)
            have H' := Aside0.mk H
            clear H
            go_wp2
            go_meet
            case rel => exact ⟨_, ((a1 == 1)), (by first | rfl | (simp; done) | (simp [*]; done)), H', ⟨by have := HJ2.out; first | omega | exact Nat.le_refl _⟩, by repeat (first | exact Drawn0.refl _ | apply Drawn0.step)⟩
          · rw [if_neg c7] at H
            have c7b0 : (a1 == 1) = false := beq_eq_false_iff_ne.mpr c7
            have c7b1 : (a1 != 1) = true := bne_iff_ne.mpr c7
            (first | rw [c7b0] | (simp only [i64_w, i32_w]; rw [c7b0]) | skip)
            by_cases c8 : a1 = 3
            · rw [if_pos c8] at H
              have c8b0 : (a1 == 3) = true := beq_iff_eq.mpr c8
              have c8b1 : (a1 != 3) = false := bne_eq_false_iff_eq.mpr c8
              clear c8
              have H' := Aside0.mk H
              clear H
              go_wp2
              go_meet
              case rel => exact ⟨_, ((a1 == 3)), (by first | rfl | (simp; done) | (simp [*]; done)), H', ⟨by have := HJ2.out; first | omega | exact Nat.le_refl _⟩, by repeat (first | exact Drawn0.refl _ | apply Drawn0.step)⟩
            · rw [if_neg c8] at H
              have c8b0 : (a1 == 3) = false := beq_eq_false_iff_ne.mpr c8
              have c8b1 : (a1 != 3) = true := bne_iff_ne.mpr c8
              by_cases c9 : a1 = 5
              · rw [if_pos c9] at H
                have c9b0 : (a1 == 5) = true := beq_iff_eq.mpr c9
                have c9b1 : (a1 != 5) = false := bne_eq_false_iff_eq.mpr c9
                clear c9
                have H' := Aside0.mk H
                clear H
                go_wp2
                go_meet
                case rel => exact ⟨_, ((a1 == 5)), (by first | rfl | (simp; done) | (simp [*]; done)), H', ⟨by have := HJ2.out; first | omega | exact Nat.le_refl _⟩, by repeat (first | exact Drawn0.refl _ | apply Drawn0.step)⟩
              · rw [if_neg c9] at H
                have c9b0 : (a1 == 5) = false := beq_eq_false_iff_ne.mpr c9
                have c9b1 : (a1 != 5) = true := bne_iff_ne.mpr c9
                by_cases c10 : a1 = 7
                · rw [if_pos c10] at H
                  have c10b0 : (a1 == 7) = true := beq_iff_eq.mpr c10
                  have c10b1 : (a1 != 7) = false := bne_eq_false_iff_eq.mpr c10
                  clear c10
                  have H' := Aside0.mk H
                  clear H
                  go_wp2
                  go_meet
                  case rel => exact ⟨_, ((a1 == 7)), (by first | rfl | (simp; done) | (simp [*]; done)), H', ⟨by have := HJ2.out; first | omega | exact Nat.le_refl _⟩, by repeat (first | exact Drawn0.refl _ | apply Drawn0.step)⟩
                · rw [if_neg c10] at H
                  have c10b0 : (a1 == 7) = false := beq_eq_false_iff_ne.mpr c10
                  have c10b1 : (a1 != 7) = true := bne_iff_ne.mpr c10
                  by_cases c11 : a1 = 8
                  · rw [if_pos c11] at H
                    have c11b0 : (a1 == 8) = true := beq_iff_eq.mpr c11
                    have c11b1 : (a1 != 8) = false := bne_eq_false_iff_eq.mpr c11
                    clear c11
                    have H' := Aside0.mk H
                    clear H
                    go_wp2
                    go_meet
                    case rel => exact ⟨_, ((a1 == 8)), (by first | rfl | (simp; done) | (simp [*]; done)), H', ⟨by have := HJ2.out; first | omega | exact Nat.le_refl _⟩, by repeat (first | exact Drawn0.refl _ | apply Drawn0.step)⟩
                  · rw [if_neg c11] at H
                    have c11b0 : (a1 == 8) = false := beq_eq_false_iff_ne.mpr c11
                    have c11b1 : (a1 != 8) = true := bne_iff_ne.mpr c11
                    by_cases c12 : a1 = 10
                    · rw [if_pos c12] at H
                      have c12b0 : (a1 == 10) = true := beq_iff_eq.mpr c12
                      have c12b1 : (a1 != 10) = false := bne_eq_false_iff_eq.mpr c12
                      clear c12
                      have H' := Aside0.mk H
                      clear H
                      go_wp2
                      go_meet
                      case rel => exact ⟨_, ((a1 == 10)), (by first | rfl | (simp; done) | (simp [*]; done)), H', ⟨by have := HJ2.out; first | omega | exact Nat.le_refl _⟩, by repeat (first | exact Drawn0.refl _ | apply Drawn0.step)⟩
                    · rw [if_neg c12] at H
                      have c12b0 : (a1 == 10) = false := beq_eq_false_iff_ne.mpr c12
                      have c12b1 : (a1 != 10) = true := bne_iff_ne.mpr c12
                      have H' := Aside0.mk H
                      clear H
                      go_wp2
                      go_meet
                      case rel => exact ⟨_, ((a1 == 12)), (by first | rfl | (simp; done) | (simp [*]; done)), H', ⟨by have := HJ2.out; first | omega | exact Nat.le_refl _⟩, by repeat (first | exact Drawn0.refl _ | apply Drawn0.step)⟩
        case rest =>
          clear HC6
          try clear c1
          try clear c2
          try clear p2
          try clear c4
          try clear c4b0
          try clear c5
          try clear c7
          try clear c7b0
          try clear c7b1
          try clear c8
          try clear c8b0
          try clear c8b1
          try clear c9
          try clear c9b0
          try clear c9b1
          try clear c10
          try clear c10b0
          try clear c10b1
          try clear c11
          try clear c11b0
          try clear c11b1
          try clear c12
          try clear c12b0
          try clear c12b1
          try clear p2
          obtain ⟨kq, x12_5, rfl, HA, HJ5, ⟨mc5, rfl⟩⟩ := hcut
          cases kq with
          | zero => exact absurd HA.out (by simp [digits_Days.j1])
          | succ kj5 =>
            have H := HA.out
            clear HA
            simp only [digits_Days.j1] at H
            by_cases c13 : x12_5 = true
            · subst c13
              have H1 : (some 31) = some r := by rw [if_pos rfl] at H; exact H
              clear H
              have H := H1
              clear H1
              obtain rfl := Option.some.inj H
              go_wp2
              go_ret
              exact ⟨by first | rfl | (simp; done) | (simp [*]; done), by repeat (first | exact Drawn0.refl _ | apply Drawn0.step)⟩
            · replace c13 := Bool.eq_false_iff.mpr c13
              subst c13
              have H1 : (if a1 = 4 then (digits_Days.j2 kj5 a0 a1 (a1 == 4)) else (if a1 = 6 then (digits_Days.j2 kj5 a0 a1 (a1 == 6)) else (if a1 = 9 then (digits_Days.j2 kj5 a0 a1 (a1 == 9)) else (digits_Days.j2 kj5 a0 a1 (a1 == 11))))) = some r := by rw [if_neg (show ¬ (false = true) by decide)] at H; exact H
              clear H
              have H := H1
              clear H1
              have HC14 := Aside0.mk H
              clear H
              go_upto_if 20 with (fail)
              go_cut [20] (fun v20 wc => ∃ (kq : Nat) (x20_13 : Bool), v20 = .bool x20_13 ∧ Aside0 (digits_Days.j2 kq a0 a1 x20_13 = some r) ∧ Aside0 (kq ≤ kj5) ∧ Drawn0 w wc)
              case first =>
                have H := HC14.out
                clear HC14
                by_cases c15 : a1 = 4
                · rw [if_pos c15] at H
                  have c15b0 : (a1 == 4) = true := beq_iff_eq.mpr c15
                  have c15b1 : (a1 != 4) = false := bne_eq_false_iff_eq.mpr c15
                  clear c15
                  (first | rw [c15b0] | (simp only [i64_w, i32_w]; rw [c15b0]) | skip)
                  have H' := Aside0.mk H
                  clear H
                  go_wp2
                  go_meet
                  case rel => exact ⟨_, ((a1 == 4)), (by first | rfl | (simp; done) | (simp [*]; done)), H', ⟨by have := HJ2.out; have := HJ5.out; first | omega | exact Nat.le_refl _⟩, by repeat (first | exact Drawn0.refl _ | apply Drawn0.step)⟩
                · rw [if_neg c15] at H
                  have c15b0 : (a1 == 4) = false := beq_eq_false_iff_ne.mpr c15
                  have c15b1 : (a1 != 4) = true := bne_iff_ne.mpr c15
                  (first | rw [c15b0] | (simp only [i64_w, i32_w]; rw [c15b0]) | skip)
                  by_cases c16 : a1 = 6
                  · rw [if_pos c16] at H
                    have c16b0 : (a1 == 6) = true := beq_iff_eq.mpr c16
                    have c16b1 : (a1 != 6) = false := bne_eq_false_iff_eq.mpr c16
                    clear c16
                    have H' := Aside0.mk H
                    clear H
                    go_wp2
                    go_meet
                    case rel => exact ⟨_, ((a1 == 6)), (by first | rfl | (simp; done) | (simp [*]; done)), H', ⟨by have := HJ2.out; have := HJ5.out; first | omega | exact Nat.le_refl _⟩, by repeat (first | exact Drawn0.refl _ | apply Drawn0.step)⟩
                  · rw [if_neg c16] at H
                    have c16b0 : (a1 == 6) = false := beq_eq_false_iff_ne.mpr c16
                    have c16b1 : (a1 != 6) = true := bne_iff_ne.mpr c16
                    by_cases c17 : a1 = 9
                    · rw [if_pos c17] at H
                      have c17b0 : (a1 == 9) = true := beq_iff_eq.mpr c17
                      have c17b1 : (a1 != 9) = false := bne_eq_false_iff_eq.mpr c17
                      clear c17
                      have H' := Aside0.mk H
                      clear H
                      go_wp2
                      go_meet
                      case rel => exact ⟨_, ((a1 == 9)), (by first | rfl | (simp; done) | (simp [*]; done)), H', ⟨by have := HJ2.out; have := HJ5.out; first | omega | exact Nat.le_refl _⟩, by repeat (first | exact Drawn0.refl _ | apply Drawn0.step)⟩
                    · rw [if_neg c17] at H
                      have c17b0 : (a1 == 9) = false := beq_eq_false_iff_ne.mpr c17
                      have c17b1 : (a1 != 9) = true := bne_iff_ne.mpr c17
                      have H' := Aside0.mk H
                      clear H
                      go_wp2
                      go_meet
                      case rel => exact ⟨_, ((a1 == 11)), (by first | rfl | (simp; done) | (simp [*]; done)), H', ⟨by have := HJ2.out; have := HJ5.out; first | omega | exact Nat.le_refl _⟩, by repeat (first | exact Drawn0.refl _ | apply Drawn0.step)⟩
              case rest =>
                clear HC14
                try clear c1
                try clear c2
                try clear p2
                try clear c4
                try clear c4b0
                try clear c5
                try clear c7
                try clear c7b0
                try clear c7b1
                try clear c8
                try clear c8b0
                try clear c8b1
                try clear c9
                try clear c9b0
                try clear c9b1
                try clear c10
                try clear c10b0
                try clear c10b1
                try clear c11
                try clear c11b0
                try clear c11b1
                try clear c12
                try clear c12b0
                try clear c12b1
                try clear c13
                try clear c15
                try clear c15b0
                try clear c15b1
                try clear c16
                try clear c16b0
                try clear c16b1
                try clear c17
                try clear c17b0
                try clear c17b1
                try clear p2
                obtain ⟨kq, x20_13, rfl, HA, HJ13, ⟨mc13, rfl⟩⟩ := hcut
                cases kq with
                | zero => exact absurd HA.out (by simp [digits_Days.j2])
                | succ kj13 =>
                  have H := HA.out
                  clear HA
                  simp only [digits_Days.j2] at H
                  by_cases c18 : x20_13 = true
                  · subst c18
                    have H1 : (some 30) = some r := by rw [if_pos rfl] at H; exact H
                    clear H
                    have H := H1
                    clear H1
                    obtain rfl := Option.some.inj H
                    go_wp2
                    go_ret
                    exact ⟨by first | rfl | (simp; done) | (simp [*]; done), by repeat (first | exact Drawn0.refl _ | apply Drawn0.step)⟩
                  · replace c18 := Bool.eq_false_iff.mpr c18
                    subst c18
                    have H1 : (if a1 = 2 then ((digits_leap.f a0).bind fun t152 => (if t152 = true then (some 29) else (some 28))) else (some 0)) = some r := by rw [if_neg (show ¬ (false = true) by decide)] at H; exact H
                    clear H
                    have H := H1
                    clear H1
                    by_cases c19 : a1 = 2
                    · rw [if_pos c19] at H
                      have c19b0 : (a1 == 2) = true := beq_iff_eq.mpr c19
                      have c19b1 : (a1 != 2) = false := bne_eq_false_iff_eq.mpr c19
                      clear c19
                      replace H := Option.bind_eq_some_iff.mp H
                      obtain ⟨t152, A200, H⟩ := H
                      replace H : (if t152 = true then (some 29) else (some 28)) = some r := H
                      have A20 := Aside0.mk A200
                      clear A200
                      by_cases c21 : t152 = true
                      · subst c21
                        have H1 : (some 29) = some r := by rw [if_pos rfl] at H; exact H
                        clear H
                        have H := H1
                        clear H1
                        obtain rfl := Option.some.inj H
                        go_wp2_with (first | ((with_reducible refine gate_callee (f := 89) rfl ?_); refine goesL_ (some 28) rfl rfl Tryz.func89 (by kernel_rfl) rfl #[.int .i64 a0] rfl (by (try simp only [List.map_toArray, List.map_cons, List.map_nil]); first | done | rfl | (simp only [List.length_drop, List.length_take]; rfl)) ?_; (with_reducible refine (digits_leap.calls a0 true _ A20.out).mono ?_); rintro e w' ⟨rfl, ⟨nd, rfl⟩⟩; refine ⟨_, rfl, ?_⟩))
                        go_ret
                        exact ⟨by first | rfl | (simp; done) | (simp [*]; done), by repeat (first | exact Drawn0.refl _ | apply Drawn0.step)⟩
                      · replace c21 := Bool.eq_false_iff.mpr c21
                        subst c21
                        have H1 : (some 28) = some r := by rw [if_neg (show ¬ (false = true) by decide)] at H; exact H
                        clear H
                        have H := H1
                        clear H1
                        obtain rfl := Option.some.inj H
                        go_wp2_with (first | ((with_reducible refine gate_callee (f := 89) rfl ?_); refine goesL_ (some 28) rfl rfl Tryz.func89 (by kernel_rfl) rfl #[.int .i64 a0] rfl (by (try simp only [List.map_toArray, List.map_cons, List.map_nil]); first | done | rfl | (simp only [List.length_drop, List.length_take]; rfl)) ?_; (with_reducible refine (digits_leap.calls a0 false _ A20.out).mono ?_); rintro e w' ⟨rfl, ⟨nd, rfl⟩⟩; refine ⟨_, rfl, ?_⟩))
                        go_ret
                        exact ⟨by first | rfl | (simp; done) | (simp [*]; done), by repeat (first | exact Drawn0.refl _ | apply Drawn0.step)⟩
                    · rw [if_neg c19] at H
                      have c19b0 : (a1 == 2) = false := beq_eq_false_iff_ne.mpr c19
                      have c19b1 : (a1 != 2) = true := bne_iff_ne.mpr c19
                      obtain rfl := Option.some.inj H
                      go_wp2
                      go_ret
                      exact ⟨by first | rfl | (simp; done) | (simp [*]; done), by repeat (first | exact Drawn0.refl _ | apply Drawn0.step)⟩

/-! ### cashierlaw18_one: function 27 -/
def cashierlaw18_one.f  : Option (ByteArray × ByteArray × ByteArray × ByteArray × ByteArray × Int) := some ((⟨#[52, 49, 49, 49, 49, 49, 49, 49, 49, 49, 49, 49, 49, 49, 49, 49]⟩ : ByteArray), (⟨#[52, 49, 49, 49, 49, 49, 49, 49, 49, 49, 49, 49, 49, 49, 49, 49]⟩ : ByteArray), (⟨#[97, 99, 115]⟩ : ByteArray), (⟨#[50, 46, 49, 46, 48]⟩ : ByteArray), (⟨#[50, 46, 50, 46, 48]⟩ : ByteArray), 1)
set_option maxHeartbeats 8000000 in
set_option maxRecDepth 100000 in
theorem cashierlaw18_one.calls  (r1 : ByteArray) (r2 : ByteArray) (r3 : ByteArray) (r4 : ByteArray) (r5 : ByteArray) (r6 : Int) (w : World) (h : cashierlaw18_one.f  = some (r1, r2, r3, r4, r5, r6)) :
    Calls Tryz.prog 27 #[] w fun e w' => e = .returned (.agg #[.string r1, .string r2, .string r3, .string r4, .string r5, .int .i64 r6]) ∧ Below w.heap.size w w' := by
  have hu23 := Tryz.underlying23
  have HB := Aside0.mk (Below.refl w.heap.size w)
  have H : (some ((⟨#[52, 49, 49, 49, 49, 49, 49, 49, 49, 49, 49, 49, 49, 49, 49, 49]⟩ : ByteArray), (⟨#[52, 49, 49, 49, 49, 49, 49, 49, 49, 49, 49, 49, 49, 49, 49, 49]⟩ : ByteArray), (⟨#[97, 99, 115]⟩ : ByteArray), (⟨#[50, 46, 49, 46, 48]⟩ : ByteArray), (⟨#[50, 46, 50, 46, 48]⟩ : ByteArray), 1)) = some (r1, r2, r3, r4, r5, r6) := h
  clear h
  simp only [Option.some.injEq, Prod.mk.injEq] at H
  obtain ⟨rfl, rfl, rfl, rfl, rfl, rfl⟩ := H
  go_enter Tryz.func27, Tryz.ntmps27
  go_wp2_with (first | ((with_reducible refine gate_dst (N := 0) rfl ?_); refine box_event ?hg (N := 0) ?hd (cs := #[.string (⟨#[]⟩ : ByteArray), .string (⟨#[]⟩ : ByteArray), .string (⟨#[]⟩ : ByteArray), .string (⟨#[]⟩ : ByteArray), .string (⟨#[]⟩ : ByteArray), .int .i64 0]) (t := 23) ?hr ?_; (case hd => rfl); (case hg => rfl); (case hr => first | (go_simp; done) | (go_simp; rfl)); intro gb153 hg w1 hbox hb; have n0_ := Aside0.mk (below_step (by repeat (first | (with_reducible first | exact HB.out | apply below_alloc | apply pw_below_drewN | apply below_drew1) | exact HB.out)) hb); have n1_ := Aside0.mk (hbox); have n2_ := Aside0.mk ((by rw [hg]; exact (below_size (by repeat (first | (with_reducible first | exact HB.out | apply below_alloc | apply pw_below_drewN | apply below_drew1) | exact HB.out))) : w.heap.size ≤ gb153)); have n3_ := Aside0.mk ((by rw [hg]; exact (below_size (by repeat (first | (with_reducible first | exact HB.out | apply below_alloc | apply pw_below_drewN | apply below_drew1) | exact HB.out))) : w.heap.size ≤ gb153)); clear HB; have HB := n0_; have BK153 := n1_; have GW153 := n2_; have GE153 := n3_; clear n0_ n1_ n2_ n3_; clear hb hbox hg; have hcz2_0 : w1.cell? ⟨gb153, 0, none⟩ = some (.string (⟨#[]⟩ : ByteArray)) := (blk_cell BK153.out 0).trans rfl; have hcz2_1 : w1.cell? ⟨gb153, 1, none⟩ = some (.string (⟨#[]⟩ : ByteArray)) := (blk_cell BK153.out 1).trans rfl; have hcz2_2 : w1.cell? ⟨gb153, 2, none⟩ = some (.string (⟨#[]⟩ : ByteArray)) := (blk_cell BK153.out 2).trans rfl; have hcz2_3 : w1.cell? ⟨gb153, 3, none⟩ = some (.string (⟨#[]⟩ : ByteArray)) := (blk_cell BK153.out 3).trans rfl; have hcz2_4 : w1.cell? ⟨gb153, 4, none⟩ = some (.string (⟨#[]⟩ : ByteArray)) := (blk_cell BK153.out 4).trans rfl; have hcz2_5 : w1.cell? ⟨gb153, 5, none⟩ = some (.int .i64 0) := (blk_cell BK153.out 5).trans rfl; have hfz2_0 := blk_frozen BK153.out 0; have hfz2_1 := blk_frozen BK153.out 1; have hfz2_2 := blk_frozen BK153.out 2; have hfz2_3 := blk_frozen BK153.out 3; have hfz2_4 := blk_frozen BK153.out 4; have hfz2_5 := blk_frozen BK153.out 5))
  refine bodyPost_ret (results_cell_row rfl _ _ gb153 23 #[.string (⟨#[52, 49, 49, 49, 49, 49, 49, 49, 49, 49, 49, 49, 49, 49, 49, 49]⟩ : ByteArray), .string (⟨#[52, 49, 49, 49, 49, 49, 49, 49, 49, 49, 49, 49, 49, 49, 49, 49]⟩ : ByteArray), .string (⟨#[97, 99, 115]⟩ : ByteArray), .string (⟨#[50, 46, 49, 46, 48]⟩ : ByteArray), .string (⟨#[50, 46, 50, 46, 48]⟩ : ByteArray), .int .i64 1] (0, 0) _ rfl (by (with_reducible repeat (first | refine blk_drewN ?_ _ | refine blk_drew ?_ | refine blk_alloc ?_ _)); refine blk_put (cs := #[.string (⟨#[52, 49, 49, 49, 49, 49, 49, 49, 49, 49, 49, 49, 49, 49, 49, 49]⟩ : ByteArray), .string (⟨#[52, 49, 49, 49, 49, 49, 49, 49, 49, 49, 49, 49, 49, 49, 49, 49]⟩ : ByteArray), .string (⟨#[97, 99, 115]⟩ : ByteArray), .string (⟨#[50, 46, 49, 46, 48]⟩ : ByteArray), .string (⟨#[50, 46, 50, 46, 48]⟩ : ByteArray), .int .i64 0]) ?_ 5 _ rfl; (with_reducible repeat (first | refine blk_drewN ?_ _ | refine blk_drew ?_ | refine blk_alloc ?_ _)); refine blk_put (cs := #[.string (⟨#[52, 49, 49, 49, 49, 49, 49, 49, 49, 49, 49, 49, 49, 49, 49, 49]⟩ : ByteArray), .string (⟨#[52, 49, 49, 49, 49, 49, 49, 49, 49, 49, 49, 49, 49, 49, 49, 49]⟩ : ByteArray), .string (⟨#[97, 99, 115]⟩ : ByteArray), .string (⟨#[50, 46, 49, 46, 48]⟩ : ByteArray), .string (⟨#[]⟩ : ByteArray), .int .i64 0]) ?_ 4 _ rfl; (with_reducible repeat (first | refine blk_drewN ?_ _ | refine blk_drew ?_ | refine blk_alloc ?_ _)); refine blk_put (cs := #[.string (⟨#[52, 49, 49, 49, 49, 49, 49, 49, 49, 49, 49, 49, 49, 49, 49, 49]⟩ : ByteArray), .string (⟨#[52, 49, 49, 49, 49, 49, 49, 49, 49, 49, 49, 49, 49, 49, 49, 49]⟩ : ByteArray), .string (⟨#[97, 99, 115]⟩ : ByteArray), .string (⟨#[]⟩ : ByteArray), .string (⟨#[]⟩ : ByteArray), .int .i64 0]) ?_ 3 _ rfl; (with_reducible repeat (first | refine blk_drewN ?_ _ | refine blk_drew ?_ | refine blk_alloc ?_ _)); refine blk_put (cs := #[.string (⟨#[52, 49, 49, 49, 49, 49, 49, 49, 49, 49, 49, 49, 49, 49, 49, 49]⟩ : ByteArray), .string (⟨#[52, 49, 49, 49, 49, 49, 49, 49, 49, 49, 49, 49, 49, 49, 49, 49]⟩ : ByteArray), .string (⟨#[]⟩ : ByteArray), .string (⟨#[]⟩ : ByteArray), .string (⟨#[]⟩ : ByteArray), .int .i64 0]) ?_ 2 _ rfl; (with_reducible repeat (first | refine blk_drewN ?_ _ | refine blk_drew ?_ | refine blk_alloc ?_ _)); refine blk_put (cs := #[.string (⟨#[52, 49, 49, 49, 49, 49, 49, 49, 49, 49, 49, 49, 49, 49, 49, 49]⟩ : ByteArray), .string (⟨#[]⟩ : ByteArray), .string (⟨#[]⟩ : ByteArray), .string (⟨#[]⟩ : ByteArray), .string (⟨#[]⟩ : ByteArray), .int .i64 0]) ?_ 1 _ rfl; (with_reducible repeat (first | refine blk_drewN ?_ _ | refine blk_drew ?_ | refine blk_alloc ?_ _)); refine blk_put (cs := #[.string (⟨#[]⟩ : ByteArray), .string (⟨#[]⟩ : ByteArray), .string (⟨#[]⟩ : ByteArray), .string (⟨#[]⟩ : ByteArray), .string (⟨#[]⟩ : ByteArray), .int .i64 0]) ?_ 0 _ rfl; (with_reducible repeat (first | refine blk_drewN ?_ _ | refine blk_drew ?_ | refine blk_alloc ?_ _)); exact BK153.out) Tryz.underlying23 rfl (by kernel_rfl)) rfl ?_
  exact ⟨by first | rfl | (simp [errW_none, errW_some] <;> rfl) | (simp [*, errW_none, errW_some] <;> rfl), by repeat (first | (with_reducible first | exact HB.out | apply below_alloc | apply pw_below_drewN | apply below_drew1 | refine below_set ?_ GE153.out) | exact HB.out)⟩

/-! ### cashierref03_Is: function 31 -/
def cashierref03_Is.l0 : Nat → ByteArray → Int → Option (Bool)
  | 0, _, _ => none
  | k + 1, x0, x3 => if x3 < (x0.size : Int) then (if 0 ≤ x3 then (if (bt x0 x3) < 48 then (some false) else (if (bt x0 x3) > 57 then (some false) else (cashierref03_Is.l0 k x0 (wrap64 (x3 + 1))))) else (none)) else (some (decide ((x0.size : Int) > 0)))
def cashierref03_Is.f (k : Nat) (a0 : ByteArray) : Option (Bool) := cashierref03_Is.l0 k a0 0
theorem cashierref03_Is.mono_l : ∀ k, (∀ y0 y1, LeO (cashierref03_Is.l0 k y0 y1) (cashierref03_Is.l0 (k + 1) y0 y1))
  | 0 => fun _ _ r h => by simp [cashierref03_Is.l0] at h
  | k + 1 => by
    have ih0 := cashierref03_Is.mono_l k
    · intro y0 y1
      unfold cashierref03_Is.l0
      repeat' first
      | (with_reducible exact ih0 _ _)
      | (with_reducible exact LeO.refl _)
      | (with_reducible exact LeO.none _)
      | (with_reducible refine LeO.ite ?_ ?_)
      | (with_reducible refine LeO.bind ?_ (fun _ => ?_))
      | exact ih0 _ _
      | exact LeO.none _
      | refine LeO.ite ?_ ?_
      | refine LeO.bind ?_ (fun _ => ?_)
theorem cashierref03_Is.mono : ∀ a0 k, LeO (cashierref03_Is.f k a0) (cashierref03_Is.f (k + 1) a0) := by
  intro a0 k
  have ih0 := cashierref03_Is.mono_l k
  unfold cashierref03_Is.f
  repeat' first
      | (with_reducible exact ih0 _ _)
      | (with_reducible exact LeO.refl _)
      | (with_reducible exact LeO.none _)
      | (with_reducible refine LeO.ite ?_ ?_)
      | (with_reducible refine LeO.bind ?_ (fun _ => ?_))
      | exact ih0 _ _
      | exact LeO.none _
      | refine LeO.ite ?_ ?_
      | refine LeO.bind ?_ (fun _ => ?_)
set_option maxHeartbeats 8000000 in
set_option maxRecDepth 100000 in
theorem cashierref03_Is.calls (k : Nat) (a0 : ByteArray) (r : Bool) (w : World) (h : cashierref03_Is.f k a0 = some r) :
    Calls Tryz.prog 31 #[.string a0] w fun e w' => e = .returned (.bool r) ∧ Drawn0 w w' := by
  have H : (cashierref03_Is.l0 k a0 0) = some r := h
  clear h
  have H' := Aside0.mk H
  clear H
  go_enter Tryz.func31, Tryz.ntmps31
  go_wp2
  go_loopg [3] k (fun kq v3 w' => ∃ (x3_1 : Int), v3 = .int .i64 x3_1 ∧ Aside0 (cashierref03_Is.l0 kq a0 x3_1 = some r) ∧ Aside0 (kq ≤ k) ∧ Drawn0 w w')
  case atStart => exact ⟨(0), (by first | rfl | (simp; done) | (simp [*]; done)), H', ⟨Nat.le_refl _⟩, by repeat (first | exact Drawn0.refl _ | apply Drawn0.step)⟩
  case round =>
    clear H'
    obtain ⟨x3_1, rfl, HA, HK1, ⟨m1, rfl⟩⟩ := hrel
    cases gk with
    | zero => exact absurd HA.out (by simp [cashierref03_Is.l0])
    | succ k1 =>
      have H := HA.out
      clear HA
      simp only [cashierref03_Is.l0] at H
      by_cases c2 : x3_1 < (a0.size : Int)
      · rw [if_pos c2] at H
        have c2b0 : decide (x3_1 < (a0.size : Int)) = true := decide_eq_true c2
        clear c2
        by_cases c3 : 0 ≤ x3_1
        · rw [if_pos c3] at H
          have c3b0 : decide (0 ≤ x3_1) = true := decide_eq_true c3
          clear c3
          by_cases c5 : (bt a0 x3_1) < 48
          · rw [if_pos c5] at H
            have c5b0 : decide ((bt a0 x3_1) < 48) = true := decide_eq_true c5
            clear c5
            obtain rfl := Option.some.inj H
            have p4 : 0 ≤ (x3_1 : Int) := of_decide_eq_true (by first | (with_reducible assumption) | assumption)
            have q4 : x3_1 < (a0.size : Int) := of_decide_eq_true (by first | (with_reducible assumption) | assumption)
            have hx4 := bt_at a0 x3_1
            replace p4 := eq_true p4
            replace q4 := eq_true q4
            go_wp2
            go_ret
            exact ⟨by first | rfl | (simp; done) | (simp [*]; done), by repeat (first | exact Drawn0.refl _ | apply Drawn0.step)⟩
          · rw [if_neg c5] at H
            have c5b0 : decide ((bt a0 x3_1) < 48) = false := decide_eq_false c5
            clear c5
            by_cases c7 : (bt a0 x3_1) > 57
            · rw [if_pos c7] at H
              have c7b0 : decide (57 < (bt a0 x3_1)) = true := decide_eq_true c7
              clear c7
              obtain rfl := Option.some.inj H
              have p4 : 0 ≤ (x3_1 : Int) := of_decide_eq_true (by first | (with_reducible assumption) | assumption)
              have q4 : x3_1 < (a0.size : Int) := of_decide_eq_true (by first | (with_reducible assumption) | assumption)
              have hx4 := bt_at a0 x3_1
              replace p4 := eq_true p4
              replace q4 := eq_true q4
              have p6 : 0 ≤ (x3_1 : Int) := of_decide_eq_true (by first | (with_reducible assumption) | assumption)
              have q6 : x3_1 < (a0.size : Int) := of_decide_eq_true (by first | (with_reducible assumption) | assumption)
              have hx6 := bt_at a0 x3_1
              replace p6 := eq_true p6
              replace q6 := eq_true q6
              go_wp2
              go_ret
              exact ⟨by first | rfl | (simp; done) | (simp [*]; done), by repeat (first | exact Drawn0.refl _ | apply Drawn0.step)⟩
            · rw [if_neg c7] at H
              have c7b0 : decide (57 < (bt a0 x3_1)) = false := decide_eq_false c7
              clear c7
              have H' := Aside0.mk H
              clear H
              have p4 : 0 ≤ (x3_1 : Int) := of_decide_eq_true (by first | (with_reducible assumption) | assumption)
              have q4 : x3_1 < (a0.size : Int) := of_decide_eq_true (by first | (with_reducible assumption) | assumption)
              have hx4 := bt_at a0 x3_1
              replace p4 := eq_true p4
              replace q4 := eq_true q4
              have p6 : 0 ≤ (x3_1 : Int) := of_decide_eq_true (by first | (with_reducible assumption) | assumption)
              have q6 : x3_1 < (a0.size : Int) := of_decide_eq_true (by first | (with_reducible assumption) | assumption)
              have hx6 := bt_at a0 x3_1
              replace p6 := eq_true p6
              replace q6 := eq_true q6
              go_wp2
              go_roundg k1
              case measure => have := HK1.out; omega
              case rel => exact ⟨(wrap64 (x3_1 + 1)), (by first | rfl | (simp; done) | (simp [*]; done)), H', ⟨by have := HK1.out; omega⟩, by repeat (first | exact Drawn0.refl _ | apply Drawn0.step)⟩
        · rw [if_neg c3] at H
          exact absurd H (by simp)
      · rw [if_neg c2] at H
        have c2b0 : decide (x3_1 < (a0.size : Int)) = false := decide_eq_false c2
        clear c2
        obtain rfl := Option.some.inj H
        go_wp2
        go_ret
        exact ⟨by first | rfl | (simp; done) | (simp [*]; done), by repeat (first | exact Drawn0.refl _ | apply Drawn0.step)⟩

/-! ### cashierref03_Number: function 51 -/
def cashierref03_Number.l0 : Nat → ByteArray → Int → Int → Option (Int × Bool)
  | 0, _, _, _ => none
  | k + 1, x0, x4, x5 => if x5 < (x0.size : Int) then (if 0 ≤ x5 then (if x4 > ((18446744073709551615 - (((bt x0 x5) - 48) % 256)) / 10) then (some (0, false)) else (cashierref03_Number.l0 k x0 (IntKind.u64.wrap ((IntKind.u64.wrap (x4 * 10)) + (((bt x0 x5) - 48) % 256))) (wrap64 (x5 + 1)))) else (none)) else (some (x4, true))
def cashierref03_Number.f (k : Nat) (a0 : ByteArray) : Option (Int × Bool) := cashierref03_Number.l0 k a0 0 0
theorem cashierref03_Number.mono_l : ∀ k, (∀ y0 y1 y2, LeO (cashierref03_Number.l0 k y0 y1 y2) (cashierref03_Number.l0 (k + 1) y0 y1 y2))
  | 0 => fun _ _ _ r h => by simp [cashierref03_Number.l0] at h
  | k + 1 => by
    have ih0 := cashierref03_Number.mono_l k
    · intro y0 y1 y2
      unfold cashierref03_Number.l0
      repeat' first
      | (with_reducible exact ih0 _ _ _)
      | (with_reducible exact LeO.refl _)
      | (with_reducible exact LeO.none _)
      | (with_reducible refine LeO.ite ?_ ?_)
      | (with_reducible refine LeO.bind ?_ (fun _ => ?_))
      | exact ih0 _ _ _
      | exact LeO.none _
      | refine LeO.ite ?_ ?_
      | refine LeO.bind ?_ (fun _ => ?_)
theorem cashierref03_Number.mono : ∀ a0 k, LeO (cashierref03_Number.f k a0) (cashierref03_Number.f (k + 1) a0) := by
  intro a0 k
  have ih0 := cashierref03_Number.mono_l k
  unfold cashierref03_Number.f
  repeat' first
      | (with_reducible exact ih0 _ _ _)
      | (with_reducible exact LeO.refl _)
      | (with_reducible exact LeO.none _)
      | (with_reducible refine LeO.ite ?_ ?_)
      | (with_reducible refine LeO.bind ?_ (fun _ => ?_))
      | exact ih0 _ _ _
      | exact LeO.none _
      | refine LeO.ite ?_ ?_
      | refine LeO.bind ?_ (fun _ => ?_)
set_option maxHeartbeats 8000000 in
set_option maxRecDepth 100000 in
theorem cashierref03_Number.calls (k : Nat) (a0 : ByteArray) (r1 : Int) (r2 : Bool) (w : World) (h : cashierref03_Number.f k a0 = some (r1, r2)) :
    Calls Tryz.prog 51 #[.string a0] w fun e w' => e = .returned (.tuple #[.int .u64 r1, .bool r2]) ∧ Drawn0 w w' := by
  have H : (cashierref03_Number.l0 k a0 0 0) = some (r1, r2) := h
  clear h
  have H' := Aside0.mk H
  clear H
  go_enter Tryz.func51, Tryz.ntmps51
  go_wp2
  go_loopg [4, 5] k (fun kq v4 v5 w' => ∃ (x4_1 : Int) (x5_1 : Int), v4 = .int .u64 x4_1 ∧ v5 = .int .i64 x5_1 ∧ Aside0 (cashierref03_Number.l0 kq a0 x4_1 x5_1 = some (r1, r2)) ∧ Aside0 (kq ≤ k) ∧ Drawn0 w w')
  case atStart => exact ⟨(0), (0), (by first | rfl | (simp; done) | (simp [*]; done)), (by first | rfl | (simp; done) | (simp [*]; done)), H', ⟨Nat.le_refl _⟩, by repeat (first | exact Drawn0.refl _ | apply Drawn0.step)⟩
  case round =>
    clear H'
    obtain ⟨x4_1, x5_1, rfl, rfl, HA, HK1, ⟨m1, rfl⟩⟩ := hrel
    cases gk with
    | zero => exact absurd HA.out (by simp [cashierref03_Number.l0])
    | succ k1 =>
      have H := HA.out
      clear HA
      simp only [cashierref03_Number.l0] at H
      by_cases c2 : x5_1 < (a0.size : Int)
      · rw [if_pos c2] at H
        have c2b0 : decide (x5_1 < (a0.size : Int)) = true := decide_eq_true c2
        clear c2
        by_cases c3 : 0 ≤ x5_1
        · rw [if_pos c3] at H
          have c3b0 : decide (0 ≤ x5_1) = true := decide_eq_true c3
          clear c3
          by_cases c5 : x4_1 > ((18446744073709551615 - (((bt a0 x5_1) - 48) % 256)) / 10)
          · rw [if_pos c5] at H
            have c5b0 : decide (((18446744073709551615 - (((bt a0 x5_1) - 48) % 256)) / 10) < x4_1) = true := decide_eq_true c5
            clear c5
            simp only [Option.some.injEq, Prod.mk.injEq] at H
            obtain ⟨rfl, rfl⟩ := H
            have p4 : 0 ≤ (x5_1 : Int) := of_decide_eq_true (by first | (with_reducible assumption) | assumption)
            have q4 : x5_1 < (a0.size : Int) := of_decide_eq_true (by first | (with_reducible assumption) | assumption)
            have hx4 := bt_at a0 x5_1
            replace p4 := eq_true p4
            replace q4 := eq_true q4
            go_wp2
            go_ret2
            exact ⟨by first | rfl | (simp; done) | (simp [*]; done), by repeat (first | exact Drawn0.refl _ | apply Drawn0.step)⟩
          · rw [if_neg c5] at H
            have c5b0 : decide (((18446744073709551615 - (((bt a0 x5_1) - 48) % 256)) / 10) < x4_1) = false := decide_eq_false c5
            clear c5
            have H' := Aside0.mk H
            clear H
            have p4 : 0 ≤ (x5_1 : Int) := of_decide_eq_true (by first | (with_reducible assumption) | assumption)
            have q4 : x5_1 < (a0.size : Int) := of_decide_eq_true (by first | (with_reducible assumption) | assumption)
            have hx4 := bt_at a0 x5_1
            replace p4 := eq_true p4
            replace q4 := eq_true q4
            go_wp2
            go_roundg k1
            case measure => have := HK1.out; omega
            case rel => exact ⟨(IntKind.u64.wrap ((IntKind.u64.wrap (x4_1 * 10)) + (((bt a0 x5_1) - 48) % 256))), (wrap64 (x5_1 + 1)), (by first | rfl | (simp; done) | (simp [*]; done)), (by first | rfl | (simp; done) | (simp [*]; done)), H', ⟨by have := HK1.out; omega⟩, by repeat (first | exact Drawn0.refl _ | apply Drawn0.step)⟩
        · rw [if_neg c3] at H
          exact absurd H (by simp)
      · rw [if_neg c2] at H
        have c2b0 : decide (x5_1 < (a0.size : Int)) = false := decide_eq_false c2
        clear c2
        simp only [Option.some.injEq, Prod.mk.injEq] at H
        obtain ⟨rfl, rfl⟩ := H
        go_wp2
        go_ret2
        exact ⟨by first | rfl | (simp; done) | (simp [*]; done), by repeat (first | exact Drawn0.refl _ | apply Drawn0.step)⟩

/-! ### cashierref03_Dec: function 52 -/
def cashierref03_Dec.l0 : Nat → Int → ByteArray → Option (ByteArray)
  | 0, _, _ => none
  | k + 1, x0, x3 => (some (([(IntKind.u64.wrap (48 + (Int.tmod x0 10))) % 256] : List Int) : List Int)).bind fun y185 => (if (strOfNums y185).size + x3.size ≤ 9223372036854775807 then (if (IntKind.u64.wrap (Int.tdiv x0 10)) = 0 then (some ((strOfNums y185) ++ x3)) else (cashierref03_Dec.l0 k (IntKind.u64.wrap (Int.tdiv x0 10)) ((strOfNums y185) ++ x3))) else (none))
def cashierref03_Dec.f (k : Nat) (a0 : Int) : Option (ByteArray) := cashierref03_Dec.l0 k a0 (⟨#[]⟩ : ByteArray)
theorem cashierref03_Dec.mono_l : ∀ k, (∀ y0 y1, LeO (cashierref03_Dec.l0 k y0 y1) (cashierref03_Dec.l0 (k + 1) y0 y1))
  | 0 => fun _ _ r h => by simp [cashierref03_Dec.l0] at h
  | k + 1 => by
    have ih0 := cashierref03_Dec.mono_l k
    · intro y0 y1
      unfold cashierref03_Dec.l0
      repeat' first
      | (with_reducible exact ih0 _ _)
      | (with_reducible exact LeO.refl _)
      | (with_reducible exact LeO.none _)
      | (with_reducible refine LeO.ite ?_ ?_)
      | (with_reducible refine LeO.bind ?_ (fun _ => ?_))
      | exact ih0 _ _
      | exact LeO.none _
      | refine LeO.ite ?_ ?_
      | refine LeO.bind ?_ (fun _ => ?_)
theorem cashierref03_Dec.mono : ∀ a0 k, LeO (cashierref03_Dec.f k a0) (cashierref03_Dec.f (k + 1) a0) := by
  intro a0 k
  have ih0 := cashierref03_Dec.mono_l k
  unfold cashierref03_Dec.f
  repeat' first
      | (with_reducible exact ih0 _ _)
      | (with_reducible exact LeO.refl _)
      | (with_reducible exact LeO.none _)
      | (with_reducible refine LeO.ite ?_ ?_)
      | (with_reducible refine LeO.bind ?_ (fun _ => ?_))
      | exact ih0 _ _
      | exact LeO.none _
      | refine LeO.ite ?_ ?_
      | refine LeO.bind ?_ (fun _ => ?_)
set_option maxHeartbeats 8000000 in
set_option maxRecDepth 100000 in
theorem cashierref03_Dec.calls (k : Nat) (a0 : Int) (r : ByteArray) (w : World) (h : cashierref03_Dec.f k a0 = some r) :
    Calls Tryz.prog 52 #[.int .u64 a0] w fun e w' => e = .returned (.string r) ∧ Below w.heap.size w w' := by
  have HB := Aside0.mk (Below.refl w.heap.size w)
  have H : (cashierref03_Dec.l0 k a0 (⟨#[]⟩ : ByteArray)) = some r := h
  clear h
  have H' := Aside0.mk H
  clear H
  go_enter Tryz.func52, Tryz.ntmps52
  go_wp2
  go_loopg [0, 3] k (fun kq v0 v3 w' => ∃ (x0_1 : Int) (x3_1 : ByteArray), v0 = .int .u64 x0_1 ∧ v3 = .string x3_1 ∧ Aside0 (cashierref03_Dec.l0 kq x0_1 x3_1 = some r) ∧ Aside0 (kq ≤ k) ∧ Aside0 (Below w.heap.size w w'))
  case atStart => exact ⟨(a0), ((⟨#[]⟩ : ByteArray)), (by first | rfl | (simp; done) | (simp [*]; done)), (by first | rfl | (simp; done) | (simp [*]; done)), H', ⟨Nat.le_refl _⟩, ⟨by repeat (first | (with_reducible first | exact HB.out | apply below_alloc | apply pw_below_drewN | apply below_drew1) | exact HB.out)⟩⟩
  case round =>
    clear H'
    obtain ⟨x0_1, x3_1, rfl, rfl, HA, HK1, HB⟩ := hrel
    cases gk with
    | zero => exact absurd HA.out (by simp [cashierref03_Dec.l0])
    | succ k1 =>
      have H := HA.out
      clear HA
      simp only [cashierref03_Dec.l0] at H
      obtain ⟨y185, hy185⟩ : ∃ y_ : List Int, y_ = (([(IntKind.u64.wrap (48 + (Int.tmod x0_1 10))) % 256] : List Int)) := ⟨_, rfl⟩
      replace H : (if (strOfNums y185).size + x3_1.size ≤ 9223372036854775807 then (if (IntKind.u64.wrap (Int.tdiv x0_1 10)) = 0 then (some ((strOfNums y185) ++ x3_1)) else (cashierref03_Dec.l0 k1 (IntKind.u64.wrap (Int.tdiv x0_1 10)) ((strOfNums y185) ++ x3_1))) else (none)) = some r := by first | (rw [hy185]; with_reducible exact H) | (have H2_ := (Option.bind_some _ _).symm.trans H; rw [hy185]; with_reducible exact H2_) | (have H2_ := (Option.bind_some _ _).symm.trans H; with_reducible exact H2_) | with_reducible exact H | (rw [hy185]; exact H) | exact H
      have Ny185 := Aside0.mk hy185
      clear hy185
      by_cases c2 : (strOfNums y185).size + x3_1.size ≤ 9223372036854775807
      · rw [if_pos c2] at H
        have c2b0 := eq_true c2
        have c2b1 : decide ((strOfNums y185).size + x3_1.size ≤ 9223372036854775807) = true := decide_eq_true c2
        try have c2b2 : (9223372036854775807 < (strOfNums y185).size + x3_1.size) = False := eq_false (Nat.not_lt.2 c2)
        by_cases c3 : (IntKind.u64.wrap (Int.tdiv x0_1 10)) = 0
        · rw [if_pos c3] at H
          have c3b0 : ((IntKind.u64.wrap (Int.tdiv x0_1 10)) == 0) = true := beq_iff_eq.mpr c3
          have c3b1 : ((IntKind.u64.wrap (Int.tdiv x0_1 10)) != 0) = false := bne_eq_false_iff_eq.mpr c3
          clear c3
          obtain rfl := Option.some.inj H
          go_wp2_with (first | ((with_reducible refine gate_dst (N := 8) rfl ?_); refine Kd.R_lit (Kd.int .u8) _ 5 ?hg (N := 8) ?hd (xs := ([(IntKind.u64.wrap (48 + (Int.tmod x0_1 10))) % 256] : List Int)) (inner := [.int .u8 ((IntKind.u64.wrap (48 + (Int.tmod x0_1 10))) % 256)]) (ok := fun _ => True) (okp := fun _ => True) ?hr ?hp (fun _ hk => hk) trivial (Below.refl _ _) (Nat.le_refl _) (by simp) ?_; (case hd => rfl); (case hg => rfl); (case hr => first | (go_simp; done) | (go_simp; rfl)); (case hp => exact (Reps.one (show Kd.M (Kd.int .u8) _ _ _ ((IntKind.u64.wrap (48 + (Int.tmod x0_1 10))) % 256) [.int .u8 ((IntKind.u64.wrap (48 + (Int.tmod x0_1 10))) % 256)] from rfl) (Reps.none _ _))); intro v186 w4 ho5 hb hg_ hnew_; clear hg_ hnew_; (first | rw [← Ny185.out] at ho5 | (simp only [Int.reduceToNat] at ho5; rw [← Ny185.out] at ho5)); have n0_ := Aside0.mk (Kd.R_lower ho5 (below_size (by repeat (first | (with_reducible first | exact HB.out | apply below_alloc | apply pw_below_drewN | apply below_drew1) | exact HB.out)))); have n1_ := Aside0.mk (below_step (by repeat (first | (with_reducible first | exact HB.out | apply below_alloc | apply pw_below_drewN | apply below_drew1) | exact HB.out)) hb); clear HB; have HO187 := n0_; have HB := n1_; clear n0_ n1_; clear hb ho5; have hcv6 := own_string (P := Tryz.prog) Tryz.underlying98 Tryz.underlying5 Tryz.underlying9 (Kd.own_of_R HO187.out)))
          go_ret
          exact ⟨by first | rfl | (simp [errW_none, errW_some] <;> rfl) | (simp [*, errW_none, errW_some] <;> rfl), by repeat (first | (with_reducible first | exact HB.out | apply below_alloc | apply pw_below_drewN | apply below_drew1) | exact HB.out)⟩
        · rw [if_neg c3] at H
          have c3b0 : ((IntKind.u64.wrap (Int.tdiv x0_1 10)) == 0) = false := beq_eq_false_iff_ne.mpr c3
          have c3b1 : ((IntKind.u64.wrap (Int.tdiv x0_1 10)) != 0) = true := bne_iff_ne.mpr c3
          have H' := Aside0.mk H
          clear H
          go_wp2_with (first | ((with_reducible refine gate_dst (N := 8) rfl ?_); refine Kd.R_lit (Kd.int .u8) _ 5 ?hg (N := 8) ?hd (xs := ([(IntKind.u64.wrap (48 + (Int.tmod x0_1 10))) % 256] : List Int)) (inner := [.int .u8 ((IntKind.u64.wrap (48 + (Int.tmod x0_1 10))) % 256)]) (ok := fun _ => True) (okp := fun _ => True) ?hr ?hp (fun _ hk => hk) trivial (Below.refl _ _) (Nat.le_refl _) (by simp) ?_; (case hd => rfl); (case hg => rfl); (case hr => first | (go_simp; done) | (go_simp; rfl)); (case hp => exact (Reps.one (show Kd.M (Kd.int .u8) _ _ _ ((IntKind.u64.wrap (48 + (Int.tmod x0_1 10))) % 256) [.int .u8 ((IntKind.u64.wrap (48 + (Int.tmod x0_1 10))) % 256)] from rfl) (Reps.none _ _))); intro v186 w7 ho8 hb hg_ hnew_; clear hg_ hnew_; (first | rw [← Ny185.out] at ho8 | (simp only [Int.reduceToNat] at ho8; rw [← Ny185.out] at ho8)); have n0_ := Aside0.mk (Kd.R_lower ho8 (below_size (by repeat (first | (with_reducible first | exact HB.out | apply below_alloc | apply pw_below_drewN | apply below_drew1) | exact HB.out)))); have n1_ := Aside0.mk (below_step (by repeat (first | (with_reducible first | exact HB.out | apply below_alloc | apply pw_below_drewN | apply below_drew1) | exact HB.out)) hb); clear HB; have HO187 := n0_; have HB := n1_; clear n0_ n1_; clear hb ho8; have hcv9 := own_string (P := Tryz.prog) Tryz.underlying98 Tryz.underlying5 Tryz.underlying9 (Kd.own_of_R HO187.out)))
          go_roundg k1
          case measure => have := HK1.out; omega
          case rel => exact ⟨(IntKind.u64.wrap (Int.tdiv x0_1 10)), ((strOfNums y185) ++ x3_1), (by first | rfl | (simp; done) | (simp [*]; done)), (by first | rfl | (simp; done) | (simp [*]; done)), H', ⟨by have := HK1.out; omega⟩, ⟨by repeat (first | (with_reducible first | exact HB.out | apply below_alloc | apply pw_below_drewN | apply below_drew1) | exact HB.out)⟩⟩
      · rw [if_neg c2] at H
        exact absurd H (by simp)

end Go.Proofs.YtiggnmhoececfaaGreatDoor.PRef

namespace Go.Proofs.YtiggnmhoececfaaGreatDoor
set_option linter.unusedVariables false
set_option linter.unusedSimpArgs false
open Go.RowKit Go.Proofs.YtiggnmhoececfaaGreatDoorW.PrintWords

set_option maxRecDepth 100000 in
theorem card_4111 : cardE [52, 49, 49, 49, 49, 49, 49, 49, 49, 49, 49, 49, 49, 49, 49, 49] = 0 := by decide +kernel

theorem text_7 : textL 7 3 = [48, 48, 55] := by
  have h : Lib.decDigits 7 = [55] := by rw [Lib.decDigits, dif_pos (by omega)]; rfl
  unfold textL
  rw [h]
  decide +kernel

set_option maxHeartbeats 800000 in
theorem awake03_any (w : World) (hG : Glob w) :
    Calls Tryz.prog 69 #[] w fun e w' => e = .returned (.bool true) ∧ Below w.heap.size w w' := by
  have h1 := card_any ⟨#[52, 49, 49, 49, 49, 49, 49, 49, 49, 49, 49, 49, 49, 49, 49, 49]⟩ (by decide) w
  rw [show cardE (ByteArray.mk #[52, 49, 49, 49, 49, 49, 49, 49, 49, 49, 49, 49, 49, 49, 49, 49]).data.toList = 0 from card_4111] at h1
  have h2 := fun w1 hG1 => text_any 7 3 (by omega) (by omega) (by omega) w1 hG1
  rw [text_7] at h2
  have h3 := fun w1 => PRef.digits_Days.calls 5 2024 2 29 w1 (by decide +kernel)
  have H1 := Lib.hid h1
  have H2 := Lib.hid h2
  have H3 := Lib.hid h3
  clear h1 h2 h3
  go_enter Tryz.func69, Tryz.ntmps69
  go_wp2_with (first
    | (go_at_call 77; go_must (refine H1.out.mono ?_); rintro e w1 ⟨rfl, hb⟩)
    | (go_at_call 72; go_must (refine (H2.out w1 (hG.below hb)).mono ?_); rintro e w2 ⟨rfl, hb2⟩; have hb3 := below_step hb hb2)
    | (go_at_call 78; go_must (refine (H3.out _).mono ?_); rintro e w3 ⟨rfl, hb4⟩))
  go_ret
  exact ⟨rfl, below_step hb3 hb4.below⟩

theorem Awake03_any (w : World) (hG : Glob w) :
    Calls Tryz.prog 61 #[] w fun e w' => e = .returned (.bool true) ∧ Below w.heap.size w w' := by
  have H1 := Lib.hid (awake03_any w hG)
  go_enter Tryz.func61, Tryz.ntmps61
  go_wp2_with (go_at_call 69; go_must (refine H1.out.mono ?_); rintro e w1 ⟨rfl, hb⟩)
  go_ret
  exact ⟨rfl, hb⟩

end Go.Proofs.YtiggnmhoececfaaGreatDoor

namespace Go.Proofs.YtiggnmhoececfaaGreatDoor
set_option linter.unusedVariables false
set_option linter.unusedSimpArgs false
open Go.RowKit Go.Proofs.YtiggnmhoececfaaGreatDoorW.PrintWords

theorem infoStr : (Tryz.prog.info? 9).map (fun i => (i.zero, i.size, i.bytes)) = some (some (.string ByteArray.empty), 1, 16) := by kernel_rfl

/-- a version's text -/
def verText (a b c : Nat) : Bytes := Lib.join [textL a 0, textL b 0, textL c 0] [46]

theorem text0 (n : Nat) : textL n 0 = Lib.decDigits n := by
  unfold textL
  rw [show (Max.max (Min.min (Max.max (0 : Int) 0) 40 - ((Lib.decDigits n).length : Int)) 0) = 0 by omega]
  rfl
theorem text0_len (n : Nat) (h : n < 18446744073709551616) : (textL n 0).length ≤ 20 := by rw [text0]; exact dec_len n h

set_option maxHeartbeats 1600000 in
set_option maxRecDepth 1000000 in
/-- version.V.Text -/
theorem vtext_any (a b c : Nat) (ha : a < 65536) (hb : b < 65536) (hc : c < 65536) (w : World) (hG : Glob w) :
    Calls Tryz.prog 68 #[.agg #[.int .u16 a, .int .u16 b, .int .u16 c]] w fun e w' => e = .returned (.string ⟨(verText a b c).toArray⟩) ∧ Below w.heap.size w w' := by
  obtain ⟨i0, hi, hz0, hz1, hz2⟩ := info_parts infoStr
  have j0 : ∀ w, (Instr.index 82 (.agg #[.int .u16 a, .int .u16 b, .int .u16 c]) (.int .i64 0)).run Tryz.prog w = .ok (.int .u16 a) w := fun _ => by kernel_rfl
  have j1 : ∀ w, (Instr.index 82 (.agg #[.int .u16 a, .int .u16 b, .int .u16 c]) (.int .i64 1)).run Tryz.prog w = .ok (.int .u16 b) w := fun _ => by kernel_rfl
  have j2 : ∀ w, (Instr.index 82 (.agg #[.int .u16 a, .int .u16 b, .int .u16 c]) (.int .i64 2)).run Tryz.prog w = .ok (.int .u16 c) w := fun _ => by kernel_rfl
  go_enter Tryz.func68, Tryz.ntmps68
  go_wp2
  go_loopw [3, 7] (fun v i wr => ∃ k : Nat, k ≤ 3 ∧ i = .int .i64 k ∧ wr.ownsRow w.heap.size 9 1 v k (strs ([textL a 0, textL b 0, textL c 0].take k)) ∧ Below w.heap.size w wr ) (fun _ i _ => 3 - (intOf i).toNat)
  case atStart => exact ⟨0, by omega, rfl, World.ownsRow_nil _ _ _ _, below_alloc (Below.refl _ _) _⟩
  case round =>
    obtain ⟨k, hk, rfl, hown, hb⟩ := hrel
    have hG1 := hG.below hb
    match k, hk with
    | 0, _ =>
      go_wp2_with (first
        | (go_at_call 72; refine (text_any a 0 (by omega) (by omega) (by omega) _ hG1).mono ?_; rintro e w1 ⟨rfl, hb1⟩; have hb2 := below_step hb hb1; have hown1 := pw_own_below hown hb1)
        | (at_builtin; refine print_append_cells (w0 := w) w.heap.size rfl (.tmp 10) (.tmp 14) 41 9 (.string ByteArray.empty) 1 16 rfl Tryz.underlying41 infoStr rfl (by decide) (by decide) u3 _ _ [.string ⟨(textL a 0).toArray⟩] rfl rfl rfl ?_ hown1 hb2 ?_ ?_ ?_; simp [Value.oneCell']; exact hb2.size; decide; intro v1 w3 hown2 hb3 _ _))
      go_roundw
      case rel => exact ⟨1, by omega, rfl, hown2, hb3⟩
      case measure => simp [intOf]
    | 1, _ =>
      go_wp2_with (first
        | (go_at_call 72; refine (text_any b 0 (by omega) (by omega) (by omega) _ hG1).mono ?_; rintro e w1 ⟨rfl, hb1⟩; have hb2 := below_step hb hb1; have hown1 := pw_own_below hown hb1)
        | (at_builtin; refine print_append_cells (w0 := w) w.heap.size rfl (.tmp 10) (.tmp 14) 41 9 (.string ByteArray.empty) 1 16 rfl Tryz.underlying41 infoStr rfl (by decide) (by decide) u3 _ _ [.string ⟨(textL b 0).toArray⟩] rfl rfl rfl ?_ hown1 hb2 ?_ ?_ ?_; simp [Value.oneCell']; exact hb2.size; decide; intro v1 w3 hown2 hb3 _ _))
      go_roundw
      case rel => exact ⟨2, by omega, rfl, hown2, hb3⟩
      case measure => simp [intOf]
    | 2, _ =>
      go_wp2_with (first
        | (go_at_call 72; refine (text_any c 0 (by omega) (by omega) (by omega) _ hG1).mono ?_; rintro e w1 ⟨rfl, hb1⟩; have hb2 := below_step hb hb1; have hown1 := pw_own_below hown hb1)
        | (at_builtin; refine print_append_cells (w0 := w) w.heap.size rfl (.tmp 10) (.tmp 14) 41 9 (.string ByteArray.empty) 1 16 rfl Tryz.underlying41 infoStr rfl (by decide) (by decide) u3 _ _ [.string ⟨(textL c 0).toArray⟩] rfl rfl rfl ?_ hown1 hb2 ?_ ?_ ?_; simp [Value.oneCell']; exact hb2.size; decide; intro v1 w3 hown2 hb3 _ _))
      go_roundw
      case rel => exact ⟨3, by omega, rfl, hown2, hb3⟩
      case measure => simp [intOf]
    | 3, _ =>
      obtain ⟨A, cp, rfl, hq, hc, hr⟩ := own_strs hown
      clear hq
      have hj := join_any A cp [textL a 0, textL b 0, textL c 0] [46] wr hr hc (by simp) (by
        have := text0_len a (by omega); have := text0_len b (by omega); have := text0_len c (by omega)
        simp [Lib.join, List.intercalate]; omega)
      have HJ := Lib.hid hj; clear hj
      go_wp2_with (go_at_call 76; refine HJ.out.mono ?_; rintro e w1 ⟨rfl, hb1⟩; have hb2 := below_step hb hb1)
      go_ret
      exact ⟨rfl, hb2⟩
/-- A part of a version: a number as it is written. -/
def okPart (t : Bytes) : Bool := isNum t && decide (numOf t ≤ 65535) && (Lib.decDigits (numOf t) == t)
/-- version.Parse: the numbers, if it is one. -/
def verParts (l : Bytes) : Option (List Nat) := if (split1 46 l).length = 3 ∧ (split1 46 l).all okPart = true then some ((split1 46 l).map numOf) else none

theorem number_le {p : Bytes} {n : Nat} (h : number p = (n, 0)) : n ≤ 18446744073709551615 := by
  unfold number at h
  split at h
  · split at h
    · simp at h; omega
    · simp at h
  · simp at h

theorem number_num {p : Bytes} {n : Nat} (h : number p = (n, 0)) : numOf p = n := by
  unfold number at h
  split at h
  · split at h
    · simp at h; exact h
    · simp at h
  · simp at h

theorem okPart_iff (p : Bytes) : okPart p = true ↔ (number p).2 = 0 ∧ (number p).1 ≤ 65535 ∧ textL (number p).1 0 = p := by
  unfold okPart number
  rw [text0]
  by_cases h : isNum p = true
  · rw [if_pos h]
    by_cases h2 : numOf p ≤ 18446744073709551615
    · rw [if_pos h2]; simp [h]
    · rw [if_neg h2]; simp [h]; omega
  · rw [if_neg h]; simp [h]

theorem ver_no {ps : List Bytes} {k : Nat} {p : Bytes} (hp : ps[k]? = some p) (h : ¬ okPart p = true) : ¬ ps.all okPart = true := by
  intro ha
  rw [List.all_eq_true] at ha
  exact h (ha p (List.mem_of_getElem? hp))

def vcells (ps : List Bytes) (k : Nat) : List Value := (List.range 3).map fun j => if j < k then .int .u16 (numOf (ps.getD j [])) else .int .u16 0
theorem vcells_length (ps : List Bytes) (k : Nat) : (vcells ps k).length = 3 := by simp [vcells]
theorem vcells_set (ps : List Bytes) (k : Nat) (hk : k < 3) : (vcells ps k).toArray.setIfInBounds k (.int .u16 (numOf (ps.getD k []))) = (vcells ps (k + 1)).toArray := by
  have : k = 0 ∨ k = 1 ∨ k = 2 := by omega
  rcases this with rfl | rfl | rfl <;> rfl

theorem numOf_wrap (n : Nat) (h : n ≤ 65535) : IntKind.u16.wrap (n : Int) = n := by
  simp [IntKind.wrap, IntKind.bits, IntKind.signed]; omega

def verVal (o : Option (List Nat)) : Value := match o with
  | some [a, b, c] => .tuple #[.agg #[.int .u16 a, .int .u16 b, .int .u16 c], .int .i64 0]
  | _ => .tuple #[.agg #[.int .u16 0, .int .u16 0, .int .u16 0], .int .i64 4]

set_option maxHeartbeats 400000 in
set_option maxRecDepth 1000000 in
/-- version.Parse -/
theorem vparse_any (s : ByteArray) (w : World) (hs : s.size < 4294967281) (hG : Glob w) :
    Calls Tryz.prog 62 #[.string s] w fun e w' => e = .returned (verVal (verParts s.data.toList)) ∧ Below w.heap.size w w' := by
  obtain ⟨ps, hps⟩ : ∃ ps, split1 46 s.data.toList = ps := ⟨_, rfl⟩
  have hsp := fun W hG => split_any s 46 W hs hG
  rw [hps] at hsp
  have HSP := Lib.hid hsp; clear hsp
  have HPS := Lib.hid hps; clear hps
  by_cases h3 : ps.length = 3
  · have h3' : ((ps.length : Int) != 3) = false := by rw [h3]; rfl
    have H3 := Lib.hid h3; clear h3
    have hG1 : ∀ o o', Glob ((w.alloc o).alloc o') := fun o o' => hG.below (below_alloc (below_alloc (Below.refl _ _) _) _)
    go_enter Tryz.func62, Tryz.ntmps62
    go_wp2_with (go_at_call 70; refine (HSP.out _ (hG1 _ _)).mono ?_; rintro e w1 ⟨rfl, rfl⟩)
    go_loopw [18] (fun i wr => ∃ k : Nat, k ≤ 3 ∧ i = .int .i64 k ∧ wr.heap[w.heap.size + 1]? = some (.cells (vcells ps k).toArray 82 (0, 0)) ∧ wr.heap[w.heap.size]? = some (.cells #[.int .u16 0, .int .u16 0, .int .u16 0] 82 (0, 0)) ∧ CellsAt wr (w.heap.size + 1 + 1) (strs ps) ∧ Below w.heap.size w wr ∧ (ps.take k).all okPart = true) (fun i _ => 3 - (intOf i).toNat)
    case atStart =>
      refine ⟨0, by omega, rfl, ?_, ?_, CellsAt.new' (by simp), below_alloc (below_alloc (below_alloc (Below.refl _ _) _) _) _, rfl⟩
      · have := blk_new (w.alloc (.cells #[.int .u16 0, .int .u16 0, .int .u16 0] 82)) (.cells #[.int .u16 0, .int .u16 0, .int .u16 0] 82)
        rw [World.size_alloc] at this
        exact blk_alloc this _
      · exact blk_alloc (blk_alloc (blk_new w _) _) _
    case round =>
      obtain ⟨k, hk, rfl, hb1, hb0, hcs, hbl, hall⟩ := hrel
      have hG2 := hG.below hbl
      by_cases hlt : k < 3
      · obtain ⟨p, hp⟩ : ∃ p, ps[k]? = some p := ⟨ps[k]'(by rw [H3.out]; exact hlt), List.getElem?_eq_getElem _⟩
        have hcell : wr.cell? ⟨w.heap.size + 1 + 1, k, none⟩ = some (.string ⟨p.toArray⟩) := hcs.get (by simp [strs, hp])
        have hps : (⟨p.toArray⟩ : ByteArray).size ≤ 140737488351232 := by
          have h1 := split1_len 46 s.data.toList p (by rw [HPS.out]; exact List.mem_of_getElem? hp)
          have h2 : s.data.toList.length = s.size := by simp
          show p.toArray.size ≤ _
          simp; omega
        have hlk : k < ps.length := by rw [H3.out]; exact hlt
        have hn := number_any ⟨p.toArray⟩
        have hpn : number (⟨p.toArray⟩ : ByteArray).data.toList = number p := rfl
        rw [hpn] at hn
        have hok := okPart_iff p
        by_cases he : (number p).2 = 0
        · obtain ⟨n, hnp⟩ : ∃ n, number p = (n, 0) := ⟨(number p).1, Prod.ext rfl he⟩
          rw [hnp] at hn hok
          have hn64 : n ≤ 18446744073709551615 := number_le hnp
          by_cases hle : n ≤ 65535
          · have htx := text_any n 0 (by omega) (by omega) (by omega)
            by_cases htp : textL n 0 = p
            · have hok' : okPart p = true := hok.2 ⟨rfl, hle, htp⟩
              have hnn : numOf p = n := number_num hnp
              have htp' : (textL n 0 == p) = true := by rw [beq_iff_eq]; exact htp
              have hle' : decide ((65535 : Int) < (n : Int)) = false := by simp; omega
              have hset := vcells_set ps k hlt
              rw [show ps.getD k [] = p by rw [List.getD_eq_getElem?_getD, hp]; rfl, hnn] at hset
              have hwr := numOf_wrap n hle
              have hold : ∃ v, (vcells ps k)[k]? = some v := ⟨_, List.getElem?_eq_getElem (by rw [vcells_length]; exact hlt)⟩
              have hsz : (ps.take (k + 1)).all okPart = true := by
                rw [List.take_succ_eq_append_getElem (by rw [H3.out]; exact hlt), List.all_append, hall]
                have : ps[k]'(by rw [H3.out]; exact hlt) = p := by have := List.getElem?_eq_some_iff.1 hp; exact this.2
                simp [this, hok']
              obtain ⟨v0, hv0⟩ := hold
              have HN := Lib.hid hn
              have HT := Lib.hid htx
              have HSET := Lib.hid hset
              have HALL := Lib.hid hsz
              have HV0 := Lib.hid hv0
              clear hn hpn he hok hnp htx hset hsz hnn htp hall hv0 hok' hp
              go_wp2_with (first
                | (go_at_call 71; go_must (refine (HN.out _ hps hG2).mono ?_); rintro e w1 ⟨rfl, hbw⟩; have hb1' := blk_below hb1 hbw; have hb0' := blk_below hb0 hbw; have hbl' := below_step hbl hbw; have hcs' := hcs.below hbw)
                | (go_at_call 72; go_must (refine (HT.out w1 (hG.below hbl')).mono ?_); rintro e w2 ⟨rfl, hbw2⟩; have hb1'' := blk_below hb1' hbw2; have hb0'' := blk_below hb0' hbw2; have hbl'' := below_step hbl' hbw2; have hcs'' := hcs'.below hbw2; have hc0 : w2.cell? ⟨w.heap.size + 1, k, none⟩ = some v0 := (blk_cell hb1'' k).trans (by simpa using HV0.out); have hf0 := blk_frozen hb1'' k))
              go_roundw
              case rel =>
                refine ⟨k + 1, by omega, by go_num, ?_, ?_, ?_, ?_, HALL.out⟩
                · have := blk_set hb1'' k (.int .u16 (n : Int))
                  rw [HSET.out] at this
                  exact this
                · exact blk_far hb0'' (p := ⟨w.heap.size + 1, k, none⟩) (by simp) _
                · exact hcs''.setCell (p := ⟨w.heap.size + 1, k, none⟩) (by simp) _
                · exact hbl''.setCell (p := ⟨w.heap.size + 1, k, none⟩) (by simp) _
              case measure => simp [intOf]; omega
            · have hv : verVal (verParts s.data.toList) = .tuple #[.agg #[.int .u16 0, .int .u16 0, .int .u16 0], .int .i64 4] := by unfold verParts; rw [HPS.out, if_neg (fun h => ver_no hp (by rw [hok]; intro h; exact htp h.2.2) h.2)]; rfl
              have htp' : (textL n 0 == p) = false := by rw [beq_eq_false_iff_ne]; exact htp
              have HV := Lib.hid hv
              have HN := Lib.hid hn
              have HT := Lib.hid htx; clear hn hpn he hv hok hnp htx
              go_wp2_with (first
                | (go_at_call 71; go_must (refine (HN.out _ hps hG2).mono ?_); rintro e w1 ⟨rfl, hbw⟩; have hb0' := blk_below hb0 hbw; have hbl' := below_step hbl hbw)
                | (go_at_call 72; go_must (refine (HT.out w1 (hG.below hbl')).mono ?_); rintro e w2 ⟨rfl, hbw2⟩; have hb0'' := blk_below hb0' hbw2; have hbl'' := below_step hbl' hbw2)
                | ((with_reducible refine gate_store (t := 82) (p := 2) (v := .tmp 40) rfl ?_); go_must (refine wpList_store_row rfl 82 (.tmp 2) (.tmp 40) rfl w.heap.size #[.int .u16 0, .int .u16 0, .int .u16 0] rfl rfl 82 _ hb0'' rfl rfl (by simp [Value.oneCell']) ?_)))
              refine bodyPost_ret (results_ct (p := 2) (u := 3) (ty := 82) rfl _ _ w.heap.size 82 #[.int .u16 0, .int .u16 0, .int .u16 0] (0, 0) _ rfl (setRow_heap _ _ _ _ _ _ hb0'') Tryz.underlying82 rfl rfl) rfl ⟨by rw [HV.out]; rfl, below_setRow hbl'' (Nat.le_refl _) _⟩
          · have hgt : (65535 : Int) < (n : Int) := by omega
            have hgt' : decide ((65535 : Int) < (n : Int)) = true := by simpa using hgt
            have hv : verVal (verParts s.data.toList) = .tuple #[.agg #[.int .u16 0, .int .u16 0, .int .u16 0], .int .i64 4] := by unfold verParts; rw [HPS.out, if_neg (fun h => ver_no hp (by rw [hok]; intro h; exact hle h.2.1) h.2)]; rfl
            have HV := Lib.hid hv
            have HN := Lib.hid hn; clear hn hpn he hv hok hnp
            go_wp2_with (first
              | (go_at_call 71; go_must (refine (HN.out _ hps hG2).mono ?_); rintro e w1 ⟨rfl, hbw⟩; have hb0' := blk_below hb0 hbw; have hbl' := below_step hbl hbw)
              | ((with_reducible refine gate_store (t := 82) (p := 2) (v := .tmp 40) rfl ?_); go_must (refine wpList_store_row rfl 82 (.tmp 2) (.tmp 40) rfl w.heap.size #[.int .u16 0, .int .u16 0, .int .u16 0] rfl rfl 82 _ hb0' rfl rfl (by simp [Value.oneCell']) ?_)))
            refine bodyPost_ret (results_ct (p := 2) (u := 3) (ty := 82) rfl _ _ w.heap.size 82 #[.int .u16 0, .int .u16 0, .int .u16 0] (0, 0) _ rfl (setRow_heap _ _ _ _ _ _ hb0') Tryz.underlying82 rfl rfl) rfl ⟨by rw [HV.out]; rfl, below_setRow hbl' (Nat.le_refl _) _⟩
        · have he' : ((number p).2 != 0) = true := by rw [bne_iff_ne]; exact he
          have hv : verVal (verParts s.data.toList) = .tuple #[.agg #[.int .u16 0, .int .u16 0, .int .u16 0], .int .i64 4] := by unfold verParts; rw [HPS.out, if_neg (fun h => ver_no hp (by rw [hok]; intro h; exact he h.1) h.2)]; rfl
          have HV := Lib.hid hv
          have HN := Lib.hid hn; clear hn hpn he hv hok
          go_wp2_with (first
            | (go_at_call 71; refine (HN.out _ hps hG2).mono ?_; rintro e w1 ⟨rfl, hbw⟩; have hb0' := blk_below hb0 hbw; have hbl' := below_step hbl hbw)
            | ((with_reducible refine gate_store (t := 82) (p := 2) (v := .tmp 40) rfl ?_); go_must (refine wpList_store_row rfl 82 (.tmp 2) (.tmp 40) rfl w.heap.size #[.int .u16 0, .int .u16 0, .int .u16 0] rfl rfl 82 _ hb0' rfl rfl (by simp [Value.oneCell']) ?_)))
          refine bodyPost_ret (results_ct (p := 2) (u := 3) (ty := 82) rfl _ _ w.heap.size 82 #[.int .u16 0, .int .u16 0, .int .u16 0] (0, 0) _ rfl (setRow_heap _ _ _ _ _ _ hb0') Tryz.underlying82 rfl rfl) rfl ⟨by rw [HV.out]; rfl, below_setRow hbl' (Nat.le_refl _) _⟩
      · obtain rfl : k = 3 := by omega
        have hall' : ps.all okPart = true := by rw [List.take_of_length_le (by rw [H3.out]; exact Nat.le_refl _)] at hall; exact hall
        have hlk : ¬ 3 < ps.length := by rw [H3.out]; omega
        obtain ⟨a, b, c, rfl⟩ : ∃ a b c, ps = [a, b, c] := by
          match ps, H3.out with
          | [a, b, c], _ => exact ⟨a, b, c, rfl⟩
        have hv : verVal (verParts s.data.toList) = .tuple #[.agg #[.int .u16 (numOf a), .int .u16 (numOf b), .int .u16 (numOf c)], .int .i64 0] := by unfold verParts; rw [HPS.out, if_pos ⟨rfl, hall'⟩]; rfl
        have HV := Lib.hid hv
        clear hv hall hall' hcs HSP HPS H3 hlt
        replace hb1 : wr.heap[w.heap.size + 1]? = some (.cells #[.int .u16 (numOf a), .int .u16 (numOf b), .int .u16 (numOf c)] 82 (0, 0)) := hb1
        go_wp2_with (first
          | ((with_reducible refine gate_ (.load 82 (.tmp 4)) rfl ?_); go_must (refine wpList_load_row rfl 82 (.tmp 4) rfl (w.heap.size + 1) rfl 82 _ (0, 0) _ hb1 Tryz.underlying82 rfl rfl ?_))
          | ((with_reducible refine gate_store (t := 82) (p := 2) (v := .tmp 46) rfl ?_); go_must (refine wpList_store_row rfl 82 (.tmp 2) (.tmp 46) rfl w.heap.size #[.int .u16 (numOf a), .int .u16 (numOf b), .int .u16 (numOf c)] rfl rfl 82 _ hb0 rfl rfl (by simp [Value.oneCell']) ?_)))
        refine bodyPost_ret (results_ct (p := 2) (u := 3) (ty := 82) rfl _ _ w.heap.size 82 #[.int .u16 (numOf a), .int .u16 (numOf b), .int .u16 (numOf c)] (0, 0) _ rfl (setRow_heap _ _ _ _ _ _ hb0) Tryz.underlying82 rfl rfl) rfl ⟨by rw [HV.out]; rfl, below_setRow hbl (Nat.le_refl _) _⟩
  · have h3' : ((ps.length : Int) == 3) = false := by rw [beq_eq_false_iff_ne]; omega
    have h4 : ((ps.length : Int) != 3) = true := by rw [bne, h3']; rfl
    have hv : verVal (verParts s.data.toList) = .tuple #[.agg #[.int .u16 0, .int .u16 0, .int .u16 0], .int .i64 4] := by unfold verParts; rw [HPS.out, if_neg (fun h => h3 h.1)]; rfl
    rw [hv]; clear hv
    have hG1 : ∀ o o', Glob ((w.alloc o).alloc o') := fun o o' => hG.below (below_alloc (below_alloc (Below.refl _ _) _) _)
    go_enter Tryz.func62, Tryz.ntmps62
    go_wp2_with (go_at_call 70; refine (HSP.out _ (hG1 _ _)).mono ?_; rintro e w1 ⟨rfl, rfl⟩)
    refine bodyPost_ret (v := .tuple #[.agg #[.int .u16 0, .int .u16 0, .int .u16 0], .int .i64 4]) (by simp [results, Tryz.results62, go_sem]) rfl ⟨rfl, ?_⟩
    exact below_alloc (below_alloc (below_alloc (Below.refl _ _) _) _) _

/-- slices.Compare, by definition -/
def lexc : List Nat → List Nat → Int
  | [], [] => 0
  | [], _ :: _ => -1
  | _ :: _, [] => 1
  | x :: l, y :: r => if x < y then -1 else if y < x then 1 else lexc l r
def cmpN (x y : Nat) : Int := if x < y then -1 else if y < x then 1 else 0

theorem nan_u16 (x : Int) (w : World) : Calls Tryz.prog 83 #[.int .u16 x] w fun e w' => e = .returned (.bool false) ∧ w = w' := by
  have h : (x != x) = false := by simp
  go_enter Tryz.func83, Tryz.ntmps83
  go_wp2
  go_ret
  exact ⟨rfl, rfl⟩

/-- cmp.Compare -/
theorem cmp_u16 (x y : Nat) (w : World) : Calls Tryz.prog 73 #[.int .u16 x, .int .u16 y] w fun e w' => e = .returned (.int .i64 (cmpN x y)) ∧ w = w' := by
  have hx := nan_u16 x w
  have hy := nan_u16 y w
  have HX := Lib.hid hx
  have HY := Lib.hid hy
  clear hx hy
  by_cases a : x < y
  · have hv : cmpN x y = -1 := by unfold cmpN; rw [if_pos a]
    rw [hv]; clear hv
    go_enter Tryz.func73, Tryz.ntmps73
    go_wp2_with fail
    refine HX.out.mono ?_
    rintro e w1 ⟨rfl, rfl⟩
    go_wp2_with fail
    refine HY.out.mono ?_
    rintro e w1 ⟨rfl, rfl⟩
    go_wp2
    go_ret
    exact ⟨rfl, rfl⟩
  · by_cases b : y < x
    · have hv : cmpN x y = 1 := by unfold cmpN; rw [if_neg a, if_pos b]
      rw [hv]; clear hv
      go_enter Tryz.func73, Tryz.ntmps73
      go_wp2_with fail
      refine HX.out.mono ?_
      rintro e w1 ⟨rfl, rfl⟩
      go_wp2_with fail
      refine HY.out.mono ?_
      rintro e w1 ⟨rfl, rfl⟩
      go_wp2
      go_ret
      exact ⟨rfl, rfl⟩
    · have hv : cmpN x y = 0 := by unfold cmpN; rw [if_neg a, if_neg b]
      rw [hv]; clear hv
      go_enter Tryz.func73, Tryz.ntmps73
      go_wp2_with fail
      refine HX.out.mono ?_
      rintro e w1 ⟨rfl, rfl⟩
      go_wp2_with fail
      refine HY.out.mono ?_
      rintro e w1 ⟨rfl, rfl⟩
      go_wp2
      go_ret
      exact ⟨rfl, rfl⟩

def u16s (l : List Nat) : List Value := l.map fun (n : Nat) => Value.int .u16 (n : Int)

set_option maxHeartbeats 800000 in
set_option maxRecDepth 1000000 in
/-- slices.Compare, at numbers in two arrays -/
theorem slices_cmp (l r : List Nat) (b b' c c' : Nat) (w : World) (hl : l.length ≤ 1000) (hr : r.length ≤ 1000) (hcl : CellsAt w b (u16s l)) (hcr : CellsAt w b' (u16s r)) :
    Calls Tryz.prog 63 #[.slice (some ⟨b, 0, none⟩) l.length c, .slice (some ⟨b', 0, none⟩) r.length c'] w fun e w' => e = .returned (.int .i64 (lexc l r)) ∧ w = w' := by
  go_enter Tryz.func63, Tryz.ntmps63
  go_wp2
  go_loop [11] (fun i => ∃ k : Nat, i = .int .i64 k ∧ k ≤ l.length ∧ k ≤ r.length ∧ lexc l r = lexc (l.drop k) (r.drop k)) (fun i => l.length - (intOf i).toNat)
  case atStart => exact ⟨0, rfl, by omega, by omega, rfl⟩
  case round =>
    obtain ⟨k, rfl, hk, hk', hlex⟩ := hrel
    by_cases hlt : k < l.length
    · by_cases hlt' : k < r.length
      · have h1 : w.cell? ⟨b, k, none⟩ = some (.int .u16 (l[k] : Nat)) := hcl.get (by simp [u16s, hlt])
        have h2 : w.cell? ⟨b', k, none⟩ = some (.int .u16 (r[k] : Nat)) := hcr.get (by simp [u16s, hlt'])
        rw [List.drop_eq_getElem_cons hlt, List.drop_eq_getElem_cons hlt', lexc] at hlex
        obtain ⟨x, hx⟩ : ∃ x, l[k] = x := ⟨_, rfl⟩
        obtain ⟨y, hy⟩ : ∃ y, r[k] = y := ⟨_, rfl⟩
        rw [hx] at h1 hlex
        rw [hy] at h2 hlex
        clear hx hy
        have hcmp := cmp_u16 x y w
        by_cases he : cmpN x y = 0
        · have hxy : ¬ x < y ∧ ¬ y < x := by
            unfold cmpN at he
            by_cases p : x < y
            · rw [if_pos p] at he; omega
            · rw [if_neg p] at he
              by_cases q : y < x
              · rw [if_pos q] at he; omega
              · exact ⟨p, q⟩
          rw [if_neg hxy.1, if_neg hxy.2] at hlex
          rw [he] at hcmp
          have HC := Lib.hid hcmp
          have HX := Lib.hid hlex
          clear hcmp hlex he hxy
          go_wp2_with (go_at_call 73; go_must (refine HC.out.mono ?_); rintro e w1 ⟨rfl, rfl⟩)
          go_round
          case rel => exact ⟨k + 1, by go_num, by omega, by omega, HX.out⟩
          case measure => simp [intOf]; omega
        · have hv : lexc l r = cmpN x y := by
            rw [hlex]
            unfold cmpN at he ⊢
            by_cases p : x < y
            · rw [if_pos p, if_pos p]
            · rw [if_neg p, if_neg p] at *
              by_cases q : y < x
              · rw [if_pos q, if_pos q]
              · rw [if_neg q] at he; exact absurd rfl he
          have he' : (cmpN x y != 0) = true := by rw [bne_iff_ne]; exact he
          have HC := Lib.hid hcmp
          have HX := Lib.hid hv
          clear hcmp hlex he hv
          go_wp2_with (go_at_call 73; go_must (refine HC.out.mono ?_); rintro e w1 ⟨rfl, rfl⟩)
          go_ret
          exact ⟨ret_int HX.out.symm, rfl⟩
      · have hv : lexc l r = 1 := by rw [hlex, List.drop_eq_getElem_cons hlt, List.drop_of_length_le (show r.length ≤ k by omega)]; rfl
        have h1 : w.cell? ⟨b, k, none⟩ = some (.int .u16 (l[k] : Nat)) := hcl.get (by simp [u16s, hlt])
        have HX := Lib.hid hv
        clear hlex hv
        go_wp2
        go_ret
        exact ⟨ret_int HX.out.symm, rfl⟩
    · obtain rfl : k = l.length := by omega
      rw [List.drop_of_length_le (Nat.le_refl _)] at hlex
      by_cases h : l.length < r.length
      · have hv : lexc l r = -1 := by rw [hlex, List.drop_eq_getElem_cons h]; rfl
        have HX := Lib.hid hv
        clear hlex hv
        go_wp2
        go_ret
        exact ⟨ret_int HX.out.symm, rfl⟩
      · have hv : lexc l r = 0 := by rw [hlex, List.drop_of_length_le (by omega)]; rfl
        have HX := Lib.hid hv
        clear hlex hv
        go_wp2
        go_ret
        exact ⟨ret_int HX.out.symm, rfl⟩

set_option maxHeartbeats 400000 in
/-- version.Cmp -/
theorem vcmp_any (a b c x y z : Nat) (w : World) :
    Calls Tryz.prog 50 #[.agg #[.int .u16 a, .int .u16 b, .int .u16 c], .agg #[.int .u16 x, .int .u16 y, .int .u16 z]] w fun e w' => e = .returned (.int .i64 (lexc [a, b, c] [x, y, z])) ∧ Below w.heap.size w w' := by
  have hc : ∀ n, Calls Tryz.prog 63 #[.slice (some ⟨w.heap.size, 0, none⟩) 3 3, .slice (some ⟨w.heap.size + 1, 0, none⟩) 3 3] (((w.alloc (.cells #[.int .u16 a, .int .u16 b, .int .u16 c] 82)).alloc (.cells #[.int .u16 x, .int .u16 y, .int .u16 z] 82)).drewN n) fun e w' => e = .returned (.int .i64 (lexc [a, b, c] [x, y, z])) ∧ w' = ((w.alloc (.cells #[.int .u16 a, .int .u16 b, .int .u16 c] 82)).alloc (.cells #[.int .u16 x, .int .u16 y, .int .u16 z] 82)).drewN n := by
    intro n
    refine (slices_cmp [a, b, c] [x, y, z] w.heap.size (w.heap.size + 1) 3 3 _ (by simp) (by simp) ?_ ?_).mono (fun e w' h => ⟨h.1, h.2.symm⟩)
    · exact (((CellsAt.new w (u16s [a, b, c]) _).below (below_alloc (Below.refl _ _) _)).below (pw_below_drewN (Below.refl _ _) n))
    · exact ((CellsAt.new' (l := u16s [x, y, z]) (by simp)).below (pw_below_drewN (Below.refl _ _) n))
  have HC := Lib.hid hc; clear hc
  go_enter Tryz.func50, Tryz.ntmps50
  go_wp2
  go_quiet ((go_at_call 63; exact Calls.quiet_of_same (HC.out _)))
  go_wp2
  go_ret
  exact ⟨rfl, pw_below_drewN (below_alloc (below_alloc (Below.refl _ _) _) _) _⟩

abbrev Ver := { t : Nat × Nat × Nat // t.1 < 65536 ∧ t.2.1 < 65536 ∧ t.2.2 < 65536 }
/-- The version of a text. -/
def verOf (l : Bytes) : Option Ver := match split1 46 l with
  | [a, b, c] => if h : okPart a = true ∧ okPart b = true ∧ okPart c = true then
      some ⟨(numOf a, numOf b, numOf c), by
        obtain ⟨h1, h2, h3⟩ := h
        simp only [okPart, Bool.and_eq_true, decide_eq_true_eq] at h1 h2 h3
        exact ⟨by show numOf a < 65536; omega, by show numOf b < 65536; omega, by show numOf c < 65536; omega⟩⟩
    else none
  | _ => none
def verRes (o : Option Ver) : Value := match o with
  | some v => .tuple #[.agg #[.int .u16 (v.1.1 : Nat), .int .u16 (v.1.2.1 : Nat), .int .u16 (v.1.2.2 : Nat)], .int .i64 0]
  | none => .tuple #[.agg #[.int .u16 0, .int .u16 0, .int .u16 0], .int .i64 4]

theorem verRes_eq (l : Bytes) : verVal (verParts l) = verRes (verOf l) := by
  unfold verParts verOf
  split
  · rename_i h
    obtain ⟨h3, ha⟩ := h
    match hs : split1 46 l, h3 with
    | [a, b, c], _ =>
      rw [hs] at ha
      simp only [List.all_cons, List.all_nil, Bool.and_true, Bool.and_eq_true] at ha
      simp only [hs]
      rw [dif_pos ha]
      rfl
  · rename_i h
    match hs : split1 46 l with
    | [a, b, c] =>
      rw [hs] at h
      simp only [hs]
      rw [dif_neg (fun h2 => h ⟨rfl, by simp [h2.1, h2.2.1, h2.2.2]⟩)]
      rfl
    | [] => simp only [hs]; rfl
    | [_] => simp only [hs]; rfl
    | [_, _] => simp only [hs]; rfl
    | _ :: _ :: _ :: _ :: _ => simp only [hs]; rfl

theorem vparse_of (s : ByteArray) (w : World) (hs : s.size < 4294967281) (hG : Glob w) :
    Calls Tryz.prog 62 #[.string s] w fun e w' => e = .returned (verRes (verOf s.data.toList)) ∧ Below w.heap.size w w' := by
  rw [← verRes_eq]
  exact vparse_any s w hs hG

def verCells (v : Ver) : List Value := [.int .u16 (v.1.1 : Nat), .int .u16 (v.1.2.1 : Nat), .int .u16 (v.1.2.2 : Nat)]
def versCells (vs : List Ver) : List Value := (vs.map verCells).flatten

theorem infoVer : (Tryz.prog.info? 82).map (fun i => (i.zero, i.size, i.bytes)) = some (some (.agg #[.int .u16 0, .int .u16 0, .int .u16 0]), 3, 6) := by kernel_rfl

set_option maxHeartbeats 800000 in
set_option maxRecDepth 1000000 in
/-- version.from, where all are versions -/
theorem from_yes (A : Option Addr) (cp : Nat) (xs : List Bytes) (vs : List Ver) (hv : xs.map verOf = vs.map some) (hn : xs.length ≤ 1000) (hx : ∀ x, x ∈ xs → x.length ≤ 1000000) (hcp : xs.length ≤ cp) (w : World) (hr : ReadsStrs w A xs) (hG : Glob w) :
    Calls Tryz.prog 49 #[.slice A xs.length cp] w fun e w' => ∃ v, e = .returned (.tuple #[v, .bool true]) ∧ w'.ownsRow w.heap.size 82 3 v vs.length (versCells vs) ∧ Below w.heap.size w w' := by
  have hlen : xs.length = vs.length := by have := congrArg List.length hv; simpa using this
  have HV := Lib.hid hv
  have HL := Lib.hid hlen
  clear hv hlen
  go_enter Tryz.func49, Tryz.ntmps49
  go_wp2
  go_loopw [4, 11] (fun v i wr => ∃ k : Nat, k ≤ xs.length ∧ i = .int .i64 k ∧ wr.ownsRow w.heap.size 82 3 v k (versCells (vs.take k)) ∧ Below w.heap.size w wr) (fun _ i _ => xs.length - (intOf i).toNat)
  case atStart => exact ⟨0, by omega, rfl, World.ownsRow_nil _ _ _ _, Below.refl _ _⟩
  case round =>
    obtain ⟨k, hk, rfl, hown, hb⟩ := hrel
    by_cases hlt : k < xs.length
    · have hltv : k < vs.length := by rw [← HL.out]; exact hlt
      obtain ⟨b, o, rfl, hbo, hcell⟩ := (hr.below hb) (fun e => by rw [e] at hlt; exact absurd hlt (by simp))
      have hc := hcell k xs[k] (List.getElem?_eq_getElem hlt)
      have hxl := hx _ (List.getElem_mem hlt)
      obtain ⟨x, hxe⟩ : ∃ x, xs[k] = x := ⟨_, rfl⟩
      obtain ⟨u, hue⟩ : ∃ u, vs[k] = u := ⟨_, rfl⟩
      have hver : verOf x = some u := by
        have := congrArg (fun l => l[k]?) HV.out
        simp only [List.getElem?_map, List.getElem?_eq_getElem hlt, List.getElem?_eq_getElem hltv, Option.map_some, Option.some.injEq] at this
        rw [hxe, hue] at this
        exact this
      rw [hxe] at hc hxl
      have hp := vparse_of ⟨x.toArray⟩ wr (by show x.toArray.size < _; simp; omega) (hG.below hb)
      rw [show (⟨x.toArray⟩ : ByteArray).data.toList = x from rfl, hver] at hp
      have hnext : versCells (vs.take (k + 1)) = versCells (vs.take k) ++ verCells u := by
        rw [List.take_succ_eq_append_getElem hltv, hue]; simp [versCells]
      have HP := Lib.hid hp
      have HX := Lib.hid hnext
      clear hp hnext hver hcell hxe hue
      go_wp2_with (first
        | (go_at_call 62; go_must (refine HP.out.mono ?_); rintro e w1 ⟨rfl, hb1⟩; simp only [verRes]; have hb2 := below_step hb hb1; have hown1 := pw_own_below hown hb1)
        | (at_builtin; go_must (refine print_append_cells (w0 := w) w.heap.size rfl (.tmp 22) (.tmp 24) 76 82 (.agg #[.int .u16 0, .int .u16 0, .int .u16 0]) 3 6 rfl Tryz.underlying76 infoVer rfl (by decide) (by decide) u4 _ _ (verCells u) rfl (by simp only [World.size_alloc]; rfl) rfl ?_ (World.ownsRow.alloc hown1 _) ?_ ?_ ?_ ?_); intro z hz; simp [verCells] at hz; rcases hz with rfl | rfl | rfl <;> rfl; exact below_alloc hb2 _; exact (below_alloc hb2 _).size; omega; intro v1 w3 hown2 hb3 _ _; rw [← HX.out] at hown2))
      go_roundw
      case rel => exact ⟨k + 1, by omega, by go_num, hown2, hb3⟩
      case measure => simp [intOf]; omega
    · obtain rfl : k = xs.length := by omega
      have hown' : wr.ownsRow w.heap.size 82 3 u4 vs.length (versCells vs) := by rw [HL.out, List.take_of_length_le (Nat.le_refl _)] at hown; exact hown
      clear hown
      go_wp2
      go_ret2
      exact ⟨_, rfl, hown', hb⟩

set_option maxHeartbeats 800000 in
set_option maxRecDepth 1000000 in
/-- version.from, where one is no version -/
theorem from_no (A : Option Addr) (cp : Nat) (xs : List Bytes) (j : Nat) (hj : j < xs.length) (hno : verOf xs[j] = none) (hyes : ∀ i (h : i < xs.length), i < j → (verOf xs[i]).isSome = true) (hn : xs.length ≤ 1000) (hx : ∀ x, x ∈ xs → x.length ≤ 1000000) (hcp : xs.length ≤ cp) (w : World) (hr : ReadsStrs w A xs) (hG : Glob w) :
    Calls Tryz.prog 49 #[.slice A xs.length cp] w fun e w' => e = .returned (.tuple #[.slice none 0 0, .bool false]) ∧ Below w.heap.size w w' := by
  have HY := Lib.hid hyes
  have HNO := Lib.hid hno
  clear hyes hno
  go_enter Tryz.func49, Tryz.ntmps49
  go_wp2
  go_loopw [4, 11] (fun v i wr => ∃ (k : Nat) (l : List Value), k ≤ j ∧ i = .int .i64 k ∧ wr.ownsRow w.heap.size 82 3 v k l ∧ Below w.heap.size w wr) (fun _ i _ => xs.length - (intOf i).toNat)
  case atStart => exact ⟨0, [], by omega, rfl, World.ownsRow_nil _ _ _ _, Below.refl _ _⟩
  case round =>
    obtain ⟨k, cl, hk, rfl, hown, hb⟩ := hrel
    have hlt : k < xs.length := by omega
    obtain ⟨b, o, rfl, hbo, hcell⟩ := (hr.below hb) (fun e => by rw [e] at hlt; exact absurd hlt (by simp))
    have hc := hcell k xs[k] (List.getElem?_eq_getElem hlt)
    have hxl := hx _ (List.getElem_mem hlt)
    obtain ⟨x, hxe⟩ : ∃ x, xs[k] = x := ⟨_, rfl⟩
    rw [hxe] at hc hxl
    have hp := vparse_of ⟨x.toArray⟩ wr (by show x.toArray.size < _; simp; omega) (hG.below hb)
    rw [show (⟨x.toArray⟩ : ByteArray).data.toList = x from rfl] at hp
    by_cases hkj : k < j
    · have hy := HY.out k hlt hkj
      rw [hxe] at hy
      obtain ⟨u, hu⟩ := Option.isSome_iff_exists.1 hy
      rw [hu] at hp
      have HP := Lib.hid hp
      clear hp hu hy hcell hxe
      go_wp2_with (first
        | (go_at_call 62; go_must (refine HP.out.mono ?_); rintro e w1 ⟨rfl, hb1⟩; simp only [verRes]; have hb2 := below_step hb hb1; have hown1 := pw_own_below hown hb1)
        | (at_builtin; go_must (refine print_append_cells (w0 := w) w.heap.size rfl (.tmp 22) (.tmp 24) 76 82 (.agg #[.int .u16 0, .int .u16 0, .int .u16 0]) 3 6 rfl Tryz.underlying76 infoVer rfl (by decide) (by decide) u4 _ _ (verCells u) rfl (by simp only [World.size_alloc]; rfl) rfl ?_ (World.ownsRow.alloc hown1 _) ?_ ?_ ?_ ?_); intro z hz; simp [verCells] at hz; rcases hz with rfl | rfl | rfl <;> rfl; exact below_alloc hb2 _; exact (below_alloc hb2 _).size; omega; intro v1 w3 hown2 hb3 _ _))
      go_roundw
      case rel => exact ⟨k + 1, _, by omega, by go_num, hown2, hb3⟩
      case measure => simp [intOf]; omega
    · obtain rfl : k = j := by omega
      rw [show verOf x = none by rw [← hxe]; exact HNO.out] at hp
      have HP := Lib.hid hp
      clear hp hcell hxe
      go_wp2_with (first
        | (go_at_call 62; go_must (refine HP.out.mono ?_); rintro e w1 ⟨rfl, hb1⟩; simp only [verRes]; have hb2 := below_step hb hb1))
      go_ret2
      exact ⟨rfl, below_alloc hb2 _⟩

end Go.Proofs.YtiggnmhoececfaaGreatDoor

namespace Go.Proofs.YtiggnmhoececfaaGreatDoor
set_option linter.unusedVariables false
set_option linter.unusedSimpArgs false
open Go.RowKit Go.Proofs.YtiggnmhoececfaaGreatDoorW.PrintWords

def verList (v : Ver) : List Nat := [v.1.1, v.1.2.1, v.1.2.2]
/-- version.Within -/
def within (x y z : Bytes) : Bool := match verOf x, verOf y, verOf z with
  | some a, some b, some c => decide (0 ≤ lexc (verList a) (verList b)) && decide (lexc (verList a) (verList c) ≤ 0)
  | _, _, _ => false

theorem own_blk {w : World} {base : Nat} {e : TypeId} {size n : Nat} {v : Value} {xs : List Value} (h : w.ownsRow base e size v n xs) (h0 : 0 < n) :
    ∃ g c cs, v = .slice (some ⟨g, 0, none⟩) n c ∧ n ≤ c ∧ base ≤ g ∧ g < w.heap.size ∧ w.heap[g]? = some (.cells cs e (0, 0)) ∧ ∀ j u, xs[j]? = some u → w.cell? ⟨g, j, none⟩ = some u := by
  have hlt := h.lt
  have hcl := fun g hg => h.cells (g := g) hg
  obtain ⟨hl, ⟨rfl, h1⟩ | ⟨g, cap, cur, rfl, hb, hh, hc, hm, hs, hx⟩⟩ := h
  · omega
  · refine ⟨g, cap, cur, rfl, hc, hb, (hlt g rfl).2, hh, fun j u hj => ?_⟩
    have := hcl g rfl j u hj
    rw [Lib.add_plain, Nat.zero_add] at this
    exact this

set_option maxHeartbeats 800000 in
set_option maxRecDepth 1000000 in
theorem within_yes (x y z : Bytes) (a b c : Ver) (ha : verOf x = some a) (hb : verOf y = some b) (hc : verOf z = some c) (hx : x.length ≤ 1000000) (hy : y.length ≤ 1000000) (hz : z.length ≤ 1000000) (w : World) (hG : Glob w) :
    Calls Tryz.prog 30 #[.string ⟨x.toArray⟩, .string ⟨y.toArray⟩, .string ⟨z.toArray⟩] w fun e w' => e = .returned (.bool (within x y z)) ∧ Below w.heap.size w w' := by
  have hw : within x y z = (decide (0 ≤ lexc (verList a) (verList b)) && decide (lexc (verList a) (verList c) ≤ 0)) := by unfold within; rw [ha, hb, hc]
  have hf := from_yes (some ⟨w.heap.size, 0, none⟩) 3 [x, y, z] [a, b, c] (by simp [ha, hb, hc]) (by simp) (by intro s hs; simp at hs; rcases hs with rfl | rfl | rfl <;> assumption) (by simp) (w.alloc (.cells (strs [x, y, z]).toArray 9)) (ReadsStrs.of_cells (CellsAt.new _ _ _)) (hG.below (below_alloc (Below.refl _ _) _))
  have HW := Lib.hid hw
  have HF := Lib.hid hf
  clear hw hf ha hb hc
  go_enter Tryz.func30, Tryz.ntmps30
  go_wp2_with (go_at_call 49; go_must (refine HF.out.mono ?_); rintro e w1 ⟨v, rfl, hown, hb1⟩; obtain ⟨g, cap, cs, rfl, hcap, hgb, hgl, hblk, hcell⟩ := own_blk hown (by simp))
  have k0 := hcell 0 _ rfl
  have k1 := hcell 1 _ rfl
  have k2 := hcell 2 _ rfl
  have k3 := hcell 3 _ rfl
  have k4 := hcell 4 _ rfl
  have k5 := hcell 5 _ rfl
  have k6 := hcell 6 _ rfl
  have k7 := hcell 7 _ rfl
  have k8 := hcell 8 _ rfl
  clear hcell hblk hown
  have q0 := fun d os => cell_regrown k0 d os
  have q1 := fun d os => cell_regrown k1 d os
  have q2 := fun d os => cell_regrown k2 d os
  have q3 := fun d os => cell_regrown k3 d os
  have q4 := fun d os => cell_regrown k4 d os
  have q5 := fun d os => cell_regrown k5 d os
  have q6 := fun d os => cell_regrown k6 d os
  have q7 := fun d os => cell_regrown k7 d os
  have q8 := fun d os => cell_regrown k8 d os
  clear k0 k1 k2 k3 k4 k5 k6 k7 k8
  have hb0 := below_step (below_alloc (Below.refl w.heap.size w) (.cells (strs [x, y, z]).toArray 9)) hb1
  by_cases h1 : 0 ≤ lexc (verList a) (verList b)
  · have h1' : decide (0 ≤ lexc [a.1.1, a.1.2.1, a.1.2.2] [b.1.1, b.1.2.1, b.1.2.2]) = true := decide_eq_true h1
    have hv : within x y z = decide (lexc [a.1.1, a.1.2.1, a.1.2.2] [c.1.1, c.1.2.1, c.1.2.2] ≤ 0) := by rw [HW.out]; unfold verList; rw [h1']; rfl
    have HV := Lib.hid hv
    clear hv HW HF
    refine wp_region_quiet_below (by kernel_rfl) (by kernel_rfl) ?_
    repeat (first | go_big_quiet_step ((go_at_call 50; exact Calls.regrown_of (vcmp_any _ _ _ _ _ _ _))) | quiet_step ((go_at_call 50; exact Calls.regrown_of (vcmp_any _ _ _ _ _ _ _))))
    refine wpQuiet_nil ?_
    intro _ hw'
    obtain ⟨⟨dq, osq⟩, hw''⟩ := hw'
    subst hw''
    go_wp2
    go_ret
    exact ⟨ret_bool HV.out.symm, below_step hb0 (below_regrown _ _ _)⟩
  · have h1' : decide (0 ≤ lexc [a.1.1, a.1.2.1, a.1.2.2] [b.1.1, b.1.2.1, b.1.2.2]) = false := decide_eq_false h1
    have hv : within x y z = false := by rw [HW.out]; unfold verList; rw [h1']; rfl
    have HV := Lib.hid hv
    clear hv HW HF
    refine wp_region_quiet_below (by kernel_rfl) (by kernel_rfl) ?_
    repeat (first | go_big_quiet_step ((go_at_call 50; exact Calls.regrown_of (vcmp_any _ _ _ _ _ _ _))) | quiet_step ((go_at_call 50; exact Calls.regrown_of (vcmp_any _ _ _ _ _ _ _))))
    refine wpQuiet_nil ?_
    intro _ hw'
    obtain ⟨⟨dq, osq⟩, hw''⟩ := hw'
    subst hw''
    go_wp2
    go_ret
    exact ⟨ret_bool HV.out.symm, below_step hb0 (below_regrown _ _ _)⟩

set_option maxHeartbeats 800000 in
set_option maxRecDepth 1000000 in
theorem within_not (x y z : Bytes) (j : Nat) (hj : j < 3) (hno : verOf ([x, y, z][j]) = none) (hyes : ∀ i (h : i < 3), i < j → (verOf ([x, y, z][i])).isSome = true) (hx : x.length ≤ 1000000) (hy : y.length ≤ 1000000) (hz : z.length ≤ 1000000) (w : World) (hG : Glob w) :
    Calls Tryz.prog 30 #[.string ⟨x.toArray⟩, .string ⟨y.toArray⟩, .string ⟨z.toArray⟩] w fun e w' => e = .returned (.bool false) ∧ Below w.heap.size w w' := by
  have hf := from_no (some ⟨w.heap.size, 0, none⟩) 3 [x, y, z] j hj hno hyes (by simp) (by intro s hs; simp at hs; rcases hs with rfl | rfl | rfl <;> assumption) (by simp) (w.alloc (.cells (strs [x, y, z]).toArray 9)) (ReadsStrs.of_cells (CellsAt.new _ _ _)) (hG.below (below_alloc (Below.refl _ _) _))
  have HF := Lib.hid hf
  clear hf hno hyes
  go_enter Tryz.func30, Tryz.ntmps30
  go_wp2_with (go_at_call 49; go_must (refine HF.out.mono ?_); rintro e w1 ⟨rfl, hb1⟩; have hb0 := below_step (below_alloc (Below.refl w.heap.size w) (.cells (strs [x, y, z]).toArray 9)) hb1)
  refine wp_region_quiet_below (by kernel_rfl) (by kernel_rfl) ?_
  repeat (first | go_big_quiet_step (fail) | quiet_step (fail))
  refine wpQuiet_nil ?_
  intro _ hw'
  obtain ⟨⟨dq, osq⟩, hw''⟩ := hw'
  subst hw''
  go_wp2
  go_ret
  exact ⟨rfl, below_step hb0 (below_regrown _ _ _)⟩

/-- version.Within -/
theorem within_any (x y z : Bytes) (hx : x.length ≤ 1000000) (hy : y.length ≤ 1000000) (hz : z.length ≤ 1000000) (w : World) (hG : Glob w) :
    Calls Tryz.prog 30 #[.string ⟨x.toArray⟩, .string ⟨y.toArray⟩, .string ⟨z.toArray⟩] w fun e w' => e = .returned (.bool (within x y z)) ∧ Below w.heap.size w w' := by
  cases ha : verOf x with
  | none =>
    rw [show within x y z = false by unfold within; rw [ha]]
    exact within_not x y z 0 (by omega) ha (fun i _ h => by omega) hx hy hz w hG
  | some a =>
    cases hb : verOf y with
    | none =>
      rw [show within x y z = false by unfold within; rw [ha, hb]]
      refine within_not x y z 1 (by omega) hb (fun i _ h => ?_) hx hy hz w hG
      obtain rfl : i = 0 := by omega
      show (verOf x).isSome = true
      rw [ha]; rfl
    | some b =>
      cases hc : verOf z with
      | none =>
        rw [show within x y z = false by unfold within; rw [ha, hb, hc]]
        refine within_not x y z 2 (by omega) hc (fun i _ h => ?_) hx hy hz w hG
        have : i = 0 ∨ i = 1 := by omega
        rcases this with rfl | rfl
        · show (verOf x).isSome = true
          rw [ha]; rfl
        · show (verOf y).isSome = true
          rw [hb]; rfl
      | some c => exact within_yes x y z a b c ha hb hc hx hy hz w hG

end Go.Proofs.YtiggnmhoececfaaGreatDoor

namespace Go.Proofs.YtiggnmhoececfaaGreatDoor
set_option linter.unusedVariables false
set_option linter.unusedSimpArgs false
open Go.RowKit Go.Shelf Go.Proofs.YtiggnmhoececfaaGreatDoorW.PrintWords
attribute [local go_sem] Oper.semAt_some

def verAgg (x : Ver) : Value := .agg #[.int .u16 (x.1.1 : Nat), .int .u16 (x.1.2.1 : Nat), .int .u16 (x.1.2.2 : Nat)]
def verEnc (x : Ver) : Array Value := #[verAgg x]

/-- The cells of block b hold these versions. -/
def VersAt (W : World) (b : Nat) (zs : List Ver) : Prop := ∃ cs T, W.heap[b]? = some (.cells cs T (0, 0)) ∧ ∀ j (h : j < zs.length), cs[j * 3]? = some (.int .u16 (zs[j].1.1 : Nat)) ∧ cs[j * 3 + 1]? = some (.int .u16 (zs[j].1.2.1 : Nat)) ∧ cs[j * 3 + 2]? = some (.int .u16 (zs[j].1.2.2 : Nat))

theorem VersAt.get {W : World} {b : Nat} {zs : List Ver} (h : VersAt W b zs) (j : Nat) (hj : j < zs.length) :
    W.cell? ⟨b, j * 3, none⟩ = some (.int .u16 (zs[j].1.1 : Nat)) ∧ W.cell? ⟨b, j * 3 + 1, none⟩ = some (.int .u16 (zs[j].1.2.1 : Nat)) ∧ W.cell? ⟨b, j * 3 + 2, none⟩ = some (.int .u16 (zs[j].1.2.2 : Nat)) := by
  obtain ⟨cs, T, hc, hz⟩ := h
  obtain ⟨h0, h1, h2⟩ := hz j hj
  exact ⟨(blk_cell hc _).trans h0, (blk_cell hc _).trans h1, (blk_cell hc _).trans h2⟩

set_option maxRecDepth 100000 in
set_option maxHeartbeats 2000000 in
theorem values1_in (l Bs b cap : Nat) (zs : List Ver) (hreach : zs.length ≤ 1000) (J Jx : List Ver → World → Prop)
    (hY : ∀ pre x W, J pre W → pre.length < zs.length → YieldAt Fence.wide 8 Tryz.prog l (verEnc x) W fun e W' =>
      (e = .returned (.bool true) ∧ J (pre ++ [x]) W' ∧ W'.heap[b]? = W.heap[b]?) ∨ (e = .returned (.bool false) ∧ Jx (pre ++ [x]) W'))
    (hJ : ∀ pre (A B : World), J pre A → Below A.heap.size A B → J pre B)
    (W : World) (hBs : W.cell? ⟨Bs, 0, none⟩ = some (.slice (some ⟨b, 0, none⟩) zs.length cap)) (hc : VersAt W b zs) (h0 : J [] W) :
    CallsIn Fence.wide 9 Tryz.prog 84 #[.func (.yield l) #[] #[], .pointer (some ⟨Bs, 0, none⟩)] W fun e W' => (∃ v, e = .returned v) ∧
      ((∃ ys, ys = zs ∧ J ys W') ∨ (∃ pre, pre <+: zs ∧ Jx pre W')) := by
  refine callsIn_of_wp Tryz.func84 rfl trivial ?_ rfl
  simp only [Tryz.ntmps84, List.size_toArray, List.length_cons, List.length_nil, Nat.reduceAdd, Nat.reduceSub, Array.replicate_succ, Array.replicate_zero, List.push_toArray, List.append_toArray, List.nil_append, List.cons_append]
  gi_wp2
  gi_loopw [7] (fun i wr => ∃ k : Nat, k ≤ zs.length ∧ i = .int .i64 k ∧ J (zs.take k) wr ∧ wr.heap[b]? = W.heap[b]?)
    (fun i _ => zs.length - (intOf i).toNat)
  case atStart => exact ⟨0, Nat.zero_le _, rfl, h0, rfl⟩
  case round =>
    obtain ⟨k, hk, rfl, hJs, hnx⟩ := hrel
    by_cases hlt : k < zs.length
    · have hc' : VersAt wr b zs := by obtain ⟨cs, T, hc1, hz⟩ := hc; exact ⟨cs, T, hnx.trans hc1, hz⟩
      obtain ⟨c0, c1, c2⟩ := hc'.get k hlt
      obtain ⟨fn, tmps, assign, body, hy, hR⟩ := hY (zs.take k) zs[k] (wr.alloc (.cells #[.int .u16 (zs[k].1.1 : Nat), .int .u16 (zs[k].1.2.1 : Nat), .int .u16 (zs[k].1.2.2 : Nat)] 82)) (hJ _ _ _ hJs (below_alloc (Below.refl _ _) _)) (by rw [List.length_take]; omega)
      dsimp only [verEnc, verAgg] at hy
      have hbk : b < wr.heap.size := by obtain ⟨cs, T, hc1, _⟩ := hc'; exact blk_lt hc1
      have HN := Lib.hid hnx
      clear hnx hc hc'
      gi_wp2
      refine hR.mono ?_
      rintro e W3 (⟨rfl, hJ3, hk3⟩ | ⟨rfl, hJx3⟩)
      · have hk4 : W3.heap[b]? = W.heap[b]? := hk3.trans ((Below.heap_alloc _ _ _ hbk).trans HN.out)
        have HK := Lib.hid hk4
        clear hk4 hk3
        have hts : zs.take (k + 1) = zs.take k ++ [zs[k]] := List.take_succ_eq_append_getElem hlt
        have HTS := Lib.hid hts
        clear hts
        gi_wp2
        go_roundw
        case rel => exact ⟨k + 1, by omega, by go_num, by rw [HTS.out]; exact hJ3, HK.out⟩
        case measure => simp [intOf]; omega
      · gi_wp2
        refine bodyPost_ret (results_none rfl _ _ _) rfl ?_
        exact ⟨⟨_, rfl⟩, .inr ⟨_, by rw [← List.take_succ_eq_append_getElem hlt]; exact List.take_prefix _ _, hJx3⟩⟩
    · obtain rfl : k = zs.length := by omega
      rw [List.take_of_length_le (Nat.le_refl _)] at hJs
      clear hnx
      gi_wp2
      go_end0
      exact ⟨⟨_, rfl⟩, .inl ⟨_, rfl, hJs⟩⟩

theorem values_any (a : Option Addr) (len cap : Nat) (w : World) :
    Calls Tryz.prog 75 #[.slice a len cap] w fun e w' => e = .returned (.func (.func 84) #[] #[.pointer (some ⟨w.heap.size, 0, none⟩)]) ∧ w' = w.alloc (.cells #[.slice a len cap] 76) := by
  go_enter Tryz.func75, Tryz.ntmps75
  go_wp2
  go_ret
  exact ⟨rfl, rfl⟩

def knownV : List Ver := [⟨(2, 1, 0), by decide⟩, ⟨(2, 2, 0), by decide⟩]

/-- version.Known: an iterator over two versions -/
theorem known_any (w : World) :
    Calls Tryz.prog 67 #[] w fun e w' => e = .returned (.func (.func 84) #[] #[.pointer (some ⟨w.heap.size + 1, 0, none⟩)]) ∧
      w' = (w.alloc (.cells #[.int .u16 2, .int .u16 1, .int .u16 0, .int .u16 2, .int .u16 2, .int .u16 0] 82)).alloc (.cells #[.slice (some ⟨w.heap.size, 0, none⟩) 2 2] 76) := by
  go_enter Tryz.func67, Tryz.ntmps67
  go_wp2_with (go_at_call 75; go_must (refine (values_any _ _ _ _).mono ?_); rintro e w1 ⟨rfl, rfl⟩)
  go_ret
  exact ⟨by simp, rfl⟩

/-! Blocks of cells, between a loop's rounds -/
theorem ownFrom_blk {β : Type} (B k : Nat) (f : β → Array Value) (T : TypeId) : OwnFrom B (fun s W => W.heap[k]? = some (.cells (f s) T (0, 0))) := fun s A C row hs hg hr =>
  (hg.block k (blk_lt hs) (fun e => by obtain ⟨_, o, ho, hc⟩ := hr k e.symm; rw [hs] at ho; cases ho; cases hc)).trans hs

theorem seq_known (Bs b : Nat) (w0 : World) (hBs : w0.heap[Bs]? = some (.cells #[.slice (some ⟨b, 0, none⟩) 2 2] 76 (0, 0))) (hc : VersAt w0 b knownV) :
    SeqStopsK Fence.wide 9 Tryz.prog 84 #[.pointer (some ⟨Bs, 0, none⟩)] verEnc (fun A B => B.heap[b]? = A.heap[b]?) (fun ys => ys = knownV) (fun pre => pre <+: knownV) 2 w0 := by
  intro l J Jx W hW hJ _ hY h0
  have hbs := hW.block Bs (blk_lt hBs)
  obtain ⟨cs, T, hb, hz⟩ := hc
  have hbb := hW.block b (blk_lt hb)
  exact values1_in l Bs b 2 knownV (by decide) J Jx hY (fun pre A B hj hAB => hJ pre A B none hj (grown_of_below hAB none) (fun r e => by cases e)) W
    (blk_cell (hbs.trans hBs) 0) ⟨cs, T, hbb.trans hb, hz⟩ h0

theorem keepsFrom_below {B : Nat} {W W2 : World} (h : Below W.heap.size W W2) : KeepsFrom B W W2 := ⟨h.size, fun k o _ hk _ => (h.block k (Array.getElem?_eq_some_iff.1 hk).1).trans hk⟩

def bestStep (low high : Bytes) (acc : Bytes) (v : Ver) : Bytes := if within (verText v.1.1 v.1.2.1 v.1.2.2) low high = true then verText v.1.1 v.1.2.1 v.1.2.2 else acc
def bestOf (low high : Bytes) (vs : List Ver) : Bytes := vs.foldl (bestStep low high) []
theorem bestOf_snoc (low high : Bytes) (vs : List Ver) (v : Ver) : bestOf low high (vs ++ [v]) = bestStep low high (bestOf low high vs) v := by simp [bestOf]

theorem verText_len (a b c : Nat) (ha : a < 65536) (hb : b < 65536) (hc : c < 65536) : (verText a b c).length ≤ 1000000 := by
  have h1 := text0_len a (by omega); have h2 := text0_len b (by omega); have h3 := text0_len c (by omega)
  simp [verText, Lib.join, List.intercalate]; omega

set_option maxRecDepth 100000 in
set_option maxHeartbeats 2000000 in
/-- version.Best -/
theorem best_any (low high : Bytes) (hlo : low.length ≤ 1000000) (hh : high.length ≤ 1000000) (w : World) (hG : Glob w) :
    Calls Tryz.prog 60 #[.string ⟨low.toArray⟩, .string ⟨high.toArray⟩] w fun e w' => e = .returned (.tuple #[.string ⟨(bestOf low high knownV).toArray⟩, .bool (!(bestOf low high knownV).isEmpty)]) ∧ Below w.heap.size w w' := by
  refine (callsIn_wide (n := 10)).1 ?_
  refine callsIn_of_wp_marks Tryz.func60 rfl trivial ?_ rfl
  simp only [Tryz.ntmps60, List.size_toArray, List.length_cons, List.length_nil, Nat.reduceAdd, Nat.reduceSub, Array.replicate_succ, Array.replicate_zero, List.push_toArray, List.append_toArray, List.nil_append, List.cons_append]
  gi_wp2_with (refine ⟨trivial, ?_⟩; gi_at_call 67; go_must (refine ((callsIn_wide (n := 9)).2 (known_any _)).mono ?_); rintro e w1 ⟨rfl, hw1⟩; have HW1 := Lib.hid hw1; clear hw1)
  have hw2 : w1 = allocs w [.cells #[.string ⟨low.toArray⟩] 9, .cells #[.string ⟨high.toArray⟩] 9, .cells #[.string ⟨([] : Bytes).toArray⟩] 9, .cells #[.int .u16 2, .int .u16 1, .int .u16 0, .int .u16 2, .int .u16 2, .int .u16 0] 82, .cells #[.slice (some ⟨w.heap.size + 3, 0, none⟩) 2 2] 76] := by
    rw [HW1.out]
    simp only [World.size_alloc]
    rfl
  have hsz : w1.heap.size = w.heap.size + 5 := by rw [hw2, allocs_size]; rfl
  have g2 : w1.heap[w.heap.size]? = some (.cells #[.string ⟨low.toArray⟩] 9 (0, 0)) := by rw [hw2]; exact allocs_get w _ 0 _ rfl
  have g3 : w1.heap[w.heap.size + 1]? = some (.cells #[.string ⟨high.toArray⟩] 9 (0, 0)) := by rw [hw2]; exact allocs_get w _ 1 _ rfl
  have g6 : w1.heap[w.heap.size + 1 + 1]? = some (.cells #[.string ⟨(bestOf low high []).toArray⟩] 9 (0, 0)) := by rw [hw2]; exact allocs_get w _ 2 _ rfl
  have gb : VersAt w1 (w.heap.size + 3) knownV := by
    rw [hw2]
    refine ⟨_, _, allocs_get w _ 3 _ rfl, fun j hj => ?_⟩
    have : j = 0 ∨ j = 1 := by have : j < 2 := hj; omega
    rcases this with rfl | rfl <;> exact ⟨rfl, rfl, rfl⟩
  have gs : w1.heap[w.heap.size + 4]? = some (.cells #[.slice (some ⟨w.heap.size + 3, 0, none⟩) 2 2] 76 (0, 0)) := by rw [hw2]; exact allocs_get w _ 4 _ rfl
  have hbelow : Below w.heap.size w w1 := by rw [hw2]; exact allocs_below _ _
  have hseq := seq_known (w.heap.size + 4) (w.heap.size + 3) w1 gs gb
  clear hw2 HW1 gb gs
  refine wpIn_rangeFunc_ownH rfl (by omega) (gf := 84) (lb := #[.pointer (some ⟨w.heap.size + 4, 0, none⟩)]) rfl trivial (enters_of Tryz.func84 (by kernel_rfl) rfl)
    hseq (fun h k => k.trans h) (fun W l o o' hl ho _ _ => World.putObj_heap_other (by omega)) (Below.refl _ _) (fun _ => rfl)
    (fun pre W => W.heap[w.heap.size + 1 + 1]? = some (.cells #[.string ⟨(bestOf low high pre).toArray⟩] 9 (0, 0)) ∧ W.heap[w.heap.size]? = some (.cells #[.string ⟨low.toArray⟩] 9 (0, 0)) ∧ W.heap[w.heap.size + 1]? = some (.cells #[.string ⟨high.toArray⟩] 9 (0, 0)) ∧ Below w.heap.size w W ∧ w1.heap.size ≤ W.heap.size)
    (fun _ _ _ => False)
    (OwnFrom.and (ownFrom_blk _ _ _ _) (OwnFrom.and (ownFrom_blk _ _ _ _) (OwnFrom.and (ownFrom_blk _ _ _ _) (OwnFrom.and (ownFrom_below (Nat.le_refl _) (by omega)) (fun s A B row hs hg hr => Nat.le_trans hs hg.size)))))
    (fun _ _ _ _ _ hs _ _ => hs)
    ⟨g6, g2, g3, hbelow, Nat.le_refl _⟩
    (fun x a' W => ∃ Bx, w1.heap.size ≤ Bx ∧ W.heap[Bx]? = some (.cells #[.int .u16 (x.1.1 : Nat), .int .u16 (x.1.2.1 : Nat), .int .u16 (x.1.2.2 : Nat)] 82 (0, 0)) ∧ a' = { tmps := #[.string ⟨low.toArray⟩, .string ⟨high.toArray⟩, .pointer (some ⟨w.heap.size, 0, none⟩), .pointer (some ⟨w.heap.size + 1, 0, none⟩), .string ⟨#[]⟩, .bool false, .pointer (some ⟨w.heap.size + 1 + 1, 0, none⟩), .pointer (some ⟨Bx, 0, none⟩), undef, .func (.func 84) #[] #[.pointer (some ⟨w.heap.size + 1 + 1 + 1 + 1, 0, none⟩)], verAgg x, undef, undef, undef, undef, undef, undef, undef, undef, undef, undef], defers := [] })
    (fun x a' s A B row hs hg hr => by
      obtain ⟨Bx, h1, h2, h3⟩ := hs
      exact ⟨Bx, h1, ownFrom_blk _ Bx (fun (_ : Unit) => _) _ () A B row h2 hg hr, h3⟩)
    ?assign ?body ?done ?stop
  case assign =>
    rintro l pre x W K ⟨i6, i2, i3, ib, is⟩ hK
    have e1 : (verEnc x) = #[.agg #[.int .u16 (x.1.1 : Nat), .int .u16 (x.1.2.1 : Nat), .int .u16 (x.1.2.2 : Nat)]] := rfl
    rw [e1]
    clear e1
    have hb3 : w.heap.size + 3 < W.heap.size := by omega
    gi_wp2
    refine hK _ _ ((KeepsOthers.alloc _ _).from _) (Below.heap_alloc _ _ _ hb3) ⟨blk_alloc i6 _, blk_alloc i2 _, blk_alloc i3 _, below_alloc ib _, by simp; omega⟩ ⟨W.heap.size, is, blk_new _ _, rfl⟩
  case body =>
    rintro l pre x a' W hl ⟨r, hr⟩ ⟨i6, i2, i3, ib, is⟩ ⟨Bx, hBx, bX, rfl⟩ hlt
    have hGW := hG.below ib
    have ht := vtext_any x.1.1 x.1.2.1 x.1.2.2 x.2.1 x.2.2.1 x.2.2.2 W hGW
    have hwi := fun W1 => within_any (verText x.1.1 x.1.2.1 x.1.2.2) low high (verText_len _ _ _ x.2.1 x.2.2.1 x.2.2.2) hlo hh W1
    obtain ⟨x0, x1, x2, _, _, _⟩ := blk3 bX
    have hstep := bestOf_snoc low high pre x
    unfold bestStep at hstep
    obtain ⟨tx, htx⟩ : ∃ tx, verText x.1.1 x.1.2.1 x.1.2.2 = tx := ⟨_, rfl⟩
    rw [htx] at ht hwi hstep
    cases hwb : within tx low high with
    | true =>
      rw [hwb, if_pos rfl] at hstep
      rw [hwb] at hwi
      have HT := Lib.hid ht
      have HW := Lib.hid hwi
      have HS := Lib.hid hstep
      clear ht hwi hstep hwb htx hr hlt bX
      gi_wp2_with (first
        | (refine ⟨trivial, ?_⟩; gi_at_call 68; go_must (refine (CallsIn.inRound l ((callsIn_wide (n := 7)).2 HT.out)).mono ?_); rintro e W1 ⟨rfl, hb1⟩; have j2 := blk_cell (blk_below i2 hb1) 0; have j3 := blk_cell (blk_below i3 hb1) 0)
        | (refine ⟨trivial, ?_⟩; gi_at_call 30; go_must (refine (CallsIn.inRound l ((callsIn_wide (n := 7)).2 (HW.out _ (hGW.below hb1)))).mono ?_); rintro e W2 ⟨rfl, hb2⟩; have hb3 := below_step hb1 hb2; have j6 := blk_cell (blk_below i6 hb3) 0; have f6 := blk_frozen (blk_below i6 hb3) 0))
      have hk3 : w.heap.size + 3 < W.heap.size := by omega
      refine ⟨(keepsFrom_below hb3).trans ((KeepsOthers.setCell _ _ _).from _), (Below.heap_setCell _ _ _ _ (by simp)).trans (hb3.block _ hk3), ?_, blk_far (blk_below i2 hb3) (by show w.heap.size ≠ w.heap.size + 1 + 1; omega) _, blk_far (blk_below i3 hb3) (by simp) _, (below_step ib hb3).setCell (by simp; omega) _, ?_⟩
      · have := blk_set (blk_below i6 hb3) 0 (.string ⟨tx.toArray⟩)
        rw [HS.out]
        exact this
      · have := hb3.size
        simp [World.setCell]
        omega
    | false =>
      rw [hwb, if_neg (by decide)] at hstep
      rw [hwb] at hwi
      have HT := Lib.hid ht
      have HW := Lib.hid hwi
      have HS := Lib.hid hstep
      clear ht hwi hstep hwb htx hr hlt bX
      gi_wp2_with (first
        | (refine ⟨trivial, ?_⟩; gi_at_call 68; go_must (refine (CallsIn.inRound l ((callsIn_wide (n := 7)).2 HT.out)).mono ?_); rintro e W1 ⟨rfl, hb1⟩; have j2 := blk_cell (blk_below i2 hb1) 0; have j3 := blk_cell (blk_below i3 hb1) 0)
        | (refine ⟨trivial, ?_⟩; gi_at_call 30; go_must (refine (CallsIn.inRound l ((callsIn_wide (n := 7)).2 (HW.out _ (hGW.below hb1)))).mono ?_); rintro e W2 ⟨rfl, hb2⟩; have hb3 := below_step hb1 hb2; have j6 := blk_cell (blk_below i6 hb3) 0; have f6 := blk_frozen (blk_below i6 hb3) 0))
      have hk3 : w.heap.size + 3 < W.heap.size := by omega
      refine ⟨keepsFrom_below hb3, hb3.block _ hk3, ?_, blk_below i2 hb3, blk_below i3 hb3, below_step ib hb3, ?_⟩
      · rw [HS.out]; exact blk_below i6 hb3
      · have := hb3.size
        omega
  case done =>
    rintro D ys W hD rfl ⟨i6, i2, i3, ib, is⟩ hK
    have j6 := blk_cell i6 0
    obtain ⟨tx, htx⟩ : ∃ tx, bestOf low high knownV = tx := ⟨_, rfl⟩
    have HTX := Lib.hid htx
    rw [htx] at j6
    clear htx i2 i3 i6 hseq
    replace j6 : W.cell? ⟨w.heap.size + 1 + 1, 0, none⟩ = some (.string ⟨tx.toArray⟩) := j6
    gi_wp2
    refine wpIn_wide.2 ?_
    go_quiet (fail)
    gi_wp2
    have hK2 : (W.drewN nq).heap[D]? = some (.deferred (some [])) := hK
    refine ⟨by simp, .inl ⟨_, _, rfl, run_takeDeferred hK2, ?_⟩⟩
    refine ⟨_, results_tmp2 rfl _ _ _, ?_, ?_⟩
    · rw [HTX.out]; rfl
    · exact (pw_below_drewN ib nq).trans (belowK_b (w := w) (Nat.le_refl _) (W.drewN nq) D _ _ (by omega) hK2 rfl rfl)
  case stop =>
    rintro D c pre W _ _ h _
    exact h.elim

end Go.Proofs.YtiggnmhoececfaaGreatDoor
