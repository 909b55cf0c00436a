/- Texts taken together, trimmed. -/
import Derived.Test.YtfocognhcljhpaaGreatDoorR1
import Derived.Test.YtfocognhcljhpaaGreatDoorR2
import Derived.Test.YtfocognhcljhpaaGreatDoorProg
import Derived.Below
import Derived.Deep.Draws
import Derived.Deep.AppendLies
import Derived.Maps.AppendAt
import Derived.OwnWalk
import Derived.Laws.BytesArg
import Derived.Laws.MakeOwn
import Derived.Laws.OwnMore
import Derived.Deep.OwnRows
import Derived.Tactics
import Derived.Lib.ConvBytes
import Derived.Laws.Slices
import Derived.WalkKit
import Derived.KernelRfl
import Derived.RowKit3
import Derived.Deep.LoopGhost
import Derived.Deep.QuietTactic
import Derived.BigQuiet
import Derived.WideLaws
import Derived.Deep.DeepCutAuto
import Derived.Deep.CutBlock
import Derived.Deep.RegionHeld3
import Derived.Laws.Rows
import Derived.Lib.AppendStr
import Derived.ArgAppend
import Derived.Laws.IdiomCopy
import Derived.OrdersHeld
import Derived.Laws.BitsLemmas
import Derived.RowKit
import Derived.Maps.OwnSet
import Derived.Maps.OwnOps
import Derived.Maps.Views
import Derived.DeepKeys4
import Derived.WideKeyMaps
import Derived.Laws.CopyOwn
import Derived.Lib.AppendZerosOnto
import Derived.Lib.Overlaps
import Derived.Laws.Externs
import Derived.Laws.AppendOwn
import Derived.Shelf.Spec.SlicesInsert
import Derived.Deep.Slices
import Derived.ProofKit
import Derived.RangeFuncNested
import Derived.RangeFuncBound
import Derived.RangeFuncCalls
import Derived.RangeFuncLeaves
set_option linter.unusedVariables false
set_option linter.unusedSimpArgs false
namespace Go.Proofs.YtfocognhcljhpaaGreatDoorW.PrintLast
def up (b : Nat → Bool) (i : Nat) : Nat → Bool := fun j => if j = i then true else b j
def lof (n : Nat) (O : List Nat) (b : Nat → Bool) : List Bool := (List.range n).map fun j => if O.contains j then b j else true
def putSel (a : Act) (b : Nat → Bool) : List (Nat × Tmp × Value) → Act
 | [] => a
 | e :: r => putSel (if b e.1 = true then a.put (some e.2.1) e.2.2 else a) b r
section
variable {P : Program} {ops : Array Oper} {Q : Exit → Act → World → Prop} {md : Region.Mode} {T : Bool × List (List Nat × List Nat)} {B : List Nat} {O : List Nat} {b : Nat → Bool} {i j n : Nat}
def StepAt (P : Program) (ops : Array Oper) (Q : Exit → Act → World → Prop) (B : List Nat) (O : List Nat) (I : (Nat → Bool) → Act → World → Prop) (i : Nat) : Prop :=
 ∀ b a w, I b a w → b i = false → (∀ j, (O.contains j && (B.getD i 0).testBit j) = true → b j = true) → (∀ d, (O.contains d && (B.getD d 0).testBit i) = true → b d = false) →
  ∃ oi, ops[i]? = some oi ∧ ∀ K : Act → World → Prop, Shut (∀ a' w', I (up b i) a' w' → K a' w') → if Region.wanted oi (yielded ops a.tmps) = true then Oper.wp P oi a w K Q else K (a.put oi.dst undef) w
def baseOk (T : List (List Nat × List Nat)) (O : List Nat) : Bool :=
 (List.range T.length).all (fun d => match T[d]? with
  | some r => (O.contains d || r.1.all fun n => !O.contains n) && r.1.all fun n => decide (n < d)
  | none => false) && O.all (fun i => decide (i < T.length)) && decide O.Nodup
def Closed (T : List (List Nat × List Nat)) (O : List Nat) (b : Nat → Bool) : Prop := ∀ d r, T[d]? = some r → O.contains d = true → b d = true → ∀ n ∈ r.1, O.contains n = true → b n = true
theorem put_comm {a : Act} {s t : Tmp} {u v : Value} (h : s ≠ t) : (a.put (some s) u).put (some t) v = (a.put (some t) v).put (some s) u := by
 simp only [Act.put]
 rw [Array.setIfInBounds_comm _ _ h]
end
end Go.Proofs.YtfocognhcljhpaaGreatDoorW.PrintLast
namespace Go.Proofs.YtfocognhcljhpaaGreatDoorW.PrintWords
open Go.RowKit
end Go.Proofs.YtfocognhcljhpaaGreatDoorW.PrintWords
namespace Go.Proofs.YtfocognhcljhpaaGreatDoorW.PrintLast
section
variable {ops : Array Oper} {a : Act} {o og : Oper} {g : Nat} {t : Tmp} {u : Bool}
end
end Go.Proofs.YtfocognhcljhpaaGreatDoorW.PrintLast
namespace Go.Proofs.YtfocognhcljhpaaGreatDoorW.PrintWords
open Go.RowKit
section
variable {P : Program} {ops : Array Oper} {rest : List Oper} {o : Oper} {a : Act} {Q : Exit → Act → World → Prop} {W : World}
theorem gate_guard (hw : Region.wanted o (yielded ops a.tmps) = true) (h : wpList P ops Q ({ o with guard := none } :: rest) a W) : wpList P ops Q (o :: rest) a W := by
 have h1 : Region.wanted { o with guard := none } (yielded ops a.tmps) = true := rfl
 unfold wpList at h ⊢
 rw [if_pos h1] at h
 rw [if_pos hw]
 exact h
end
end Go.Proofs.YtfocognhcljhpaaGreatDoorW.PrintWords
namespace Go.Proofs.YtfocognhcljhpaaGreatDoorW.PrintWords
open Go.RowKit
namespace Kd
section
variable {α : Type} {d : Kd α} {e base n cap g : Nat} {ok ok' okp : Nat → Prop} {w w1 W : World} {v v1 : Value} {xs ys : List α}
end
section
variable {P : Program} {ops : Array Oper} {rest : List Oper} {o : Oper} {a : Act} {Q : Exit → Act → World → Prop} {Kc : Act → World → Prop} {α : Type}
end
end Kd
end Go.Proofs.YtfocognhcljhpaaGreatDoorW.PrintWords
namespace Go.Proofs.YtfocognhcljhpaaGreatDoorW.PrintMore
open Go.RowKit Go.Proofs.YtfocognhcljhpaaGreatDoorW.PrintWords
namespace Kd
open Go.Proofs.YtfocognhcljhpaaGreatDoorW.PrintWords.Kd
end Kd
namespace Kd
open Go.Proofs.YtfocognhcljhpaaGreatDoorW.PrintWords.Kd
section
variable {α : Type} {d : Kd α} {e base g N : Nat} {ok : Nat → Prop} {W w1 : World} {u v : Value} {xs : List α}
end
end Kd
theorem max2_int (k k' : IntKind) (x y : Int) : Builtin.max2 (.int k x) (.int k' y) = pure (.int k (if x < y then y else x)) := by simp only [Builtin.max2, gt_iff_lt]
theorem min2_int (k k' : IntKind) (x y : Int) : Builtin.min2 (.int k x) (.int k' y) = pure (.int k (if y < x then y else x)) := by simp only [Builtin.min2]
theorem max_two (ats : Array TypeId) (ty : TypeId) (a b : Value) : Builtin.max_ ats ty #[a, b] = (Builtin.max2 a b >>= fun s => pure s) := by simp only [Builtin.max_, List.foldlM_cons, List.foldlM_nil]
theorem min_two (ats : Array TypeId) (ty : TypeId) (a b : Value) : Builtin.min_ ats ty #[a, b] = (Builtin.min2 a b >>= fun s => pure s) := by simp only [Builtin.min_, List.foldlM_cons, List.foldlM_nil]
theorem max_three (ats : Array TypeId) (ty : TypeId) (a b c : Value) : Builtin.max_ ats ty #[a, b, c] = (Builtin.max2 a b >>= fun s => Builtin.max2 s c >>= fun s => pure s) := by simp only [Builtin.max_, List.foldlM_cons, List.foldlM_nil]
theorem min_three (ats : Array TypeId) (ty : TypeId) (a b c : Value) : Builtin.min_ ats ty #[a, b, c] = (Builtin.min2 a b >>= fun s => Builtin.min2 s c >>= fun s => pure s) := by simp only [Builtin.min_, List.foldlM_cons, List.foldlM_nil]
theorem max_four (ats : Array TypeId) (ty : TypeId) (a b c d : Value) : Builtin.max_ ats ty #[a, b, c, d] = (Builtin.max2 a b >>= fun s => Builtin.max2 s c >>= fun s => Builtin.max2 s d >>= fun s => pure s) := by simp only [Builtin.max_, List.foldlM_cons, List.foldlM_nil]
theorem min_four (ats : Array TypeId) (ty : TypeId) (a b c d : Value) : Builtin.min_ ats ty #[a, b, c, d] = (Builtin.min2 a b >>= fun s => Builtin.min2 s c >>= fun s => Builtin.min2 s d >>= fun s => pure s) := by simp only [Builtin.min_, List.foldlM_cons, List.foldlM_nil]
end Go.Proofs.YtfocognhcljhpaaGreatDoorW.PrintMore
namespace Go.Proofs.YtfocognhcljhpaaGreatDoorW.PrintWords
open Go.RowKit
section
variable {P : Program} {ops : Array Oper} {rest : List Oper} {o : Oper} {a : Act} {Q : Exit → Act → World → Prop} {W : World}
theorem gate_callee {f : FuncId} {as_ : Array Operand} {ts : Array TypeId} (_ho : o.op = .call { callee := .value (.func f), args := as_, argTypes := ts }) (h : wpList P ops Q (o :: rest) a W) : wpList P ops Q (o :: rest) a W := h
theorem gate_builtin {b : Builtin} {xs : Array Operand} {ts : Array TypeId} (_ho : o.op = .call { callee := .builtin b, args := xs, argTypes := ts }) (h : wpList P ops Q (o :: rest) a W) : wpList P ops Q (o :: rest) a W := h
end
def mx (a b : Int) : Int := if a < b then b else a
def mn (a b : Int) : Int := if b < a then b else a
def shl (k : IntKind) (x y : Int) : Int := k.wrap (x * 2 ^ min y.toNat k.bits)
def shr (k : IntKind) (x y : Int) : Int := x / 2 ^ min y.toNat k.bits
theorem shl_small {k : IntKind} {x y j : Int} (h : shl k x y = j) (hy : y ≤ k.bits) : k.wrap (x * 2 ^ y.toNat) = j := by rw [← h]; unfold shl; rw [Nat.min_eq_left (by omega)]
namespace Kd
section
variable {α : Type} {d : Kd α} {e base : Nat} {ok : Nat → Prop} {W w1 : World} {v : Value} {xs : List α}
end
section
variable {α : Type} {d : Kd α} {e base g n cap : Nat} {ok oki okp : Nat → Prop} {W : World} {xs : List α} {i : Int} {c : List Value}
end
section
variable {α : Type} {d : Kd α} {e base b b' g N : Nat} {ok ok1 : Nat → Prop} {W W2 w1 : World} {u v : Value} {xs ys : List α} {S : Nat → Prop}
end
end Kd
end Go.Proofs.YtfocognhcljhpaaGreatDoorW.PrintWords
namespace Go.Proofs.YtfocognhcljhpaaGreatDoorW.PrintWords
open Go.RowKit
namespace Kd
def V {α : Type} (d : Kd α) (_e : Nat) (W : World) (_base : Nat) (ok : Nat → Prop) (v : Value) (xs : List α) : Prop := ∃ A c, v = .slice A xs.length c ∧ xs.length ≤ c ∧ F d W ok A xs.length xs
section
variable {α β : Type} {d : Kd α} {e base base' n m c g N' lo hi : Nat} {ok ok' S : Nat → Prop} {w W w1 : World} {A : Option Addr} {ad : Addr} {u v v1 : Value} {xs : List α}
end
end Kd
end Go.Proofs.YtfocognhcljhpaaGreatDoorW.PrintWords
namespace Go.Proofs.YtfocognhcljhpaaGreatDoor.PPrintRows
open Go.RowKit Go.Proofs.YtfocognhcljhpaaGreatDoorW.PrintWords Go.Proofs.YtfocognhcljhpaaGreatDoorW.PrintLast Go.Proofs.YtfocognhcljhpaaGreatDoorW.PrintMore
attribute [local go_sem] max2_int min2_int max_two min_two max_three min_three max_four min_four   -- for this text's walks alone
def errW : Option Int → Value
 | none => .nilIface
 | some c => .iface 0 (.int .i64 c)
theorem errW_none : errW none = .nilIface := rfl
theorem errW_some (c : Int) : errW (some c) = .iface 0 (.int .i64 c) := rfl
theorem info3 : (Tryz.prog.info? 3).map (fun i => (i.zero, i.size, i.bytes)) = some (some (.int .i64 0), 1, 8) := by kernel_rfl
theorem info5 : (Tryz.prog.info? 5).map (fun i => (i.zero, i.size, i.bytes)) = some (some (.int .u8 0), 1, 1) := by kernel_rfl
structure S48 where
 f0 : Int
 f1 : ByteArray
 f2 : ByteArray
 f3 : Int
 f4 : Int
def z48 : S48 := ⟨(0 : Int), (⟨#[]⟩ : ByteArray), (⟨#[]⟩ : ByteArray), (0 : Int), (0 : Int)⟩
def k48 : Kd S48 := Kd.iso (Kd.pair (Kd.int .i64) (Kd.pair Kd.string (Kd.pair Kd.string (Kd.pair (Kd.int .i64) (Kd.int .i64))))) (fun x : S48 => (x.f0, x.f1, x.f2, x.f3, x.f4))
theorem k48_open {w : World} {x : S48} {cs : List Value} (h : k48.K w x cs) : cs = [.int .i64 x.f0, .string x.f1, .string x.f2, .int .i64 x.f3, .int .i64 x.f4] := by
 obtain ⟨_, _, rfl, rfl, ⟨_, _, rfl, rfl, ⟨_, _, rfl, rfl, ⟨_, _, rfl, rfl, rfl⟩⟩⟩⟩ := h
 exact rfl
theorem k48_mk (w : World) (x : S48)  : k48.K w x [.int .i64 x.f0, .string x.f1, .string x.f2, .int .i64 x.f3, .int .i64 x.f4] := ⟨[.int .i64 x.f0], [.string x.f1, .string x.f2, .int .i64 x.f3, .int .i64 x.f4], rfl, rfl, ⟨[.string x.f1], [.string x.f2, .int .i64 x.f3, .int .i64 x.f4], rfl, rfl, ⟨[.string x.f2], [.int .i64 x.f3, .int .i64 x.f4], rfl, rfl, ⟨[.int .i64 x.f3], [.int .i64 x.f4], rfl, rfl, rfl⟩⟩⟩⟩
def rd_T48 (xs : List S48) (i : Int) : S48 := xs.getD i.toNat z48
theorem at_T48 {w : World} {A : Option Addr} {n : Nat} {xs : List S48} (h : Kd.C k48 w A n xs) (i : Int) (h0 : 0 ≤ i) (h1 : i < n) : ∃ ad , A = some ad ∧ w.cell? (ad.add (i.toNat * 5)) = some (.int .i64 (rd_T48 xs i).f0) ∧ w.cell? ⟨(ad.add (i.toNat * 5)).block, (ad.add (i.toNat * 5)).off + 1, none⟩ = some (.string (rd_T48 xs i).f1) ∧ w.cell? ⟨(ad.add (i.toNat * 5)).block, (ad.add (i.toNat * 5)).off + 2, none⟩ = some (.string (rd_T48 xs i).f2) ∧ w.cell? ⟨(ad.add (i.toNat * 5)).block, (ad.add (i.toNat * 5)).off + 3, none⟩ = some (.int .i64 (rd_T48 xs i).f3) ∧ w.cell? ⟨(ad.add (i.toNat * 5)).block, (ad.add (i.toNat * 5)).off + 4, none⟩ = some (.int .i64 (rd_T48 xs i).f4) := by
 obtain ⟨ad, c, e, _, hK, hc0⟩ := Kd.C_get h z48 i h0 h1
 have hc : ∀ j u, c[j]? = some u → w.cell? (ad.add (i.toNat * 5 + j)) = some u := hc0
 obtain rfl := k48_open hK
 exact ⟨ad, e, hc 0 _ rfl, by rw [← add_field _ _ 1 (by omega)]; exact hc 1 _ rfl, by rw [← add_field _ _ 2 (by omega)]; exact hc 2 _ rfl, by rw [← add_field _ _ 3 (by omega)]; exact hc 3 _ rfl, by rw [← add_field _ _ 4 (by omega)]; exact hc 4 _ rfl⟩
structure S47 where
 f0 : Int
 f1 : ByteArray
 f2 : ByteArray
 f3 : Int
 f4 : Int
def z47 : S47 := ⟨(0 : Int), (⟨#[]⟩ : ByteArray), (⟨#[]⟩ : ByteArray), (0 : Int), (0 : Int)⟩
def k47 : Kd S47 := Kd.iso (Kd.pair (Kd.int .i64) (Kd.pair Kd.string (Kd.pair Kd.string (Kd.pair (Kd.int .i64) (Kd.int .i64))))) (fun x : S47 => (x.f0, x.f1, x.f2, x.f3, x.f4))
def rd_T47 (xs : List S47) (i : Int) : S47 := xs.getD i.toNat z47
end Go.Proofs.YtfocognhcljhpaaGreatDoor.PPrintRows
namespace Go.Proofs.YtfocognhcljhpaaGreatDoor.PRef
open Go.Proofs.YtfocognhcljhpaaGreatDoor.PPrintRows
open Go.RowKit Go.Proofs.YtfocognhcljhpaaGreatDoorW.PrintWords Go.Proofs.YtfocognhcljhpaaGreatDoorW.PrintLast Go.Proofs.YtfocognhcljhpaaGreatDoorW.PrintMore
attribute [local go_sem] max2_int min2_int max_two min_two max_three min_three max_four min_four   -- for this text's walks alone
def print_escape.f (a0 : Int) : Option (ByteArray) := if a0 = 8 then (some (⟨#[92, 98]⟩ : ByteArray)) else (if a0 = 9 then (some (⟨#[92, 116]⟩ : ByteArray)) else (if a0 = 10 then (some (⟨#[92, 110]⟩ : ByteArray)) else (if a0 = 12 then (some (⟨#[92, 102]⟩ : ByteArray)) else (if a0 = 13 then (some (⟨#[92, 114]⟩ : ByteArray)) else (if 0 ≤ (a0 / 16) then (if (a0 / 16) ≤ (((a0 / 16) + 1) % 256) then (if (((a0 / 16) + 1) % 256) ≤ 16 then (if 4 + ((⟨#[48, 49, 50, 51, 52, 53, 54, 55, 56, 57, 97, 98, 99, 100, 101, 102]⟩ : ByteArray).extract ((a0 / 16) : Int).toNat ((((a0 / 16) + 1) % 256) : Int).toNat).size ≤ 9223372036854775807 then (if 0 ≤ (Go.bits .and .u8 a0 15) then (if (Go.bits .and .u8 a0 15) ≤ (((Go.bits .and .u8 a0 15) + 1) % 256) then (if (((Go.bits .and .u8 a0 15) + 1) % 256) ≤ 16 then (if ((⟨#[92, 117, 48, 48]⟩ : ByteArray) ++ ((⟨#[48, 49, 50, 51, 52, 53, 54, 55, 56, 57, 97, 98, 99, 100, 101, 102]⟩ : ByteArray).extract ((a0 / 16) : Int).toNat ((((a0 / 16) + 1) % 256) : Int).toNat)).size + ((⟨#[48, 49, 50, 51, 52, 53, 54, 55, 56, 57, 97, 98, 99, 100, 101, 102]⟩ : ByteArray).extract ((Go.bits .and .u8 a0 15) : Int).toNat ((((Go.bits .and .u8 a0 15) + 1) % 256) : Int).toNat).size ≤ 9223372036854775807 then (some (((⟨#[92, 117, 48, 48]⟩ : ByteArray) ++ ((⟨#[48, 49, 50, 51, 52, 53, 54, 55, 56, 57, 97, 98, 99, 100, 101, 102]⟩ : ByteArray).extract ((a0 / 16) : Int).toNat ((((a0 / 16) + 1) % 256) : Int).toNat)) ++ ((⟨#[48, 49, 50, 51, 52, 53, 54, 55, 56, 57, 97, 98, 99, 100, 101, 102]⟩ : ByteArray).extract ((Go.bits .and .u8 a0 15) : Int).toNat ((((Go.bits .and .u8 a0 15) + 1) % 256) : Int).toNat))) else (none)) else (none)) else (none)) else (none)) else (none)) else (none)) else (none)) else (none))))))
set_option maxHeartbeats 8000000 in
set_option maxRecDepth 100000 in
theorem print_escape.calls (a0 : Int) (r : ByteArray) (w : World) (h : print_escape.f a0 = some r) :
  Calls Tryz.prog 48 #[.int .u8 a0] w fun e w' => e = .returned (.string r) ∧ Drawn0 w w' := by
 have H : (if a0 = 8 then (some (⟨#[92, 98]⟩ : ByteArray)) else (if a0 = 9 then (some (⟨#[92, 116]⟩ : ByteArray)) else (if a0 = 10 then (some (⟨#[92, 110]⟩ : ByteArray)) else (if a0 = 12 then (some (⟨#[92, 102]⟩ : ByteArray)) else (if a0 = 13 then (some (⟨#[92, 114]⟩ : ByteArray)) else (if 0 ≤ (a0 / 16) then (if (a0 / 16) ≤ (((a0 / 16) + 1) % 256) then (if (((a0 / 16) + 1) % 256) ≤ 16 then (if 4 + ((⟨#[48, 49, 50, 51, 52, 53, 54, 55, 56, 57, 97, 98, 99, 100, 101, 102]⟩ : ByteArray).extract ((a0 / 16) : Int).toNat ((((a0 / 16) + 1) % 256) : Int).toNat).size ≤ 9223372036854775807 then (if 0 ≤ (Go.bits .and .u8 a0 15) then (if (Go.bits .and .u8 a0 15) ≤ (((Go.bits .and .u8 a0 15) + 1) % 256) then (if (((Go.bits .and .u8 a0 15) + 1) % 256) ≤ 16 then (if ((⟨#[92, 117, 48, 48]⟩ : ByteArray) ++ ((⟨#[48, 49, 50, 51, 52, 53, 54, 55, 56, 57, 97, 98, 99, 100, 101, 102]⟩ : ByteArray).extract ((a0 / 16) : Int).toNat ((((a0 / 16) + 1) % 256) : Int).toNat)).size + ((⟨#[48, 49, 50, 51, 52, 53, 54, 55, 56, 57, 97, 98, 99, 100, 101, 102]⟩ : ByteArray).extract ((Go.bits .and .u8 a0 15) : Int).toNat ((((Go.bits .and .u8 a0 15) + 1) % 256) : Int).toNat).size ≤ 9223372036854775807 then (some (((⟨#[92, 117, 48, 48]⟩ : ByteArray) ++ ((⟨#[48, 49, 50, 51, 52, 53, 54, 55, 56, 57, 97, 98, 99, 100, 101, 102]⟩ : ByteArray).extract ((a0 / 16) : Int).toNat ((((a0 / 16) + 1) % 256) : Int).toNat)) ++ ((⟨#[48, 49, 50, 51, 52, 53, 54, 55, 56, 57, 97, 98, 99, 100, 101, 102]⟩ : ByteArray).extract ((Go.bits .and .u8 a0 15) : Int).toNat ((((Go.bits .and .u8 a0 15) + 1) % 256) : Int).toNat))) else (none)) else (none)) else (none)) else (none)) else (none)) else (none)) else (none)) else (none))))))) = some r := h
 clear h
 by_cases c2 : a0 = 8
 ·rw [if_pos c2] at H
  have c2b0 : (a0 == 8) = true := beq_iff_eq.mpr c2
  have c2b1 : (a0 != 8) = false := bne_eq_false_iff_eq.mpr c2
  clear c2
  obtain rfl := Option.some.inj H
  go_enter Tryz.func48, Tryz.ntmps48
  go_wp2
  repeat (go_quiet (fail); try go_wp2)
  go_ret
  exact ⟨by first | rfl | (simp; done) | (simp [*]; done), by repeat (first | exact Drawn0.refl _ | apply Drawn0.step)⟩
 ·rw [if_neg c2] at H
  have c2b0 : (a0 == 8) = false := beq_eq_false_iff_ne.mpr c2
  have c2b1 : (a0 != 8) = true := bne_iff_ne.mpr c2
  by_cases c3 : a0 = 9
  ·rw [if_pos c3] at H
   have c3b0 : (a0 == 9) = true := beq_iff_eq.mpr c3
   have c3b1 : (a0 != 9) = false := bne_eq_false_iff_eq.mpr c3
   clear c3
   obtain rfl := Option.some.inj H
   go_enter Tryz.func48, Tryz.ntmps48
   go_wp2
   repeat (go_quiet (fail); try go_wp2)
   go_ret
   exact ⟨by first | rfl | (simp; done) | (simp [*]; done), by repeat (first | exact Drawn0.refl _ | apply Drawn0.step)⟩
  ·rw [if_neg c3] at H
   have c3b0 : (a0 == 9) = false := beq_eq_false_iff_ne.mpr c3
   have c3b1 : (a0 != 9) = true := bne_iff_ne.mpr c3
   by_cases c4 : a0 = 10
   ·rw [if_pos c4] at H
    have c4b0 : (a0 == 10) = true := beq_iff_eq.mpr c4
    have c4b1 : (a0 != 10) = false := bne_eq_false_iff_eq.mpr c4
    clear c4
    obtain rfl := Option.some.inj H
    go_enter Tryz.func48, Tryz.ntmps48
    go_wp2
    repeat (go_quiet (fail); try go_wp2)
    go_ret
    exact ⟨by first | rfl | (simp; done) | (simp [*]; done), by repeat (first | exact Drawn0.refl _ | apply Drawn0.step)⟩
   ·rw [if_neg c4] at H
    have c4b0 : (a0 == 10) = false := beq_eq_false_iff_ne.mpr c4
    have c4b1 : (a0 != 10) = true := bne_iff_ne.mpr c4
    by_cases c5 : a0 = 12
    ·rw [if_pos c5] at H
     have c5b0 : (a0 == 12) = true := beq_iff_eq.mpr c5
     have c5b1 : (a0 != 12) = false := bne_eq_false_iff_eq.mpr c5
     clear c5
     obtain rfl := Option.some.inj H
     go_enter Tryz.func48, Tryz.ntmps48
     go_wp2
     repeat (go_quiet (fail); try go_wp2)
     go_ret
     exact ⟨by first | rfl | (simp; done) | (simp [*]; done), by repeat (first | exact Drawn0.refl _ | apply Drawn0.step)⟩
    ·rw [if_neg c5] at H
     have c5b0 : (a0 == 12) = false := beq_eq_false_iff_ne.mpr c5
     have c5b1 : (a0 != 12) = true := bne_iff_ne.mpr c5
     by_cases c6 : a0 = 13
     ·rw [if_pos c6] at H
      have c6b0 : (a0 == 13) = true := beq_iff_eq.mpr c6
      have c6b1 : (a0 != 13) = false := bne_eq_false_iff_eq.mpr c6
      clear c6
      obtain rfl := Option.some.inj H
      go_enter Tryz.func48, Tryz.ntmps48
      go_wp2
      repeat (go_quiet (fail); try go_wp2)
      go_ret
      exact ⟨by first | rfl | (simp; done) | (simp [*]; done), by repeat (first | exact Drawn0.refl _ | apply Drawn0.step)⟩
     ·rw [if_neg c6] at H
      have c6b0 : (a0 == 13) = false := beq_eq_false_iff_ne.mpr c6
      have c6b1 : (a0 != 13) = true := bne_iff_ne.mpr c6
      obtain ⟨ji7, hji7⟩ : ∃ j_ : Int, (a0 / 16) = j_ := ⟨_, rfl⟩
      replace H : (if 0 ≤ (ji7) then (if (ji7) ≤ (((ji7) + 1) % 256) then (if (((ji7) + 1) % 256) ≤ 16 then (if 4 + ((⟨#[48, 49, 50, 51, 52, 53, 54, 55, 56, 57, 97, 98, 99, 100, 101, 102]⟩ : ByteArray).extract ((ji7) : Int).toNat ((((ji7) + 1) % 256) : Int).toNat).size ≤ 9223372036854775807 then (if 0 ≤ (Go.bits .and .u8 a0 15) then (if (Go.bits .and .u8 a0 15) ≤ (((Go.bits .and .u8 a0 15) + 1) % 256) then (if (((Go.bits .and .u8 a0 15) + 1) % 256) ≤ 16 then (if ((⟨#[92, 117, 48, 48]⟩ : ByteArray) ++ ((⟨#[48, 49, 50, 51, 52, 53, 54, 55, 56, 57, 97, 98, 99, 100, 101, 102]⟩ : ByteArray).extract ((ji7) : Int).toNat ((((ji7) + 1) % 256) : Int).toNat)).size + ((⟨#[48, 49, 50, 51, 52, 53, 54, 55, 56, 57, 97, 98, 99, 100, 101, 102]⟩ : ByteArray).extract ((Go.bits .and .u8 a0 15) : Int).toNat ((((Go.bits .and .u8 a0 15) + 1) % 256) : Int).toNat).size ≤ 9223372036854775807 then (some (((⟨#[92, 117, 48, 48]⟩ : ByteArray) ++ ((⟨#[48, 49, 50, 51, 52, 53, 54, 55, 56, 57, 97, 98, 99, 100, 101, 102]⟩ : ByteArray).extract ((ji7) : Int).toNat ((((ji7) + 1) % 256) : Int).toNat)) ++ ((⟨#[48, 49, 50, 51, 52, 53, 54, 55, 56, 57, 97, 98, 99, 100, 101, 102]⟩ : ByteArray).extract ((Go.bits .and .u8 a0 15) : Int).toNat ((((Go.bits .and .u8 a0 15) + 1) % 256) : Int).toNat))) else (none)) else (none)) else (none)) else (none)) else (none)) else (none)) else (none)) else (none)) = some r := by first | (rw [hji7] at H; exact H) | (simp only [hji7] at H ⊢; exact H)
      by_cases c8 : 0 ≤ (ji7)
      ·rw [if_pos c8] at H
       have c8b0 := eq_true c8
       have c8b1 : decide (0 ≤ (ji7)) = true := decide_eq_true c8
       clear c8
       by_cases c9 : (ji7) ≤ (((ji7) + 1) % 256)
       ·rw [if_pos c9] at H
        have c9b0 := eq_true c9
        have c9b1 : decide ((ji7) ≤ (((ji7) + 1) % 256)) = true := decide_eq_true c9
        by_cases c10 : (((ji7) + 1) % 256) ≤ 16
        ·rw [if_pos c10] at H
         have c10b0 := eq_true c10
         have c10b1 : decide ((((ji7) + 1) % 256) ≤ 16) = true := decide_eq_true c10
         by_cases c11 : 4 + ((⟨#[48, 49, 50, 51, 52, 53, 54, 55, 56, 57, 97, 98, 99, 100, 101, 102]⟩ : ByteArray).extract ((ji7) : Int).toNat ((((ji7) + 1) % 256) : Int).toNat).size ≤ 9223372036854775807
         ·rw [if_pos c11] at H
          have c11b0 := eq_true c11
          have c11b1 : decide (4 + ((⟨#[48, 49, 50, 51, 52, 53, 54, 55, 56, 57, 97, 98, 99, 100, 101, 102]⟩ : ByteArray).extract ((ji7) : Int).toNat ((((ji7) + 1) % 256) : Int).toNat).size ≤ 9223372036854775807) = true := decide_eq_true c11
          try have c11b2 : (9223372036854775807 < 4 + ((⟨#[48, 49, 50, 51, 52, 53, 54, 55, 56, 57, 97, 98, 99, 100, 101, 102]⟩ : ByteArray).extract ((ji7) : Int).toNat ((((ji7) + 1) % 256) : Int).toNat).size) = False := eq_false (Nat.not_lt.2 c11)
          by_cases c12 : 0 ≤ (Go.bits .and .u8 a0 15)
          ·rw [if_pos c12] at H
           have c12b0 := eq_true c12
           have c12b1 : decide (0 ≤ (Go.bits .and .u8 a0 15)) = true := decide_eq_true c12
           clear c12
           by_cases c13 : (Go.bits .and .u8 a0 15) ≤ (((Go.bits .and .u8 a0 15) + 1) % 256)
           ·rw [if_pos c13] at H
            have c13b0 := eq_true c13
            have c13b1 : decide ((Go.bits .and .u8 a0 15) ≤ (((Go.bits .and .u8 a0 15) + 1) % 256)) = true := decide_eq_true c13
            by_cases c14 : (((Go.bits .and .u8 a0 15) + 1) % 256) ≤ 16
            ·rw [if_pos c14] at H
             have c14b0 := eq_true c14
             have c14b1 : decide ((((Go.bits .and .u8 a0 15) + 1) % 256) ≤ 16) = true := decide_eq_true c14
             by_cases c15 : ((⟨#[92, 117, 48, 48]⟩ : ByteArray) ++ ((⟨#[48, 49, 50, 51, 52, 53, 54, 55, 56, 57, 97, 98, 99, 100, 101, 102]⟩ : ByteArray).extract ((ji7) : Int).toNat ((((ji7) + 1) % 256) : Int).toNat)).size + ((⟨#[48, 49, 50, 51, 52, 53, 54, 55, 56, 57, 97, 98, 99, 100, 101, 102]⟩ : ByteArray).extract ((Go.bits .and .u8 a0 15) : Int).toNat ((((Go.bits .and .u8 a0 15) + 1) % 256) : Int).toNat).size ≤ 9223372036854775807
             ·rw [if_pos c15] at H
              have c15b0 := eq_true c15
              have c15b1 : decide (((⟨#[92, 117, 48, 48]⟩ : ByteArray) ++ ((⟨#[48, 49, 50, 51, 52, 53, 54, 55, 56, 57, 97, 98, 99, 100, 101, 102]⟩ : ByteArray).extract ((ji7) : Int).toNat ((((ji7) + 1) % 256) : Int).toNat)).size + ((⟨#[48, 49, 50, 51, 52, 53, 54, 55, 56, 57, 97, 98, 99, 100, 101, 102]⟩ : ByteArray).extract ((Go.bits .and .u8 a0 15) : Int).toNat ((((Go.bits .and .u8 a0 15) + 1) % 256) : Int).toNat).size ≤ 9223372036854775807) = true := decide_eq_true c15
              try have c15b2 : (9223372036854775807 < ((⟨#[92, 117, 48, 48]⟩ : ByteArray) ++ ((⟨#[48, 49, 50, 51, 52, 53, 54, 55, 56, 57, 97, 98, 99, 100, 101, 102]⟩ : ByteArray).extract ((ji7) : Int).toNat ((((ji7) + 1) % 256) : Int).toNat)).size + ((⟨#[48, 49, 50, 51, 52, 53, 54, 55, 56, 57, 97, 98, 99, 100, 101, 102]⟩ : ByteArray).extract ((Go.bits .and .u8 a0 15) : Int).toNat ((((Go.bits .and .u8 a0 15) + 1) % 256) : Int).toNat).size) = False := eq_false (Nat.not_lt.2 c15)
              obtain rfl := Option.some.inj H
              go_enter Tryz.func48, Tryz.ntmps48
              go_wp2
              repeat (go_quiet (fail); try go_wp2)
              go_ret
              exact ⟨by first | rfl | (simp; done) | (simp only [← hji7] <;> (first | rfl | simp)) | (simp [*]; done), by repeat (first | exact Drawn0.refl _ | apply Drawn0.step)⟩
             ·rw [if_neg c15] at H
              exact absurd H (by simp)
            ·rw [if_neg c14] at H
             exact absurd H (by simp)
           ·rw [if_neg c13] at H
            exact absurd H (by simp)
          ·rw [if_neg c12] at H
           exact absurd H (by simp)
         ·rw [if_neg c11] at H
          exact absurd H (by simp)
        ·rw [if_neg c10] at H
         exact absurd H (by simp)
       ·rw [if_neg c9] at H
        exact absurd H (by simp)
      ·rw [if_neg c8] at H
       exact absurd H (by simp)
end Go.Proofs.YtfocognhcljhpaaGreatDoor.PRef
namespace Go.Proofs.YtfocognhcljhpaaGreatDoor.Tree
structure Nd where
 kind : Int
 key : ByteArray
 text : ByteArray
 parent : Int
 en : Int
inductive Tr where
 | mk (kind : Int) (key text : ByteArray) (kids : List Tr)
mutual
def Tr.size : Tr → Nat
 | .mk _ _ _ kids => 1 + sizes kids
def sizes : List Tr → Nat
 | [] => 0
 | t :: ts => t.size + sizes ts
end
mutual
def Tr.flat (p : Int) (at_ : Nat) : Tr → List Nd
 | .mk k key text kids => ⟨k, key, text, p, ((at_ + 1 + sizes kids : Nat) : Int)⟩ :: flats (at_ : Int) (at_ + 1) kids
def flats (p : Int) (at_ : Nat) : List Tr → List Nd
 | [] => []
 | t :: ts => t.flat p at_ ++ flats p (at_ + t.size) ts
end
mutual
theorem Tr.flat_len (p : Int) (at_ : Nat) : ∀ t : Tr, (t.flat p at_).length = t.size
 | .mk k key text kids => by
  rw [Tr.flat, Tr.size, List.length_cons, flats_len]
  omega
theorem flats_len (p : Int) (at_ : Nat) : ∀ ts : List Tr, (flats p at_ ts).length = sizes ts
 | [] => by rw [flats, sizes]; rfl
 | t :: ts => by rw [flats, sizes, List.length_append, Tr.flat_len p at_ t, flats_len p (at_ + t.size) ts]
end
theorem Tr.size_pos (t : Tr) : 0 < t.size := by
 cases t
 rw [Tr.size]
 omega
theorem flats_app (p : Int) : ∀ (ts us : List Tr) (at_ : Nat), flats p at_ (ts ++ us) = flats p at_ ts ++ flats p (at_ + sizes ts) us
 | [], us, at_ => by rw [List.nil_append, flats, sizes]; simp
 | t :: ts, us, at_ => by
  rw [List.cons_append, flats, flats, flats_app p ts us, sizes, List.append_assoc]
  congr 3
  omega
theorem sizes_app : ∀ ts us : List Tr, sizes (ts ++ us) = sizes ts + sizes us
 | [], us => by rw [sizes]; simp
 | t :: ts, us => by rw [List.cons_append, sizes, sizes, sizes_app ts us]; omega
variable (isNum : ByteArray → Bool)
def okN (named : Bool) (k : Int) (key text : ByteArray) : Bool :=
 decide (1 ≤ k ∧ k ≤ 7) && (named || key == ⟨#[]⟩) && (if k = 4 then isNum text else (decide (k = 5) || text == ⟨#[]⟩))
mutual
def Tr.ok (named : Bool) : Tr → Bool
 | .mk k key text kids => okN isNum named k key text && (decide (6 ≤ k) || kids.isEmpty) && oks (k == 7) kids
def oks (named : Bool) : List Tr → Bool
 | [] => true
 | t :: ts => t.ok named && oks named ts
end
theorem oks_app (nm : Bool) : ∀ ts us : List Tr, oks isNum nm (ts ++ us) = (oks isNum nm ts && oks isNum nm us)
 | [], us => by rw [List.nil_append, oks, Bool.true_and]
 | t :: ts, us => by rw [List.cons_append, oks, oks, oks_app nm ts us, Bool.and_assoc]
def enAt (l : List Nd) (j : Nat) : Int := match l[j]? with | some n => n.en | none => 0
def kindAt (l : List Nd) (j : Nat) : Int := match l[j]? with | some n => n.kind | none => 0
def popAll (l : List Nd) (i : Nat) : List Nat → List Nat
 | [] => []
 | j :: s => if enAt l j = (i : Int) then popAll l i s else j :: s
def parOf : List Nat → Int
 | [] => -1
 | j :: _ => (j : Int)
def mostOf (l : List Nd) : List Nat → Int
 | [] => (l.length : Int)
 | j :: _ => enAt l j
def namedOf (l : List Nd) : List Nat → Bool
 | [] => false
 | j :: _ => kindAt l j == 7
def fits (l : List Nd) (i : Nat) (o : List Nat) (n : Nd) : Bool :=
 decide (n.parent = parOf o ∧ (i : Int) < n.en ∧ n.en ≤ mostOf l o ∧ (n.kind < 6 → n.en = (i : Int) + 1) ∧ (o = [] → i = 0)) && okN isNum (namedOf l o) n.kind n.key n.text
def laidGo (l : List Nd) : Nat → List Nat → List Nd → Bool
 | _, _, [] => true
 | i, o, n :: r => fits isNum l i (popAll l i o) n && laidGo l (i + 1) (if 6 ≤ n.kind then i :: popAll l i o else popAll l i o) r
def laidP (l : List Nd) : Bool := laidGo isNum l 0 [] l && !l.isEmpty && (enAt l 0 == (l.length : Int))
theorem popAll_cons_ne {l : List Nd} {i j : Nat} {s : List Nat} (h : enAt l j ≠ (i : Int)) : popAll l i (j :: s) = j :: s := by rw [popAll, if_neg h]
theorem popAll_cons_eq {l : List Nd} {i j : Nat} {s : List Nat} (h : enAt l j = (i : Int)) : popAll l i (j :: s) = popAll l i s := by rw [popAll, if_pos h]
theorem enAt_of {l : List Nd} {i : Nat} {n : Nd} {r : List Nd} (h : l.drop i = n :: r) : enAt l i = n.en ∧ kindAt l i = n.kind := by
 have : l[i]? = some n := by have := List.getElem?_drop (i := i) (j := 0) (xs := l); rw [h] at this; simpa using this.symm
 unfold enAt kindAt
 rw [this]
 exact ⟨rfl, rfl⟩
mutual
theorem laid_tree : ∀ (t : Tr) (nm : Bool) (l : List Nd) (i : Nat) (op : List Nat) (r : List Nd), t.ok isNum nm = true → l.drop i = t.flat (parOf (popAll l i op)) i ++ r → nm = namedOf l (popAll l i op) → (popAll l i op = [] → i = 0) →
  ((i + t.size : Nat) : Int) ≤ mostOf l (popAll l i op) → ∃ o', laidGo isNum l i op (t.flat (parOf (popAll l i op)) i ++ r) = laidGo isNum l (i + t.size) o' r ∧ popAll l (i + t.size) o' = popAll l (i + t.size) (popAll l i op)
 | .mk k key text kids, nm, l, i, op, r, hok, hl, hnm, h0, hm => by
  generalize ho : popAll l i op = o at *
  rw [Tr.ok, Bool.and_eq_true, Bool.and_eq_true, Bool.or_eq_true, decide_eq_true_eq] at hok
  obtain ⟨⟨hN, hk⟩, hks⟩ := hok
  rw [Tr.size] at hm ⊢
  rw [Tr.flat, List.cons_append] at hl ⊢
  obtain ⟨he, hkd⟩ := enAt_of hl
  dsimp only at he hkd
  have hl1 : l.drop (i + 1) = flats (i : Int) (i + 1) kids ++ r := by
   rw [← List.drop_drop, hl]; rfl
  rw [laidGo, ho]
  have hfit : fits isNum l i o ⟨k, key, text, parOf o, ((i + 1 + sizes kids : Nat) : Int)⟩ = true := by
   unfold fits
   rw [Bool.and_eq_true, decide_eq_true_eq]
   refine ⟨⟨rfl, by dsimp only; omega, by dsimp only; rw [show i + 1 + sizes kids = i + (1 + sizes kids) by omega]; exact hm, fun h6 => ?_, h0⟩, by rw [← hnm]; exact hN⟩
   rcases hk with hk | hk
   ·dsimp only at h6; omega
   ·have : kids = [] := List.isEmpty_iff.1 hk
    subst this
    dsimp only [sizes]
    omega
  rw [hfit, Bool.true_and]
  dsimp only
  by_cases h6 : 6 ≤ k
  ·rw [if_pos h6]
   obtain ⟨o', h1, h2⟩ := laid_trees kids (k == 7) l (i + 1) i o (i :: o) r hks hl1 rfl (by rw [hkd]) (by rw [he]; omega)
   refine ⟨o', ?_, ?_⟩
   ·rw [h1, Nat.add_assoc]
   ·rw [← Nat.add_assoc, h2, popAll_cons_eq (by rw [he])]
  ·rw [if_neg h6]
   rcases hk with hk | hk
   ·omega
   ·have : kids = [] := List.isEmpty_iff.1 hk
    subst this
    exact ⟨o, by rw [flats, sizes, List.nil_append], by rw [sizes]⟩
theorem laid_trees : ∀ (ts : List Tr) (nm : Bool) (l : List Nd) (i j : Nat) (s op : List Nat) (r : List Nd), oks isNum nm ts = true → l.drop i = flats (j : Int) i ts ++ r → popAll l i op = popAll l i (j :: s) → nm = (kindAt l j == 7) →
  ((i + sizes ts : Nat) : Int) ≤ enAt l j → ∃ o', laidGo isNum l i op (flats (j : Int) i ts ++ r) = laidGo isNum l (i + sizes ts) o' r ∧ popAll l (i + sizes ts) o' = popAll l (i + sizes ts) (j :: s)
 | [], nm, l, i, j, s, op, r, _, _, hp, _, _ => ⟨op, by rw [flats, sizes]; rfl, by rw [sizes]; exact hp⟩
 | t :: ts, nm, l, i, j, s, op, r, hok, hl, hp, hnm, hm => by
  rw [oks, Bool.and_eq_true] at hok
  have hpos := t.size_pos
  rw [sizes] at hm ⊢
  have hp2 : popAll l i op = j :: s := by rw [hp]; exact popAll_cons_ne (by omega)
  rw [flats, List.append_assoc] at hl ⊢
  have e1 : parOf (popAll l i op) = (j : Int) := by rw [hp2]; rfl
  obtain ⟨o1, h1, h2⟩ := laid_tree t nm l i op (flats (j : Int) (i + t.size) ts ++ r) hok.1 (by rw [e1]; exact hl) (by rw [hp2]; exact hnm) (by rw [hp2]; intro h; cases h) (by rw [hp2]; show _ ≤ enAt l j; omega)
  rw [e1] at h1
  rw [h1]
  have hl2 : l.drop (i + t.size) = flats (j : Int) (i + t.size) ts ++ r := by
   rw [← List.drop_drop, hl, List.drop_left' (Tr.flat_len _ _ t)]
  obtain ⟨o2, h3, h4⟩ := laid_trees ts nm l (i + t.size) j s o1 r hok.2 hl2 (by rw [h2, hp2]) hnm (by rw [← Nat.add_assoc] at hm; exact hm)
  refine ⟨o2, ?_, ?_⟩
  ·rw [h3, Nat.add_assoc]
  ·rw [← Nat.add_assoc]; exact h4
end
theorem flat_laid (t : Tr) (h : t.ok isNum false = true) : laidP isNum (t.flat (-1) 0) = true := by
 have hlen := Tr.flat_len (-1) 0 t
 obtain ⟨o', h1, _⟩ := laid_tree isNum t false (t.flat (-1) 0) 0 [] [] h (by rw [popAll, List.append_nil]; rfl) rfl (fun _ => rfl) (by
  show _ ≤ ((t.flat (-1) 0).length : Int)
  rw [hlen]; omega)
 rw [List.append_nil] at h1
 unfold laidP
 have e : laidGo isNum (t.flat (-1) 0) 0 [] (t.flat (-1) 0) = true := h1.trans rfl
 rw [e, Bool.true_and, Bool.and_eq_true]
 cases t with
 | mk k key text kids =>
  refine ⟨by rw [Tr.flat]; rfl, ?_⟩
  rw [hlen, Tr.flat, Tr.size]
  show decide _ = true
  simp [enAt]
def ZP (l : List Nd) : List (Nat × List Tr) → Nat → Prop
 | [], i => i = 0
 | (j, ks) :: fs, i => ZP l fs j ∧ ∃ n, l[j]? = some n ∧ 6 ≤ n.kind ∧ n.parent = parOf (fs.map (·.1)) ∧ okN isNum (namedOf l (fs.map (·.1))) n.kind n.key n.text = true ∧ i = j + 1 + sizes ks ∧ oks isNum (n.kind == 7) ks = true ∧
   (∃ r, l.drop (j + 1) = flats (j : Int) (j + 1) ks ++ r) ∧ (i : Int) ≤ n.en ∧ n.en ≤ mostOf l (fs.map (·.1))
inductive St (l : List Nd) : List Nat → Nat → Prop
 | opn (fs : List (Nat × List Tr)) (i : Nat) : ZP isNum l fs i → St l (fs.map (·.1)) i
 | done (t : Tr) : t.ok isNum false = true → (∃ r, l = t.flat (-1) 0 ++ r) → St l [] t.size
theorem drop_cons {l : List Nd} {j : Nat} {n : Nd} (h : l[j]? = some n) : l.drop j = n :: l.drop (j + 1) := by
 obtain ⟨h1, h2⟩ := List.getElem?_eq_some_iff.1 h
 rw [List.drop_eq_getElem_cons h1, h2]
theorem zp_put (l : List Nd) (fs : List (Nat × List Tr)) (i : Nat) (t : Tr) (h : ZP isNum l fs i) (hok : t.ok isNum (namedOf l (fs.map (·.1))) = true) (hl : ∃ r, l.drop i = t.flat (parOf (fs.map (·.1))) i ++ r)
  (hm : ((i + t.size : Nat) : Int) ≤ mostOf l (fs.map (·.1))) : St isNum l (fs.map (·.1)) (i + t.size) := by
 cases fs with
 | nil =>
  have h0 : i = 0 := h
  subst h0
  rw [Nat.zero_add]
  exact .done t hok hl
 | cons f fs =>
  obtain ⟨j, ks⟩ := f
  obtain ⟨hz, n, h1, h2, h3, h4, h5, h6, ⟨r0, h7⟩, h8, h9⟩ := h
  obtain ⟨r, hl⟩ := hl
  have he : enAt l j = n.en ∧ kindAt l j = n.kind := enAt_of (drop_cons h1)
  refine St.opn ((j, ks ++ [t]) :: fs) (i + t.size) ⟨hz, n, h1, h2, h3, h4, ?_, ?_, ⟨r, ?_⟩, ?_, h9⟩
  ·rw [sizes_app, sizes, sizes, h5]; omega
  ·rw [oks_app, h6, Bool.true_and, oks, oks, Bool.and_true]
   have : namedOf l (((j, ks) :: fs).map (·.1)) = (n.kind == 7) := by show (kindAt l j == 7) = _; rw [he.2]
   rw [this] at hok
   exact hok
  ·rw [flats_app, flats, flats, List.append_nil, List.append_assoc, ← h5]
   have e0 : r0 = l.drop i := by
    have := congrArg (List.drop (sizes ks)) h7
    rw [List.drop_drop, List.drop_left' (flats_len _ _ ks), ← h5] at this
    exact this.symm
   have : parOf (((j, ks) :: fs).map (·.1)) = (j : Int) := rfl
   rw [this] at hl
   rw [h7, e0, hl]
  ·have : mostOf l (((j, ks) :: fs).map (·.1)) = n.en := by show enAt l j = _; rw [he.1]
   rw [this] at hm
   exact hm
theorem st_pop (l : List Nd) (i : Nat) : ∀ o : List Nat, St isNum l o i → St isNum l (popAll l i o) i
 | [], h => h
 | j :: s, h => by
  by_cases he : enAt l j = (i : Int)
  ·rw [popAll_cons_eq he]
   refine st_pop l i s ?_
   generalize ho : j :: s = o at h
   cases h with
   | done t _ _ => cases ho
   | opn fs _ hz =>
    cases fs with
    | nil => cases ho
    | cons f fs =>
     obtain ⟨j', ks⟩ := f
     obtain ⟨rfl, rfl⟩ : j = j' ∧ s = fs.map (·.1) := by simpa using ho
     obtain ⟨hz, n, h1, h2, h3, h4, h5, h6, ⟨r0, h7⟩, h8, h9⟩ := hz
     have hn : enAt l j = n.en ∧ kindAt l j = n.kind := enAt_of (drop_cons h1)
     have hen : n.en = (i : Int) := by rw [← hn.1, he]
     have := zp_put isNum l fs j (.mk n.kind n.key n.text ks) hz (by
      rw [Tr.ok, h4, h6, Bool.and_true, Bool.true_and, decide_eq_true h2]; rfl) ⟨r0, by
      rw [drop_cons h1, h7, Tr.flat, List.cons_append, ← h5, ← hen, ← h3]⟩ (by
      rw [Tr.size, ← Nat.add_assoc, ← h5, ← hen]; exact h9)
     rw [Tr.size, ← Nat.add_assoc, ← h5] at this
     exact this
  ·rw [popAll_cons_ne he]; exact h
theorem st_step (l : List Nd) (i : Nat) (o : List Nat) (n : Nd) (r : List Nd) (h : St isNum l o i) (hl : l.drop i = n :: r) (hf : fits isNum l i o n = true) : St isNum l (if 6 ≤ n.kind then i :: o else o) (i + 1) := by
 unfold fits at hf
 rw [Bool.and_eq_true, decide_eq_true_eq] at hf
 obtain ⟨⟨f1, f2, f3, f4, f5⟩, f6⟩ := hf
 cases h with
 | done t _ _ =>
  have := t.size_pos
  have := f5 rfl
  omega
 | opn fs _ hz =>
  by_cases h6 : 6 ≤ n.kind
  ·rw [if_pos h6]
   have hi : l[i]? = some n := by have := List.getElem?_drop (i := i) (j := 0) (xs := l); rw [hl] at this; simpa using this.symm
   exact St.opn ((i, []) :: fs) (i + 1) ⟨hz, n, hi, h6, f1, f6, by rw [sizes], by rw [oks], ⟨l.drop (i + 1), by rw [flats]; rfl⟩, by omega, f3⟩
  ·rw [if_neg h6]
   have := zp_put isNum l fs i (.mk n.kind n.key n.text []) hz (by rw [Tr.ok, f6, oks]; simp) ⟨r, by
    rw [hl, Tr.flat, flats, sizes]
    have := f4 (by omega)
    cases n
    dsimp only at *
    rw [f1, this]
    rfl⟩ (by rw [Tr.size, sizes]; omega)
   rw [Tr.size, sizes] at this
   exact this
theorem laid_st (l : List Nd) : ∀ (r : List Nd) (i : Nat) (o : List Nat), l.drop i = r → St isNum l o i → laidGo isNum l i o r = true → ∃ o', St isNum l o' l.length
 | [], i, o, hl, h, _ => by
  have : l.length ≤ i := List.drop_eq_nil_iff.1 hl
  have h2 : i ≤ l.length := by
   cases h with
   | done t _ hr => obtain ⟨r, hr⟩ := hr; rw [hr, List.length_append, Tr.flat_len]; omega
   | opn fs _ hz =>
    cases fs with
    | nil => have : i = 0 := hz; omega
    | cons f fs =>
     obtain ⟨j, ks⟩ := f
     obtain ⟨_, n, h1, _, _, _, h5, _, ⟨r0, h7⟩, _, _⟩ := hz
     have h8 := congrArg List.length h7
     have := (List.getElem?_eq_some_iff.1 h1).1
     rw [List.length_drop, List.length_append, flats_len] at h8
     omega
  exact ⟨o, by rw [show l.length = i by omega]; exact h⟩
 | n :: r, i, o, hl, h, hg => by
  rw [laidGo, Bool.and_eq_true] at hg
  exact laid_st l r (i + 1) _ (by rw [← List.drop_drop, hl]; rfl) (st_step isNum l i _ n r (st_pop isNum l i o h) hl hg.1) hg.2
theorem zp_most (l : List Nd) : ∀ (fs : List (Nat × List Tr)) (i : Nat), ZP isNum l fs i → mostOf l (fs.map (·.1)) ≤ (l.length : Int) ∧ ((l.length : Int) ≤ mostOf l (fs.map (·.1)) → popAll l l.length (fs.map (·.1)) = [])
 | [], _, _ => ⟨Int.le_refl _, fun _ => rfl⟩
 | (j, ks) :: fs, i, ⟨hz, n, h1, h2, h3, h4, h5, h6, h7, h8, h9⟩ => by
  have hn : enAt l j = n.en ∧ kindAt l j = n.kind := enAt_of (drop_cons h1)
  obtain ⟨ih1, ih2⟩ := zp_most l fs j hz
  have e : mostOf l (((j, ks) :: fs).map (·.1)) = n.en := by show enAt l j = _; rw [hn.1]
  rw [e]
  refine ⟨Int.le_trans h9 ih1, fun hle => ?_⟩
  show popAll l l.length (j :: fs.map (·.1)) = []
  rw [popAll_cons_eq (by rw [hn.1]; omega)]
  exact ih2 (by omega)
theorem laid_flat (l : List Nd) (h : laidP isNum l = true) : ∃ t : Tr, t.ok isNum false = true ∧ l = t.flat (-1) 0 := by
 unfold laidP at h
 rw [Bool.and_eq_true, Bool.and_eq_true] at h
 obtain ⟨⟨h1, h2⟩, _⟩ := h
 obtain ⟨o, ho⟩ := laid_st isNum l l 0 [] rfl (.opn [] 0 rfl) h1
 have hne : l ≠ [] := fun e => by rw [e] at h2; simp at h2
 have hlen : 0 < l.length := List.length_pos_iff.2 hne
 have key : St isNum l [] l.length := by
  have hp := st_pop isNum l l.length o ho
  have : popAll l l.length o = [] := by
   generalize hL : l.length = L at ho ⊢
   cases ho with
   | done t _ _ => rfl
   | opn fs _ hz =>
    subst hL
    obtain ⟨_, h9⟩ := zp_most isNum l fs _ hz
    refine h9 ?_
    cases fs with
    | nil => exact Int.le_refl _
    | cons f fs =>
     obtain ⟨j, ks⟩ := f
     obtain ⟨_, n, h1, _, _, _, h5, _, _, h8, h9⟩ := hz
     have hn : enAt l j = n.en ∧ kindAt l j = n.kind := enAt_of (drop_cons h1)
     show _ ≤ enAt l j
     rw [hn.1]
     exact h8
  rw [this] at hp
  exact hp
 clear ho
 generalize hL : l.length = L at key
 generalize hO : ([] : List Nat) = O at key
 cases key with
 | done t hk hr =>
  obtain ⟨r, hr⟩ := hr
  refine ⟨t, hk, ?_⟩
  have := congrArg List.length hr
  rw [List.length_append, Tr.flat_len, hL] at this
  have : r = [] := List.length_eq_zero_iff.1 (by omega)
  rw [this, List.append_nil] at hr
  exact hr
 | opn fs _ hz =>
  cases fs with
  | nil => have : L = 0 := hz; omega
  | cons f fs => cases hO
end Go.Proofs.YtfocognhcljhpaaGreatDoor.Tree
namespace Go.Proofs.YtfocognhcljhpaaGreatDoor.Utf
def putI (n : Int) : List Int := if 0 ≤ n ∧ n ≤ 1114111 ∧ (n < 55296 ∨ 57343 < n) then (if n < 128 then [n] else if n < 2048 then [192 + n/64, 128 + n%64] else if n < 65536 then [224 + n/4096, 128 + n/64%64, 128 + n%64] else [240 + n/262144, 128 + n/4096%64, 128 + n/64%64, 128 + n%64]) else []
def p2 (a b : Int) : Int := (a - 192) * 64 + b - 128
def p3 (a b c : Int) : Int := (a - 224) * 4096 + (b - 128) * 64 + c - 128
def p4 (a b c d : Int) : Int := (a - 240) * 262144 + (b - 128) * 4096 + (c - 128) * 64 + d - 128
def firstI : List Int → Option (Int × Nat)
 | [] => none
 | a :: t =>
  if a < 128 then some (a, 1)
  else if 192 ≤ a ∧ a < 224 then
   match t with
   | b :: _ => if (128 ≤ b ∧ b < 192) ∧ 128 ≤ p2 a b then some (p2 a b, 2) else none
   | _ => none
  else if 224 ≤ a ∧ a < 240 then
   match t with
   | b :: c :: _ => if (128 ≤ b ∧ b < 192) ∧ (128 ≤ c ∧ c < 192) ∧ 2048 ≤ p3 a b c ∧ (p3 a b c < 55296 ∨ 57343 < p3 a b c) then some (p3 a b c, 3) else none
   | _ => none
  else if 240 ≤ a ∧ a < 248 then
   match t with
   | b :: c :: d :: _ => if (128 ≤ b ∧ b < 192) ∧ (128 ≤ c ∧ c < 192) ∧ (128 ≤ d ∧ d < 192) ∧ 65536 ≤ p4 a b c d ∧ p4 a b c d ≤ 1114111 then some (p4 a b c d, 4) else none
   | _ => none
  else none
theorem put1 (a : Int) (h : 0 ≤ a ∧ a < 256) : putI a = [a] ↔ a < 128 := by
 unfold putI
 constructor
 ·intro e
  split at e
  ·split at e
   ·assumption
   ·rw [if_pos (by omega)] at e; simp at e
  ·simp at e
 ·intro h1
  rw [if_pos (by omega), if_pos h1]
theorem put2 (a b : Int) (ha : 0 ≤ a ∧ a < 256) (hb : 0 ≤ b ∧ b < 256) : putI (p2 a b) = [a, b] ↔ (192 ≤ a ∧ a < 224) ∧ (128 ≤ b ∧ b < 192) ∧ 128 ≤ p2 a b := by
 unfold putI p2
 generalize hn : (a - 192) * 64 + b - 128 = n
 constructor
 ·intro e
  split at e
  ·split at e
   ·simp at e
   ·split at e
    ·simp at e; omega
    ·split at e <;> simp at e
  ·simp at e
 ·intro h
  rw [if_pos (by omega), if_neg (by omega), if_pos (by omega)]
  have e1 : 192 + n / 64 = a := by omega
  have e2 : 128 + n % 64 = b := by omega
  rw [e1, e2]
theorem put3 (a b c : Int) (ha : 0 ≤ a ∧ a < 256) (hb : 0 ≤ b ∧ b < 256) (hc : 0 ≤ c ∧ c < 256) : putI (p3 a b c) = [a, b, c] ↔ (224 ≤ a ∧ a < 240) ∧ (128 ≤ b ∧ b < 192) ∧ (128 ≤ c ∧ c < 192) ∧ 2048 ≤ p3 a b c ∧ (p3 a b c < 55296 ∨ 57343 < p3 a b c) := by
 unfold putI p3
 generalize hn : (a - 224) * 4096 + (b - 128) * 64 + c - 128 = n
 constructor
 ·intro e
  split at e
  ·split at e
   ·simp at e
   ·split at e
    ·simp at e
    ·split at e
     ·simp at e; omega
     ·simp at e
  ·simp at e
 ·intro h
  rw [if_pos (by omega), if_neg (by omega), if_neg (by omega), if_pos (by omega)]
  have e1 : 224 + n / 4096 = a := by omega
  have e2 : 128 + n / 64 % 64 = b := by omega
  have e3 : 128 + n % 64 = c := by omega
  rw [e1, e2, e3]
theorem put4 (a b c d : Int) (ha : 0 ≤ a ∧ a < 256) (hb : 0 ≤ b ∧ b < 256) (hc : 0 ≤ c ∧ c < 256) (hd : 0 ≤ d ∧ d < 256) : putI (p4 a b c d) = [a, b, c, d] ↔ (240 ≤ a ∧ a < 248) ∧ (128 ≤ b ∧ b < 192) ∧ (128 ≤ c ∧ c < 192) ∧ (128 ≤ d ∧ d < 192) ∧ 65536 ≤ p4 a b c d ∧ p4 a b c d ≤ 1114111 := by
 unfold putI p4
 generalize hn : (a - 240) * 262144 + (b - 128) * 4096 + (c - 128) * 64 + d - 128 = n
 constructor
 ·intro e
  split at e
  ·split at e
   ·simp at e
   ·split at e
    ·simp at e
    ·split at e
     ·simp at e
     ·simp at e; omega
  ·simp at e
 ·intro h
  rw [if_pos (by omega), if_neg (by omega), if_neg (by omega), if_neg (by omega)]
  have e1 : 240 + n / 262144 = a := by omega
  have e2 : 128 + n / 4096 % 64 = b := by omega
  have e3 : 128 + n / 64 % 64 = c := by omega
  have e4 : 128 + n % 64 = d := by omega
  rw [e1, e2, e3, e4]
def oneI : List Int → Int
 | [] => -1
 | a :: t =>
  if putI a = [a] then a
  else match t with
   | [] => -1
   | b :: t =>
    if putI (p2 a b) = [a, b] then p2 a b
    else match t with
     | [] => -1
     | c :: t =>
      if putI (p3 a b c) = [a, b, c] then p3 a b c
      else match t with
       | [] => -1
       | d :: _ => if putI (p4 a b c d) = [a, b, c, d] then p4 a b c d else -1
theorem first_put (s : List Int) (hs : ∀ x ∈ s, 0 ≤ x ∧ x < 256) (p : Int × Nat) (h : firstI s = some p) : putI p.1 = s.take p.2 ∧ p.2 ≤ s.length ∧ 0 < p.2 ∧ 0 ≤ p.1 := by
 match s, hs with
 | [], _ => simp [firstI] at h
 | a :: t, hs =>
  have ha := hs a (by simp)
  unfold firstI at h
  dsimp only at h
  by_cases h1 : a < 128
  ·rw [if_pos h1] at h
   obtain rfl := Option.some.inj h
   exact ⟨by rw [(put1 a ha).2 h1]; rfl, by simp, Nat.one_pos, ha.1⟩
  ·rw [if_neg h1] at h
   by_cases g1 : 192 ≤ a ∧ a < 224
   ·rw [if_pos g1] at h
    match t, hs with
    | [], _ => simp at h
    | b :: t, hs =>
     dsimp only at h
     by_cases h2 : (128 ≤ b ∧ b < 192) ∧ 128 ≤ p2 a b
     ·rw [if_pos h2] at h
      obtain rfl := Option.some.inj h
      exact ⟨by rw [(put2 a b ha (hs b (by simp))).2 ⟨g1, h2⟩]; rfl, by simp, Nat.succ_pos _, by have := h2.2; dsimp only; omega⟩
     ·rw [if_neg h2] at h; cases h
   ·rw [if_neg g1] at h
    by_cases g2 : 224 ≤ a ∧ a < 240
    ·rw [if_pos g2] at h
     match t, hs with
     | [], _ => simp at h
     | [b], _ => simp at h
     | b :: c :: t, hs =>
      dsimp only at h
      by_cases h3 : (128 ≤ b ∧ b < 192) ∧ (128 ≤ c ∧ c < 192) ∧ 2048 ≤ p3 a b c ∧ (p3 a b c < 55296 ∨ 57343 < p3 a b c)
      ·rw [if_pos h3] at h
       obtain rfl := Option.some.inj h
       exact ⟨by rw [(put3 a b c ha (hs b (by simp)) (hs c (by simp))).2 ⟨g2, h3⟩]; rfl, by simp, Nat.succ_pos _, by have := h3.2.2.1; dsimp only; omega⟩
      ·rw [if_neg h3] at h; cases h
    ·rw [if_neg g2] at h
     by_cases g3 : 240 ≤ a ∧ a < 248
     ·rw [if_pos g3] at h
      match t, hs with
      | [], _ => simp at h
      | [b], _ => simp at h
      | [b, c], _ => simp at h
      | b :: c :: d :: t, hs =>
       dsimp only at h
       by_cases h4 : (128 ≤ b ∧ b < 192) ∧ (128 ≤ c ∧ c < 192) ∧ (128 ≤ d ∧ d < 192) ∧ 65536 ≤ p4 a b c d ∧ p4 a b c d ≤ 1114111
       ·rw [if_pos h4] at h
        obtain rfl := Option.some.inj h
        exact ⟨by rw [(put4 a b c d ha (hs b (by simp)) (hs c (by simp)) (hs d (by simp))).2 ⟨g3, h4⟩]; rfl, by simp, Nat.succ_pos _, by have := h4.2.2.2.1; dsimp only; omega⟩
       ·rw [if_neg h4] at h; cases h
     ·rw [if_neg g3] at h; cases h
end Go.Proofs.YtfocognhcljhpaaGreatDoor.Utf
namespace Go.Proofs.YtfocognhcljhpaaGreatDoor.Tree
abbrev Bs := List UInt8
def runL : Bs → Nat
 | [] => 0
 | c :: r => if 48 ≤ c ∧ c ≤ 57 then runL r + 1 else 0
theorem runL_le : ∀ l : Bs, runL l ≤ l.length
 | [] => Nat.le_refl _
 | c :: r => by rw [runL]; split; (have := runL_le r; simp; exact this); simp
def fracL (l : Bs) (a : Nat) : Nat := if l[a]? = some 46 then (if runL (l.drop (a + 1)) = 0 then 0 else a + 1 + runL (l.drop (a + 1))) else a
def expAt (l : Bs) (a : Nat) : Nat := if l[a]? = some 43 ∨ l[a]? = some 45 then a + 1 else a
def expL (l : Bs) (a : Nat) : Nat := if l[a]? = some 101 ∨ l[a]? = some 69 then (if runL (l.drop (expAt l (a + 1))) = 0 then 0 else expAt l (a + 1) + runL (l.drop (expAt l (a + 1)))) else a
def signL (l : Bs) : Nat := if l[0]? = some 45 then 1 else 0
def numL (l : Bs) : Nat :=
 if runL (l.drop (signL l)) = 0 ∨ (1 < runL (l.drop (signL l)) ∧ l[signL l]? = some 48) then 0
 else if fracL l (signL l + runL (l.drop (signL l))) = 0 then 0
 else expL l (fracL l (signL l + runL (l.drop (signL l))))
def isNumL (t : ByteArray) : Bool := decide (0 < t.size) && (numL t.data.toList == t.size)
def ints (l : Bs) : List Int := l.map fun c => (c.toNat : Int)
theorem ints_range (l : Bs) : ∀ x ∈ ints l, 0 ≤ x ∧ x < 256 := by
 intro x hx
 obtain ⟨c, _, rfl⟩ := List.mem_map.1 hx
 have := c.toNat_lt
 omega
theorem ints_drop (l : Bs) (k : Nat) : ints (l.drop k) = (ints l).drop k := by simp [ints]
def pts : Nat → Nat → List Int → List (Nat × Int)
 | 0, _, _ => []
 | f + 1, a, l => match Utf.firstI l with
  | none => []
  | some p => (a, p.1) :: pts f (a + p.2) (l.drop p.2)
def endI : Nat → Nat → List Int → Nat
 | 0, a, _ => a
 | f + 1, a, l => match Utf.firstI l with
  | none => a
  | some p => endI f (a + p.2) (l.drop p.2)
def badL (l : Bs) : Int := if endI l.length 0 (ints l) = l.length then -1 else (endI l.length 0 (ints l) : Int)
def validL (l : Bs) : Bool := decide (endI l.length 0 (ints l) = l.length)
end Go.Proofs.YtfocognhcljhpaaGreatDoor.Tree
namespace Go.Proofs.YtfocognhcljhpaaGreatDoor
open Go.RowKit Go.Proofs.YtfocognhcljhpaaGreatDoorW.PrintWords Go.Proofs.YtfocognhcljhpaaGreatDoor.Tree
def hexd (d : Nat) : UInt8 := if d < 10 then UInt8.ofNat (48 + d) else UInt8.ofNat (87 + d)
def escL (c : Nat) : Bs := if c = 8 then [92, 98] else if c = 9 then [92, 116] else if c = 10 then [92, 110] else if c = 12 then [92, 102] else if c = 13 then [92, 114] else [92, 117, 48, 48, hexd (c / 16), hexd (c % 16)]
def qc (c : UInt8) : Bs := if c = 34 ∨ c = 92 then [92, c] else if c < 32 then escL c.toNat else [c]
def quoteL (s : Bs) : Bs := 34 :: (s.flatMap qc ++ [34])
theorem esc_f (c : Nat) (h : c < 32) : PRef.print_escape.f (c : Int) = some ⟨(escL c).toArray⟩ := by
 have hc : c = 0 ∨ c = 1 ∨ c = 2 ∨ c = 3 ∨ c = 4 ∨ c = 5 ∨ c = 6 ∨ c = 7 ∨ c = 8 ∨ c = 9 ∨ c = 10 ∨ c = 11 ∨ c = 12 ∨ c = 13 ∨ c = 14 ∨ c = 15 ∨ c = 16 ∨ c = 17 ∨ c = 18 ∨ c = 19 ∨ c = 20 ∨ c = 21 ∨ c = 22 ∨ c = 23 ∨ c = 24 ∨ c = 25 ∨ c = 26 ∨ c = 27 ∨ c = 28 ∨ c = 29 ∨ c = 30 ∨ c = 31 := by omega
 rcases hc with rfl | rfl | rfl | rfl | rfl | rfl | rfl | rfl | rfl | rfl | rfl | rfl | rfl | rfl | rfl | rfl | rfl | rfl | rfl | rfl | rfl | rfl | rfl | rfl | rfl | rfl | rfl | rfl | rfl | rfl | rfl | rfl
 all_goals (clear h; rfl)
theorem escape_any (c : Nat) (h : c < 32) (w : World) : Calls Tryz.prog 48 #[.int .u8 (c : Int)] w fun e w' => e = .returned (.string ⟨(escL c).toArray⟩) ∧ Drawn0 w w' := PRef.print_escape.calls c _ w (esc_f c h)
theorem cells_snoc (l : Bs) (c : UInt8) : Lib.byteCells l ++ [.int .u8 (c.toNat : Int)] = Lib.byteCells (l ++ [c]) := by simp [Lib.byteCells]
theorem cells_str (l : Bs) (t : Bs) : Lib.byteCells l ++ Lib.strCells ⟨t.toArray⟩ = Lib.byteCells (l ++ t) := by simp [Lib.byteCells, Lib.strCells]
theorem bldU_drawn {B b : Nat} {bs : List Value} {w w' : World} (h : BldU B b bs w) (hd : Drawn0 w w') : BldU B b bs w' := by
 obtain ⟨n, rfl⟩ := hd.out
 exact h
theorem qc_len (c : UInt8) : (qc c).length ≤ 6 := by
 unfold qc escL
 repeat' split
 all_goals simp
theorem flat_qc_len : ∀ s : Bs, (s.flatMap qc).length ≤ 6 * s.length
 | [] => by simp
 | c :: s => by
  rw [List.flatMap_cons, List.length_append, List.length_cons]
  have := qc_len c
  have := flat_qc_len s
  omega
set_option maxRecDepth 100000 in
set_option maxHeartbeats 4000000 in
theorem quote_any (s : ByteArray) (hs : s.size ≤ 1000000) (w : World) :
  Calls Tryz.prog 15 #[.string s] w fun e w' => e = .returned (.string ⟨(quoteL s.data.toList).toArray⟩) ∧ Below w.heap.size w w' := by
 have HB0 := Lib.hid (Lib.IsBuilderF.of (Lib.fresh_isBuilder 83 5 w))
 have hql := flat_qc_len s.data.toList
 have hsl : s.data.toList.length = s.size := by simp
 obtain ⟨q, hq⟩ : ∃ q, quoteL s.data.toList = q := ⟨_, rfl⟩
 rw [hq]
 have HQ := Lib.hid hq
 clear hq
 go_enter Tryz.func15, Tryz.ntmps15
 go_wp2_with (go_at_call 47; go_must (refine (writeByte_any w.heap.size w.heap.size _ 34 _ HB0.out (by simp) (by simp)).mono ?_); rintro e w1 ⟨rfl, hu, hk⟩)
 have hb1 : Below w.heap.size w w1 := (below_alloc (Below.refl _ _) _).trans hk.1
 go_loopw [9] (fun vi wr => ∃ (k : Nat), k ≤ s.size ∧ vi = .int .i64 k ∧ BldU w.heap.size w.heap.size (Lib.byteCells (34 :: (s.data.toList.take k).flatMap qc)) wr ∧ Below w.heap.size w wr) (fun vi _ => s.size - (intOf vi).toNat)
 case atStart => exact ⟨0, Nat.zero_le _, rfl, hu, hb1⟩
 case round =>
  obtain ⟨k, hk, rfl, hU, hB⟩ := hrel
  have B := Lib.hid hB
  have U := Lib.hid hU
  have hsz := hB.size
  have hpl : ((s.data.toList.take k).flatMap qc).length ≤ 6000000 := by
   have := flat_qc_len (s.data.toList.take k)
   rw [List.length_take] at this
   omega
  clear hB hU
  by_cases hlt : k < s.size
  ·have k9 : decide ((k : Int) < (s.size : Int)) = true := decide_eq_true (by omega)
   have htk : (s.data.toList.take (k + 1)).flatMap qc = (s.data.toList.take k).flatMap qc ++ qc s[k] := by
    rw [List.take_succ_eq_append_getElem (by simpa using hlt), List.flatMap_append]
    simp [List.flatMap_cons]
    rfl
   have hcl := s[k].toNat_lt
   have HT := Lib.hid htk
   obtain ⟨p, hp⟩ : ∃ p, (s.data.toList.take k).flatMap qc = p := ⟨_, rfl⟩
   rw [hp] at U HT hpl
   obtain ⟨c, hc⟩ : ∃ c, s[k] = c := ⟨_, rfl⟩
   have hcI : ((s[k].toNat : Nat) : Int) = (c.toNat : Int) := by rw [hc]
   rw [hc] at HT hcl
   have U0 := Lib.hid (Or.inr U.out : BldF w.heap.size w.heap.size (Lib.byteCells (34 :: p)) wr)
   clear htk hp
   by_cases h1 : c = 34 ∨ c = 92
   ·have hqc : qc c = [92, c] := by unfold qc; rw [if_pos h1]
    rw [hqc] at HT
    have fin : ∀ W, BldU w.heap.size w.heap.size (Lib.byteCells (34 :: p) ++ [.int .u8 92] ++ [.int .u8 (c.toNat : Int)]) W → BldU w.heap.size w.heap.size (Lib.byteCells (34 :: (s.data.toList.take (k + 1)).flatMap qc)) W := fun W h => by
     rw [HT.out]
     have e : Lib.byteCells (34 :: p) ++ [.int .u8 92] ++ [.int .u8 (c.toNat : Int)] = Lib.byteCells (34 :: (p ++ [92, c])) := by simp [Lib.byteCells]
     rw [← e]
     exact h
    have FIN := Lib.hid fin
    have hbl : (Lib.byteCells (34 :: p)).length ≤ 7000000 := by rw [Lib.byteCells_length, List.length_cons]; omega
    clear fin hqc
    generalize Lib.byteCells (34 :: p) = bs at *
    have k1 : ((c.toNat : Int) == 34) = true ∨ (((c.toNat : Int) == 34) = false ∧ ((c.toNat : Int) == 92) = true) := by
     rcases h1 with rfl | rfl
     ·exact .inl rfl
     ·exact .inr ⟨rfl, rfl⟩
    obtain ⟨z, hz⟩ : ∃ z : Int, (c.toNat : Int) = z := ⟨_, rfl⟩
    rw [hz] at k1 hcI FIN
    have hb8 : bs.length ≤ 100000000 := by omega
    have hb9 : (bs ++ [Value.int .u8 92]).length ≤ 100000000 := by simp; omega
    have W9 := Lib.hid (writeByte_any w.heap.size w.heap.size bs 92 wr U0.out hb8 hsz)
    have WZ := Lib.hid (fun W h hB => writeByte_any w.heap.size w.heap.size (bs ++ [.int .u8 92]) z W h hb9 hB)
    rcases k1 with k1 | ⟨k1, k2⟩
    all_goals
     go_wp2_with (go_at_call 47; go_must (refine W9.out.mono ?_))
     rintro e w2 ⟨rfl, hu2, hk2⟩
     have U2 := Lib.hid (Or.inr hu2 : BldF w.heap.size w.heap.size _ w2)
     have B2 := Lib.hid (B.out.trans hk2.1)
     clear hu2 hk2
     go_wp2_with (go_at_call 47; go_must (refine (WZ.out _ U2.out B2.out.size).mono ?_); rintro e w3 ⟨rfl, hu3, hk3⟩; have U3 := Lib.hid hu3; have B3 := Lib.hid (B2.out.trans hk3.1); clear hu3 hk3)
     go_roundw
     case rel => exact ⟨k + 1, by omega, by go_num, FIN.out _ U3.out, B3.out⟩
     case measure => simp [intOf]; omega
   ·have h34 : ((c.toNat : Int) == 34) = false := by
     rw [beq_eq_false_iff_ne]
     intro h
     exact h1 (.inl (UInt8.toNat_inj.1 (by show c.toNat = 34; omega)))
    have h92 : ((c.toNat : Int) == 92) = false := by
     rw [beq_eq_false_iff_ne]
     intro h
     exact h1 (.inr (UInt8.toNat_inj.1 (by show c.toNat = 92; omega)))
    by_cases h2 : c < 32
    ·have hqc : qc c = escL c.toNat := by unfold qc; rw [if_neg h1, if_pos h2]
     rw [hqc] at HT
     have h3 : c.toNat < 32 := UInt8.lt_iff_toNat_lt.1 h2
     have fin : ∀ W, BldU w.heap.size w.heap.size (Lib.byteCells (34 :: p) ++ Lib.strCells ⟨(escL c.toNat).toArray⟩) W → BldU w.heap.size w.heap.size (Lib.byteCells (34 :: (s.data.toList.take (k + 1)).flatMap qc)) W := fun W h => by
      rw [HT.out]
      rw [cells_str] at h
      exact h
     have FIN := Lib.hid fin
     have HE := Lib.hid (escape_any c.toNat h3)
     have hel : (escL c.toNat).length ≤ 6 := by have := qc_len c; rw [hqc] at this; exact this
     have hbl : (Lib.byteCells (34 :: p)).length ≤ 7000000 := by rw [Lib.byteCells_length, List.length_cons]; omega
     clear fin hqc
     generalize Lib.byteCells (34 :: p) = bs at *
     obtain ⟨z, hz⟩ : ∃ z : Int, (c.toNat : Int) = z := ⟨_, rfl⟩
     have k3 : decide (z < 32) = true := decide_eq_true (by omega)
     obtain ⟨es, hes⟩ : ∃ es, (⟨(escL c.toNat).toArray⟩ : ByteArray) = es := ⟨_, rfl⟩
     have hesl : es.size ≤ 6 := by rw [← hes]; show (escL c.toNat).toArray.size ≤ 6; simpa using hel
     rw [hz] at h34 h92 hcI HE
     rw [hes] at HE FIN
     go_wp2_with (first | (go_at_call 48; go_must (refine (HE.out _).mono ?_); rintro e w2 ⟨rfl, hd⟩; have U2 := Lib.hid (Or.inr (bldU_drawn U.out hd) : BldF w.heap.size w.heap.size bs w2); have B2 := Lib.hid (below_step B.out hd.below); clear hd) | (go_at_call 44; go_must (refine (writeString_any w.heap.size w.heap.size _ es w2 U2.out (by omega) B2.out.size).mono ?_); rintro e w3 ⟨rfl, hu3, hk3⟩; have U3 := Lib.hid hu3; have B3 := Lib.hid (B2.out.trans hk3.1); clear hu3 hk3))
     go_roundw
     case rel => exact ⟨k + 1, by omega, by go_num, FIN.out _ U3.out, B3.out⟩
     case measure => simp [intOf]; omega
    ·have hqc : qc c = [c] := by unfold qc; rw [if_neg h1, if_neg h2]
     rw [hqc] at HT
     have fin : ∀ W, BldU w.heap.size w.heap.size (Lib.byteCells (34 :: p) ++ [.int .u8 (c.toNat : Int)]) W → BldU w.heap.size w.heap.size (Lib.byteCells (34 :: (s.data.toList.take (k + 1)).flatMap qc)) W := fun W h => by
      rw [HT.out]
      rw [cells_snoc] at h
      exact h
     have FIN := Lib.hid fin
     have hbl : (Lib.byteCells (34 :: p)).length ≤ 7000000 := by rw [Lib.byteCells_length, List.length_cons]; omega
     have h3 : ¬ c.toNat < 32 := fun h => h2 (UInt8.lt_iff_toNat_lt.2 h)
     clear fin hqc
     generalize Lib.byteCells (34 :: p) = bs at *
     obtain ⟨z, hz⟩ : ∃ z : Int, (c.toNat : Int) = z := ⟨_, rfl⟩
     have k3 : decide (z < 32) = false := decide_eq_false (by omega)
     rw [hz] at h34 h92 hcI FIN
     go_wp2_with (go_at_call 47; go_must (refine (writeByte_any w.heap.size w.heap.size _ z wr U0.out (by omega) hsz).mono ?_); rintro e w3 ⟨rfl, hu3, hk3⟩; have U3 := Lib.hid hu3; have B3 := Lib.hid (B.out.trans hk3.1); clear hu3 hk3)
     go_roundw
     case rel => exact ⟨k + 1, by omega, by go_num, FIN.out _ U3.out, B3.out⟩
     case measure => simp [intOf]; omega
  ·obtain rfl : k = s.size := by omega
   rw [List.take_of_length_le (by omega)] at U hpl
   have k9 : decide ((s.size : Int) < (s.size : Int)) = false := by simp
   have U0 := Lib.hid (Or.inr U.out : BldF w.heap.size w.heap.size _ wr)
   have hbl : (Lib.byteCells (34 :: s.data.toList.flatMap qc)).length ≤ 7000000 := by rw [Lib.byteCells_length, List.length_cons]; omega
   have fin : ∀ W, BldU w.heap.size w.heap.size (Lib.byteCells (34 :: s.data.toList.flatMap qc) ++ [.int .u8 34]) W → BldF w.heap.size w.heap.size (Lib.byteCells q) W := fun W h => by
    rw [← HQ.out]
    have e : Lib.byteCells (34 :: s.data.toList.flatMap qc) ++ [.int .u8 34] = Lib.byteCells (quoteL s.data.toList) := by simp [quoteL, Lib.byteCells]
    rw [← e]
    exact .inr h
   have FIN := Lib.hid fin
   clear fin hpl
   generalize Lib.byteCells (34 :: s.data.toList.flatMap qc) = bs at *
   go_wp2_with (first | (go_at_call 47; go_must (refine (writeByte_any w.heap.size w.heap.size _ 34 wr U0.out (by omega) hsz).mono ?_); rintro e w3 ⟨rfl, hu3, hk3⟩; have U3 := Lib.hid (FIN.out _ hu3); have B3 := Lib.hid (B.out.trans hk3.1); clear hu3 hk3) | (go_at_call 45; go_must (refine (Tryz.Builder_String_any_k w.heap.size w.heap.size q w3 U3.out B3.out.size).mono ?_); rintro e w4 ⟨rfl, _, hb4, _⟩))
   go_ret
   exact ⟨rfl, B3.out.trans hb4⟩
end Go.Proofs.YtfocognhcljhpaaGreatDoor
namespace Go.Proofs.YtfocognhcljhpaaGreatDoor
open Go.RowKit Go.Proofs.YtfocognhcljhpaaGreatDoorW.PrintWords Go.Maps Go.ChangeMaps Go.MapKept Go.WideMaps
theorem laidOutM : laidOutB Tryz.prog = true := by kernel_rfl
theorem memLaw : KeyLaw Tryz.prog 141 := deep_law_laid laidOutM (m := 2) (by omega) (of_decide_eq_true (by kernel_rfl)) (by kernel_rfl) (by kernel_rfl)
theorem memKeyed : Keyed Tryz.prog 141 := Keyed.of_law memLaw
theorem memCells : Tryz.prog.cellsOf 141 = 2 := by kernel_rfl
theorem mem_lits (n : Nat) (p : Int) (s : ByteArray) (hp : (Lit.int .i64 p).wf = true) (hs : s.size ≤ maxLen) : Tryz.prog.keyLits (n + 2) 141 [.int .i64 p, .string s] = some [.int .i64 p, .string s.data.toList] := by
 have h1 : Tryz.prog.keyLits (n + 1) 3 [.int .i64 p] = some [.int .i64 p] := by
  unfold Program.keyLits
  simp [Tryz.underlying3, hp]
 have h2 : Tryz.prog.keyLits (n + 1) 9 [.string s] = some [.string s.data.toList] := by
  unfold Program.keyLits
  simp [Tryz.underlying9, hs]
 have c1 : Tryz.prog.cellsOf 3 = 1 := by kernel_rfl
 have c2 : Tryz.prog.cellsOf 9 = 1 := by kernel_rfl
 unfold Program.keyLits
 simp [Tryz.underlying141, memCells, c1, c2, h1, h2]
theorem memIs : Tryz.prog.keyType 141 = true := by kernel_rfl
theorem mem_key (p : Int) (s : ByteArray) (hp : (Lit.int .i64 p).wf = true) (hs : s.size ≤ maxLen) : ∃ kl, keyOf Tryz.prog 141 (.agg #[.int .i64 p, .string s]) = some kl := by
 unfold keyOf
 simp [Tryz.underlying141, memIs, Value.formed, memCells, Value.cells]
 exact ⟨_, _, mem_lits _ p s hp hs, rfl⟩
def SetOf (w : World) (b n : Nat) (L : List (Int × Bytes)) : Prop :=
 ∃ D : DataW Unit, w.ownsMap Tryz.prog 141 (plainElem Tryz.prog 4) b n D ∧
  ∀ p s kl, keyOf Tryz.prog 141 (.agg #[.int .i64 p, .string s]) = some kl → D.atKey kl (.lit (.bool false)) = .lit (.bool (decide ((p, s.data.toList) ∈ L)))
theorem SetOf.made (w : World) : SetOf (w.alloc (.map #[] 0)) w.heap.size 0 [] :=
 ⟨.map [], World.ownsMap_made w _ _ _, fun p s kl _ => by simp; rfl⟩
theorem SetOf.kept {w w' : World} {b n : Nat} {L : List (Int × Bytes)} {row : Option Nat} (h : SetOf w b n L) (hg : w.grownBy w' row) (hne : some b ≠ row) : SetOf w' b n L := by
 obtain ⟨D, h1, h2⟩ := h
 exact ⟨D, h1.kept hg hne, h2⟩
theorem SetOf.below {w w' : World} {b n : Nat} {L : List (Int × Bytes)} (h : SetOf w b n L) (hb : Below w.heap.size w w') : SetOf w' b n L := by
 obtain ⟨D, ⟨es, clock, h1, h1'⟩, h2⟩ := h
 exact ⟨D, ⟨es, clock, (hb.block b (Array.getElem?_eq_some_iff.1 h1).1).trans h1, h1'⟩, h2⟩
theorem SetOf.lt {w : World} {b n : Nat} {L : List (Int × Bytes)} (h : SetOf w b n L) : b < w.heap.size := by
 obtain ⟨D, h1, _⟩ := h
 exact h1.lt
set_option maxRecDepth 100000 in
theorem SetOf.look {w : World} {b n : Nat} {L : List (Int × Bytes)} (h : SetOf w b n L) (p : Int) (s : ByteArray) (hp : (Lit.int .i64 p).wf = true) (hs : s.size ≤ maxLen) :
  (Instr.lookup 139 (.map (some b)) (.agg #[.int .i64 p, .string s]) false).run Tryz.prog w = .ok (.bool (decide ((p, s.data.toList) ∈ L))) w := by
 obtain ⟨D, h1, h2⟩ := h
 obtain ⟨kl, hk⟩ := mem_key p s hp hs
 obtain ⟨v, ps, hrun, hv⟩ := h1.lookup memKeyed Tryz.underlying139 (show (zeroValue 4).run Tryz.prog w = .ok (.bool false) w by kernel_rfl) (plainElem_bool Tryz.underlying4 false) hk
 rw [h2 p s kl hk] at hv
 unfold plainElem at hv
 rw [Tryz.underlying4] at hv
 cases v <;> simp at hv
 obtain ⟨rfl, _⟩ := hv
 exact hrun
set_option maxRecDepth 100000 in
theorem SetOf.put {w : World} {b n : Nat} {L : List (Int × Bytes)} (h : SetOf w b n L) (hn : n < 1000000) (p : Int) (s : ByteArray) (hp : (Lit.int .i64 p).wf = true) (hs : s.size ≤ maxLen) :
  ∃ w', (Instr.mapUpdate 139 (.map (some b)) (.agg #[.int .i64 p, .string s]) (.bool true)).run Tryz.prog w = .ok () w' ∧ SetOf w' b (n + 1) ((p, s.data.toList) :: L) ∧ w.grownBy w' (some b) := by
 obtain ⟨D, h1, h2⟩ := h
 obtain ⟨kl, hk⟩ := mem_key p s hp hs
 obtain ⟨w', hrun, ho, hg⟩ := h1.update memKeyed Tryz.underlying139 (by unfold maxLen; omega) hk (plainElem_bool Tryz.underlying4 true)
 refine ⟨w', hrun, ⟨_, ho, fun p' s' kl' hk' => ?_⟩, hg⟩
 by_cases e : kl' = kl
 ·subst e
  have := memKeyed.inj hk hk'
  simp at this
  obtain ⟨rfl, rfl⟩ := this
  rw [atKey_put_same (h1.isMap) (memKeyed.key hk)]
  simp
 ·rw [atKey_put_other e, h2 p' s' kl' hk']
  have : ¬ (p' = p ∧ s'.data.toList = s.data.toList) := by
   rintro ⟨rfl, h⟩
   have hs' : s' = s := by
    cases s'; cases s
    congr 1
    exact Array.toList_inj.1 h
   subst hs'
   rw [hk] at hk'
   exact e (Option.some.inj hk').symm
  have : decide ((p', s'.data.toList) ∈ ((p, s.data.toList) :: L)) = decide ((p', s'.data.toList) ∈ L) := by
   rw [decide_eq_decide, List.mem_cons, Prod.mk.injEq]
   exact ⟨fun h => h.resolve_left this, .inr⟩
  rw [this]
end Go.Proofs.YtfocognhcljhpaaGreatDoor
namespace Go.Proofs.YtfocognhcljhpaaGreatDoor
open Go.RowKit Go.Proofs.YtfocognhcljhpaaGreatDoorW.PrintWords Go.Proofs.YtfocognhcljhpaaGreatDoorW.PrintMore Go.Maps Go.Proofs.YtfocognhcljhpaaGreatDoor.PPrintRows
abbrev Node := S48
abbrev kN : Kd Node := k48
def kindAtI (l : List Node) (i : Int) : Int := (rd_T48 l i).f0
def twGo (l : List Node) : List (Int × Bytes) → List Node → Bool
 | _, [] => false
 | seen, n :: r => if n.f3 < 0 ∨ kindAtI l n.f3 ≠ 7 then twGo l seen r else if (n.f3, n.f1.data.toList) ∈ seen then true else twGo l ((n.f3, n.f1.data.toList) :: seen) r
structure NodeOk (len : Nat) (n : Node) : Prop where
 par : n.f3 < len
 parlo : -9223372036854775808 ≤ n.f3
 key : n.f1.size ≤ 1000000000
 text : n.f2.size ≤ 1000000000
theorem wf_i64 {p : Int} (h0 : -9223372036854775808 ≤ p) (h1 : p ≤ 9223372036854775807) : (Lit.int .i64 p).wf = true := by
 unfold Lit.wf
 rw [Bool.and_eq_true, decide_eq_true_eq, decide_eq_true_eq]
 exact ⟨h0, h1⟩
theorem rd_node (l : List Node) (k : Nat) (h : k < l.length) : rd_T48 l (k : Int) = l[k] := by
 unfold rd_T48
 rw [List.getD_eq_getElem?_getD, Int.toNat_natCast, List.getElem?_eq_getElem h]
 rfl
theorem node_at {w : World} {A : Option Addr} {l : List Node} (h : Kd.C kN w A l.length l) (k : Nat) (hk : k < l.length) : ∃ ad, A = some ad ∧ w.cell? (ad.add (k * 5)) = some (.int .i64 l[k].f0) ∧
  w.cell? ⟨(ad.add (k * 5)).block, (ad.add (k * 5)).off + 1, none⟩ = some (.string l[k].f1) ∧ w.cell? ⟨(ad.add (k * 5)).block, (ad.add (k * 5)).off + 2, none⟩ = some (.string l[k].f2) ∧
  w.cell? ⟨(ad.add (k * 5)).block, (ad.add (k * 5)).off + 3, none⟩ = some (.int .i64 l[k].f3) ∧ w.cell? ⟨(ad.add (k * 5)).block, (ad.add (k * 5)).off + 4, none⟩ = some (.int .i64 l[k].f4) := by
 have := at_T48 h (k : Int) (by omega) (by omega)
 rw [rd_node l k hk, Int.toNat_natCast] at this
 exact this
set_option maxRecDepth 100000 in
set_option maxHeartbeats 2000000 in
theorem twice_any (A : Option Addr) (c : Nat) (l : List Node) (w : World) (hr : Kd.C kN w A l.length l) (hc : l.length ≤ c) (hl : l.length ≤ 900000) (hok : ∀ n ∈ l, NodeOk l.length n) :
  Calls Tryz.prog 85 #[.slice A l.length c] w fun e w' => e = .returned (.bool (twGo l [] l)) ∧ Below w.heap.size w w' := by
 obtain ⟨tv, htv⟩ : ∃ tv, twGo l [] l = tv := ⟨_, rfl⟩
 rw [htv]
 have HR := Lib.hid hr
 have HO := Lib.hid hok
 have HT := Lib.hid htv
 clear hr hok htv
 have hmk : ∀ W, (Instr.makeMap 139 none).run Tryz.prog W = .ok (.map (some W.heap.size)) (W.alloc (.map #[] 0)) := fun W => run_makeMap _ W
 go_enter Tryz.func85, Tryz.ntmps85
 go_wp2_with fail
 clear hmk
 go_loopw [10] (fun vi wr => ∃ (k n : Nat) (seen : List (Int × Bytes)), k ≤ l.length ∧ vi = .int .i64 k ∧ n ≤ k ∧ SetOf wr w.heap.size n seen ∧ twGo l seen (l.drop k) = tv ∧ Below w.heap.size w wr) (fun vi _ => l.length - (intOf vi).toNat)
 case atStart => exact ⟨0, 0, [], Nat.zero_le _, rfl, Nat.le_refl _, SetOf.made w, HT.out, below_alloc (Below.refl _ _) _⟩
 case round =>
  obtain ⟨k, n, seen, hk, rfl, hn, hS, hE, hB⟩ := hrel
  have B := Lib.hid hB
  have S := Lib.hid hS
  have hsz := hB.size
  by_cases hlt : k < l.length
  ·have k9 : decide ((k : Int) < (l.length : Int)) = true := decide_eq_true (by omega)
   rw [List.drop_eq_getElem_cons hlt, twGo] at hE
   obtain ⟨ad, rfl, c0, c1, c2, c3, c4⟩ := node_at (Kd.C_below HR.out hB) k hlt
   obtain ⟨o1, o2, o3, o4⟩ := HO.out l[k] (List.getElem_mem hlt)
   generalize l[k] = x at c0 c1 c2 c3 c4 o1 o2 o3 o4 hE
   have k8 : decide ((k : Int) < (l.length : Int)) = true := decide_eq_true (by omega)
   clear hB hS
   by_cases hneg : x.f3 < 0
   ·have k1 : decide (x.f3 < 0) = true := decide_eq_true hneg
    rw [if_pos (.inl hneg)] at hE
    have HE := Lib.hid hE
    clear hE
    go_wp2_with fail
    go_roundw
    case rel => exact ⟨k + 1, n, seen, by omega, by go_num, by omega, S.out.below (below_alloc (Below.refl _ _) _), HE.out, below_alloc B.out _⟩
    case measure => simp [intOf]; omega
   ·have k1 : decide (x.f3 < 0) = false := decide_eq_false hneg
    obtain ⟨j, hj⟩ : ∃ j : Nat, x.f3 = (j : Int) := ⟨x.f3.toNat, by omega⟩
    have hjl : j < l.length := by omega
    obtain ⟨ad', hA', d0, _⟩ := node_at (Kd.C_below HR.out B.out) j hjl
    obtain rfl := Option.some.inj hA'
    have hkind : kindAtI l x.f3 = l[j].f0 := by unfold kindAtI; rw [hj, rd_node l j hjl]
    rw [hkind] at hE
    generalize l[j].f0 = kd at d0 hE
    rw [hj] at k1 hE c3
    have k2 : decide ((j : Int) < (l.length : Int)) = true := decide_eq_true (by omega)
    have k7 : (0 ≤ (j : Int)) = True := eq_true (by omega)
    have d1 := cellBelow (below_alloc (Below.refl wr.heap.size wr) (.cells #[.int .i64 x.f0, .string x.f1, .string x.f2, .int .i64 (j : Int), .int .i64 x.f4] 48)) d0
    by_cases hkd : kd = 7
    ·have k3 : (kd != 7) = false := by simp [hkd]
     rw [if_neg (by omega)] at hE
     have hwf : (Lit.int .i64 (j : Int)).wf = true := wf_i64 (by omega) (by omega)
     have hmx : x.f1.size ≤ maxLen := by unfold maxLen; omega
     have look := fun W (hW : SetOf W w.heap.size n seen) => hW.look (j : Int) x.f1 hwf hmx
     by_cases hin : ((j : Int), x.f1.data.toList) ∈ seen
     ·rw [decide_eq_true hin] at look
      rw [if_pos hin] at hE
      subst hE
      have LK := Lib.hid look
      have look2 := LK.out _ (S.out.below (below_alloc (below_alloc (Below.refl _ _) (.cells #[.int .i64 x.f0, .string x.f1, .string x.f2, .int .i64 (j : Int), .int .i64 x.f4] 48)) (.cells #[.int .i64 (j : Int), .string x.f1] 141)))
      clear look
      go_wp2_with fail
      go_ret
      exact ⟨rfl, below_alloc (below_alloc B.out _) _⟩
     ·rw [decide_eq_false hin] at look
      rw [if_neg hin] at hE
      have HE := Lib.hid hE
      have LK := Lib.hid look
      have S2 := S.out.below (below_alloc (below_alloc (Below.refl _ _) (.cells #[.int .i64 x.f0, .string x.f1, .string x.f2, .int .i64 (j : Int), .int .i64 x.f4] 48)) (.cells #[.int .i64 (j : Int), .string x.f1] 141))
      have look2 := LK.out _ S2
      obtain ⟨w3, hput, S3, hg3⟩ := S2.put (by omega) (j : Int) x.f1 hwf hmx
      have H3 := Lib.hid S3
      have G3 := Lib.hid hg3
      clear look hE S2 S3 hg3
      go_wp2_with fail
      go_roundw
      case rel =>
       refine ⟨k + 1, n + 1, _, by omega, by go_num, by omega, H3.out, HE.out, ?_⟩
       exact (below_alloc (below_alloc B.out _) _).grown G3.out (Nat.le_trans hsz (by simp; omega)) (fun k hk => by simp at hk; omega)
      case measure => simp [intOf]; omega
    ·have k3 : (kd != 7) = true := by simp [hkd]
     rw [if_pos (.inr hkd)] at hE
     have HE := Lib.hid hE
     clear hE
     go_wp2_with fail
     go_roundw
     case rel => exact ⟨k + 1, n, seen, by omega, by go_num, by omega, S.out.below (below_alloc (Below.refl _ _) _), HE.out, below_alloc B.out _⟩
     case measure => simp [intOf]; omega
  ·obtain rfl : k = l.length := by omega
   rw [List.drop_of_length_le (Nat.le_refl _), twGo] at hE
   subst hE
   clear hB hS
   go_wp2_with fail
   go_ret
   exact ⟨rfl, B.out⟩
end Go.Proofs.YtfocognhcljhpaaGreatDoor
namespace Go.Proofs.YtfocognhcljhpaaGreatDoor
open Go.RowKit Go.Proofs.YtfocognhcljhpaaGreatDoorW.PrintWords Go.Proofs.YtfocognhcljhpaaGreatDoorW.PrintMore Go.Proofs.YtfocognhcljhpaaGreatDoor.PPrintRows Go.Proofs.YtfocognhcljhpaaGreatDoor.Tree
def signsV (k : Int) : ByteArray := if k = 7 then ⟨#[123, 125]⟩ else ⟨#[91, 93]⟩
def plainV (k : Int) (t : ByteArray) : ByteArray := if k = 1 then ⟨#[110, 117, 108, 108]⟩ else if k = 2 then ⟨#[102, 97, 108, 115, 101]⟩ else if k = 3 then ⟨#[116, 114, 117, 101]⟩ else if k = 5 then ⟨(quoteL t.data.toList).toArray⟩ else t
def nodeV (n : Node) : Value := .agg #[.int .i64 n.f0, .string n.f1, .string n.f2, .int .i64 n.f3, .int .i64 n.f4]
def nodeC (n : Node) : List Value := [.int .i64 n.f0, .string n.f1, .string n.f2, .int .i64 n.f3, .int .i64 n.f4]
theorem signs_any (k : Int) (w : World) : Calls Tryz.prog 53 #[.int .i64 k] w fun e w' => e = .returned (.string (signsV k)) ∧ w' = w := by
 unfold signsV
 by_cases h : k = 7
 ·rw [if_pos h]
  subst h
  go_enter Tryz.func53, Tryz.ntmps53
  go_wp2
  go_ret
  exact ⟨rfl, rfl⟩
 ·rw [if_neg h]
  have k1 : (k == 7) = false := by simpa using h
  go_enter Tryz.func53, Tryz.ntmps53
  go_wp2
  go_ret
  exact ⟨rfl, rfl⟩
set_option maxHeartbeats 2000000 in
theorem plain_any (n : Node) (hs : n.f2.size ≤ 1000000) (w : World) : Calls Tryz.prog 54 #[nodeV n] w fun e w' => e = .returned (.string (plainV n.f0 n.f2)) ∧ Below w.heap.size w w' := by
 have HQ := Lib.hid (fun W => quote_any n.f2 hs W)
 unfold plainV nodeV
 obtain ⟨k, key, t, p, e⟩ := n
 dsimp only at *
 have fin : ∀ (o : Obj), Below w.heap.size w (w.alloc o) := fun o => below_alloc (Below.refl _ _) o
 by_cases h1 : k = 1
 ·subst h1
  rw [if_pos rfl]
  go_enter Tryz.func54, Tryz.ntmps54
  go_wp2
  go_ret
  exact ⟨rfl, fin _⟩
 ·rw [if_neg h1]
  have k1 : (k == 1) = false := by simpa using h1
  by_cases h2 : k = 2
  ·subst h2
   rw [if_pos rfl]
   go_enter Tryz.func54, Tryz.ntmps54
   go_wp2
   go_ret
   exact ⟨rfl, fin _⟩
  ·rw [if_neg h2]
   have k2 : (k == 2) = false := by simpa using h2
   by_cases h3 : k = 3
   ·subst h3
    rw [if_pos rfl]
    go_enter Tryz.func54, Tryz.ntmps54
    go_wp2
    go_ret
    exact ⟨rfl, fin _⟩
   ·rw [if_neg h3]
    have k3 : (k == 3) = false := by simpa using h3
    by_cases h5 : k = 5
    ·subst h5
     rw [if_pos rfl]
     go_enter Tryz.func54, Tryz.ntmps54
     go_wp2_with (go_at_call 15; go_must (refine (HQ.out _).mono ?_); rintro e w1 ⟨rfl, hb⟩)
     go_ret
     exact ⟨rfl, below_step (fin _) hb⟩
    ·rw [if_neg h5]
     have k5 : (k == 5) = false := by simpa using h5
     go_enter Tryz.func54, Tryz.ntmps54
     go_wp2
     go_ret
     exact ⟨rfl, fin _⟩
def endAt (l : List Node) (j : Nat) : Int := match l[j]? with | some n => n.f4 | none => 0
def kndAt (l : List Node) (j : Nat) : Int := match l[j]? with | some n => n.f0 | none => 0
def pcs (l : List Node) : Nat → Nat → List Nat → Bool → List ByteArray
 | 0, _, _, _ => []
 | f + 1, i, op, first =>
  if op ≠ [] ∧ endAt l (op.headD 0) = (i : Int) then (signsV (kndAt l (op.headD 0))).extract 1 2 :: pcs l f i op.tail false
  else match l[i]? with
   | none => []
   | some n => (if first then [] else [⟨#[44]⟩]) ++ ((if op ≠ [] ∧ kndAt l (op.headD 0) = 7 then [⟨(quoteL n.f1.data.toList ++ [58]).toArray⟩] else []) ++
     (if 6 ≤ n.f0 then (signsV n.f0).extract 0 1 :: pcs l f (i + 1) (i :: op) true else plainV n.f0 n.f2 :: pcs l f (i + 1) op false))
end Go.Proofs.YtfocognhcljhpaaGreatDoor
namespace Go.Proofs.YtfocognhcljhpaaGreatDoor
open Go.RowKit Go.Proofs.YtfocognhcljhpaaGreatDoorW.PrintWords Go.Proofs.YtfocognhcljhpaaGreatDoorW.PrintMore Go.Proofs.YtfocognhcljhpaaGreatDoor.PPrintRows Go.Proofs.YtfocognhcljhpaaGreatDoor.Tree
def OpenAt (w : World) (base : Nat) (v : Value) (op : List Nat) : Prop := Kd.R (Kd.int .i64) 3 w base (fun _ => True) v (op.reverse.map fun (j : Nat) => (j : Int))
theorem int_info : (Tryz.prog.info? 3).map (fun i => (i.zero, i.size, i.bytes)) = some (some (.int .i64 0), 1, 8) := by kernel_rfl
theorem open_top {w : World} {base co : Nat} {Ao : Option Addr} {j : Nat} {s : List Nat} {n : Nat} (h : OpenAt w base (.slice Ao n co) (j :: s)) : ∃ ao, Ao = some ao ∧ w.cell? (ao.add s.length) = some (.int .i64 (j : Nat)) := by
 obtain ⟨hn, hc, hC⟩ := Kd.R_reads' h
 have hlen : ((j :: s).reverse.map fun (j : Nat) => (j : Int)).length = s.length + 1 := by simp
 obtain ⟨ao, e, hx⟩ := Kd.at_int hC (s.length : Int) (by omega) (by rw [hlen]; omega)
 refine ⟨ao, e, ?_⟩
 rw [Int.toNat_natCast] at hx
 rw [hx]
 congr 2
 unfold rd
 rw [Int.toNat_natCast, List.getD_eq_getElem?_getD, List.reverse_cons, List.map_append, List.getElem?_append_right (by simp)]
 simp
theorem OpenAt.pop {base co n j : Nat} {A : World} {Ao : Option Addr} {s : List Nat} (h : OpenAt A base (.slice Ao n co) (j :: s)) : OpenAt A base (.slice Ao s.length co) s := by
 have := Kd.R_take (m := s.length) h (by simp)
 unfold OpenAt
 have e : ((j :: s).reverse.map fun (j : Nat) => (j : Int)).take s.length = s.reverse.map fun (j : Nat) => (j : Int) := by
  rw [List.reverse_cons, List.map_append, List.take_append_of_le_length (by simp), List.take_of_length_le (by simp)]
 rw [e] at this
 exact this
theorem open_own {w : World} {base : Nat} {v : Value} {op : List Nat} (h : OpenAt w base v op) : w.ownsRow base 3 1 v op.length (op.reverse.map fun (j : Nat) => Value.int .i64 (j : Int)) := by
 have := Kd.own_of_R (enc := Value.int .i64) (h1 := fun _ => rfl) h
 simpa [encs, Function.comp_def] using this
theorem open_of {w : World} {base : Nat} {v : Value} {op : List Nat} (h : w.ownsRow base 3 1 v op.length (op.reverse.map fun (j : Nat) => Value.int .i64 (j : Int))) : OpenAt w base v op := by
 refine Kd.R_of_own (enc := Value.int .i64) (h1 := fun _ => rfl) ?_ (fun _ _ => trivial)
 simpa [encs, Function.comp_def] using h
theorem own_int {w : World} {base n : Nat} {v : Value} {xs : List Value} (h : w.ownsRow base 3 1 v n xs) : ∀ k, v.ownBlock = some k → base ≤ k ∧ ∃ cells, w.heap[k]? = some (.cells cells 3 (0, 0)) := by
 intro k hk
 rcases h.2 with ⟨rfl, _⟩ | ⟨g, cap, cur, rfl, hb, hg, _⟩
 ·cases hk
 ·obtain rfl : g = k := by simpa [Value.ownBlock] using hk
  exact ⟨hb, _, hg⟩
theorem wrap_id (x : Int) (h0 : 0 ≤ x) (h1 : x < 9223372036854775808) : IntKind.i64.wrap x = x := by
 rw [IntKind.wrap_i64]
 omega
end Go.Proofs.YtfocognhcljhpaaGreatDoor
namespace Go.Proofs.YtfocognhcljhpaaGreatDoor
open Go.RowKit
end Go.Proofs.YtfocognhcljhpaaGreatDoor
namespace Go.Proofs.YtfocognhcljhpaaGreatDoor
open Go.RowKit Go.Proofs.YtfocognhcljhpaaGreatDoorW.PrintWords Go.Proofs.YtfocognhcljhpaaGreatDoorW.PrintMore Go.Proofs.YtfocognhcljhpaaGreatDoor.PPrintRows Go.Proofs.YtfocognhcljhpaaGreatDoor.Tree
theorem node_info : (Tryz.prog.info? 48).map (fun i => (i.zero, i.size, i.bytes)) = some (some (.agg #[.int .i64 0, .string ⟨#[]⟩, .string ⟨#[]⟩, .int .i64 0, .int .i64 0]), 5, 56) := by kernel_rfl
def ncells (l : List Node) : List Value := l.flatMap nodeC
theorem ncells_cons (n : Node) (l : List Node) : ncells (n :: l) = nodeC n ++ ncells l := rfl
theorem ncells_app (a b : List Node) : ncells (a ++ b) = ncells a ++ ncells b := by simp [ncells]
theorem ncells_one (n : Node) : ncells [n] = nodeC n := by simp [ncells]
theorem ncells_len : ∀ l : List Node, (ncells l).length = l.length * 5
 | [] => rfl
 | n :: l => by rw [ncells_cons, List.length_append, ncells_len l, List.length_cons]; show 5 + _ = _; omega
theorem ncells_at : ∀ (l : List Node) (j k : Nat) (h : j < l.length), k < 5 → (ncells l)[j * 5 + k]? = (nodeC l[j])[k]?
 | n :: l, 0, k, _, hk => by rw [ncells_cons, List.getElem?_append_left (by show _ < 5; omega)]; simp
 | n :: l, j + 1, k, h, hk => by
  rw [ncells_cons, List.getElem?_append_right (by show 5 ≤ _; omega), show (j + 1) * 5 + k - (nodeC n).length = j * 5 + k by show _ - 5 = _; omega, ncells_at l j k (by simpa using h) hk]
  simp
theorem nodeC_one (n : Node) : ∀ u ∈ nodeC n, u.oneCell' = true := by
 intro u hu
 unfold nodeC at hu
 simp only [List.mem_cons, List.not_mem_nil, or_false] at hu
 rcases hu with rfl | rfl | rfl | rfl | rfl <;> rfl
def RowAt (w : World) (base : Nat) (v : Value) (l : List Node) : Prop := w.ownsRow base 48 5 v l.length (ncells l)
theorem RowAt.nil (w : World) (base : Nat) : RowAt w base (.slice none 0 0) [] := World.ownsRow_nil _ _ _ _
theorem RowAt.slice {w : World} {base : Nat} {v : Value} {l : List Node} (h : RowAt w base v l) : ∃ A c, v = .slice A l.length c ∧ l.length ≤ c := by
 obtain ⟨_, ⟨rfl, h0⟩ | ⟨g, cap, cur, rfl, _, _, hc, _⟩⟩ := h
 ·exact ⟨none, 0, by rw [h0], by omega⟩
 ·exact ⟨_, _, rfl, hc⟩
theorem RowAt.C {w : World} {base : Nat} {A : Option Addr} {n c : Nat} {l : List Node} (h : RowAt w base (.slice A n c) l) (hl : l.length ≤ 900000) : Kd.C kN w A l.length l := by
 have hcl := fun g hg => World.ownsRow.cells h (g := g) hg
 obtain ⟨_, ⟨e, h0⟩ | ⟨g, cap, cur, e, _⟩⟩ := h
 ·obtain rfl := List.length_eq_zero_iff.1 h0
  cases e
  exact Kd.C_nil kN w
 ·injection e with e1 e2 e3
  subst e1
  refine ⟨rfl, by omega, fun _ => ⟨_, rfl, fun j p hj => ⟨nodeC p, rfl, k48_mk w p, fun i u hu => ?_⟩⟩⟩
  obtain ⟨hjl, hjp⟩ := List.getElem?_eq_some_iff.1 hj
  have hi : i < 5 := (List.getElem?_eq_some_iff.1 hu).1
  exact hcl g rfl (j * 5 + i) u (by rw [ncells_at l j i hjl hi, hjp]; exact hu)
theorem RowAt.keep {w w1 : World} {base : Nat} {v : Value} {l : List Node} (h : RowAt w base v l) (hk : ∀ k, v.ownBlock = some k → w1.heap[k]? = w.heap[k]?) : RowAt w1 base v l := by
 obtain ⟨h0, h1 | ⟨g, cap, cur, rfl, hb, hg, r⟩⟩ := h
 ·exact ⟨h0, .inl h1⟩
 ·exact ⟨h0, .inr ⟨g, cap, cur, rfl, hb, (hk g rfl).trans hg, r⟩⟩
theorem RowAt.typed {w : World} {base : Nat} {v : Value} {l : List Node} (h : RowAt w base v l) : ∀ k, v.ownBlock = some k → base ≤ k ∧ ∃ cells, w.heap[k]? = some (.cells cells 48 (0, 0)) := by
 intro k hk
 rcases h.2 with ⟨rfl, _⟩ | ⟨g, cap, cur, rfl, hb, hg, _⟩
 ·cases hk
 ·obtain rfl : g = k := by simpa [Value.ownBlock] using hk
  exact ⟨hb, _, hg⟩
theorem OpenAt.keep {w w1 : World} {base : Nat} {v : Value} {op : List Nat} (h : OpenAt w base v op) (hk : ∀ k, v.ownBlock = some k → w1.heap[k]? = w.heap[k]?) : OpenAt w1 base v op := by
 refine open_of ?_
 obtain ⟨h0, h1 | ⟨g, cap, cur, rfl, hb, hg, r⟩⟩ := open_own h
 ·exact ⟨h0, .inl h1⟩
 ·exact ⟨h0, .inr ⟨g, cap, cur, rfl, hb, (hk g rfl).trans hg, r⟩⟩
theorem row_append {W : World} {base : Nat} {v : Value} {l : List Node} (h : RowAt W base v l) (n : Node) (hl : l.length ≤ 900000) (hbase : base ≤ W.heap.size) :
  ∃ v' w', (Builtin.append_ #[22, 22] 22 #[v, .slice (some ⟨W.heap.size, 0, none⟩) 1 1]).run Tryz.prog (W.alloc (.cells (nodeC n).toArray 48)) = .ok v' w' ∧ RowAt w' base v' (l ++ [n]) ∧ (W.alloc (.cells (nodeC n).toArray 48)).grownBy w' v.ownBlock ∧ (∀ k, v'.ownBlock = some k → v.ownBlock = some k ∨ W.heap.size ≤ k) := by
 obtain ⟨i0, hi0, hz0, hz1, hz2⟩ := info_parts node_info
 obtain ⟨v', w', h1, h2, h3, h4, h5⟩ := run_append_own_at (P := Tryz.prog) (w := W.alloc (.cells (nodeC n).toArray 48)) base 22 22 48 i0 _ 5 56 Tryz.underlying22 hi0 hz0 hz1 hz2 rfl (by decide) v l.length (ncells l) (World.ownsRow.alloc h _) ⟨W.heap.size, 0, none⟩ 1 1 (nodeC n) rfl
  (fun j u hj => by rw [Lib.add_plain, Nat.zero_add]; rw [World.cell?_alloc_new]; simpa using hj) (nodeC_one n) (by unfold maxLen; omega) (by omega) (by simp; omega)
 refine ⟨v', w', h1, ?_, h3, fun k hk => ?_⟩
 ·unfold RowAt
  rw [List.length_append, ncells_app, ncells_one]
  exact h2
 ·rcases h5 with h5 | h5
  ·exact .inl (by rw [← h5]; exact hk)
  ·rw [h5] at hk
   cases hk
   exact .inr (by simp)
theorem int_append {W : World} {base : Nat} {v : Value} {op : List Nat} (h : OpenAt W base v op) (j : Nat) (hl : op.length ≤ 900000) (hbase : base ≤ W.heap.size) :
  ∃ v' w', (Builtin.append_ #[71, 71] 71 #[v, .slice (some ⟨W.heap.size, 0, none⟩) 1 1]).run Tryz.prog (W.alloc (.cells #[.int .i64 (j : Int)] 3)) = .ok v' w' ∧ OpenAt w' base v' (j :: op) ∧ (W.alloc (.cells #[.int .i64 (j : Int)] 3)).grownBy w' v.ownBlock ∧ (∀ k, v'.ownBlock = some k → v.ownBlock = some k ∨ W.heap.size ≤ k) := by
 obtain ⟨i0, hi0, hz0, hz1, hz2⟩ := info_parts int_info
 obtain ⟨v', w', h1, h2, h3, h4, h5⟩ := run_append_own_at (P := Tryz.prog) (w := W.alloc (.cells #[.int .i64 (j : Int)] 3)) base 71 71 3 i0 _ 1 8 Tryz.underlying71 hi0 hz0 hz1 hz2 rfl (by decide) v op.length _ (World.ownsRow.alloc (open_own h) _) ⟨W.heap.size, 0, none⟩ 1 1 [.int .i64 (j : Int)] rfl
  (fun i u hi => by rw [Lib.add_plain, Nat.zero_add]; rw [World.cell?_alloc_new]; simpa using hi) (fun u hu => by simp at hu; subst hu; rfl) (by unfold maxLen; omega) (by omega) (by simp; omega)
 refine ⟨v', w', h1, open_of (by simpa using h2), h3, fun k hk => ?_⟩
 rcases h5 with h5 | h5
 ·exact .inl (by rw [← h5]; exact hk)
 ·rw [h5] at hk
  cases hk
  exact .inr (by simp)
end Go.Proofs.YtfocognhcljhpaaGreatDoor
namespace Go.Proofs.YtfocognhcljhpaaGreatDoor
open Go.ChangeShapes Go.WideShapes Go.ChangeAt Go.RowKit Go.Deep Go.Proofs.YtfocognhcljhpaaGreatDoorW.PrintWords Go.Proofs.YtfocognhcljhpaaGreatDoorW.PrintMore Go.Proofs.YtfocognhcljhpaaGreatDoor.PPrintRows Go.Proofs.YtfocognhcljhpaaGreatDoor.Tree
theorem list5n {α : Type} {l : List α} (h : l.length = 5) : ∃ a b c d e, l = [a, b, c, d, e] := by
 match l, h with
 | [a, b, c, d, e], _ => exact ⟨a, b, c, d, e, rfl⟩
theorem list_ofn {α : Type} {Q : Nat → α → Prop} : ∀ n, (∀ i, i < n → ∃ x, Q i x) → ∃ l : List α, l.length = n ∧ ∀ (j : Nat) x, l[j]? = some x → Q j x
 | 0, _ => ⟨[], rfl, fun j x hj => by simp at hj⟩
 | n + 1, h => by
  obtain ⟨l, h1, h2⟩ := list_ofn n (fun i hi => h i (by omega))
  obtain ⟨x, hx⟩ := h n (by omega)
  refine ⟨l ++ [x], by simp [h1], fun j y hj => ?_⟩
  rcases Nat.lt_or_ge j l.length with hlt | hge
  ·rw [List.getElem?_append_left hlt] at hj; exact h2 j y hj
  ·have hjl := (List.getElem?_eq_some_iff.1 hj).1
   have : j = n := by simp at hjl; omega
   subst this
   rw [List.getElem?_append_right hge, h1, Nat.sub_self] at hj
   simp at hj
   subst hj
   exact hx
theorem addn_add (a : Addr) (m n : Nat) : a.add (m + n) = (a.add m).add n := by
 unfold Addr.add
 by_cases hm : m = 0
 ·subst hm; simp
 ·by_cases hn : n = 0
  ·subst hn; simp
  ·rw [if_neg hm, if_neg hn, if_neg (by omega)]
   simp [Nat.add_assoc]
section
variable {H : Type} {enc : TypeId × Value → H} {W : World} {base : Nat} {sp : Nat → Bool} {held : Bool}
set_option maxRecDepth 100000 in
theorem node_cells {k : Nat} {cs : List Value} {y : DataW H × List MemPlace} (hsz : cs.length = 5) (hf : DataW.trod enc Tryz.prog W 0 sp held k 48 cs = some y) :
  ∃ r : Node, cs = nodeC r := by
 have cS : Tryz.prog.cellsOf 9 = 1 := by kernel_rfl
 have cI : Tryz.prog.cellsOf 3 = 1 := by kernel_rfl
 obtain ⟨x0, x1, x2, x3, x4, rfl⟩ := list5n hsz
 obtain ⟨xs, k, _, _, _, hn, hel⟩ := DataW.trod_struct Tryz.underlying48 hf
 obtain ⟨y0, y1, y2, y3, y4, rfl⟩ := list5n (show xs.length = 5 from hn)
 have g0 : DataW.trod enc Tryz.prog W 0 sp held k 3 (([x0, x1, x2, x3, x4].drop 0).take (Tryz.prog.cellsOf 3)) = some y0 := hel 0 _ rfl
 have g1 : DataW.trod enc Tryz.prog W 0 sp held k 9 (([x0, x1, x2, x3, x4].drop 1).take (Tryz.prog.cellsOf 9)) = some y1 := hel 1 _ rfl
 have g2 : DataW.trod enc Tryz.prog W 0 sp held k 9 (([x0, x1, x2, x3, x4].drop 2).take (Tryz.prog.cellsOf 9)) = some y2 := hel 2 _ rfl
 have g3 : DataW.trod enc Tryz.prog W 0 sp held k 3 (([x0, x1, x2, x3, x4].drop 3).take (Tryz.prog.cellsOf 3)) = some y3 := hel 3 _ rfl
 have g4 : DataW.trod enc Tryz.prog W 0 sp held k 3 (([x0, x1, x2, x3, x4].drop 4).take (Tryz.prog.cellsOf 3)) = some y4 := hel 4 _ rfl
 obtain ⟨s0, e0, _⟩ := DataW.trod_int Tryz.underlying3 (show DataW.trod enc Tryz.prog W 0 sp held k 3 [x0] = some y0 by rw [cI] at g0; exact g0)
 obtain ⟨s1, e1, _⟩ := DataW.trod_string Tryz.underlying9 (show DataW.trod enc Tryz.prog W 0 sp held k 9 [x1] = some y1 by rw [cS] at g1; exact g1)
 obtain ⟨s2, e2, _⟩ := DataW.trod_string Tryz.underlying9 (show DataW.trod enc Tryz.prog W 0 sp held k 9 [x2] = some y2 by rw [cS] at g2; exact g2)
 obtain ⟨s3, e3, _⟩ := DataW.trod_int Tryz.underlying3 (show DataW.trod enc Tryz.prog W 0 sp held k 3 [x3] = some y3 by rw [cI] at g3; exact g3)
 obtain ⟨s4, e4, _⟩ := DataW.trod_int Tryz.underlying3 (show DataW.trod enc Tryz.prog W 0 sp held k 3 [x4] = some y4 by rw [cI] at g4; exact g4)
 simp only [List.cons.injEq, and_true] at e0 e1 e2 e3 e4
 subst e0 e1 e2 e3 e4
 exact ⟨⟨s0, s1, s2, s3, s4⟩, rfl⟩
set_option maxRecDepth 100000 in
theorem open_nodes {v : Value} {d : DataW H} {p : List MemPlace} (hv : Value.okWide Tryz.prog W .any base 22 v) (h : DataW.Trod enc Tryz.prog W 0 sp held 22 v d p) :
  ∃ A c l, v = .slice A (List.length l) c ∧ (Kd.C kN W A l.length l ∧ l.length ≤ c) := by
 obtain ⟨a0, len0, cap0, rfl⟩ := okWide_slice Tryz.underlying22 hv
 obtain ⟨fuel, hf⟩ := h
 have c5 : Tryz.prog.cellsOf 48 = 5 := by kernel_rfl
 rcases open_slice Tryz.underlying22 hf with ⟨h1, _⟩ | ⟨a, len, cap, m, n, D, Pl, hcs, _, hl, hmx, hm, _, hi⟩
 ·have h1 : Value.slice a0 len0 cap0 = .slice none 0 0 := by simpa [Value.cells] using h1
  exact ⟨none, 0, [], h1, Kd.C_nil kN W, by simp⟩
 ·have h1 : Value.slice a0 len0 cap0 = .slice (some a) len cap := by simpa [Value.cells] using hcs
  have hlm : len ≤ m := by rw [hm]; split <;> omega
  obtain ⟨l, e1, e2⟩ := list_ofn (Q := fun i (x : Node) => ∀ j u, (nodeC x)[j]? = some u → W.cell? (a.add (i * 5 + j)) = some u) len (fun i hlt => by
   obtain ⟨cs', hc, ht'⟩ := hi i (by omega)
   rw [c5] at hc
   obtain ⟨_, hcl, hat⟩ := World.cells?_some hc
   obtain ⟨r, rfl⟩ := node_cells hcl ht'
   refine ⟨r, fun j u hu => ?_⟩
   have hj : j < 5 := (List.getElem?_eq_some_iff.1 hu).1
   rw [addn_add, hat j hj]
   exact hu)
  have hmx2 : cap ≤ 9223372036854775807 := hmx
  exact ⟨some a, cap, l, by rw [h1, e1], ⟨rfl, by omega, fun _ => ⟨a, rfl, fun j p hj => ⟨nodeC p, rfl, k48_mk W p, e2 j p hj⟩⟩⟩, by omega⟩
end
end Go.Proofs.YtfocognhcljhpaaGreatDoor
namespace Go.Proofs.YtfocognhcljhpaaGreatDoor
open Go.RowKit
def SeqM {α : Type} (n : Nat) (P : Program) (g : Nat) (lb : Array Value) (encs : α → Array Value) (Kp Mv : World → World → Prop) (S Sp : List α → Prop) (N : Nat) (w : World) : Prop :=
 ∀ (l : Nat) (J Jx : List α → World → Prop) (W : World), Below w.heap.size w W → (∀ s A B, J s A → Mv A B → J s B) → (∀ s A B, Jx s A → Mv A B → Jx s B) →
  (∀ pre x W1, J pre W1 → pre.length < N → YieldAt Fence.wide (n - 1) P l (encs x) W1 fun e W' =>
   (e = .returned (.bool true) ∧ J (pre ++ [x]) W' ∧ Kp W1 W') ∨ (e = .returned (.bool false) ∧ Jx (pre ++ [x]) W')) →
  J [] W →
  CallsIn Fence.wide n P g (#[.func (.yield l) #[] #[]] ++ lb) W fun e W' => (∃ v, e = .returned v) ∧ ((∃ xs, S xs ∧ J xs W') ∨ (∃ pre, Sp pre ∧ Jx pre W'))
def roundM {α : Type} (B : Nat) (Kp : World → World → Prop) (I : List α → World → Prop) (Ix : Code → List α → World → Prop) (xs : List α) (W : World) : Exit → Act → World → Prop
 | .normal, _, W' => KeepsFrom B W W' ∧ Kp W W' ∧ I xs W'
 | .ret, _, W' => KeepsFrom B W W' ∧ Ix .ret xs W'
 | .exit id, _, W' => KeepsFrom B W W' ∧ Ix (.exit id) xs W'
 | .goto t, _, W' => KeepsFrom B W W' ∧ Ix (.goto t) xs W'
 | .panic _, _, _ => False
 | .outgrown, _, _ => False
variable {P : Program}
end Go.Proofs.YtfocognhcljhpaaGreatDoor
namespace Go.Proofs.YtfocognhcljhpaaGreatDoor
open Go.RowKit
def SeqT {α : Type} (n : Nat) (P : Program) (g : Nat) (lb : Array Value) (encs : α → Array Value) (Kp Mv : World → World → Prop) (T : List α → α → Prop) (S Sp : List α → Prop) (w : World) : Prop :=
 ∀ (l : Nat) (J Jx : List α → World → Prop) (W : World), Below w.heap.size w W → (∀ s A B, J s A → Mv A B → J s B) → (∀ s A B, Jx s A → Mv A B → Jx s B) →
  (∀ pre x W1, J pre W1 → T pre x → YieldAt Fence.wide (n - 1) P l (encs x) W1 fun e W' =>
   (e = .returned (.bool true) ∧ J (pre ++ [x]) W' ∧ Kp W1 W') ∨ (e = .returned (.bool false) ∧ Jx (pre ++ [x]) W')) →
  J [] W →
  CallsIn Fence.wide n P g (#[.func (.yield l) #[] #[]] ++ lb) W fun e W' => (∃ v, e = .returned v) ∧ ((∃ xs, S xs ∧ J xs W') ∨ (∃ pre, Sp pre ∧ Jx pre W'))
variable {P : Program}
theorem range_t {α : Type} {n : Nat} {g : Operand} {ps : Array Tmp} {assign body : Code} {Q : Exit → Act → World → Prop} {a : Act} {w : World}
  (h1 : 1 ≤ n) {gf : Nat} {lb : Array Value} (hg : a.eval g = .func (.func gf) #[] lb) (eg : ∀ args w, (callFunc gf args).run P w = .ok (.enter gf args) w)
  {encs : α → Array Value} {Kp Mv : World → World → Prop} {T : List α → α → Prop} {S Sp : List α → Prop} {w0 : World} (hseq : SeqT (n - 1) P gf lb encs Kp Mv T S Sp w0) (hb0 : Below w0.heap.size w0 w)
  (hKt : ∀ {A B C : World}, Kp A B → Kp B C → Kp A C) (hKb : ∀ (W : World) (l : Nat) (o o' : Obj), w.heap.size ≤ l → W.heap[l]? = some o → o.isCells = false → o.isWalk = false → Kp W (W.putObj l o'))
  (hMv : ∀ (A B : World), Mv A B → ∀ (k : Nat) (o : Obj), w.heap.size ≤ k → A.heap[k]? = some o → o.isCells = false → o.isWalk = false → B.heap[k]? = some o)
  (hps : ∀ x, (encs x).size = ps.size)
  (I : List α → World → Prop) (Ix : Code → List α → World → Prop) (hI : OwnFrom w.heap.size I) (hIx : ∀ c, OwnFrom w.heap.size (Ix c)) (hIm : ∀ s A B, I s A → Mv A B → I s B) (hIxm : ∀ c s A B, Ix c s A → Mv A B → Ix c s B) (h0 : I [] w)
  (Ax : α → Act → World → Prop) (hAx : ∀ x a', OwnFrom w.heap.size (fun (_ : Unit) W => Ax x a' W))
  (hassign : ∀ (l : Nat) (pre : List α) (x : α) (W : World) (K : Act → World → Prop), I pre W → (∀ a' W', KeepsFrom w.heap.size W W' → Kp W W' → I pre W' → Ax x a' W' → K a' W') →
   assign.wpIn (Fence.wide.inRound l) (n - 1 - 1) P (Exit.then K (fun _ _ _ => False)) { tmps := (ps.zip (encs x)).foldl (fun t (p, v) => t.setIfInBounds p v) a.tmps, defers := [] } W)
  (hbody : ∀ (l : Nat) (pre : List α) (x : α) (a' : Act) (W : World), w.heap.size ≤ l → (∃ r, W.heap[l]? = some (.loop r)) → I pre W → Ax x a' W → T pre x → body.wpIn (Fence.wide.inRound l) (n - 1 - 1) P (roundM w.heap.size Kp I Ix (pre ++ [x]) W) a' W)
  (hdone : ∀ (D : Nat) (xs : List α) (W : World), w.heap.size ≤ D → S xs → I xs W → W.heap[D]? = some (.deferred (some [])) → Q .normal { a with defers := { target := .collected D, args := #[] } :: a.defers } W)
  (hstop : ∀ (D : Nat) (c : Code) (pre : List α) (W : World), w.heap.size ≤ D → Sp pre → Ix c pre W → W.heap[D]? = some (.deferred (some [])) → c.wpIn Fence.wide n P Q { a with defers := { target := .collected D, args := #[] } :: a.defers } W) :
  (Code.rangeFunc g ps assign body).wpIn Fence.wide n P Q a w := by
 refine wpIn_rangeFunc ?_
 intro fn hfn
 show ∃ l mark w₁ d w₁' f args w₂, (Instr.enterLoop fn a.tmps ps assign body none).run P w = .ok (l, mark) w₁ ∧ _
 obtain ⟨rec, hrec⟩ : ∃ rec : LoopState → Option Code → Loop, rec = fun st pe => { state := st, pending := pe, fn, tmps := a.tmps, params := ps, assign, body, defers := w.heap.size } := ⟨_, rfl⟩
 obtain ⟨W1, hW1⟩ : ∃ W1, (w.alloc (.deferred (some []))).alloc (.loop (rec .ready none)) = W1 := ⟨_, rfl⟩
 have hL1 : W1.heap[w.heap.size + 1]? = some (.loop (rec .ready none)) := by
  rw [← hW1]; have := World.alloc_heap_new (w.alloc (.deferred (some []))) (.loop (rec .ready none)); rwa [World.size_alloc] at this
 have hK1 : W1.heap[w.heap.size]? = some (.deferred (some [])) := by
  rw [← hW1]; exact (Below.heap_alloc _ _ _ (by simp)).trans (World.alloc_heap_new w _)
 have hI1 : I [] W1 := by rw [← hW1]; exact hI.alloc _ (hI.alloc _ h0)
 have hb1 : Below w0.heap.size w0 W1 := by
  rw [← hW1]; exact hb0.trans ((((Below.refl _ w).alloc (Nat.le_refl _) _).alloc (by simp) _).mono hb0.size)
 refine ⟨w.heap.size + 1, [{ target := .collected w.heap.size, args := #[] }], W1, { target := .fn (.func gf) lb, args := #[.func (.yield (w.heap.size + 1)) #[] #[]] }, W1, gf,
  #[.func (.yield (w.heap.size + 1)) #[] #[]] ++ lb, W1, ?_, ?_, fun _ _ => trivial, ?_, fun _ => h1, ?_⟩
 ·rw [← hW1, hrec]; exact run_enterLoop_outer _ _ _ _ _
 ·simp only [resolve, hg]
  simp [go_sem]
 ·simp [invoke, go_sem, eg]
 ·refine (hseq (w.heap.size + 1)
   (fun pre W => I pre W ∧ W.heap[w.heap.size + 1]? = some (.loop (rec .ready none)) ∧ W.heap[w.heap.size]? = some (.deferred (some [])))
   (fun pre W => ∃ c, Ix c pre W ∧ W.heap[w.heap.size + 1]? = some (.loop (rec .done (some c))) ∧ W.heap[w.heap.size]? = some (.deferred (some [])))
   W1 hb1
   (fun s A B hs hm => ⟨hIm s A B hs.1 hm, hMv A B hm _ _ (by omega) hs.2.1 rfl rfl, hMv A B hm _ _ (Nat.le_refl _) hs.2.2 rfl rfl⟩)
   (fun s A B hs hm => by
    obtain ⟨c, hc, hl, hk⟩ := hs
    exact ⟨c, hIxm c s A B hc hm, hMv A B hm _ _ (by omega) hl rfl rfl, hMv A B hm _ _ (Nat.le_refl _) hk rfl rfl⟩)
   ?_ ⟨hI1, hL1, hK1⟩).mono ?_
  ·rintro pre x W ⟨hi, hl, hk⟩ hlen
   have hy := run_yield (P := P) (args := encs x) hl (by rw [hrec]; exact hps x)
   rw [hrec] at hy
   refine ⟨fn, _, assign, body, hy, roundIn_of_wpIn hfn (hassign _ pre x W _ hi ?_)⟩
   clear hy
   intro a' W2 hkf hkp hi2 hax
   have hl2 := hkf.same _ _ (by omega) hl rfl
   have hk2 := hkf.same _ _ (Nat.le_refl _) hk rfl
   refine ⟨_, run_beginRound hl2 (by rw [hrec]), ?_⟩
   have hl3 : (W2.putObj (w.heap.size + 1) (.loop { rec .ready none with state := .busy })).heap[w.heap.size + 1]? = some (.loop { rec .ready none with state := .busy }) := World.putObj_heap_same (Array.getElem?_eq_some_iff.1 hl2).1
   have hk3 : (W2.putObj (w.heap.size + 1) (.loop { rec .ready none with state := .busy })).heap[w.heap.size]? = some (.deferred (some [])) := (World.putObj_heap_other (by omega)).trans hk2
   have hkp3 : Kp W (W2.putObj (w.heap.size + 1) (.loop { rec .ready none with state := .busy })) := hKt hkp (hKb _ _ _ _ (by omega) hl2 rfl rfl)
   refine wpIn_mono (hbody _ pre x a' _ (by omega) ⟨_, hl3⟩ (hI.putObj _ hi2 (by omega) hl2 rfl) ((hAx x a').putObj (s := ()) _ hax (by omega) hl2 rfl) hlen) ?_
   have fin : ∀ (jump : Option Code) (W3 : World), KeepsFrom w.heap.size (W2.putObj (w.heap.size + 1) (.loop { rec .ready none with state := .busy })) W3 →
     (Instr.endRound (w.heap.size + 1) jump).run P W3 = .ok (.bool jump.isNone) (W3.putObj (w.heap.size + 1) (.loop (rec (if jump.isNone then .ready else .done) jump))) ∧
     W3.heap[w.heap.size + 1]? = some (.loop { rec .ready none with state := .busy }) ∧
     (W3.putObj (w.heap.size + 1) (.loop (rec (if jump.isNone then .ready else .done) jump))).heap[w.heap.size + 1]? = some (.loop (rec (if jump.isNone then .ready else .done) jump)) ∧
     (W3.putObj (w.heap.size + 1) (.loop (rec (if jump.isNone then .ready else .done) jump))).heap[w.heap.size]? = some (.deferred (some [])) := fun jump W3 hkw => by
    have hlw := hkw.same _ _ (by omega) hl3 rfl
    have := run_endRound (P := P) jump hlw
    rw [hrec] at this ⊢
    exact ⟨this, by rw [hrec] at hlw; exact hlw, World.putObj_heap_same (Array.getElem?_eq_some_iff.1 hlw).1, (World.putObj_heap_other (by omega)).trans (hkw.same _ _ (Nat.le_refl _) hk3 rfl)⟩
   rintro e a3 W3 hp
   cases e with
   | normal =>
    obtain ⟨hkw, hkpw, hiw⟩ := hp
    obtain ⟨hr, hlw, hl4, hk4⟩ := fin none W3 hkw
    exact ⟨_, _, hr, .inl ⟨rfl, ⟨hI.putObj _ hiw (by omega) hlw rfl, hl4, hk4⟩, hKt (hKt hkp3 hkpw) (hKb _ _ _ _ (by omega) hlw rfl rfl)⟩⟩
   | ret =>
    obtain ⟨hkw, hiw⟩ := hp
    obtain ⟨hr, hlw, hl4, hk4⟩ := fin (some .ret) W3 hkw
    exact ⟨_, _, hr, .inr ⟨rfl, .ret, (hIx _).putObj _ hiw (by omega) hlw rfl, hl4, hk4⟩⟩
   | exit id =>
    obtain ⟨hkw, hiw⟩ := hp
    obtain ⟨hr, hlw, hl4, hk4⟩ := fin (some (.exit id)) W3 hkw
    exact ⟨_, _, hr, .inr ⟨rfl, .exit id, (hIx _).putObj _ hiw (by omega) hlw rfl, hl4, hk4⟩⟩
   | goto t =>
    obtain ⟨hkw, hiw⟩ := hp
    obtain ⟨hr, hlw, hl4, hk4⟩ := fin (some (.goto t)) W3 hkw
    exact ⟨_, _, hr, .inr ⟨rfl, .goto t, (hIx _).putObj _ hiw (by omega) hlw rfl, hl4, hk4⟩⟩
   | panic ch => exact hp.elim
   | outgrown => exact hp.elim
  ·rintro e W2 ⟨⟨v, rfl⟩, (⟨xs, hS, hi, hl, hk⟩ | ⟨pre, hSp, c, hi, hl, hk⟩)⟩
   ·exact ⟨none, _, by have := run_endLoop (P := P) hl (by rw [hrec]; simp); rw [hrec] at this; exact this, hdone _ xs _ (Nat.le_refl _) hS (hI.putObj _ hi (by omega) hl rfl) ((World.putObj_heap_other (by omega)).trans hk)⟩
   ·exact ⟨some c, _, by have := run_endLoop (P := P) hl (by rw [hrec]; simp); rw [hrec] at this; exact this, hstop _ c pre _ (Nat.le_refl _) hSp ((hIx c).putObj _ hi (by omega) hl rfl) ((World.putObj_heap_other (by omega)).trans hk)⟩
end Go.Proofs.YtfocognhcljhpaaGreatDoor
namespace Go.Proofs.YtfocognhcljhpaaGreatDoor.PRef
open Go.Proofs.YtfocognhcljhpaaGreatDoor.PPrintRows
open Go.RowKit Go.Proofs.YtfocognhcljhpaaGreatDoorW.PrintWords Go.Proofs.YtfocognhcljhpaaGreatDoorW.PrintLast Go.Proofs.YtfocognhcljhpaaGreatDoorW.PrintMore
attribute [local go_sem] max2_int min2_int max_two min_two max_three min_three max_four min_four   -- for this text's walks alone
def utf_size.f (a0 : Int) : Option (Int) := if a0 < 128 then (some 1) else (if a0 < 2048 then (some 2) else (if a0 < 65536 then (some 3) else (some 4)))
set_option maxHeartbeats 8000000 in
set_option maxRecDepth 100000 in
theorem utf_size.calls (a0 : Int) (r : Int) (w : World) (h : utf_size.f a0 = some r) :
  Calls Tryz.prog 107 #[.int .i32 a0] w fun e w' => e = .returned (.int .i64 r) ∧ Drawn0 w w' := by
 have H : (if a0 < 128 then (some 1) else (if a0 < 2048 then (some 2) else (if a0 < 65536 then (some 3) else (some 4)))) = some r := h
 clear h
 by_cases c2 : a0 < 128
 ·rw [if_pos c2] at H
  have c2b0 : decide (a0 < 128) = true := decide_eq_true c2
  clear c2
  obtain rfl := Option.some.inj H
  go_enter Tryz.func107, Tryz.ntmps107
  go_wp2
  go_ret
  exact ⟨by first | rfl | (simp; done) | (simp [*]; done), by repeat (first | exact Drawn0.refl _ | apply Drawn0.step)⟩
 ·rw [if_neg c2] at H
  have c2b0 : decide (a0 < 128) = false := decide_eq_false c2
  clear c2
  by_cases c3 : a0 < 2048
  ·rw [if_pos c3] at H
   have c3b0 : decide (a0 < 2048) = true := decide_eq_true c3
   clear c3
   obtain rfl := Option.some.inj H
   go_enter Tryz.func107, Tryz.ntmps107
   go_wp2
   go_ret
   exact ⟨by first | rfl | (simp; done) | (simp [*]; done), by repeat (first | exact Drawn0.refl _ | apply Drawn0.step)⟩
  ·rw [if_neg c3] at H
   have c3b0 : decide (a0 < 2048) = false := decide_eq_false c3
   clear c3
   by_cases c4 : a0 < 65536
   ·rw [if_pos c4] at H
    have c4b0 : decide (a0 < 65536) = true := decide_eq_true c4
    clear c4
    obtain rfl := Option.some.inj H
    go_enter Tryz.func107, Tryz.ntmps107
    go_wp2
    go_ret
    exact ⟨by first | rfl | (simp; done) | (simp [*]; done), by repeat (first | exact Drawn0.refl _ | apply Drawn0.step)⟩
   ·rw [if_neg c4] at H
    have c4b0 : decide (a0 < 65536) = false := decide_eq_false c4
    clear c4
    obtain rfl := Option.some.inj H
    go_enter Tryz.func107, Tryz.ntmps107
    go_wp2
    go_ret
    exact ⟨by first | rfl | (simp; done) | (simp [*]; done), by repeat (first | exact Drawn0.refl _ | apply Drawn0.step)⟩
def utf_point.f (a0 : Int) : Option (Bool) := if a0 ≥ 0 then (if a0 ≤ 1114111 then (if a0 < 55296 then (some true) else (some (decide (a0 > 57343)))) else (some false)) else (some false)
set_option maxHeartbeats 8000000 in
set_option maxRecDepth 100000 in
theorem utf_point.calls (a0 : Int) (r : Bool) (w : World) (h : utf_point.f a0 = some r) :
  Calls Tryz.prog 141 #[.int .i32 a0] w fun e w' => e = .returned (.bool r) ∧ Drawn0 w w' := by
 have H : (if a0 ≥ 0 then (if a0 ≤ 1114111 then (if a0 < 55296 then (some true) else (some (decide (a0 > 57343)))) else (some false)) else (some false)) = some r := h
 clear h
 by_cases c2 : a0 ≥ 0
 ·rw [if_pos c2] at H
  have c2b0 : decide (0 ≤ a0) = true := decide_eq_true c2
  clear c2
  by_cases c3 : a0 ≤ 1114111
  ·rw [if_pos c3] at H
   have c3b0 : decide (a0 ≤ 1114111) = true := decide_eq_true c3
   clear c3
   by_cases c4 : a0 < 55296
   ·rw [if_pos c4] at H
    have c4b0 : decide (a0 < 55296) = true := decide_eq_true c4
    clear c4
    obtain rfl := Option.some.inj H
    go_enter Tryz.func141, Tryz.ntmps141
    go_wp2
    go_ret
    exact ⟨by first | rfl | (simp; done) | (simp [*]; done), by repeat (first | exact Drawn0.refl _ | apply Drawn0.step)⟩
   ·rw [if_neg c4] at H
    have c4b0 : decide (a0 < 55296) = false := decide_eq_false c4
    clear c4
    obtain rfl := Option.some.inj H
    go_enter Tryz.func141, Tryz.ntmps141
    go_wp2
    go_ret
    exact ⟨by first | rfl | (simp; done) | (simp [*]; done), by repeat (first | exact Drawn0.refl _ | apply Drawn0.step)⟩
  ·rw [if_neg c3] at H
   have c3b0 : decide (a0 ≤ 1114111) = false := decide_eq_false c3
   clear c3
   obtain rfl := Option.some.inj H
   go_enter Tryz.func141, Tryz.ntmps141
   go_wp2
   go_ret
   exact ⟨by first | rfl | (simp; done) | (simp [*]; done), by repeat (first | exact Drawn0.refl _ | apply Drawn0.step)⟩
 ·rw [if_neg c2] at H
  have c2b0 : decide (0 ≤ a0) = false := decide_eq_false c2
  clear c2
  obtain rfl := Option.some.inj H
  go_enter Tryz.func141, Tryz.ntmps141
  go_wp2
  go_ret
  exact ⟨by first | rfl | (simp; done) | (simp [*]; done), by repeat (first | exact Drawn0.refl _ | apply Drawn0.step)⟩
set_option maxRecDepth 100000 in
theorem put_bits (x : Int) : (Go.bits .or .u8 128 (Go.bits .and .u8 ((x) % 256) 63)) = 128 + x % 64 := by
 have h : ∀ y : Fin 256, Go.bits .or .u8 128 (Go.bits .and .u8 (y.1 : Int) 63) = 128 + (y.1 : Int) % 64 := by decide
 have h2 := h ⟨(x % 256).toNat, by omega⟩
 dsimp only at h2
 rw [show (((x % 256).toNat : Nat) : Int) = x % 256 by omega] at h2
 rw [h2]
 omega
def utf_Put.l0 : Nat → Int → Int → List Int → Int → Option (ByteArray)
 | 0, _, _, _, _ => none
 | k + 1, x0, x3, x4, x5 => if x5 > 0 then (if 0 ≤ x5 then (if x5 < (x4.length : Int) then (utf_Put.l0 k (x0 / 64) x3 (x4.set (x5 : Int).toNat (Go.bits .or .u8 128 (Go.bits .and .u8 ((x0) % 256) 63))) (wrap64 (x5 - 1))) else (none)) else (none)) else (if 0 ≤ (wrap64 (4 - x3)) then (if 0 < (x4.length : Int) then (some (strOfNums (x4.set (0 : Int).toNat (Go.bits .or .u8 (shl .u8 240 (wrap64 (4 - x3))) ((x0) % 256))))) else (none)) else (none))
def utf_Put.f (k : Nat) (a0 : Int) : Option (ByteArray) := (utf_point.f a0).bind fun t151 => (if t151 = true then ((utf_size.f a0).bind fun t152 => (if t152 = 1 then (some (strOfNums (([(a0) % 256] : List Int)))) else (if 0 ≤ t152 then (if (t152 : Int).toNat ≤ 281474976710656 then (utf_Put.l0 k a0 t152 (List.replicate (t152 : Int).toNat 0) (wrap64 (t152 - 1))) else (none)) else (none)))) else (some (⟨#[]⟩ : ByteArray)))
theorem utf_Put.mono_l : ∀ k, (∀ y0 y1 y2 y3, LeO (utf_Put.l0 k y0 y1 y2 y3) (utf_Put.l0 (k + 1) y0 y1 y2 y3))
 | 0 => fun _ _ _ _ r h => by simp [utf_Put.l0] at h
 | k + 1 => by
  have ih0 := utf_Put.mono_l k
  ·intro y0 y1 y2 y3
   unfold utf_Put.l0
   repeat' first
   | (with_reducible exact ih0 _ _ _ _)
   | (with_reducible exact LeO.refl _)
   | (with_reducible exact LeO.none _)
   | (with_reducible refine LeO.ite ?_ ?_)
   | (with_reducible refine LeO.bind ?_ (fun _ => ?_))
   | exact ih0 _ _ _ _
   | exact LeO.none _
   | refine LeO.ite ?_ ?_
   | refine LeO.bind ?_ (fun _ => ?_)
theorem utf_Put.mono : ∀ a0 k, LeO (utf_Put.f k a0) (utf_Put.f (k + 1) a0) := by
 intro a0 k
 have ih0 := utf_Put.mono_l k
 unfold utf_Put.f
 repeat' first
   | (with_reducible exact ih0 _ _ _ _)
   | (with_reducible exact LeO.refl _)
   | (with_reducible exact LeO.none _)
   | (with_reducible refine LeO.ite ?_ ?_)
   | (with_reducible refine LeO.bind ?_ (fun _ => ?_))
   | exact ih0 _ _ _ _
   | exact LeO.none _
   | refine LeO.ite ?_ ?_
   | refine LeO.bind ?_ (fun _ => ?_)
set_option maxHeartbeats 8000000 in
set_option maxRecDepth 100000 in
theorem utf_Put.calls (k : Nat) (a0 : Int) (r : ByteArray) (w : World) (h : utf_Put.f k a0 = some r) :
  Calls Tryz.prog 133 #[.int .i32 a0] w fun e w' => e = .returned (.string r) ∧ Below w.heap.size w w' := by
 have HB := Aside0.mk (Below.refl w.heap.size w)
 have H : ((utf_point.f a0).bind fun t151 => (if t151 = true then ((utf_size.f a0).bind fun t152 => (if t152 = 1 then (some (strOfNums (([(a0) % 256] : List Int)))) else (if 0 ≤ t152 then (if (t152 : Int).toNat ≤ 281474976710656 then (utf_Put.l0 k a0 t152 (List.replicate (t152 : Int).toNat 0) (wrap64 (t152 - 1))) else (none)) else (none)))) else (some (⟨#[]⟩ : ByteArray)))) = some r := h
 clear h
 replace H := Option.bind_eq_some_iff.mp H
 obtain ⟨t151, A20, H⟩ := H
 replace H : (if t151 = true then ((utf_size.f a0).bind fun t152 => (if t152 = 1 then (some (strOfNums (([(a0) % 256] : List Int)))) else (if 0 ≤ t152 then (if (t152 : Int).toNat ≤ 281474976710656 then (utf_Put.l0 k a0 t152 (List.replicate (t152 : Int).toNat 0) (wrap64 (t152 - 1))) else (none)) else (none)))) else (some (⟨#[]⟩ : ByteArray))) = some r := H
 have A2 := Aside0.mk A20
 clear A20
 by_cases c3 : t151 = true
 ·subst c3
  have H1 : ((utf_size.f a0).bind fun t152 => (if t152 = 1 then (some (strOfNums (([(a0) % 256] : List Int)))) else (if 0 ≤ t152 then (if (t152 : Int).toNat ≤ 281474976710656 then (utf_Put.l0 k a0 t152 (List.replicate (t152 : Int).toNat 0) (wrap64 (t152 - 1))) else (none)) else (none)))) = some r := by rw [if_pos rfl] at H; exact H
  clear H
  have H := H1
  clear H1
  replace H := Option.bind_eq_some_iff.mp H
  obtain ⟨t152, A40, H⟩ := H
  replace H : (if t152 = 1 then (some (strOfNums (([(a0) % 256] : List Int)))) else (if 0 ≤ t152 then (if (t152 : Int).toNat ≤ 281474976710656 then (utf_Put.l0 k a0 t152 (List.replicate (t152 : Int).toNat 0) (wrap64 (t152 - 1))) else (none)) else (none))) = some r := H
  have A4 := Aside0.mk A40
  clear A40
  by_cases c5 : t152 = 1
  ·rw [if_pos c5] at H
   have c5b0 : (t152 == 1) = true := beq_iff_eq.mpr c5
   have c5b1 : (t152 != 1) = false := bne_eq_false_iff_eq.mpr c5
   clear c5
   obtain ⟨y153, hy153⟩ : ∃ y_ : List Int, y_ = (([(a0) % 256] : List Int)) := ⟨_, rfl⟩
   replace H : (some (strOfNums y153)) = some r := by first | (rw [hy153]; with_reducible exact H) | (have H2_ := (Option.bind_some _ _).symm.trans H; rw [hy153]; with_reducible exact H2_) | (have H2_ := (Option.bind_some _ _).symm.trans H; with_reducible exact H2_) | with_reducible exact H | (rw [hy153]; exact H) | exact H
   have Ny153 := Aside0.mk hy153
   clear hy153
   obtain rfl := Option.some.inj H
   go_enter Tryz.func133, Tryz.ntmps133
   go_wp2_with (first | ((with_reducible refine gate_callee (f := 141) rfl ?_); refine goesL_ (some 7) rfl rfl Tryz.func141 (by kernel_rfl) rfl #[.int .i32 a0] rfl (by (try simp only [List.map_toArray, List.map_cons, List.map_nil]); first | done | rfl | (simp only [List.length_drop, List.length_take]; rfl)) ?_; (with_reducible refine (utf_point.calls a0 true _ A2.out).mono ?_); rintro e w' ⟨rfl, ⟨nd, rfl⟩⟩; refine ⟨_, rfl, ?_⟩) | ((with_reducible refine gate_callee (f := 107) rfl ?_); refine goesL_ (some 10) rfl rfl Tryz.func107 (by kernel_rfl) rfl #[.int .i32 a0] rfl (by (try simp only [List.map_toArray, List.map_cons, List.map_nil]); first | done | rfl | (simp only [List.length_drop, List.length_take]; rfl)) ?_; (with_reducible refine (utf_size.calls a0 t152 _ A4.out).mono ?_); rintro e w' ⟨rfl, ⟨nd, rfl⟩⟩; refine ⟨_, rfl, ?_⟩) | ((with_reducible refine gate_dst (N := 15) rfl ?_); refine Kd.R_lit (Kd.int .u8) _ 5 ?hg (N := 15) ?hd (xs := ([(a0) % 256] : List Int)) (inner := [.int .u8 ((a0) % 256)]) (ok := fun _ => True) (okp := fun _ => True) ?hr ?hp (fun _ hk => hk) trivial (Below.refl _ _) (Nat.le_refl _) (by simp) ?_; (case hd => rfl); (case hg => rfl); (case hr => first | (go_simp; done) | (go_simp; rfl)); (case hp => exact (Reps.one (show Kd.M (Kd.int .u8) _ _ _ ((a0) % 256) [.int .u8 ((a0) % 256)] from rfl) (Reps.none _ _))); intro v154 w6 ho7 hb hg_ hnew_; clear hg_ hnew_; (first | rw [← Ny153.out] at ho7 | (simp only [Int.reduceToNat] at ho7; rw [← Ny153.out] at ho7)); have n0_ := Aside0.mk (Kd.R_lower ho7 (below_size (by repeat (first | (with_reducible first | exact HB.out | apply below_alloc | apply pw_below_drewN | apply below_drew1) | exact HB.out)))); have n1_ := Aside0.mk (below_step (by repeat (first | (with_reducible first | exact HB.out | apply below_alloc | apply pw_below_drewN | apply below_drew1) | exact HB.out)) hb); clear HB; have HO155 := n0_; have HB := n1_; clear n0_ n1_; clear hb ho7; have hcv8 := own_string (P := Tryz.prog) Tryz.underlying81 Tryz.underlying5 Tryz.underlying9 (Kd.own_of_R HO155.out)))
   go_ret
   exact ⟨by first | rfl | (simp [errW_none, errW_some] <;> rfl) | (simp [*, errW_none, errW_some] <;> rfl), by repeat (first | (with_reducible first | exact HB.out | apply below_alloc | apply pw_below_drewN | apply below_drew1) | exact HB.out)⟩
  ·rw [if_neg c5] at H
   have c5b0 : (t152 == 1) = false := beq_eq_false_iff_ne.mpr c5
   have c5b1 : (t152 != 1) = true := bne_iff_ne.mpr c5
   by_cases c9 : 0 ≤ t152
   ·rw [if_pos c9] at H
    have c9b0 := eq_true c9
    have c9b1 : decide (0 ≤ t152) = true := decide_eq_true c9
    clear c9
    by_cases c10 : (t152 : Int).toNat ≤ 281474976710656
    ·rw [if_pos c10] at H
     have c10b0 := eq_true c10
     have c10b1 : decide ((t152 : Int).toNat ≤ 281474976710656) = true := decide_eq_true c10
     clear c10
     obtain ⟨y156, hy156⟩ : ∃ y_ : List Int, y_ = (List.replicate (t152 : Int).toNat 0) := ⟨_, rfl⟩
     replace H : (utf_Put.l0 k a0 t152 y156 (wrap64 (t152 - 1))) = some r := by first | (rw [hy156]; with_reducible exact H) | (have H2_ := (Option.bind_some _ _).symm.trans H; rw [hy156]; with_reducible exact H2_) | (have H2_ := (Option.bind_some _ _).symm.trans H; with_reducible exact H2_) | with_reducible exact H | (rw [hy156]; exact H) | exact H
     have Ny156 := Aside0.mk hy156
     clear hy156
     have H' := Aside0.mk H
     clear H
     go_enter Tryz.func133, Tryz.ntmps133
     go_wp2_with (first | ((with_reducible refine gate_callee (f := 141) rfl ?_); refine goesL_ (some 7) rfl rfl Tryz.func141 (by kernel_rfl) rfl #[.int .i32 a0] rfl (by (try simp only [List.map_toArray, List.map_cons, List.map_nil]); first | done | rfl | (simp only [List.length_drop, List.length_take]; rfl)) ?_; (with_reducible refine (utf_point.calls a0 true _ A2.out).mono ?_); rintro e w' ⟨rfl, ⟨nd, rfl⟩⟩; refine ⟨_, rfl, ?_⟩) | ((with_reducible refine gate_callee (f := 107) rfl ?_); refine goesL_ (some 10) rfl rfl Tryz.func107 (by kernel_rfl) rfl #[.int .i32 a0] rfl (by (try simp only [List.map_toArray, List.map_cons, List.map_nil]); first | done | rfl | (simp only [List.length_drop, List.length_take]; rfl)) ?_; (with_reducible refine (utf_size.calls a0 t152 _ A4.out).mono ?_); rintro e w' ⟨rfl, ⟨nd, rfl⟩⟩; refine ⟨_, rfl, ?_⟩) | ((with_reducible refine gate_dst (N := 18) rfl ?_); refine Kd.R_make (Kd.int .u8) _ 5 rfl (N := 18) rfl 81 _ _ rfl t152 rfl rfl Tryz.underlying81 (.int .u8 0) 1 info5 rfl (by decide) (by omega) 0 (ok := fun _ => True) (okp := fun _ => True) rfl (fun _ hk => hk) trivial (of_decide_eq_true (by first | (with_reducible assumption) | assumption)) (Nat.le_trans (Nat.mul_le_mul_right _ (of_decide_eq_true (by first | (with_reducible assumption) | assumption) : t152.toNat ≤ 281474976710656)) (by omega)) (Below.refl _ _) (Nat.le_refl _) ?_; intro v157 w11 ho12 hb hg_ hnew_; clear hg_ hnew_; (first | rw [← Ny156.out] at ho12 | (simp only [Int.reduceToNat] at ho12; rw [← Ny156.out] at ho12)); have n0_ := Aside0.mk (Kd.R_lower ho12 (below_size (by repeat (first | (with_reducible first | exact HB.out | apply below_alloc | apply pw_below_drewN | apply below_drew1) | exact HB.out)))); have n1_ := Aside0.mk (below_step (by repeat (first | (with_reducible first | exact HB.out | apply below_alloc | apply pw_below_drewN | apply below_drew1) | exact HB.out)) hb); clear HB; have HO158 := n0_; have HB := n1_; clear n0_ n1_; clear hb ho12))
     go_loopg [0, 5] k (fun kq v0 v5 w' => ∃ (x0_1 : Int) (x4_1 : List Int) (x5_1 : Int), v0 = .int .i32 x0_1 ∧ v5 = .int .i64 x5_1 ∧ Aside0 (utf_Put.l0 kq x0_1 t152 x4_1 x5_1 = some r) ∧ Aside0 (kq ≤ k) ∧ Aside0 (Kd.R (Kd.int .u8) 5 w' w.heap.size (fun _ => True) v157 x4_1) ∧ Aside0 (Below w.heap.size w w'))
     case atStart => exact ⟨(a0), (y156), (wrap64 (t152 - 1)), (by first | rfl | (simp; done) | (simp [*]; done)), (by first | rfl | (simp; done) | (simp [*]; done)), H', ⟨Nat.le_refl _⟩, ⟨by (with_reducible repeat (first | apply Kd.R_alloc | apply Kd.R_drewN | apply Kd.R_drew)); exact HO158.out⟩, ⟨by repeat (first | (with_reducible first | exact HB.out | apply below_alloc | apply pw_below_drewN | apply below_drew1) | exact HB.out)⟩⟩
     case round =>
      clear H'
      try clear c1
      try clear p2
      try clear c3
      try clear c5
      try clear c5b0
      try clear c5b1
      try clear p6
      try clear hcv8
      try clear c9
      try clear c9b0
      try clear c9b1
      try clear c10
      try clear c10b0
      try clear c10b1
      obtain ⟨x0_1, x4_1, x5_1, rfl, rfl, HA, HK1, HO_4, HB⟩ := hrel
      cases gk with
      | zero => exact absurd HA.out (by simp [utf_Put.l0])
      | succ k1 =>
       have H := HA.out
       clear HA
       simp only [utf_Put.l0] at H
       by_cases c13 : x5_1 > 0
       ·rw [if_pos c13] at H
        have c13b0 : decide (0 < x5_1) = true := decide_eq_true c13
        clear c13
        by_cases c14 : 0 ≤ x5_1
        ·rw [if_pos c14] at H
         have c14b0 : decide (0 ≤ x5_1) = true := decide_eq_true c14
         clear c14
         by_cases c15 : x5_1 < (x4_1.length : Int)
         ·rw [if_pos c15] at H
          have c15b0 : decide (x5_1 < (x4_1.length : Int)) = true := decide_eq_true c15
          clear c15
          obtain ⟨y159, hy159⟩ : ∃ y_ : List Int, y_ = (x4_1.set (x5_1 : Int).toNat (Go.bits .or .u8 128 (Go.bits .and .u8 ((x0_1) % 256) 63))) := ⟨_, rfl⟩
          replace H : (utf_Put.l0 k1 (x0_1 / 64) t152 y159 (wrap64 (x5_1 - 1))) = some r := by first | (rw [hy159]; with_reducible exact H) | (have H2_ := (Option.bind_some _ _).symm.trans H; rw [hy159]; with_reducible exact H2_) | (have H2_ := (Option.bind_some _ _).symm.trans H; with_reducible exact H2_) | with_reducible exact H | (rw [hy159]; exact H) | exact H
          have Ny159 := Aside0.mk hy159
          clear hy159
          have H' := Aside0.mk H
          clear H
          have p16 : 0 ≤ (x5_1 : Int) := of_decide_eq_true (by first | (with_reducible assumption) | assumption)
          have q16 : (x5_1 : Int) < ((x4_1.length : Int) : Int) := of_decide_eq_true (by first | (with_reducible assumption) | assumption)
          obtain ⟨go16, co16, eo16, gb16, gl16, cl16, HG16⟩ := Kd.R_form HO_4.out (by omega)
          (first | cases eo16 | (injection eo16 with ea_ en_ ec_; (first | subst ea_ | (injection ea_ with ea_; subst ea_)); subst ec_; clear en_))
          have GB16 := Aside0.mk gb16
          have GG16 := Aside0.mk HG16
          clear gb16 gl16 HG16
          obtain ⟨hx16_0, hf16_0⟩ := Kd.R_celln 0 HO_4.out (x5_1 : Int) p16 q16
          replace p16 := eq_true p16
          replace q16 := eq_true q16
          have hbv : (Go.bits .or .u8 128 (Go.bits .and .u8 ((x0_1) % 256) 63)) = 128 + x0_1 % 64 := put_bits x0_1
          replace Ny159 := Aside0.mk (Ny159.out.trans (by rw [hbv]))
          have HP17 := Kd.R_putg HO_4.out (x5_1 : Int) (128 + x0_1 % 64)
          clear hbv
          go_wp2_with (first | ((with_reducible refine gate_store (t := 5) (p := 31) rfl ?_); refine store_event (t := 5) (p := 31) (v := ?vo_w18) (w1 := (wr.setCell ⟨go16, (x5_1 : Int).toNat, none⟩ (.int .u8 (128 + x0_1 % 64)))) ?hg ?ho ?hn ?hr ?_; (case ho => rfl); (case hg => rfl); (case hn => rfl); (case hr => first | (go_simp; done) | (go_simp; rfl)); intro w18 hw; have hg : wr.grownBy w18 (some go16) := (by rw [hw]; exact HP17.2); have hp_ : Kd.R (Kd.int .u8) 5 w18 w.heap.size (fun _ => True) (.slice (some ⟨go16, 0, none⟩) x4_1.length co16) y159 := (by rw [hw, Ny159.out]; exact HP17.1); clear HP17; have n0_ := Aside0.mk (hp_); have n1_ := Aside0.mk ((by rw [hw]; exact below_set (HB.out) GB16.out : Below w.heap.size w w18)); clear HO_4; clear HB; have HO_4 := n0_; have HB := n1_; clear n0_ n1_; clear hg hw hp_))
          go_roundg k1
          case measure => have := HK1.out; omega
          case rel => exact ⟨(x0_1 / 64), (y159), (wrap64 (x5_1 - 1)), (by first | rfl | (simp; done) | (simp [*]; done)), (by first | rfl | (simp; done) | (simp [*]; done)), H', ⟨by have := HK1.out; omega⟩, ⟨by (with_reducible repeat (first | apply Kd.R_alloc | apply Kd.R_drewN | apply Kd.R_drew)); exact HO_4.out⟩, ⟨by repeat (first | (with_reducible first | exact HB.out | apply below_alloc | apply pw_below_drewN | apply below_drew1) | exact HB.out)⟩⟩
         ·rw [if_neg c15] at H
          exact absurd H (by simp)
        ·rw [if_neg c14] at H
         exact absurd H (by simp)
       ·rw [if_neg c13] at H
        have c13b0 : decide (0 < x5_1) = false := decide_eq_false c13
        clear c13
        obtain ⟨ji19, hji19⟩ : ∃ j_ : Int, (wrap64 (4 - t152)) = j_ := ⟨_, rfl⟩
        replace H : (if 0 ≤ (ji19) then (if 0 < (x4_1.length : Int) then (some (strOfNums (x4_1.set (0 : Int).toNat (Go.bits .or .u8 (shl .u8 240 (ji19)) ((x0_1) % 256))))) else (none)) else (none)) = some r := by first | (rw [hji19] at H; exact H) | (simp only [hji19] at H ⊢; exact H)
        have hji19w : (IntKind.i64.wrap (4 - t152)) = ji19 := (i64_w _).trans hji19
        by_cases c20 : 0 ≤ (ji19)
        ·rw [if_pos c20] at H
         have c20b0 := eq_true c20
         have c20b1 : decide (0 ≤ (ji19)) = true := decide_eq_true c20
         clear c20
         obtain ⟨ji21, hji21⟩ : ∃ j_ : Int, (shl .u8 240 (ji19)) = j_ := ⟨_, rfl⟩
         replace H : (if 0 < (x4_1.length : Int) then (some (strOfNums (x4_1.set (0 : Int).toNat (Go.bits .or .u8 (ji21) ((x0_1) % 256))))) else (none)) = some r := by first | (rw [hji21] at H; exact H) | (simp only [hji21] at H ⊢; exact H)
         have hji21_ : (IntKind.u8.wrap (240 * 2 ^ min (ji19).toNat 8)) = ji21 := hji21
         have hji21z : (ji19) ≤ 8 → (IntKind.u8.wrap (240 * 2 ^ (ji19).toNat)) = ji21 := shl_small hji21
         by_cases c22 : 0 < (x4_1.length : Int)
         ·rw [if_pos c22] at H
          have c22b0 : decide (0 < (x4_1.length : Int)) = true := decide_eq_true c22
          have c22b1 : decide (0 < x4_1.length) = true := decide_eq_true (by omega)
          clear c22
          obtain ⟨y160, hy160⟩ : ∃ y_ : List Int, y_ = (x4_1.set (0 : Int).toNat (Go.bits .or .u8 (ji21) ((x0_1) % 256))) := ⟨_, rfl⟩
          replace H : (some (strOfNums y160)) = some r := by first | (rw [hy160]; with_reducible exact H) | (have H2_ := (Option.bind_some _ _).symm.trans H; rw [hy160]; with_reducible exact H2_) | (have H2_ := (Option.bind_some _ _).symm.trans H; with_reducible exact H2_) | with_reducible exact H | (rw [hy160]; exact H) | exact H
          have Ny160 := Aside0.mk hy160
          clear hy160
          obtain rfl := Option.some.inj H
          have p23 : 0 ≤ (0 : Int) := (by omega)
          have q23 : (0 : Int) < ((x4_1.length : Int) : Int) := of_decide_eq_true (by first | (with_reducible assumption) | assumption)
          have qi23 : (0 < x4_1.length) = True := eq_true (by omega)
          obtain ⟨go23, co23, eo23, gb23, gl23, cl23, HG23⟩ := Kd.R_form HO_4.out (by omega)
          (first | cases eo23 | (injection eo23 with ea_ en_ ec_; (first | subst ea_ | (injection ea_ with ea_; subst ea_)); subst ec_; clear en_))
          have GB23 := Aside0.mk gb23
          have GG23 := Aside0.mk HG23
          clear gb23 gl23 HG23
          obtain ⟨hx23_0, hf23_0⟩ := Kd.R_celln 0 HO_4.out (0 : Int) p23 q23
          (try rw [show ((0 : Int)).toNat = 0 from rfl] at hx23_0)
          (try simp only [Nat.reduceMul, Nat.zero_mul, Nat.zero_add, Nat.reduceAdd] at hx23_0)
          (try rw [show ((0 : Int)).toNat = 0 from rfl] at hf23_0)
          (try simp only [Nat.reduceMul, Nat.zero_mul, Nat.zero_add, Nat.reduceAdd] at hf23_0)
          replace p23 := eq_true p23
          replace q23 := eq_true q23
          have HP24 := Kd.R_putg HO_4.out (0 : Int) (Go.bits .or .u8 (ji21) ((x0_1) % 256))
          go_wp2_with (first | ((with_reducible refine gate_store (t := 5) (p := 41) rfl ?_); refine store_event (t := 5) (p := 41) (v := ?vo_w25) (w1 := (wr.setCell ⟨go23, (0 : Int).toNat, none⟩ (.int .u8 (Go.bits .or .u8 (ji21) ((x0_1) % 256))))) ?hg ?ho ?hn ?hr ?_; (case ho => rfl); (case hg => rfl); (case hn => rfl); (case hr => first | (go_simp; done) | (go_simp; rfl)); intro w25 hw; have hg : wr.grownBy w25 (some go23) := (by rw [hw]; exact HP24.2); have hp_ : Kd.R (Kd.int .u8) 5 w25 w.heap.size (fun _ => True) (.slice (some ⟨go23, 0, none⟩) x4_1.length co23) y160 := (by rw [hw, Ny160.out]; exact HP24.1); clear HP24; have n0_ := Aside0.mk (hp_); have n1_ := Aside0.mk ((by rw [hw]; exact below_set (HB.out) GB23.out : Below w.heap.size w w25)); clear HO_4; clear HB; have HO_4 := n0_; have HB := n1_; clear n0_ n1_; clear hg hw hp_; have hcv26 := own_string (P := Tryz.prog) Tryz.underlying81 Tryz.underlying5 Tryz.underlying9 (Kd.own_of_R HO_4.out)))
          go_ret
          exact ⟨by first | rfl | (simp [errW_none, errW_some] <;> rfl) | (simp only [← hji19, ← hji21]; first | rfl | (simp [errW_none, errW_some] <;> rfl)) | (simp [*, errW_none, errW_some] <;> rfl), by repeat (first | (with_reducible first | exact HB.out | apply below_alloc | apply pw_below_drewN | apply below_drew1) | exact HB.out)⟩
         ·rw [if_neg c22] at H
          exact absurd H (by simp)
        ·rw [if_neg c20] at H
         exact absurd H (by simp)
    ·rw [if_neg c10] at H
     exact absurd H (by simp)
   ·rw [if_neg c9] at H
    exact absurd H (by simp)
 ·replace c3 := Bool.eq_false_iff.mpr c3
  subst c3
  have H1 : (some (⟨#[]⟩ : ByteArray)) = some r := by rw [if_neg (show ¬ (false = true) by decide)] at H; exact H
  clear H
  have H := H1
  clear H1
  obtain rfl := Option.some.inj H
  go_enter Tryz.func133, Tryz.ntmps133
  go_wp2_with (first | ((with_reducible refine gate_callee (f := 141) rfl ?_); refine goesL_ (some 7) rfl rfl Tryz.func141 (by kernel_rfl) rfl #[.int .i32 a0] rfl (by (try simp only [List.map_toArray, List.map_cons, List.map_nil]); first | done | rfl | (simp only [List.length_drop, List.length_take]; rfl)) ?_; (with_reducible refine (utf_point.calls a0 false _ A2.out).mono ?_); rintro e w' ⟨rfl, ⟨nd, rfl⟩⟩; refine ⟨_, rfl, ?_⟩))
  go_ret
  exact ⟨by first | rfl | (simp [errW_none, errW_some] <;> rfl) | (simp [*, errW_none, errW_some] <;> rfl), by repeat (first | (with_reducible first | exact HB.out | apply below_alloc | apply pw_below_drewN | apply below_drew1) | exact HB.out)⟩
def utf_Surrogate.j0 : Nat → Int → Bool → Option (Int)
 | 0, _, _ => none
 | k + 1, x0, x3 => if x3 = true then (some 1) else (if x0 ≥ 56320 then (if x0 ≤ 57343 then (some 2) else (some 0)) else (some 0))
def utf_Surrogate.f (k : Nat) (a0 : Int) : Option (Int) := if a0 ≥ 55296 then (utf_Surrogate.j0 k a0 (decide (a0 < 56320))) else (utf_Surrogate.j0 k a0 false)
theorem utf_Surrogate.mono_l : ∀ k, (∀ y0 y1, LeO (utf_Surrogate.j0 k y0 y1) (utf_Surrogate.j0 (k + 1) y0 y1))
 | 0 => fun _ _ r h => by simp [utf_Surrogate.j0] at h
 | k + 1 => by
  have ih0 := utf_Surrogate.mono_l k
  ·intro y0 y1
   unfold utf_Surrogate.j0
   repeat' first
   | (with_reducible exact ih0 _ _)
   | (with_reducible exact LeO.refl _)
   | (with_reducible exact LeO.none _)
   | (with_reducible refine LeO.ite ?_ ?_)
   | (with_reducible refine LeO.bind ?_ (fun _ => ?_))
   | exact ih0 _ _
   | exact LeO.none _
   | refine LeO.ite ?_ ?_
   | refine LeO.bind ?_ (fun _ => ?_)
theorem utf_Surrogate.mono : ∀ a0 k, LeO (utf_Surrogate.f k a0) (utf_Surrogate.f (k + 1) a0) := by
 intro a0 k
 have ih0 := utf_Surrogate.mono_l k
 unfold utf_Surrogate.f
 repeat' first
   | (with_reducible exact ih0 _ _)
   | (with_reducible exact LeO.refl _)
   | (with_reducible exact LeO.none _)
   | (with_reducible refine LeO.ite ?_ ?_)
   | (with_reducible refine LeO.bind ?_ (fun _ => ?_))
   | exact ih0 _ _
   | exact LeO.none _
   | refine LeO.ite ?_ ?_
   | refine LeO.bind ?_ (fun _ => ?_)
set_option maxHeartbeats 8000000 in
set_option maxRecDepth 100000 in
theorem utf_Surrogate.calls (k : Nat) (a0 : Int) (r : Int) (w : World) (h : utf_Surrogate.f k a0 = some r) :
  Calls Tryz.prog 144 #[.int .u16 a0] w fun e w' => e = .returned (.int .i64 r) ∧ Drawn0 w w' := by
 have H : (if a0 ≥ 55296 then (utf_Surrogate.j0 k a0 (decide (a0 < 56320))) else (utf_Surrogate.j0 k a0 false)) = some r := h
 clear h
 have HC2 := Aside0.mk H
 clear H
 go_enter Tryz.func144, Tryz.ntmps144
 go_upto_region 1 with (fail)
 go_cut [3] (fun v3 wc => ∃ (kq : Nat) (x3_1 : Bool), v3 = .bool x3_1 ∧ Aside0 (utf_Surrogate.j0 kq a0 x3_1 = some r) ∧ Aside0 (kq ≤ k) ∧ Drawn0 w wc)
 case first =>
  have H := HC2.out
  clear HC2
  by_cases c3 : a0 ≥ 55296
  ·rw [if_pos c3] at H
   have c3b0 : decide (55296 ≤ a0) = true := decide_eq_true c3
   clear c3
   (first | rw [c3b0] | (simp only [i64_w, i32_w]; rw [c3b0]) | skip)
   have H' := Aside0.mk H
   clear H
   go_wp2
   go_meet
   case rel => exact ⟨_, (decide (a0 < 56320)), (by first | rfl | (simp; done) | (simp [*]; done)), H', ⟨by first | omega | exact Nat.le_refl _⟩, by repeat (first | exact Drawn0.refl _ | apply Drawn0.step)⟩
  ·rw [if_neg c3] at H
   have c3b0 : decide (55296 ≤ a0) = false := decide_eq_false c3
   clear c3
   (first | rw [c3b0] | (simp only [i64_w, i32_w]; rw [c3b0]) | skip)
   have H' := Aside0.mk H
   clear H
   go_wp2
   go_meet
   case rel => exact ⟨_, (false), (by first | rfl | (simp; done) | (simp [*]; done)), H', ⟨by first | omega | exact Nat.le_refl _⟩, by repeat (first | exact Drawn0.refl _ | apply Drawn0.step)⟩
 case rest =>
  clear HC2
  try clear c1
  try clear p2
  try clear c3
  try clear c3b0
  obtain ⟨kq, x3_1, rfl, HA, HJ1, ⟨mc1, rfl⟩⟩ := hcut
  cases kq with
  | zero => exact absurd HA.out (by simp [utf_Surrogate.j0])
  | succ kj1 =>
   have H := HA.out
   clear HA
   simp only [utf_Surrogate.j0] at H
   by_cases c4 : x3_1 = true
   ·subst c4
    have H1 : (some 1) = some r := by rw [if_pos rfl] at H; exact H
    clear H
    have H := H1
    clear H1
    obtain rfl := Option.some.inj H
    go_wp2
    go_ret
    exact ⟨by first | rfl | (simp; done) | (simp [*]; done), by repeat (first | exact Drawn0.refl _ | apply Drawn0.step)⟩
   ·replace c4 := Bool.eq_false_iff.mpr c4
    subst c4
    have H1 : (if a0 ≥ 56320 then (if a0 ≤ 57343 then (some 2) else (some 0)) else (some 0)) = some r := by rw [if_neg (show ¬ (false = true) by decide)] at H; exact H
    clear H
    have H := H1
    clear H1
    by_cases c5 : a0 ≥ 56320
    ·rw [if_pos c5] at H
     have c5b0 : decide (56320 ≤ a0) = true := decide_eq_true c5
     clear c5
     by_cases c6 : a0 ≤ 57343
     ·rw [if_pos c6] at H
      have c6b0 : decide (a0 ≤ 57343) = true := decide_eq_true c6
      clear c6
      obtain rfl := Option.some.inj H
      go_wp2
      go_ret
      exact ⟨by first | rfl | (simp; done) | (simp [*]; done), by repeat (first | exact Drawn0.refl _ | apply Drawn0.step)⟩
     ·rw [if_neg c6] at H
      have c6b0 : decide (a0 ≤ 57343) = false := decide_eq_false c6
      clear c6
      obtain rfl := Option.some.inj H
      go_wp2
      go_ret
      exact ⟨by first | rfl | (simp; done) | (simp [*]; done), by repeat (first | exact Drawn0.refl _ | apply Drawn0.step)⟩
    ·rw [if_neg c5] at H
     have c5b0 : decide (56320 ≤ a0) = false := decide_eq_false c5
     clear c5
     obtain rfl := Option.some.inj H
     go_wp2
     go_ret
     exact ⟨by first | rfl | (simp; done) | (simp [*]; done), by repeat (first | exact Drawn0.refl _ | apply Drawn0.step)⟩
def utf_Pair.f (k : Nat) (a0 : Int) (a1 : Int) : Option (Int × Bool) := (utf_Surrogate.f k a0).bind fun t197 => (if t197 = 1 then ((utf_Surrogate.f k a1).bind fun t198 => (if t198 = 2 then (some (wrap32 ((wrap32 ((wrap32 ((wrap32 (IntKind.u16.wrap (a0 - 55296))) * 1024)) + (wrap32 (IntKind.u16.wrap (a1 - 56320))))) + 65536), true)) else (some (0, false)))) else (some (0, false)))
theorem utf_Pair.mono : ∀ a0 a1 k, LeO (utf_Pair.f k a0 a1) (utf_Pair.f (k + 1) a0 a1) := by
 intro a0 a1 k
 unfold utf_Pair.f
 repeat' first
   | (with_reducible exact utf_Surrogate.mono _ _)
   | (with_reducible exact LeO.refl _)
   | (with_reducible exact LeO.none _)
   | (with_reducible refine LeO.ite ?_ ?_)
   | (with_reducible refine LeO.bind ?_ (fun _ => ?_))
   | exact utf_Surrogate.mono _ _
   | exact LeO.none _
   | refine LeO.ite ?_ ?_
   | refine LeO.bind ?_ (fun _ => ?_)
set_option maxHeartbeats 8000000 in
set_option maxRecDepth 100000 in
theorem utf_Pair.calls (k : Nat) (a0 : Int) (a1 : Int) (r1 : Int) (r2 : Bool) (w : World) (h : utf_Pair.f k a0 a1 = some (r1, r2)) :
  Calls Tryz.prog 145 #[.int .u16 a0, .int .u16 a1] w fun e w' => e = .returned (.tuple #[.int .i32 r1, .bool r2]) ∧ Drawn0 w w' := by
 have H : ((utf_Surrogate.f k a0).bind fun t197 => (if t197 = 1 then ((utf_Surrogate.f k a1).bind fun t198 => (if t198 = 2 then (some (wrap32 ((wrap32 ((wrap32 ((wrap32 (IntKind.u16.wrap (a0 - 55296))) * 1024)) + (wrap32 (IntKind.u16.wrap (a1 - 56320))))) + 65536), true)) else (some (0, false)))) else (some (0, false)))) = some (r1, r2) := h
 clear h
 replace H := Option.bind_eq_some_iff.mp H
 obtain ⟨t197, A30, H⟩ := H
 replace H : (if t197 = 1 then ((utf_Surrogate.f k a1).bind fun t198 => (if t198 = 2 then (some (wrap32 ((wrap32 ((wrap32 ((wrap32 (IntKind.u16.wrap (a0 - 55296))) * 1024)) + (wrap32 (IntKind.u16.wrap (a1 - 56320))))) + 65536), true)) else (some (0, false)))) else (some (0, false))) = some (r1, r2) := H
 have A3 := Aside0.mk A30
 clear A30
 by_cases c4 : t197 = 1
 ·rw [if_pos c4] at H
  have c4b0 : (t197 == 1) = true := beq_iff_eq.mpr c4
  have c4b1 : (t197 != 1) = false := bne_eq_false_iff_eq.mpr c4
  clear c4
  replace H := Option.bind_eq_some_iff.mp H
  obtain ⟨t198, A50, H⟩ := H
  replace H : (if t198 = 2 then (some (wrap32 ((wrap32 ((wrap32 ((wrap32 (IntKind.u16.wrap (a0 - 55296))) * 1024)) + (wrap32 (IntKind.u16.wrap (a1 - 56320))))) + 65536), true)) else (some (0, false))) = some (r1, r2) := H
  have A5 := Aside0.mk A50
  clear A50
  by_cases c6 : t198 = 2
  ·rw [if_pos c6] at H
   have c6b0 : (t198 == 2) = true := beq_iff_eq.mpr c6
   have c6b1 : (t198 != 2) = false := bne_eq_false_iff_eq.mpr c6
   clear c6
   simp only [Option.some.injEq, Prod.mk.injEq] at H
   obtain ⟨rfl, rfl⟩ := H
   go_enter Tryz.func145, Tryz.ntmps145
   go_wp2_with (first | ((with_reducible refine gate_callee (f := 144) rfl ?_); refine goesL_ (some 7) rfl rfl Tryz.func144 (by kernel_rfl) rfl #[.int .u16 a0] rfl (by (try simp only [List.map_toArray, List.map_cons, List.map_nil]); first | done | rfl | (simp only [List.length_drop, List.length_take]; rfl)) ?_; (with_reducible refine (utf_Surrogate.calls k a0 t197 _ A3.out).mono ?_); rintro e w' ⟨rfl, ⟨nd, rfl⟩⟩; refine ⟨_, rfl, ?_⟩) | (go_at_call 144; (with_reducible refine (utf_Surrogate.calls k a1 t198 _ A5.out).mono ?_); rintro e w' ⟨rfl, ⟨nd, rfl⟩⟩))
   go_ret2
   exact ⟨by first | rfl | (simp; done) | (simp [*]; done), by repeat (first | exact Drawn0.refl _ | apply Drawn0.step)⟩
  ·rw [if_neg c6] at H
   have c6b0 : (t198 == 2) = false := beq_eq_false_iff_ne.mpr c6
   have c6b1 : (t198 != 2) = true := bne_iff_ne.mpr c6
   simp only [Option.some.injEq, Prod.mk.injEq] at H
   obtain ⟨rfl, rfl⟩ := H
   go_enter Tryz.func145, Tryz.ntmps145
   go_wp2_with (first | ((with_reducible refine gate_callee (f := 144) rfl ?_); refine goesL_ (some 7) rfl rfl Tryz.func144 (by kernel_rfl) rfl #[.int .u16 a0] rfl (by (try simp only [List.map_toArray, List.map_cons, List.map_nil]); first | done | rfl | (simp only [List.length_drop, List.length_take]; rfl)) ?_; (with_reducible refine (utf_Surrogate.calls k a0 t197 _ A3.out).mono ?_); rintro e w' ⟨rfl, ⟨nd, rfl⟩⟩; refine ⟨_, rfl, ?_⟩) | (go_at_call 144; (with_reducible refine (utf_Surrogate.calls k a1 t198 _ A5.out).mono ?_); rintro e w' ⟨rfl, ⟨nd, rfl⟩⟩))
   go_ret2
   exact ⟨by first | rfl | (simp; done) | (simp [*]; done), by repeat (first | exact Drawn0.refl _ | apply Drawn0.step)⟩
 ·rw [if_neg c4] at H
  have c4b0 : (t197 == 1) = false := beq_eq_false_iff_ne.mpr c4
  have c4b1 : (t197 != 1) = true := bne_iff_ne.mpr c4
  simp only [Option.some.injEq, Prod.mk.injEq] at H
  obtain ⟨rfl, rfl⟩ := H
  go_enter Tryz.func145, Tryz.ntmps145
  go_wp2_with (first | ((with_reducible refine gate_callee (f := 144) rfl ?_); refine goesL_ (some 7) rfl rfl Tryz.func144 (by kernel_rfl) rfl #[.int .u16 a0] rfl (by (try simp only [List.map_toArray, List.map_cons, List.map_nil]); first | done | rfl | (simp only [List.length_drop, List.length_take]; rfl)) ?_; (with_reducible refine (utf_Surrogate.calls k a0 t197 _ A3.out).mono ?_); rintro e w' ⟨rfl, ⟨nd, rfl⟩⟩; refine ⟨_, rfl, ?_⟩))
  go_ret2
  exact ⟨by first | rfl | (simp; done) | (simp [*]; done), by repeat (first | exact Drawn0.refl _ | apply Drawn0.step)⟩
end Go.Proofs.YtfocognhcljhpaaGreatDoor.PRef
