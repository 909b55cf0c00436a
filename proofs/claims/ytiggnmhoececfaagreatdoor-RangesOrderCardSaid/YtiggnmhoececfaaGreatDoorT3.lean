/- Texts taken together: RowN, Ins, Digits, Range, Luhn, Card, WLast, WTab, WFour, WQPut, WApart, WArr, WZeros, WFoot, WKept, WShare, WN, WFootNe, WAt, WEqStruct, WRepsOne. -/
import Derived.Test.YtiggnmhoececfaaGreatDoorT2
import Derived.Laws.CopyOwn
import Derived.Lib.AppendZerosOnto
import Derived.Lib.Overlaps
import Derived.Laws.Externs
import Derived.Laws.AppendOwn
import Derived.Shelf.Spec.SlicesInsert
import Derived.Lib.ItoaMem
import Derived.RangeFuncNested
import Derived.RangeFuncBound
import Derived.RangeFuncCalls
import Derived.RangeFuncLeaves
import Derived.Shelf.Abstract
import Derived.Shelf.RegionOpen
import Derived.OwnWalkIn
import Derived.TacticsInMore
import Derived.LoopNIn
import Derived.LoopIn
import Derived.OrdersHeld
import Derived.Deep.RegionHeld3
import Derived.Laws.BitsLemmas
import Derived.RowKit
import Derived.Laws.StructEq

namespace Go.Proofs.YtiggnmhoececfaaGreatDoor
set_option linter.unusedVariables false
set_option linter.unusedSimpArgs false
open Go.RowKit

theorem run_copy_rowN {P : Program} (w : World) (dT sT ty elem : TypeId) (size g o dLen dCap : Nat) (a : Addr) (sLen sCap : Nat) (cur : Array Value) (t : TypeId) (cs : List Value)
    (hu : P.underlying dT = some (.slice elem)) (hs : (P.info? elem).map (·.size) = some size)
    (hg : w.heap[g]? = some (.cells cur t (0, 0))) (hn : cs.length = Nat.min sLen dLen * size)
    (hsrc : ∀ j v, cs[j]? = some v → w.cell? (a.add j) = some v) (hfit : o + cs.length ≤ cur.size) (h1 : ∀ v ∈ cs, v.oneCell' = true) :
    (Builtin.copy_ #[dT, sT] ty #[.slice (some ⟨g, o, none⟩) dLen dCap, .slice (some a) sLen sCap]).run P w =
      .ok (goInt (Nat.min sLen dLen)) (w.setRow g (splice cur.toList o cs).toArray) := by
  have hl := run_loadCells_list (P := P) w a cs hsrc
  have hst := run_storeCells_at P g o t cs 0 cur w hg (by simpa using hfit) h1
  unfold splice
  cases hq : P.info? elem with
  | none => simp [hq] at hs
  | some i =>
    have hi : i.size = size := by simpa [hq] using hs
    simp [Builtin.copy_, run_underlying hu, Builtin.lenOf, Builtin.firstCells, sizeOf, typeInfo, hq, hi, ← hn, hl, hst]

theorem grownBy_setRow (w : World) (g : Nat) (cs : Array Value) : w.grownBy (w.setRow g cs) (some g) :=
  ⟨rfl, rfl, rfl, by simp [World.setRow], fun k _ hk => setRow_other w g k cs (fun e => hk (by rw [e]))⟩
theorem grownBy_trans {a b c : World} {r : Option Nat} (h : a.grownBy b r) (k : b.grownBy c r) : a.grownBy c r :=
  ⟨k.os.trans h.os, k.tape.trans h.tape, k.output.trans h.output, Nat.le_trans h.size k.size, fun j hj hr => (k.block j (Nat.lt_of_lt_of_le hj h.size) hr).trans (h.block j hj hr)⟩
theorem grownBy_drew (a : World) (r : Option Nat) : a.grownBy a.drew r := ⟨rfl, rfl, rfl, Nat.le_refl _, fun _ _ _ => rfl⟩

/-- A row that the call made may be put in another's place. -/
theorem grownBy_fresh {a b c : World} {r : Option Nat} {g : Nat} (h : a.grownBy b r) (hg : a.heap.size ≤ g) (k : b.grownBy c (some g)) : a.grownBy c r :=
  ⟨k.os.trans h.os, k.tape.trans h.tape, k.output.trans h.output, Nat.le_trans h.size k.size, fun j hj hr => (k.block j (Nat.lt_of_lt_of_le hj h.size) (fun e => by cases e; omega)).trans (h.block j hj hr)⟩

theorem splice_len {α : Type} (L : List α) (o : Nat) (cs : List α) (h : o + cs.length ≤ L.length) : (splice L o cs).length = L.length := length_splice L o cs h

theorem splice_at {α : Type} (L : List α) (o : Nat) (cs : List α) (j : Nat) (h : o + cs.length ≤ L.length) :
    (splice L o cs)[j]? = if j < o then L[j]? else if j < o + cs.length then cs[j - o]? else L[j]? := by
  unfold splice
  have hto : (L.take o).length = o := by rw [List.length_take]; omega
  by_cases a : j < o
  · rw [if_pos a, List.getElem?_append_left (by omega), List.getElem?_take_of_lt a]
  · rw [if_neg a, List.getElem?_append_right (by omega), hto]
    by_cases b : j < o + cs.length
    · rw [if_pos b, List.getElem?_append_left (by omega)]
    · rw [if_neg b, List.getElem?_append_right (by omega), List.getElem?_drop]
      congr 1
      omega

/-- What Insert leaves, told by places. -/
theorem ins_list {α : Type} (L : List α) (o k m : Nat) (mid vs : List α) (hm : vs.length = k) (hmid : mid = (L.take m).drop o) (hom : o ≤ m) (hfit : m + k ≤ L.length) :
    (splice (splice L (o + k) mid) o vs).take (m + k) = (L.take m).take o ++ vs ++ (L.take m).drop o := by
  have hml : mid.length = m - o := by rw [hmid, List.length_drop, List.length_take]; omega
  apply List.ext_getElem?
  intro j
  have h1 : o + k + mid.length ≤ L.length := by omega
  have h2 : o + vs.length ≤ (splice L (o + k) mid).length := by rw [splice_len _ _ _ h1]; omega
  rw [List.getElem?_take]
  have hto : ((L.take m).take o).length = o := by rw [List.length_take, List.length_take]; omega
  by_cases hj : j < m + k
  · rw [if_pos hj, splice_at _ _ _ _ h2, splice_at _ _ _ _ h1, List.append_assoc]
    by_cases a : j < o
    · rw [if_pos a, if_pos (by omega), List.getElem?_append_left (by omega), List.getElem?_take_of_lt a, List.getElem?_take_of_lt (by omega)]
    · rw [if_neg a, List.getElem?_append_right (by omega), hto]
      by_cases b : j < o + vs.length
      · rw [if_pos b, List.getElem?_append_left (by omega)]
      · rw [if_neg b, if_neg (by omega), if_pos (by omega), List.getElem?_append_right (by omega), hmid]
        congr 1
        omega
  · rw [if_neg hj, List.getElem?_eq_none (by simp only [List.length_append, List.length_drop, List.length_take]; omega)]

theorem ins_list2 {α : Type} (L A vs mid : List α) (o : Nat) (hA : L.take o = A) (ho : o ≤ L.length) (hfit : o + vs.length + mid.length ≤ L.length) :
    (splice (splice L o vs) (o + vs.length) mid).take (o + vs.length + mid.length) = A ++ vs ++ mid := by
  have hAl : A.length = o := by rw [← hA, List.length_take]; omega
  have h1 : o + vs.length ≤ L.length := by omega
  have h2 : o + vs.length + mid.length ≤ (splice L o vs).length := by rw [splice_len _ _ _ h1]; omega
  apply List.ext_getElem?
  intro j
  rw [List.getElem?_take]
  by_cases hj : j < o + vs.length + mid.length
  · rw [if_pos hj, splice_at _ _ _ _ h2, splice_at _ _ _ _ h1]
    by_cases a : j < o
    · rw [if_pos (by omega), if_pos a, List.append_assoc, List.getElem?_append_left (by omega), ← hA, List.getElem?_take_of_lt a]
    · by_cases b : j < o + vs.length
      · rw [if_pos b, if_neg a, if_pos b, List.append_assoc, List.getElem?_append_right (by omega), List.getElem?_append_left (by omega), hAl]
      · rw [if_neg b, if_pos hj, List.getElem?_append_right (by rw [List.length_append]; omega), List.length_append, hAl]
  · rw [if_neg hj, List.getElem?_eq_none (by simp only [List.length_append]; omega)]

open Go.Proofs.YtiggnmhoececfaaGreatDoorW.PrintWords in
theorem blkc {w : World} {g : Nat} {t : TypeId} {cs : Array Value} {v : Value} (h : w.heap[g]? = some (.cells cs t (0, 0))) (j : Nat) (hj : cs[j]? = some v) : w.cell? ⟨g, j, none⟩ = some v := (blk_cell h j).trans hj

theorem step_append_runI {P : Program} {ops : Array Oper} {o : Oper} {a : Act} {w : World} {K : Act → World → Prop} {Q : Exit → Act → World → Prop} {E : Prop}
    (hg : o.guard = none) (d x : Operand) (dT sT : TypeId) (hop : o.op = Op.call { callee := Callee.builtin Builtin.append, args := #[d, x], argTypes := #[dT, sT] })
    (v u : Value) (hd : a.eval d = v) (hx : a.eval x = u) {v' : Value} {w' : World} (hr : (Builtin.append_ #[dT, sT] o.type #[v, u]).run P w = .ok v' w') (hK : K (a.put o.dst v') w') :
    if Region.wanted o (yielded ops a.tmps) = true then Oper.wp P o a w K Q else E := by
  have hw : Region.wanted o (yielded ops a.tmps) = true := by simp [Region.wanted, hg]
  rw [if_pos hw]
  unfold Oper.wp
  simp [execOp, hop, resolve, invoke, builtin, hd, hx, hr, Result.andThen]
  exact hK

theorem run_clear_rowN {P : Program} (w : World) (t ty e : TypeId) (z : Value) (g o n c : Nat) (cur : Array Value) (tt : TypeId) (ht : P.underlying t = some (.slice e)) (hz : ∀ w, (zeroValue e).run P w = .ok z w)
    (hg : w.heap[g]? = some (.cells cur tt (0, 0))) (hn : 0 < n) (hfit : o + (Builtin.zeroCells z.cells n).toList.length ≤ cur.size) (h1 : ∀ v ∈ (Builtin.zeroCells z.cells n).toList, v.oneCell' = true) :
    (Builtin.clear_ #[t] ty #[.slice (some ⟨g, o, none⟩) n c]).run P w = .ok (.tuple #[]) (w.setRow g (splice cur.toList o (Builtin.zeroCells z.cells n).toList).toArray) := by
  have hst := run_storeCells_at P g o tt (Builtin.zeroCells z.cells n).toList 0 cur w hg (by simpa using hfit) h1
  unfold splice
  cases n with
  | zero => omega
  | succ n => simp [Builtin.clear_, run_underlying ht, hz, hst]

/-- What Delete leaves. -/
theorem del_list {α : Type} (L tail Z : List α) (o k m : Nat) (ht : tail = (L.take m).drop (o + k)) (hm : o + k ≤ m) (hfit : m ≤ L.length) (hZ : Z.length = k) :
    (splice (splice L o tail) (m - k) Z).take (m - k) = (L.take m).take o ++ (L.take m).drop (o + k) := by
  have htl : tail.length = m - (o + k) := by rw [ht, List.length_drop, List.length_take]; omega
  have h1 : o + tail.length ≤ L.length := by omega
  have h2 : m - k + Z.length ≤ (splice L o tail).length := by rw [splice_len _ _ _ h1]; omega
  apply List.ext_getElem?
  intro j
  rw [List.getElem?_take]
  have hto : ((L.take m).take o).length = o := by rw [List.length_take, List.length_take]; omega
  by_cases hj : j < m - k
  · rw [if_pos hj, splice_at _ _ _ _ h2, if_pos hj, splice_at _ _ _ _ h1]
    by_cases a : j < o
    · rw [if_pos a, List.getElem?_append_left (by omega), List.getElem?_take_of_lt a, List.getElem?_take_of_lt (by omega)]
    · rw [if_neg a, if_pos (by omega), List.getElem?_append_right (by omega), hto, ht]
  · rw [if_neg hj, List.getElem?_eq_none (by simp only [List.length_append, List.length_drop, List.length_take]; omega)]

end Go.Proofs.YtiggnmhoececfaaGreatDoor

namespace Go.Proofs.YtiggnmhoececfaaGreatDoor
set_option linter.unusedVariables false
set_option linter.unusedSimpArgs false
open Go.RowKit Go.Lib

theorem info_range : (Tryz.prog.info? 23).map (fun i => (i.zero, i.size, i.bytes)) = some (some (.agg #[.string ⟨#[]⟩, .string ⟨#[]⟩, .string ⟨#[]⟩, .string ⟨#[]⟩, .string ⟨#[]⟩, .int .i64 0]), 6, 88) := by kernel_rfl
theorem size_range : (Tryz.prog.info? 23).map (·.size) = some 6 := by kernel_rfl
theorem sizeOf_range : ∀ w, (Go.sizeOf 23).run Tryz.prog w = .ok 6 w := fun w => by kernel_rfl

theorem nmin_r {a b : Nat} (h : b ≤ a) : Nat.min a b = b := Nat.min_eq_right h
theorem nmin_l {a b : Nat} (h : a ≤ b) : Nat.min a b = a := Nat.min_eq_left h

def InsPost (base : Nat) (v : Value) (n : Nat) (ys : List Value) (w : World) (e : Ending) (w' : World) : Prop :=
  ∃ v', e = .returned v' ∧ w'.ownsRow base 23 6 v' (n + 1) ys ∧ w.grownBy w' v.ownBlock ∧ v' ≠ .slice none 0 0

set_option maxHeartbeats 4000000 in
set_option maxRecDepth 100000 in
theorem ins_end {base : Nat} (v : Value) (n : Nat) (xs vs : List Value) (vb : Nat) (w : World) (hown : w.ownsRow base 23 6 v n xs) (hn : n ≤ 1000)
    (hvl : vs.length = 6) (hv : ∀ j u, vs[j]? = some u → w.cell? ⟨vb, j, none⟩ = some u) (h1v : ∀ u ∈ vs, u.oneCell' = true) (hb : base ≤ w.heap.size) :
    Calls Tryz.prog 43 #[v, .int .i64 n, .slice (some ⟨vb, 0, none⟩) 1 1] w (InsPost base v n (xs ++ vs) w) := by
  obtain ⟨i0, hi, hz0, hz1, hz2⟩ := info_parts info_range
  have key : ∀ A c, v = .slice A n c → Calls Tryz.prog 43 #[.slice A n c, .int .i64 n, .slice (some ⟨vb, 0, none⟩) 1 1] w (InsPost base v n (xs ++ vs) w) := by
    intro A c hvA
    have HO := Lib.hid hown
    rw [hvA] at HO
    have HV := Lib.hid hv
    have H1 := Lib.hid h1v
    have HVA := Lib.hid hvA
    clear hown hv h1v hvA
    go_enter Tryz.func43, Tryz.ntmps43
    go_wp2_with (at_builtin; refine wpList_append_own _ rfl _ _ 34 rfl base 23 i0 _ 6 88 Tryz.underlying34 hi hz0 hz1 hz2 rfl (by decide) _ _ _ rfl HO.out ⟨vb, 0, none⟩ 1 1 vs rfl hvl (fun j u hj => by rw [Addr.add_lit, Nat.zero_add]; exact HV.out j u hj) H1.out (by unfold maxLen; omega) (by omega) hb ?_)
    all_goals (intro v' w1 hown hgrow hnn; go_wp2; go_ret; exact ⟨v', rfl, hown, by rw [HVA.out]; cases A <;> exact hgrow, hnn⟩)
  obtain ⟨_, ⟨rfl, rfl⟩ | ⟨g, cap, cur, rfl, _⟩⟩ := id hown
  · exact key _ _ rfl
  · exact key _ _ rfl

theorem overlaps_apart (w : World) (vb g i lb cb : Nat) (cur : Array Value) (T : TypeId) (vs : List Value) (Tv : TypeId) (hne : vb ≠ g) (hG : w.heap[g]? = some (.cells cur T (0, 0))) (hc : cur.size ≠ 0) (hV : w.heap[vb]? = some (.cells vs.toArray Tv (0, 0))) :
    (callFunc 57 #[.slice (some ⟨vb, 0, none⟩) 1 1, .slice (some ⟨g, i, none⟩) lb cb]).run Tryz.prog w = .ok (.value (.bool false)) w := by
  rw [run_callFunc_extern Tryz.func57 (by kernel_rfl) (by kernel_rfl) (by kernel_rfl) (e := Extern.SlicesOverlaps.overlaps #[34, 34] #[4]) (by kernel_rfl),
    Lib.run_overlaps_apart w 34 4 23 Tryz.underlying34 6 sizeOf_range ⟨vb, 0, none⟩ ⟨g, i, none⟩ 1 1 lb cb hne Tv T vs.toArray.size cur.size (by simp [World.shape?, hV]) (by simp [World.shape?, hG]) hc (by simp [World.frozen?, hV]) (by simp [World.frozen?, hV])]
  rfl

set_option maxHeartbeats 4000000 in
set_option maxRecDepth 100000 in
theorem ins_shift {base : Nat} (g n i cap : Nat) (cur : Array Value) (vs : List Value) (vb : Nat) (Tv : TypeId) (w : World) (hbg : base ≤ g)
    (hG : w.heap[g]? = some (.cells cur 23 (0, 0))) (hc : cur.size = cap * 6) (hcap : cap ≤ maxLen) (h1c : ∀ u ∈ cur.toList.take (n * 6), u.oneCell' = true) (hi : i < n) (hroom : n < cap) (hn : n ≤ 1000)
    (hvl : vs.length = 6) (hV : w.heap[vb]? = some (.cells vs.toArray Tv (0, 0))) (hvb : vb ≠ g) (h1v : ∀ u ∈ vs, u.oneCell' = true) :
    Calls Tryz.prog 43 #[.slice (some ⟨g, 0, none⟩) n cap, .int .i64 i, .slice (some ⟨vb, 0, none⟩) 1 1] w
      (InsPost base (.slice (some ⟨g, 0, none⟩) n cap) n ((cur.toList.take (n * 6)).take (i * 6) ++ vs ++ (cur.toList.take (n * 6)).drop (i * 6)) w) := by
  unfold maxLen at hcap
  have hz2 : ¬ ((i : Int) = (n : Int)) := by omega
  have hov := fun lb cb => overlaps_apart w vb g ((i + 1) * 6) lb cb cur _ vs Tv hvb hG (by omega) hV
  obtain ⟨mid, hmid⟩ : ∃ mid, mid = (cur.toList.take (n * 6)).drop (i * 6) := ⟨_, rfl⟩
  have hml : mid.length = (n - i) * 6 := by rw [hmid, List.length_drop, List.length_take, Array.length_toList]; omega
  have hmc : ∀ j u, mid[j]? = some u → w.cell? ⟨g, i * 6 + j, none⟩ = some u := fun j u hj => by
    rw [hmid, List.getElem?_drop, List.getElem?_take] at hj
    split at hj
    · rw [cell_of_row w g (i * 6 + j) cur _ (0, 0) hG]; simpa using hj
    · cases hj
  obtain ⟨W1, hW1⟩ : ∃ W1, W1 = w.drew.setRow g (splice cur.toList (i * 6 + 6) mid).toArray := ⟨_, rfl⟩
  have hcp1 : ∀ ty dc sc, (Builtin.copy_ #[34, 34] ty #[.slice (some ⟨g, (i + 1) * 6, none⟩) (n - i) dc, .slice (some ⟨g, i * 6, none⟩) (n + 1 - i) sc]).run Tryz.prog w.drew = .ok (goInt (n - i : Nat)) W1 := fun ty dc sc => by
    rw [hW1, show (i + 1) * 6 = i * 6 + 6 by omega]
    have := run_copy_rowN (P := Tryz.prog) w.drew 34 34 ty _ 6 g (i * 6 + 6) (n - i) dc ⟨g, i * 6, none⟩ (n + 1 - i) sc cur _ mid Tryz.underlying34 size_range hG (by rw [hml, nmin_r (by omega)])
      (fun j u hj => by rw [Addr.add_lit]; exact hmc j u hj) (by rw [hml]; omega) (fun u hu => h1c u (List.mem_of_mem_drop (hmid ▸ hu)))
    rw [show Nat.min (n + 1 - i) (n - i) = n - i by rw [nmin_r (by omega)]] at this
    exact this
  have hG1 : W1.heap[g]? = some (.cells (splice cur.toList (i * 6 + 6) mid).toArray 23 (0, 0)) := by rw [hW1]; exact setRow_heap _ _ _ _ _ _ hG
  have hV1 : W1.heap[vb]? = some (.cells vs.toArray Tv (0, 0)) := by rw [hW1, setRow_other _ _ _ _ hvb]; exact hV
  have hl1 : (splice cur.toList (i * 6 + 6) mid).length = cap * 6 := by rw [splice_len cur.toList (i * 6 + 6) mid (by have := hml; have e : cur.toList.length = cur.size := Array.length_toList; omega), Array.length_toList, hc]
  have hcp2 : ∀ ty dc, (Builtin.copy_ #[34, 34] ty #[.slice (some ⟨g, i * 6, none⟩) (n + 1 - i) dc, .slice (some ⟨vb, 0, none⟩) 1 1]).run Tryz.prog W1 = .ok (goInt (1 : Nat)) (W1.setRow g (splice (splice cur.toList (i * 6 + 6) mid) (i * 6) vs).toArray) := fun ty dc => by
    have := run_copy_rowN (P := Tryz.prog) W1 34 34 ty _ 6 g (i * 6) (n + 1 - i) dc ⟨vb, 0, none⟩ 1 1 _ _ vs Tryz.underlying34 size_range hG1 (by rw [hvl, nmin_l (by omega)])
      (fun j u hj => by rw [Addr.add_lit, Nat.zero_add, cell_of_row W1 vb j _ _ (0, 0) hV1]; simpa using hj) (by simp only [List.size_toArray]; omega) h1v
    rw [show Nat.min 1 (n + 1 - i) = 1 by rw [nmin_l (by omega)]] at this
    exact this
  have hpost : (W1.setRow g (splice (splice cur.toList (i * 6 + 6) mid) (i * 6) vs).toArray).ownsRow base 23 6 (.slice (some ⟨g, 0, none⟩) (n + 1) cap) (n + 1) ((cur.toList.take (n * 6)).take (i * 6) ++ vs ++ (cur.toList.take (n * 6)).drop (i * 6)) := by
    refine ⟨?_, .inr ⟨g, cap, _, rfl, hbg, setRow_heap _ _ _ _ _ _ hG1, by omega, by unfold maxLen; omega, ?_, ?_⟩⟩
    · simp only [List.length_append, List.length_take, List.length_drop, Array.length_toList]; omega
    · rw [List.size_toArray, splice_len _ _ _ (by omega), hl1]
    · rw [show (n + 1) * 6 = n * 6 + 6 by omega]
      exact ins_list cur.toList (i * 6) 6 (n * 6) mid vs hvl hmid (by omega) (by rw [Array.length_toList]; omega)
  have hgr : w.grownBy (W1.setRow g (splice (splice cur.toList (i * 6 + 6) mid) (i * 6) vs).toArray) (some g) := by
    rw [hW1]
    exact grownBy_trans (grownBy_drew w _) (grownBy_trans (grownBy_setRow _ _ _) (grownBy_setRow _ _ _))
  have HP := Lib.hid hpost
  have HR := Lib.hid hgr
  have HW1 := Lib.hid hW1
  have hw1 : IntKind.i64.wrap ((i : Int) + 1) = (i : Int) + 1 := by rw [IntKind.wrap_i64]; omega
  have hb1 : (0 : Int) ≤ (i : Int) + 1 := by omega
  have hin : i ≤ n := by omega
  have htn : ((i : Int) + 1).toNat = i + 1 := by omega
  have hb2 : ¬ (cap = i + 1) := by omega
  have hb3 : (i : Int) ≤ (n : Int) + 1 := by omega
  have hb4 : ¬ (cap = i) := by omega
  clear hpost hgr hW1 hl1 hG1 hV1 hmc hml hmid h1c h1v hvl hV hG hc
  go_enter Tryz.func43, Tryz.ntmps43
  go_wp2_with (simp only [hov])
  go_region_law (refine step_copy_runI rfl _ _ 34 34 rfl (.slice (some ⟨g, (i + 1) * 6, none⟩) (n - i) (cap - (i + 1))) (.slice (some ⟨g, i * 6, none⟩) (n + 1 - i) (cap - i)) (by simp [Act.eval, Act.put]) (by simp [Act.eval, Act.put]) (hcp1 3 (cap - (i + 1)) (cap - i)) ?_)
  go_wp2_with (at_builtin; refine wpList_copy_runI _ rfl _ _ 34 34 rfl _ _ rfl rfl (hcp2 _ _) ?_)
  go_ret
  exact ⟨_, rfl, HP.out, HR.out, by simp⟩

set_option maxHeartbeats 4000000 in
set_option maxRecDepth 100000 in
theorem ins_grow {base : Nat} (g n i cap : Nat) (xs vs : List Value) (vb : Nat) (Tv : TypeId) (w : World) (hb : base ≤ w.heap.size) (hxl : xs.length = n * 6)
    (hx : ∀ j u, xs[j]? = some u → w.cell? ⟨g, j, none⟩ = some u) (h1x : ∀ u ∈ xs, u.oneCell' = true) (hg : g < w.heap.size) (hi : i < n) (hnc : n ≤ cap) (hroom : cap < n + 1) (hn : n ≤ 1000)
    (hvl : vs.length = 6) (hV : w.heap[vb]? = some (.cells vs.toArray Tv (0, 0))) (h1v : ∀ u ∈ vs, u.oneCell' = true) :
    Calls Tryz.prog 43 #[.slice (some ⟨g, 0, none⟩) n cap, .int .i64 i, .slice (some ⟨vb, 0, none⟩) 1 1] w
      (InsPost base (.slice (some ⟨g, 0, none⟩) n cap) n (xs.take (i * 6) ++ vs ++ xs.drop (i * 6)) w) := by
  obtain ⟨i0, hi0, hz0, hz1, hz2⟩ := info_parts info_range
  obtain ⟨z, hz⟩ : ∃ z, z = Value.agg #[.string ⟨#[]⟩, .string ⟨#[]⟩, .string ⟨#[]⟩, .string ⟨#[]⟩, .string ⟨#[]⟩, .int .i64 0] := ⟨_, rfl⟩
  have hzc : z.cells.size = 6 := by rw [hz]; rfl
  rw [← hz] at hz0
  have hvw : vb < w.heap.size := (Array.getElem?_eq_some_iff.1 hV).1
  have hold : (Builtin.firstCells i0.size i (.slice (some ⟨g, 0, none⟩) i cap)).run Tryz.prog w.drew = .ok (xs.take (i * 6)).toArray w.drew := by
    rw [hz1]
    exact run_firstCells_some w.drew 6 i ⟨g, 0, none⟩ i cap (xs.take (i * 6)) (by rw [List.length_take]; omega) (fun j v hj => by
      rw [Addr.add_lit, Nat.zero_add]
      rw [List.getElem?_take] at hj
      split at hj
      · exact hx j v hj
      · cases hj)
  obtain ⟨G, hG⟩ : ∃ G, G = grownCap w (n + 1) cap 23 := ⟨_, rfl⟩
  obtain ⟨ROW, hROW⟩ : ∃ ROW : Array Value, ROW = (xs.take (i * 6)).toArray ++ Builtin.zeroCells z.cells (n + 1 - i) ++ Builtin.zeroCells z.cells (G - (n + 1)) := ⟨_, rfl⟩
  have hrz : ∀ ty, (Builtin.append_ #[34, 3] ty #[.slice (some ⟨g, 0, none⟩) i cap, .int .i64 ((n : Int) + 1 - (i : Int))]).run Tryz.prog w =
      .ok (.slice (some ⟨w.heap.size, 0, none⟩) (n + 1) G) (w.drew.alloc (.cells ROW 23)) := fun ty => by
    have h := Lib.run_append_grow_zeros w 34 3 ty 23 i0 _ .i64 .i64 Tryz.underlying34 Tryz.underlying3 hi0 hz0 (some ⟨g, 0, none⟩) i cap (xs.take (i * 6)) hold (n + 1 - i) (by omega) (by omega) (by omega) (by omega) (by rw [hz2]; omega)
      (by rw [hz2, show i + (n + 1 - i) = n + 1 by omega]; exact growslice_fits hroom (by omega))
    rw [show i + (n + 1 - i) = n + 1 by omega, ← hG, ← hROW] at h
    rw [show (n : Int) + 1 - (i : Int) = ((n + 1 - i : Nat) : Int) by omega]
    exact h
  have hGn : n + 1 ≤ G := by rw [hG]; exact grownCap_ge w _ _ _
  have hG63 : G ≤ 9223372036854775807 := by
    have := grownCap_le_maxLen w (n + 1) cap 23 (by unfold maxLen; omega)
    rw [← hG] at this
    unfold maxLen at this
    omega
  have hxt : (xs.take (i * 6)).length = i * 6 := by rw [List.length_take]; omega
  have hRs : ROW.size = G * 6 := by
    rw [hROW]
    simp only [Array.size_append, size_zeroCells, hzc, List.size_toArray, hxt]
    omega
  have hRt : ROW.toList.take (i * 6) = xs.take (i * 6) := by
    rw [hROW]
    simp only [Array.toList_append, List.append_assoc]
    rw [List.take_append_of_le_length (by omega), List.take_of_length_le (by omega)]
  obtain ⟨W1, hW1⟩ : ∃ W1, W1 = w.drew.alloc (.cells ROW 23) := ⟨_, rfl⟩
  rw [← hW1] at hrz
  have hG1 : W1.heap[w.heap.size]? = some (.cells ROW 23 (0, 0)) := by rw [hW1]; exact heap_alloc_new w.drew _
  have hgr1 : w.grownBy W1 none := by rw [hW1]; exact grownBy_trans (grownBy_drew w _) (World.grownBy_alloc _ _ _)
  have hV1 : W1.heap[vb]? = some (.cells vs.toArray Tv (0, 0)) := (hgr1.block vb hvw (by simp)).trans hV
  have hxd : (xs.drop (i * 6)).length = (n - i) * 6 := by rw [List.length_drop]; omega
  have hRl : ROW.toList.length = G * 6 := by rw [Array.length_toList, hRs]
  have hl1 : (splice ROW.toList (i * 6) vs).length = G * 6 := by rw [splice_len ROW.toList (i * 6) vs (by omega), hRl]
  obtain ⟨W2, hW2⟩ : ∃ W2, W2 = W1.setRow w.heap.size (splice ROW.toList (i * 6) vs).toArray := ⟨_, rfl⟩
  have hcp1 : ∀ ty dc, (Builtin.copy_ #[34, 34] ty #[.slice (some ⟨w.heap.size, i * 6, none⟩) (n + 1 - i) dc, .slice (some ⟨vb, 0, none⟩) 1 1]).run Tryz.prog W1 = .ok (goInt (1 : Nat)) W2 := fun ty dc => by
    have := run_copy_rowN (P := Tryz.prog) W1 34 34 ty _ 6 w.heap.size (i * 6) (n + 1 - i) dc ⟨vb, 0, none⟩ 1 1 _ _ vs Tryz.underlying34 size_range hG1 (by rw [hvl, nmin_l (by omega)])
      (fun j u hj => by rw [Addr.add_lit, Nat.zero_add, cell_of_row W1 vb j _ _ (0, 0) hV1]; simpa using hj) (by omega) h1v
    rw [nmin_l (by omega)] at this
    rw [hW2]
    exact this
  have hG2 : W2.heap[w.heap.size]? = some (.cells (splice ROW.toList (i * 6) vs).toArray 23 (0, 0)) := by rw [hW2]; exact setRow_heap _ _ _ _ _ _ hG1
  have hx2 : ∀ j u, (xs.drop (i * 6))[j]? = some u → W2.cell? ⟨g, i * 6 + j, none⟩ = some u := fun j u hj => by
    rw [List.getElem?_drop] at hj
    have h := hx _ u hj
    have e2 : W2.heap[g]? = w.heap[g]? := by
      rw [hW2, setRow_other _ _ _ _ (by omega)]
      exact hgr1.block g hg (by simp)
    exact (World.cell?_of_block (a := ⟨g, i * 6 + j, none⟩) e2).trans h
  obtain ⟨W3, hW3⟩ : ∃ W3, W3 = W2.drew.setRow w.heap.size (splice (splice ROW.toList (i * 6) vs) (i * 6 + 6) (xs.drop (i * 6))).toArray := ⟨_, rfl⟩
  have hcp2 : ∀ ty dc sc, (Builtin.copy_ #[34, 34] ty #[.slice (some ⟨w.heap.size, (i + 1) * 6, none⟩) (n - i) dc, .slice (some ⟨g, i * 6, none⟩) (n - i) sc]).run Tryz.prog W2.drew = .ok (goInt (n - i : Nat)) W3 := fun ty dc sc => by
    have := run_copy_rowN (P := Tryz.prog) W2.drew 34 34 ty _ 6 w.heap.size (i * 6 + 6) (n - i) dc ⟨g, i * 6, none⟩ (n - i) sc _ _ (xs.drop (i * 6)) Tryz.underlying34 size_range hG2 (by rw [hxd, nmin_r (by omega)])
      (fun j u hj => by rw [Addr.add_lit]; exact hx2 j u hj) (by rw [List.size_toArray]; omega) (fun u hu => h1x u (List.mem_of_mem_drop hu))
    rw [nmin_r (by omega)] at this
    rw [hW3, show (i + 1) * 6 = i * 6 + 6 by omega]
    exact this
  have hpost : W3.ownsRow base 23 6 (.slice (some ⟨w.heap.size, 0, none⟩) (n + 1) G) (n + 1) (xs.take (i * 6) ++ vs ++ xs.drop (i * 6)) := by
    refine ⟨?_, .inr ⟨w.heap.size, G, _, rfl, hb, by rw [hW3]; exact setRow_heap _ _ _ _ _ _ hG2, hGn, by unfold maxLen; omega, ?_, ?_⟩⟩
    · simp only [List.length_append]; omega
    · rw [List.size_toArray, splice_len _ _ _ (by omega), hl1]
    · have h := ins_list2 ROW.toList (xs.take (i * 6)) vs (xs.drop (i * 6)) (i * 6) hRt (by omega) (by omega)
      rw [hvl, hxd, show i * 6 + 6 + (n - i) * 6 = (n + 1) * 6 by omega] at h
      exact h
  have hgr : w.grownBy W3 (some g) := by
    rw [hW3]
    refine grownBy_fresh ?_ (Nat.le_refl _) (grownBy_setRow _ _ _)
    refine grownBy_trans ?_ (grownBy_drew _ _)
    rw [hW2]
    refine grownBy_fresh ?_ (Nat.le_refl _) (grownBy_setRow _ _ _)
    rw [hW1]
    exact grownBy_trans (grownBy_drew w _) (World.grownBy_alloc _ _ _)
  have HP := Lib.hid hpost
  have HR := Lib.hid hgr
  have hz2' : ¬ ((i : Int) = (n : Int)) := by omega
  have hz3 : (cap : Int) < (n : Int) + 1 := by omega
  have hw1 : IntKind.i64.wrap ((i : Int) + 1) = (i : Int) + 1 := by rw [IntKind.wrap_i64]; omega
  have hb1 : (0 : Int) ≤ (i : Int) + 1 := by omega
  have hin : i ≤ n := by omega
  have htn : ((i : Int) + 1).toNat = i + 1 := by omega
  have hGi : ¬ (G = i) := by omega
  have hGim : ¬ (G = i + 1) := by omega
  have hci : ¬ (cap = i) := by omega
  have hb3 : (i : Int) ≤ (n : Int) + 1 := by omega
  clear hpost hgr hW3 hW2 hW1 hx2 hG2 hG1 hV1 hV hx h1x h1v hl1 hRl hxd hRt hRs hxt hROW hG hold hgr1 hxl hvl hz hz0 hzc hi0 hz1 hz2
  go_enter Tryz.func43, Tryz.ntmps43
  go_wp2_with (first
    | (at_builtin; refine Lib.wpList_append_run _ rfl _ _ _ _ rfl _ _ rfl rfl _ _ (hrz _) ?_)
    | (at_builtin; refine wpList_copy_runI _ rfl _ _ 34 34 rfl _ _ rfl rfl (hcp1 _ _) ?_))
  go_region_law (refine step_copy_runI rfl _ _ 34 34 rfl (.slice (some ⟨w.heap.size, (i + 1) * 6, none⟩) (n - i) (G - (i + 1))) (.slice (some ⟨g, i * 6, none⟩) (n - i) (cap - i)) (by simp [Act.eval, Act.put]) (by simp [Act.eval, Act.put]) (hcp2 3 (G - (i + 1)) (cap - i)) ?_)
  go_wp2
  go_ret
  exact ⟨_, rfl, HP.out, HR.out, by simp⟩

/-- slices.Insert of one element into a slice of the call's own. -/
theorem ins_any {base : Nat} (v : Value) (n i : Nat) (xs vs : List Value) (vb : Nat) (Tv : TypeId) (w : World) (hb : base ≤ w.heap.size)
    (hown : w.ownsRow base 23 6 v n xs) (h1x : ∀ u ∈ xs, u.oneCell' = true) (hi : i ≤ n) (hn : n ≤ 1000)
    (hvl : vs.length = 6) (hV : w.heap[vb]? = some (.cells vs.toArray Tv (0, 0))) (hvb : v.ownBlock ≠ some vb) (h1v : ∀ u ∈ vs, u.oneCell' = true) :
    Calls Tryz.prog 43 #[v, .int .i64 i, .slice (some ⟨vb, 0, none⟩) 1 1] w (InsPost base v n (xs.take (i * 6) ++ vs ++ xs.drop (i * 6)) w) := by
  have hv : ∀ j u, vs[j]? = some u → w.cell? ⟨vb, j, none⟩ = some u := fun j u hj => by rw [cell_of_row w vb j _ _ (0, 0) hV]; simpa using hj
  rcases Nat.lt_or_ge i n with h | h
  · have hlt := hown.lt
    have hcl := fun g hg => hown.cells (g := g) hg
    obtain ⟨hxl, ⟨rfl, h0⟩ | ⟨g, cap, cur, rfl, hbg, hG, hnc, hm, hcs, hx⟩⟩ := id hown
    · omega
    · by_cases hroom : n < cap
      · have := ins_shift (base := base) g n i cap cur vs vb Tv w hbg hG hcs hm (by rw [hx]; exact h1x) h hroom hn hvl hV (fun e => hvb (by rw [e]; rfl)) h1v
        rw [hx] at this
        exact this
      · exact ins_grow g n i cap xs vs vb Tv w hb hxl (fun j u hj => by have := hcl g rfl j u hj; rwa [Lib.add_plain, Nat.zero_add] at this) h1x (hlt g rfl).2 h hnc (by omega) hn hvl hV h1v
  · obtain rfl : i = n := by omega
    have hxl := hown.1
    rw [List.take_of_length_le (by omega), List.drop_of_length_le (by omega), List.append_nil]
    exact ins_end v i xs vs vb w hown hn hvl hv h1v hb

end Go.Proofs.YtiggnmhoececfaaGreatDoor

namespace Go.Proofs.YtiggnmhoececfaaGreatDoor
set_option linter.unusedVariables false
set_option linter.unusedSimpArgs false
open Go.RowKit

set_option maxRecDepth 1000000 in
/-- digits.Is -/
theorem is_any (s : ByteArray) (w : World) :
    Calls Tryz.prog 37 #[.string s] w fun e w' => e = .returned (.bool (isNum s.data.toList)) ∧ Below w.heap.size w w' := by
  go_enter Tryz.func37, Tryz.ntmps37
  go_wp2
  go_loopw [] (fun w' => ∃ (pos : Nat), w' = w.iter s pos ∧ pos ≤ s.size ∧ isDig (s.data.toList.take pos) = true) (fun w' => s.size - w'.iterPos w.heap.size)
  case atStart => exact ⟨0, rfl, by omega, rfl⟩
  case round =>
    obtain ⟨pos, rfl, hle, hd⟩ := hrel
    by_cases hp : pos < s.size
    · have hnx : ∀ ty, (Instr.next (.pointer (some ⟨w.heap.size, 0, none⟩)) true ty).run Tryz.prog (w.iter s pos) = _ := fun ty => run_next_any w s pos ty hp
      have hwd := width_pos s pos hp
      go_wp2
      · go_ret
        exact ⟨by unfold isNum; rw [isDig_no s pos hp ‹_›]; rfl, below_iter _ _ _⟩
      · obtain ⟨h1, h2⟩ : 48 ≤ ((Utf8.decode s pos).1 : Int) ∧ ((Utf8.decode s pos).1 : Int) ≤ 57 := ‹_›
        obtain ⟨e, hd'⟩ := isDig_next s pos hp h1 h2 hd
        exact ⟨⟨pos + 1, by rw [e], by omega, hd'⟩, by simp; omega⟩
      · go_ret
        exact ⟨by unfold isNum; rw [isDig_no s pos hp (.inl ‹_›)]; rfl, below_iter _ _ _⟩
    · have hnx : ∀ ty, (Instr.next (.pointer (some ⟨w.heap.size, 0, none⟩)) true ty).run Tryz.prog (w.iter s pos) = _ := fun ty => run_next_end w s pos ty hp
      go_wp2
      go_ret
      obtain rfl : pos = s.size := by omega
      rw [List.take_of_length_le (by simp)] at hd
      exact ⟨by unfold isNum; rw [hd]; simp [Lib.toList_data], below_iter _ _ _⟩

/-- digits.Number: what a text tells of a number. -/
def number (l : Bytes) : Nat × Int := if isNum l then (if numOf l ≤ 18446744073709551615 then (numOf l, 0) else (0, 7)) else (0, 4)

set_option maxRecDepth 1000000 in
set_option maxHeartbeats 400000 in
theorem number_any (s : ByteArray) (w : World) (hs : s.size ≤ 140737488351232) (hG : Glob w) :
    Calls Tryz.prog 71 #[.string s] w fun e w' => e = .returned (.tuple #[.int .u64 (number s.data.toList).1, .int .i64 (number s.data.toList).2]) ∧ Below w.heap.size w w' := by
  cases h : isNum s.data.toList with
  | false =>
    have h1 := is_any s w
    rw [h] at h1
    have e : number s.data.toList = (0, 4) := by unfold number; rw [h]; rfl
    rw [e]
    have H1 := Lib.hid h1; clear h1 h e
    go_enter Tryz.func71, Tryz.ntmps71
    go_wp2_with (go_at_call 37; refine H1.out.mono ?_; rintro e w' ⟨rfl, hb⟩)
    go_ret2
    exact ⟨rfl, hb⟩
  | true =>
    have h1 := is_any s w
    rw [h] at h1
    have hp := parse64 _ h
    by_cases hle : numOf s.data.toList ≤ 18446744073709551615
    · rw [if_pos hle] at hp
      have e : number s.data.toList = (numOf s.data.toList, 0) := by unfold number; rw [h, if_pos hle]; rfl
      rw [e]
      have HP := Lib.hid hp
      have H1 := Lib.hid h1; clear h1 h e hp
      go_enter Tryz.func71, Tryz.ntmps71
      go_wp2_with (first | (go_at_call 37; refine H1.out.mono ?_; rintro e w' ⟨rfl, hb⟩) | (go_at_call 80; refine (Tryz.strconv_ParseUint_10_at64_ok s (by omega) _ HP.out _).mono ?_; rintro e w2 ⟨rfl, hw⟩))
      go_ret2
      exact ⟨rfl, below_or_bytes hb hw⟩
    · rw [if_neg hle] at hp
      have e : number s.data.toList = (0, 7) := by unfold number; rw [h, if_neg hle]; rfl
      rw [e]
      have HP := Lib.hid hp
      have H1 := Lib.hid h1; clear h1 h e hp
      obtain ⟨te, pe, hr⟩ := hG.rng
      go_enter Tryz.func71, Tryz.ntmps71
      go_wp2_with (first | (go_at_call 37; refine H1.out.mono ?_; rintro e w' ⟨rfl, hb⟩) | (go_at_call 80; refine (Tryz.strconv_ParseUint_10_at64_range s (by omega) HP.out (.iface te pe) _ (cellBelow hb hr) (.inr ⟨_, _, rfl⟩)).mono ?_; rintro e w2 ⟨N, rfl, hN, hc, hb2⟩; have hb3 := below_step hb hb2))
      go_ret2
      exact ⟨rfl, hb3⟩

theorem fmt_small (i : Nat) (hi : i < 100) (w : World) :
    Calls Tryz.prog 95 #[.int .u64 i, .int .i64 10] w fun e w' => e = .returned (.string ⟨(Lib.decDigits i).toArray⟩) ∧ Below w.heap.size w w' := by
  go_enter Tryz.func95, Tryz.ntmps95
  go_wp2_with (go_at_call 113; refine (Tryz.internal_strconv_small i hi _).mono ?_; rintro e w' ⟨rfl, rfl⟩)
  go_ret
  exact ⟨rfl, Below.refl _ _⟩

open Go.Sort Go.Lib in
theorem holds_zero0 (w : World) (T : TypeId) (nd : Nat) (hs : nd ≤ 24) : Holds (fun (b : UInt8) => Value.int .u8 (b.toNat : Int)) (w.alloc (.cells zeros24 T)) w.heap.size 0 (Array.replicate nd (0 : UInt8)) := fun j hj => by
  have hj' : j < nd := by simpa using hj
  refine ⟨?_, World.frozen?_alloc_new _ _ _ _⟩
  rw [World.cell?_alloc_new, zeros24_at _ (by omega), getElem!_pos _ j hj]
  simp

theorem below_grow (w : World) (k : Nat) (os : Array Obj) : Below w.heap.size w (Sort.grow (w.drewN k) os) :=
  ⟨rfl, rfl, rfl, by simp [Sort.grow], fun i hi => by simp only [Sort.grow]; exact Array.getElem?_append_left hi⟩

open Go.Sort Go.Lib in
set_option maxHeartbeats 6400000 in
set_option maxRecDepth 100000 in
theorem fmt_big (u : Nat) (hu : 100 ≤ u) (hu64 : u < 18446744073709551616) (w : World) (hG : Glob w) :
    Calls Tryz.prog 95 #[.int .u64 u, .int .i64 10] w fun e w' => e = .returned (.string ⟨(Lib.decDigits u).toArray⟩) ∧ Below w.heap.size w w' := by
  have htab := hG.tab10
  have hu1 : 1 ≤ u := by omega
  have hnd20 : Lib.nDigits u ≤ 20 := by have := Lib.numDigits_eq u hu1 hu64; split at this <;> omega
  have hb3 : Lib.nDigits u ≤ 24 := by omega
  have hsl1 : ∀ W, (Instr.sliceAt 148 (.pointer (some ⟨w.heap.size, 0, none⟩)) none (some (.int .i64 (Lib.nDigits u : Int))) none).run Tryz.prog W = .ok (.slice (some ⟨w.heap.size, 0, none⟩) (Lib.nDigits u) 24) W := fun W => by
    have hal : Tryz.prog.arrayLen 148 = 24 := by simp [Program.arrayLen, Tryz.underlying148]
    rw [run_sliceAt_array_h W 148 ⟨w.heap.size, 0, none⟩ (by simp [Program.arrayLen, Program.elem, Tryz.underlying148]) .i64 (Lib.nDigits u : Int) (by omega) (by rw [hal]; omega)]
    go_simp
  have hH0 := holds_zero0 w 148 (Lib.nDigits u) (by omega)
  have hfmt := Tryz.internal_strconv_formatBase10 w.heap.size 0 24 u (Array.replicate (Lib.nDigits u) 0) (w.alloc (.cells Lib.zeros24 148)) hH0 (by rw [Array.size_replicate]; exact Lib.lt_pow_nDigits u) hu64 (by rw [Array.size_replicate]; omega)
  rw [Array.size_replicate] at hfmt
  have HH0 := Lib.hid hH0
  have HFM := Lib.hid hfmt
  clear hH0 hfmt
  have h100 : ¬ u < 100 := by omega
  go_enter Tryz.func95, Tryz.ntmps95
  go_wp2_with (first
    | (go_at_call 114; refine (Tryz.internal_strconv_numDigits u hu1 hu64 _ (Lib.tabIs_alloc htab _)).mono ?_; rintro e w' ⟨rfl, rfl⟩))
  go_at_call 115
  refine HFM.out.mono ?_
  rintro e w' ⟨rfl, k, v', dk, rfl, hF⟩
  have hcv : (convert 98 9 (.slice (some ⟨w.heap.size, 0, none⟩) (Lib.nDigits u) 24)).run Tryz.prog ((putRow (fun (b : UInt8) => Value.int .u8 (b.toNat : Int)) (w.alloc (.cells Lib.zeros24 148)) w.heap.size 0 dk).drewN k) = .ok (.string ⟨(Lib.decDigits u).toArray⟩) ((putRow (fun (b : UInt8) => Value.int .u8 (b.toNat : Int)) (w.alloc (.cells Lib.zeros24 148)) w.heap.size 0 dk).drewN k) := by
    have h := run_convert_bytes_back (P := Tryz.prog) ((putRow (fun (b : UInt8) => Value.int .u8 (b.toNat : Int)) (w.alloc (.cells Lib.zeros24 148)) w.heap.size 0 dk).drewN k) 98 9 5 ⟨w.heap.size, 0, none⟩ 24 (Lib.decDigits u) Tryz.underlying98 Tryz.underlying5 Tryz.underlying9 (fun j hj => by
      rw [Lib.row_is_numeral hF j hj, Lib.add_plain, World.cell?_drewN]
      exact cell?_putRow (fun (b : UInt8) => Value.int .u8 (b.toNat : Int)) _ w.heap.size 0 _ dk HH0.out (by rw [hF.size, Array.size_replicate]) j (by rw [hF.size]; rw [Lib.decDigits_length] at hj; exact hj))
    rw [Lib.decDigits_length] at h
    exact h
  go_wp2
  go_ret
  have e1 : ∃ os, (putRow (fun (b : UInt8) => Value.int .u8 (b.toNat : Int)) (w.alloc (.cells Lib.zeros24 148)) w.heap.size 0 dk).drewN k = grow (w.drewN k) os := by
    rw [alloc_eq_grow]
    obtain ⟨os', _, e⟩ := putRow_grow_new (fun (b : UInt8) => Value.int .u8 (b.toNat : Int)) w #[.cells Lib.zeros24 148] w.heap.size 0 dk (Nat.le_refl _)
    exact ⟨os', by rw [e]; rfl⟩
  obtain ⟨os, eo⟩ := e1
  exact ⟨rfl, by rw [eo]; exact below_grow _ _ _⟩

theorem fmt_any (u : Nat) (hu64 : u < 18446744073709551616) (w : World) (hG : Glob w) :
    Calls Tryz.prog 81 #[.int .u64 u, .int .i64 10] w fun e w' => e = .returned (.string ⟨(Lib.decDigits u).toArray⟩) ∧ Below w.heap.size w w' := by
  have h : Calls Tryz.prog 95 #[.int .u64 u, .int .i64 10] w fun e w' => e = .returned (.string ⟨(Lib.decDigits u).toArray⟩) ∧ Below w.heap.size w w' := by
    by_cases hu : u < 100
    · exact fmt_small u hu w
    · exact fmt_big u (by omega) hu64 w hG
  have H := Lib.hid h; clear h
  go_enter Tryz.func81, Tryz.ntmps81
  go_wp2_with (go_at_call 95; refine H.out.mono ?_; rintro e w' ⟨rfl, hb⟩)
  go_ret
  exact ⟨rfl, hb⟩

theorem dec_len (u : Nat) (hu64 : u < 18446744073709551616) : (Lib.decDigits u).length ≤ 20 := by
  rw [Lib.decDigits_length]
  by_cases h1 : 1 ≤ u
  · have := Lib.numDigits_eq u h1 hu64; split at this <;> omega
  · obtain rfl : u = 0 := by omega
    simp [Lib.nDigits_small]

set_option maxHeartbeats 800000 in
/-- digits.Text -/
theorem text_any (u : Nat) (wd : Int) (hu64 : u < 18446744073709551616) (h1 : -9223372036854775808 ≤ wd) (h2 : wd ≤ 9223372036854775807) (w : World) (hG : Glob w) :
    Calls Tryz.prog 72 #[.int .u64 u, .int .i64 wd] w fun e w' => e = .returned (.string ⟨(textL u wd).toArray⟩) ∧ Below w.heap.size w w' := by
  have hl := dec_len u hu64
  have hf := fmt_any u hu64 w hG
  have hr := fun c W => Tryz.strings_Repeat ⟨#[48]⟩ c W
  have HF := Lib.hid hf; clear hf
  have HR := Lib.hid hr; clear hr
  go_enter Tryz.func72, Tryz.ntmps72
  go_wp2_with (go_at_call 81; refine HF.out.mono ?_; rintro e w' ⟨rfl, hb⟩)
  obtain ⟨c, hc⟩ : ∃ c : Nat, max (min (max wd 0) 40 - ((Lib.decDigits u).length : Int)) 0 = c := ⟨(max (min (max wd 0) 40 - ((Lib.decDigits u).length : Int)) 0).toNat, by omega⟩
  have hc40 : c ≤ 40 := by omega
  have et : textL u wd = Lib.repeatL [48] c ++ Lib.decDigits u := by
    unfold textL
    rw [hc]
    congr 1
    rw [Int.toNat_natCast]
    clear hc hc40
    induction c with
    | zero => rfl
    | succ c ih => rw [List.replicate_succ, ih]; rfl
  have HT := Lib.hid et
  rw [hc]
  clear hc et
  refine (HR.out c _ (by omega) (by show 1 * c ≤ _; omega)).mono ?_
  rintro e w2 ⟨rfl, hb2⟩
  have hb3 := below_step hb hb2
  have hs : (⟨(Lib.repeatL [48] c).toArray⟩ : ByteArray).size + (⟨(Lib.decDigits u).toArray⟩ : ByteArray).size ≤ 9223372036854775807 := by
    show (Lib.repeatL [48] c).toArray.size + (Lib.decDigits u).toArray.size ≤ _
    simp [Lib.repeatL_length]
    omega
  go_wp2
  go_ret
  exact ⟨ret_str (by rw [HT.out, ByteArray.mk_append_mk]), hb3⟩
end Go.Proofs.YtiggnmhoececfaaGreatDoor

namespace Go.Proofs.YtiggnmhoececfaaGreatDoor
set_option linter.unusedVariables false
set_option linter.unusedSimpArgs false
open Go.RowKit

/-- What an iterator over a list does: J between two rounds, Jx where a round has said 'no more'; Kp is kept by a round; Mv is what the iterator does by itself. -/
def SeqM {α : Type} (n : Nat) (P : Program) (g : Nat) (lb : Array Value) (encs : α → Array Value) (Kp Mv : World → World → Prop) (S Sp : List α → Prop) (N : Nat) (w : World) : Prop :=
  ∀ (l : Nat) (J Jx : List α → World → Prop) (W : World), Below w.heap.size w W → (∀ s A B, J s A → Mv A B → J s B) → (∀ s A B, Jx s A → Mv A B → Jx s B) →
    (∀ pre x W1, J pre W1 → pre.length < N → YieldAt Fence.wide (n - 1) P l (encs x) W1 fun e W' =>
      (e = .returned (.bool true) ∧ J (pre ++ [x]) W' ∧ Kp W1 W') ∨ (e = .returned (.bool false) ∧ Jx (pre ++ [x]) W')) →
    J [] W →
    CallsIn Fence.wide n P g (#[.func (.yield l) #[] #[]] ++ lb) W fun e W' => (∃ v, e = .returned v) ∧ ((∃ xs, S xs ∧ J xs W') ∨ (∃ pre, Sp pre ∧ Jx pre W'))

/-- How a round's body may be left. -/
def roundM {α : Type} (B : Nat) (Kp : World → World → Prop) (I : List α → World → Prop) (Ix : Code → List α → World → Prop) (xs : List α) (W : World) : Exit → Act → World → Prop
  | .normal, _, W' => KeepsFrom B W W' ∧ Kp W W' ∧ I xs W'
  | .ret, _, W' => KeepsFrom B W W' ∧ Ix .ret xs W'
  | .exit id, _, W' => KeepsFrom B W W' ∧ Ix (.exit id) xs W'
  | .goto t, _, W' => KeepsFrom B W W' ∧ Ix (.goto t) xs W'
  | .panic _, _, _ => False
  | .outgrown, _, _ => False

variable {P : Program}

theorem range_m {α : Type} {n : Nat} {g : Operand} {ps : Array Tmp} {assign body : Code} {Q : Exit → Act → World → Prop} {a : Act} {w : World}
    (h1 : 1 ≤ n) {gf : Nat} {lb : Array Value} (hg : a.eval g = .func (.func gf) #[] lb) (eg : ∀ args w, (callFunc gf args).run P w = .ok (.enter gf args) w)
    {encs : α → Array Value} {Kp Mv : World → World → Prop} {S Sp : List α → Prop} {N : Nat} {w0 : World} (hseq : SeqM (n - 1) P gf lb encs Kp Mv S Sp N w0) (hb0 : Below w0.heap.size w0 w)
    (hKt : ∀ {A B C : World}, Kp A B → Kp B C → Kp A C) (hKb : ∀ (W : World) (l : Nat) (o o' : Obj), w.heap.size ≤ l → W.heap[l]? = some o → o.isCells = false → o.isWalk = false → Kp W (W.putObj l o'))
    (hMv : ∀ (A B : World), Mv A B → ∀ (k : Nat) (o : Obj), w.heap.size ≤ k → A.heap[k]? = some o → o.isCells = false → o.isWalk = false → B.heap[k]? = some o)
    (hps : ∀ x, (encs x).size = ps.size)
    (I : List α → World → Prop) (Ix : Code → List α → World → Prop) (hI : OwnFrom w.heap.size I) (hIx : ∀ c, OwnFrom w.heap.size (Ix c)) (hIm : ∀ s A B, I s A → Mv A B → I s B) (hIxm : ∀ c s A B, Ix c s A → Mv A B → Ix c s B) (h0 : I [] w)
    (Ax : α → Act → World → Prop) (hAx : ∀ x a', OwnFrom w.heap.size (fun (_ : Unit) W => Ax x a' W))
    (hassign : ∀ (l : Nat) (pre : List α) (x : α) (W : World) (K : Act → World → Prop), I pre W → (∀ a' W', KeepsFrom w.heap.size W W' → Kp W W' → I pre W' → Ax x a' W' → K a' W') →
      assign.wpIn (Fence.wide.inRound l) (n - 1 - 1) P (Exit.then K (fun _ _ _ => False)) { tmps := (ps.zip (encs x)).foldl (fun t (p, v) => t.setIfInBounds p v) a.tmps, defers := [] } W)
    (hbody : ∀ (l : Nat) (pre : List α) (x : α) (a' : Act) (W : World), w.heap.size ≤ l → (∃ r, W.heap[l]? = some (.loop r)) → I pre W → Ax x a' W → pre.length < N → body.wpIn (Fence.wide.inRound l) (n - 1 - 1) P (roundM w.heap.size Kp I Ix (pre ++ [x]) W) a' W)
    (hdone : ∀ (D : Nat) (xs : List α) (W : World), w.heap.size ≤ D → S xs → I xs W → W.heap[D]? = some (.deferred (some [])) → Q .normal { a with defers := { target := .collected D, args := #[] } :: a.defers } W)
    (hstop : ∀ (D : Nat) (c : Code) (pre : List α) (W : World), w.heap.size ≤ D → Sp pre → Ix c pre W → W.heap[D]? = some (.deferred (some [])) → c.wpIn Fence.wide n P Q { a with defers := { target := .collected D, args := #[] } :: a.defers } W) :
    (Code.rangeFunc g ps assign body).wpIn Fence.wide n P Q a w := by
  refine wpIn_rangeFunc ?_
  intro fn hfn
  show ∃ l mark w₁ d w₁' f args w₂, (Instr.enterLoop fn a.tmps ps assign body none).run P w = .ok (l, mark) w₁ ∧ _
  obtain ⟨rec, hrec⟩ : ∃ rec : LoopState → Option Code → Loop, rec = fun st pe => { state := st, pending := pe, fn, tmps := a.tmps, params := ps, assign, body, defers := w.heap.size } := ⟨_, rfl⟩
  obtain ⟨W1, hW1⟩ : ∃ W1, (w.alloc (.deferred (some []))).alloc (.loop (rec .ready none)) = W1 := ⟨_, rfl⟩
  have hL1 : W1.heap[w.heap.size + 1]? = some (.loop (rec .ready none)) := by
    rw [← hW1]; have := World.alloc_heap_new (w.alloc (.deferred (some []))) (.loop (rec .ready none)); rwa [World.size_alloc] at this
  have hK1 : W1.heap[w.heap.size]? = some (.deferred (some [])) := by
    rw [← hW1]; exact (Below.heap_alloc _ _ _ (by simp)).trans (World.alloc_heap_new w _)
  have hI1 : I [] W1 := by rw [← hW1]; exact hI.alloc _ (hI.alloc _ h0)
  have hb1 : Below w0.heap.size w0 W1 := by
    rw [← hW1]; exact hb0.trans ((((Below.refl _ w).alloc (Nat.le_refl _) _).alloc (by simp) _).mono hb0.size)
  refine ⟨w.heap.size + 1, [{ target := .collected w.heap.size, args := #[] }], W1, { target := .fn (.func gf) lb, args := #[.func (.yield (w.heap.size + 1)) #[] #[]] }, W1, gf,
    #[.func (.yield (w.heap.size + 1)) #[] #[]] ++ lb, W1, ?_, ?_, fun _ _ => trivial, ?_, fun _ => h1, ?_⟩
  · rw [← hW1, hrec]; exact run_enterLoop_outer _ _ _ _ _
  · simp only [resolve, hg]
    simp [go_sem]
  · simp [invoke, go_sem, eg]
  · refine (hseq (w.heap.size + 1)
      (fun pre W => I pre W ∧ W.heap[w.heap.size + 1]? = some (.loop (rec .ready none)) ∧ W.heap[w.heap.size]? = some (.deferred (some [])))
      (fun pre W => ∃ c, Ix c pre W ∧ W.heap[w.heap.size + 1]? = some (.loop (rec .done (some c))) ∧ W.heap[w.heap.size]? = some (.deferred (some [])))
      W1 hb1
      (fun s A B hs hm => ⟨hIm s A B hs.1 hm, hMv A B hm _ _ (by omega) hs.2.1 rfl rfl, hMv A B hm _ _ (Nat.le_refl _) hs.2.2 rfl rfl⟩)
      (fun s A B hs hm => by
        obtain ⟨c, hc, hl, hk⟩ := hs
        exact ⟨c, hIxm c s A B hc hm, hMv A B hm _ _ (by omega) hl rfl rfl, hMv A B hm _ _ (Nat.le_refl _) hk rfl rfl⟩)
      ?_ ⟨hI1, hL1, hK1⟩).mono ?_
    · rintro pre x W ⟨hi, hl, hk⟩ hlen
      have hy := run_yield (P := P) (args := encs x) hl (by rw [hrec]; exact hps x)
      rw [hrec] at hy
      refine ⟨fn, _, assign, body, hy, roundIn_of_wpIn hfn (hassign _ pre x W _ hi ?_)⟩
      clear hy
      intro a' W2 hkf hkp hi2 hax
      have hl2 := hkf.same _ _ (by omega) hl rfl
      have hk2 := hkf.same _ _ (Nat.le_refl _) hk rfl
      refine ⟨_, run_beginRound hl2 (by rw [hrec]), ?_⟩
      have hl3 : (W2.putObj (w.heap.size + 1) (.loop { rec .ready none with state := .busy })).heap[w.heap.size + 1]? = some (.loop { rec .ready none with state := .busy }) := World.putObj_heap_same (Array.getElem?_eq_some_iff.1 hl2).1
      have hk3 : (W2.putObj (w.heap.size + 1) (.loop { rec .ready none with state := .busy })).heap[w.heap.size]? = some (.deferred (some [])) := (World.putObj_heap_other (by omega)).trans hk2
      have hkp3 : Kp W (W2.putObj (w.heap.size + 1) (.loop { rec .ready none with state := .busy })) := hKt hkp (hKb _ _ _ _ (by omega) hl2 rfl rfl)
      refine wpIn_mono (hbody _ pre x a' _ (by omega) ⟨_, hl3⟩ (hI.putObj _ hi2 (by omega) hl2 rfl) ((hAx x a').putObj (s := ()) _ hax (by omega) hl2 rfl) hlen) ?_
      have fin : ∀ (jump : Option Code) (W3 : World), KeepsFrom w.heap.size (W2.putObj (w.heap.size + 1) (.loop { rec .ready none with state := .busy })) W3 →
          (Instr.endRound (w.heap.size + 1) jump).run P W3 = .ok (.bool jump.isNone) (W3.putObj (w.heap.size + 1) (.loop (rec (if jump.isNone then .ready else .done) jump))) ∧
          W3.heap[w.heap.size + 1]? = some (.loop { rec .ready none with state := .busy }) ∧
          (W3.putObj (w.heap.size + 1) (.loop (rec (if jump.isNone then .ready else .done) jump))).heap[w.heap.size + 1]? = some (.loop (rec (if jump.isNone then .ready else .done) jump)) ∧
          (W3.putObj (w.heap.size + 1) (.loop (rec (if jump.isNone then .ready else .done) jump))).heap[w.heap.size]? = some (.deferred (some [])) := fun jump W3 hkw => by
        have hlw := hkw.same _ _ (by omega) hl3 rfl
        have := run_endRound (P := P) jump hlw
        rw [hrec] at this ⊢
        exact ⟨this, by rw [hrec] at hlw; exact hlw, World.putObj_heap_same (Array.getElem?_eq_some_iff.1 hlw).1, (World.putObj_heap_other (by omega)).trans (hkw.same _ _ (Nat.le_refl _) hk3 rfl)⟩
      rintro e a3 W3 hp
      cases e with
      | normal =>
        obtain ⟨hkw, hkpw, hiw⟩ := hp
        obtain ⟨hr, hlw, hl4, hk4⟩ := fin none W3 hkw
        exact ⟨_, _, hr, .inl ⟨rfl, ⟨hI.putObj _ hiw (by omega) hlw rfl, hl4, hk4⟩, hKt (hKt hkp3 hkpw) (hKb _ _ _ _ (by omega) hlw rfl rfl)⟩⟩
      | ret =>
        obtain ⟨hkw, hiw⟩ := hp
        obtain ⟨hr, hlw, hl4, hk4⟩ := fin (some .ret) W3 hkw
        exact ⟨_, _, hr, .inr ⟨rfl, .ret, (hIx _).putObj _ hiw (by omega) hlw rfl, hl4, hk4⟩⟩
      | exit id =>
        obtain ⟨hkw, hiw⟩ := hp
        obtain ⟨hr, hlw, hl4, hk4⟩ := fin (some (.exit id)) W3 hkw
        exact ⟨_, _, hr, .inr ⟨rfl, .exit id, (hIx _).putObj _ hiw (by omega) hlw rfl, hl4, hk4⟩⟩
      | goto t =>
        obtain ⟨hkw, hiw⟩ := hp
        obtain ⟨hr, hlw, hl4, hk4⟩ := fin (some (.goto t)) W3 hkw
        exact ⟨_, _, hr, .inr ⟨rfl, .goto t, (hIx _).putObj _ hiw (by omega) hlw rfl, hl4, hk4⟩⟩
      | panic ch => exact hp.elim
      | outgrown => exact hp.elim
    · rintro e W2 ⟨⟨v, rfl⟩, (⟨xs, hS, hi, hl, hk⟩ | ⟨pre, hSp, c, hi, hl, hk⟩)⟩
      · exact ⟨none, _, by have := run_endLoop (P := P) hl (by rw [hrec]; simp); rw [hrec] at this; exact this, hdone _ xs _ (Nat.le_refl _) hS (hI.putObj _ hi (by omega) hl rfl) ((World.putObj_heap_other (by omega)).trans hk)⟩
      · exact ⟨some c, _, by have := run_endLoop (P := P) hl (by rw [hrec]; simp); rw [hrec] at this; exact this, hstop _ c pre _ (Nat.le_refl _) hSp ((hIx c).putObj _ hi (by omega) hl rfl) ((World.putObj_heap_other (by omega)).trans hk)⟩

end Go.Proofs.YtiggnmhoececfaaGreatDoor

namespace Go.Proofs.YtiggnmhoececfaaGreatDoor
set_option linter.unusedVariables false
set_option linter.unusedSimpArgs false
open Go.RowKit Go.Shelf Go.Proofs.YtiggnmhoececfaaGreatDoorW.PrintWords
attribute [local go_sem] Oper.semAt_some

abbrev Wt := { n : Nat // n ≤ 9 }
def wtEnc (x : Wt) : Array Value := #[.int .i64 (x.1 : Nat)]
def wv (n : Nat) (dbl : Bool) : Nat := if 10 ≤ (if dbl then n * 2 else n) then (if dbl then n * 2 else n) - 9 else (if dbl then n * 2 else n)
theorem wv_le (n : Nat) (dbl : Bool) (h : n ≤ 9) : wv n dbl ≤ 9 := by unfold wv; cases dbl <;> simp <;> split <;> omega
/-- The weight of the digit that stands k from the end. -/
def wtAt (l : Bytes) (dbl : Bool) (k : Nat) : Nat := wv ((l.getD (l.length - 1 - k) 48).toNat - 48) (if k % 2 = 0 then dbl else !dbl)
def wts (l : Bytes) (dbl : Bool) : List Nat := (List.range l.length).map (wtAt l dbl)

theorem dig_at {l : Bytes} (h : isDig l = true) (i : Nat) (hi : i < l.length) : 48 ≤ (l[i]).toNat ∧ (l[i]).toNat ≤ 57 := by
  unfold isDig at h
  rw [List.all_eq_true] at h
  have := h l[i] (List.getElem_mem hi)
  simp only [Bool.and_eq_true, decide_eq_true_eq, UInt8.le_iff_toNat_le] at this
  exact this

def wMv (Db : Nat) (A B : World) : Prop := Below A.heap.size A B ∨ ∃ v, B = A.setCell ⟨Db, 0, none⟩ v
def wKp (Sb Db : Nat) (A B : World) : Prop := B.heap[Sb]? = A.heap[Sb]? ∧ B.heap[Db]? = A.heap[Db]?

set_option maxRecDepth 100000 in
set_option maxHeartbeats 2000000 in
theorem weights1_in (l Sb Db : Nat) (hne : Sb ≠ Db) (s : ByteArray) (dbl : Bool) (hs : s.size ≤ 1000000) (hd : isDig s.data.toList = true) (J Jx : List Wt → World → Prop)
    (hY : ∀ pre x W, J pre W → pre.length < s.size → YieldAt Fence.wide 8 Tryz.prog l (wtEnc x) W fun e W' =>
      (e = .returned (.bool true) ∧ J (pre ++ [x]) W' ∧ wKp Sb Db W W') ∨ (e = .returned (.bool false) ∧ Jx (pre ++ [x]) W'))
    (hJ : ∀ pre (A B : World), J pre A → wMv Db A B → J pre B)
    (W : World) (hS : W.heap[Sb]? = some (.cells #[.string s] 9 (0, 0))) (hD : W.heap[Db]? = some (.cells #[.bool dbl] 4 (0, 0))) (h0 : J [] W) :
    CallsIn Fence.wide 9 Tryz.prog 122 #[.func (.yield l) #[] #[], .pointer (some ⟨Sb, 0, none⟩), .pointer (some ⟨Db, 0, none⟩)] W fun e W' => (∃ v, e = .returned v) ∧
      ((∃ ys : List Wt, ys.map (·.1) = wts s.data.toList dbl ∧ J ys W') ∨ (∃ pre : List Wt, Jx pre W')) := by
  have hsz : s.data.toList.length = s.size := by simp
  refine callsIn_of_wp Tryz.func122 rfl trivial ?_ rfl
  simp only [Tryz.ntmps122, List.size_toArray, List.length_cons, List.length_nil, Nat.reduceAdd, Nat.reduceSub, Array.replicate_succ, Array.replicate_zero, List.push_toArray, List.append_toArray, List.nil_append, List.cons_append]
  have hc0 := blk_cell hS 0
  gi_wp2
  gi_loopw [4] (fun i wr => ∃ (k : Nat) (ys : List Wt), k ≤ s.size ∧ i = .int .i64 ((s.size : Int) - 1 - k) ∧ ys.length = k ∧ ys.map (·.1) = (wts s.data.toList dbl).take k ∧ J ys wr ∧ wr.heap[Sb]? = some (.cells #[.string s] 9 (0, 0)) ∧ wr.heap[Db]? = some (.cells #[.bool (if k % 2 = 0 then dbl else !dbl)] 4 (0, 0)))
    (fun i _ => (intOf i + 1).toNat)
  case atStart => exact ⟨0, [], by omega, by simp, rfl, rfl, h0, hS, hD⟩
  case round =>
    obtain ⟨k, ys, hk, rfl, hyl, hys, hJs, hS', hD'⟩ := hrel
    by_cases hlt : k < s.size
    · obtain ⟨m, hm⟩ : ∃ m : Nat, (s.size : Int) - 1 - k = m := ⟨s.size - 1 - k, by omega⟩
      have hml : m < s.size := by omega
      have hmk : m = s.data.toList.length - 1 - k := by rw [hsz]; omega
      have hdg := dig_at hd m (by rw [hsz]; exact hml)
      have hwt : wtAt s.data.toList dbl k = wv (s[m].toNat - 48) (if k % 2 = 0 then dbl else !dbl) := by
        unfold wtAt
        rw [← hmk, List.getD_eq_getElem?_getD, List.getElem?_eq_getElem (by rw [hsz]; exact hml)]
        rfl
      have hdg' : 48 ≤ s[m].toNat ∧ s[m].toNat ≤ 57 := hdg
      obtain ⟨c, hc⟩ : ∃ c, s[m].toNat = c := ⟨_, rfl⟩
      rw [hc] at hwt hdg'
      obtain ⟨b, hb⟩ : ∃ b, (if k % 2 = 0 then dbl else !dbl) = b := ⟨_, rfl⟩
      rw [hb] at hwt hD'
      have hnext : (if (k + 1) % 2 = 0 then dbl else !dbl) = !b := by rw [← hb]; by_cases p : k % 2 = 0 <;> simp [p] <;> omega
      rw [hm]
      have hS0 := blk_cell hS' 0
      have hD0 := blk_cell hD' 0
      have hDf := blk_frozen hD' 0
      have hcI : ((s[m].toNat : Nat) : Int) = (c : Int) := by rw [hc]
      have HN := Lib.hid hnext
      have HW := Lib.hid hwt
      have HY := Lib.hid hys
      have HM := Lib.hid hm
      clear hnext hwt hys hm hc hb hdg hmk hS hD hd hsz
      obtain ⟨hc1, hc2⟩ := hdg'
      cases b with
      | true =>
        by_cases h10 : 10 ≤ (c - 48) * 2
        · have h10' : decide ((10 : Int) ≤ ((c : Int) - 48) * 2) = true := by simp; omega
          obtain ⟨x, hx⟩ : ∃ x : Nat, ((c : Int) - 48) * 2 - 9 = (x : Int) := ⟨(((c : Int) - 48) * 2 - 9).toNat, by omega⟩
          have hxv : wv (c - 48) true = x := by simp only [wv, if_true]; rw [if_pos h10]; omega
          have hx9 : x ≤ 9 := by omega
          have hxt : (ys ++ [(⟨x, hx9⟩ : Wt)]).map (·.1) = (wts s.data.toList dbl).take (k + 1) := by
            rw [List.map_append, HY.out, List.take_succ_eq_append_getElem (by simp [wts]; exact hlt)]
            congr 1
            simp [wts, HW.out, hxv]
          obtain ⟨fn, tmps, assign, body, hy, hR⟩ := hY ys ⟨x, hx9⟩ wr hJs (by omega)
          dsimp only [wtEnc] at hy
          have HXT := Lib.hid hxt
          clear hxt hxv
          gi_wp2
          refine hR.mono ?_
          rintro e W3 (⟨rfl, hJ3, hk3⟩ | ⟨rfl, hJx3⟩)
          · have hD3 := hk3.2.trans hD'
            have hS3 := hk3.1.trans hS'
            have hD4 := blk_cell hD3 0
            have hD5 := blk_frozen hD3 0
            gi_wp2
            go_roundw
            case rel =>
              refine ⟨k + 1, ys ++ [⟨x, hx9⟩], by omega, ?_, by simp [hyl], HXT.out, hJ _ _ _ hJ3 (.inr ⟨_, rfl⟩), blk_far hS3 hne _, ?_⟩
              · rw [show (m : Int) - 1 = (s.size : Int) - 1 - ((k + 1 : Nat) : Int) by have := HM.out; omega]
              · rw [HN.out]; exact blk_set hD3 0 _
            case measure => simp [intOf]
          · gi_wp2
            refine bodyPost_ret (results_none rfl _ _ _) rfl ?_
            exact ⟨⟨_, rfl⟩, .inr ⟨_, hJx3⟩⟩
        · have h10' : decide ((10 : Int) ≤ ((c : Int) - 48) * 2) = false := by simp; omega
          obtain ⟨x, hx⟩ : ∃ x : Nat, ((c : Int) - 48) * 2 = (x : Int) := ⟨(((c : Int) - 48) * 2).toNat, by omega⟩
          have hxv : wv (c - 48) true = x := by simp only [wv, if_true]; rw [if_neg h10]; omega
          have hx9 : x ≤ 9 := by omega
          have hxt : (ys ++ [(⟨x, hx9⟩ : Wt)]).map (·.1) = (wts s.data.toList dbl).take (k + 1) := by
            rw [List.map_append, HY.out, List.take_succ_eq_append_getElem (by simp [wts]; exact hlt)]
            congr 1
            simp [wts, HW.out, hxv]
          obtain ⟨fn, tmps, assign, body, hy, hR⟩ := hY ys ⟨x, hx9⟩ wr hJs (by omega)
          dsimp only [wtEnc] at hy
          have HXT := Lib.hid hxt
          clear hxt hxv
          gi_wp2
          refine hR.mono ?_
          rintro e W3 (⟨rfl, hJ3, hk3⟩ | ⟨rfl, hJx3⟩)
          · have hD3 := hk3.2.trans hD'
            have hS3 := hk3.1.trans hS'
            have hD4 := blk_cell hD3 0
            have hD5 := blk_frozen hD3 0
            gi_wp2
            go_roundw
            case rel =>
              refine ⟨k + 1, ys ++ [⟨x, hx9⟩], by omega, ?_, by simp [hyl], HXT.out, hJ _ _ _ hJ3 (.inr ⟨_, rfl⟩), blk_far hS3 hne _, ?_⟩
              · rw [show (m : Int) - 1 = (s.size : Int) - 1 - ((k + 1 : Nat) : Int) by have := HM.out; omega]
              · rw [HN.out]; exact blk_set hD3 0 _
            case measure => simp [intOf]
          · gi_wp2
            refine bodyPost_ret (results_none rfl _ _ _) rfl ?_
            exact ⟨⟨_, rfl⟩, .inr ⟨_, hJx3⟩⟩
      | false =>
        have h10' : decide ((10 : Int) ≤ ((c : Int) - 48)) = false := by simp; omega
        obtain ⟨x, hx⟩ : ∃ x : Nat, (c : Int) - 48 = (x : Int) := ⟨((c : Int) - 48).toNat, by omega⟩
        have hxv : wv (c - 48) false = x := by simp only [wv, Bool.false_eq_true, if_false]; rw [if_neg (by omega)]; omega
        have hx9 : x ≤ 9 := by omega
        have hxt : (ys ++ [(⟨x, hx9⟩ : Wt)]).map (·.1) = (wts s.data.toList dbl).take (k + 1) := by
          rw [List.map_append, HY.out, List.take_succ_eq_append_getElem (by simp [wts]; exact hlt)]
          congr 1
          simp [wts, HW.out, hxv]
        obtain ⟨fn, tmps, assign, body, hy, hR⟩ := hY ys ⟨x, hx9⟩ wr hJs (by omega)
        dsimp only [wtEnc] at hy
        have HXT := Lib.hid hxt
        clear hxt hxv
        gi_wp2
        refine hR.mono ?_
        rintro e W3 (⟨rfl, hJ3, hk3⟩ | ⟨rfl, hJx3⟩)
        · have hD3 := hk3.2.trans hD'
          have hS3 := hk3.1.trans hS'
          have hD4 := blk_cell hD3 0
          have hD5 := blk_frozen hD3 0
          gi_wp2
          go_roundw
          case rel =>
            refine ⟨k + 1, ys ++ [⟨x, hx9⟩], by omega, ?_, by simp [hyl], HXT.out, hJ _ _ _ hJ3 (.inr ⟨_, rfl⟩), blk_far hS3 hne _, ?_⟩
            · rw [show (m : Int) - 1 = (s.size : Int) - 1 - ((k + 1 : Nat) : Int) by have := HM.out; omega]
            · rw [HN.out]; exact blk_set hD3 0 _
          case measure => simp [intOf]
        · gi_wp2
          refine bodyPost_ret (results_none rfl _ _ _) rfl ?_
          exact ⟨⟨_, rfl⟩, .inr ⟨_, hJx3⟩⟩
    · obtain rfl : k = s.size := by omega
      have hys' : ys.map (·.1) = wts s.data.toList dbl := by rw [hys, List.take_of_length_le (by simp [wts])]
      have HY := Lib.hid hys'
      clear hys hys' hsz hD' hS' hS hD hc0
      have hneg : ¬ (0 : Int) ≤ (s.size : Int) - 1 - (s.size : Int) := by omega
      gi_wp2
      go_end0
      exact ⟨⟨_, rfl⟩, .inl ⟨_, HY.out, hJs⟩⟩

theorem seq_weights (Sb Db : Nat) (hne : Sb ≠ Db) (s : ByteArray) (dbl : Bool) (hs : s.size ≤ 1000000) (hd : isDig s.data.toList = true) (w0 : World) (hS : w0.heap[Sb]? = some (.cells #[.string s] 9 (0, 0))) (hD : w0.heap[Db]? = some (.cells #[.bool dbl] 4 (0, 0))) :
    SeqM 9 Tryz.prog 122 #[.pointer (some ⟨Sb, 0, none⟩), .pointer (some ⟨Db, 0, none⟩)] wtEnc (wKp Sb Db) (wMv Db) (fun ys => ys.map (·.1) = wts s.data.toList dbl) (fun _ => True) s.size w0 := by
  intro l J Jx W hW hJ _ hY h0
  refine (weights1_in l Sb Db hne s dbl hs hd J Jx hY hJ W ((hW.block Sb (blk_lt hS)).trans hS) ((hW.block Db (blk_lt hD)).trans hD) h0).mono ?_
  rintro e W' ⟨hv, ⟨ys, h1, h2⟩ | ⟨pre, h1⟩⟩
  · exact ⟨hv, .inl ⟨ys, h1, h2⟩⟩
  · exact ⟨hv, .inr ⟨pre, trivial, h1⟩⟩

theorem sum_le (l : List Wt) : (l.map (·.1)).sum ≤ 9 * l.length := by
  induction l with
  | nil => simp
  | cons x l ih => have := x.2; simp only [List.map_cons, List.sum_cons, List.length_cons]; omega

theorem ownFrom_blk' {β : Type} (B k : Nat) (f : β → Array Value) (T : TypeId) : OwnFrom B (fun s W => W.heap[k]? = some (.cells (f s) T (0, 0))) := fun s A C row hs hg hr =>
  (hg.block k (blk_lt hs) (fun e => by obtain ⟨_, o, ho, hc⟩ := hr k e.symm; rw [hs] at ho; cases ho; cases hc)).trans hs

set_option maxRecDepth 100000 in
set_option maxHeartbeats 2000000 in
/-- digits.sum, of a text's weights -/
theorem sum_weights (Sb Db : Nat) (hne : Sb ≠ Db) (s : ByteArray) (dbl : Bool) (hs : s.size ≤ 1000000) (hd : isDig s.data.toList = true) (w : World) (hS : w.heap[Sb]? = some (.cells #[.string s] 9 (0, 0))) (hD : w.heap[Db]? = some (.cells #[.bool dbl] 4 (0, 0))) (n₀ : Nat) (hn₀ : n₀ ≤ Db) (hn1 : n₀ ≤ w.heap.size) :
    Calls Tryz.prog 101 #[.func (.func 122) #[] #[.pointer (some ⟨Sb, 0, none⟩), .pointer (some ⟨Db, 0, none⟩)]] w fun e w' => e = .returned (.int .i64 ((wts s.data.toList dbl).sum : Nat)) ∧ Below n₀ w w' := by
  refine (callsIn_wide (n := 10)).1 ?_
  refine callsIn_of_wp_marks Tryz.func101 rfl trivial ?_ rfl
  simp only [Tryz.ntmps101, List.size_toArray, List.length_cons, List.length_nil, Nat.reduceAdd, Nat.reduceSub, Array.replicate_succ, Array.replicate_zero, List.push_toArray, List.append_toArray, List.nil_append, List.cons_append]
  gi_wp2
  have hDl := blk_lt hD
  have hSl := blk_lt hS
  have hseq := seq_weights Sb Db hne s dbl hs hd (w.alloc (.cells #[.int .i64 0] 3)) (blk_alloc hS _) (blk_alloc hD _)
  refine range_m (by omega) (gf := 122) (lb := #[.pointer (some ⟨Sb, 0, none⟩), .pointer (some ⟨Db, 0, none⟩)]) rfl (enters_of Tryz.func122 (by kernel_rfl) rfl)
    hseq (Below.refl _ _) (fun h k => ⟨k.1.trans h.1, k.2.trans h.2⟩) (fun W l o o' hl ho _ _ => by rw [World.size_alloc] at hl; exact ⟨World.putObj_heap_other (by omega), World.putObj_heap_other (by omega)⟩)
    (fun A B h k o hk ho hc _ => by
      rcases h with h | ⟨v, rfl⟩
      · exact (h.block k (Array.getElem?_eq_some_iff.1 ho).1).trans ho
      · rw [World.size_alloc] at hk
        exact (Below.heap_setCell _ _ _ _ (by show k ≠ Db; omega)).trans ho)
    (fun _ => rfl)
    (fun pre W => W.heap[w.heap.size]? = some (.cells #[.int .i64 ((pre.map (·.1)).sum : Nat)] 3 (0, 0)) ∧ Below n₀ w W ∧ (w.alloc (.cells #[.int .i64 0] 3)).heap.size ≤ W.heap.size)
    (fun _ _ _ => False)
    (OwnFrom.and (ownFrom_blk' _ _ _ _) (OwnFrom.and (ownFrom_below hn1 (by rw [World.size_alloc]; omega)) (fun s A B row hs hg hr => Nat.le_trans hs hg.size)))
    (fun _ _ _ _ _ hs _ _ => hs)
    (fun s A B hs h => by
      obtain ⟨i1, i2, i3⟩ := hs
      rcases h with h | ⟨v, rfl⟩
      · exact ⟨blk_below i1 h, i2.trans (h.mono (Nat.le_trans hn1 i2.size)), Nat.le_trans i3 h.size⟩
      · exact ⟨blk_far i1 (by show w.heap.size ≠ Db; omega) _, i2.setCell (p := ⟨Db, 0, none⟩) hn₀ _, by simpa [World.setCell] using i3⟩)
    (fun _ _ _ _ hs _ => hs)
    ⟨blk_new _ _, (Below.refl n₀ w).alloc hn1 _, Nat.le_refl _⟩
    (fun x a' W => a' = { tmps := #[.func (.func 122) #[] #[.pointer (some ⟨Sb, 0, none⟩), .pointer (some ⟨Db, 0, none⟩)], undef, .int .i64 0, .pointer (some ⟨w.heap.size, 0, none⟩), .int .i64 (x.1 : Nat), .func (.func 122) #[] #[.pointer (some ⟨Sb, 0, none⟩), .pointer (some ⟨Db, 0, none⟩)], .int .i64 (x.1 : Nat), undef, undef, undef, undef], defers := [] })
    (fun x a' s A B row hs hg hr => hs)
    ?assign ?body ?done ?stop
  case assign =>
    rintro l pre x W K hI hK
    rw [show wtEnc x = #[.int .i64 (x.1 : Nat)] from rfl]
    gi_wp2
    exact hK _ _ (KeepsFrom.refl _ _) ⟨rfl, rfl⟩ hI rfl
  case body =>
    rintro l pre x a' W hl ⟨r, hr⟩ ⟨i1, i2, i3⟩ rfl hlt
    have hsum := sum_le pre
    have hx := x.2
    obtain ⟨t, ht⟩ : ∃ t, (pre.map (·.1)).sum = t := ⟨_, rfl⟩
    rw [ht] at i1 hsum
    have c1 := blk_cell i1 0
    have f1 := blk_frozen i1 0
    have HT := Lib.hid ht
    have hts : t + x.1 ≤ 10000000 := by omega
    clear ht hr hseq
    gi_wp2
    rw [World.size_alloc] at i3
    refine ⟨((KeepsOthers.setCell _ _ _).from _), ⟨Below.heap_setCell _ _ _ _ (by show Sb ≠ w.heap.size; omega), Below.heap_setCell _ _ _ _ (by show Db ≠ w.heap.size; omega)⟩, ?_, i2.setCell (p := ⟨w.heap.size, 0, none⟩) hn1 _, by rw [World.size_alloc]; simpa [World.setCell] using i3⟩
    have := blk_set i1 0 (.int .i64 ((t : Int) + (x.1 : Nat)))
    rw [List.map_append, List.sum_append, HT.out]
    simpa using this
  case done =>
    rintro D ys W hD hys ⟨i1, i2, i3⟩ hK
    rw [hys] at i1
    have c1 := blk_cell i1 0
    clear hys i1 hseq
    gi_wp2
    refine ⟨by simp, .inl ⟨_, _, rfl, run_takeDeferred hK, ?_⟩⟩
    refine ⟨_, results_tmp rfl _ _ _, rfl, ?_⟩
    rw [World.size_alloc] at hD
    exact i2.trans (belowK_b (w := w) hn1 W D _ _ (by omega) hK rfl rfl)
  case stop =>
    rintro D c pre W _ _ h _
    exact h.elim

end Go.Proofs.YtiggnmhoececfaaGreatDoor

namespace Go.Proofs.YtiggnmhoececfaaGreatDoor
set_option linter.unusedVariables false
set_option linter.unusedSimpArgs false
open Go.RowKit Go.Proofs.YtiggnmhoececfaaGreatDoorW.PrintWords

def luhn (l : Bytes) : Bool := isNum l && ((wts l false).sum % 10 == 0)

theorem weights_any (s : ByteArray) (dbl : Bool) (w : World) :
    Calls Tryz.prog 102 #[.string s, .bool dbl] w fun e w' => e = .returned (.func (.func 122) #[] #[.pointer (some ⟨w.heap.size, 0, none⟩), .pointer (some ⟨w.heap.size + 1, 0, none⟩)]) ∧ w' = allocs w [.cells #[.string s] 9, .cells #[.bool dbl] 4] := by
  go_enter Tryz.func102, Tryz.ntmps102
  go_wp2
  go_ret
  exact ⟨rfl, rfl⟩

set_option maxHeartbeats 800000 in
/-- digits.Luhn -/
theorem luhn_any (s : ByteArray) (hs : s.size ≤ 1000000) (w : World) :
    Calls Tryz.prog 88 #[.string s] w fun e w' => e = .returned (.bool (luhn s.data.toList)) ∧ Below w.heap.size w w' := by
  have h1 := is_any s w
  cases h : isNum s.data.toList with
  | false =>
    have hv : luhn s.data.toList = false := by unfold luhn; rw [h]; rfl
    rw [hv]; rw [h] at h1
    have H1 := Lib.hid h1
    clear h1 h hv
    go_enter Tryz.func88, Tryz.ntmps88
    go_wp2_with (go_at_call 37; go_must (refine H1.out.mono ?_); rintro e w1 ⟨rfl, hb⟩)
    go_ret
    exact ⟨rfl, hb⟩
  | true =>
    have hd : isDig s.data.toList = true := by unfold isNum at h; simp only [Bool.and_eq_true] at h; exact h.1
    have hv : luhn s.data.toList = ((wts s.data.toList false).sum % 10 == 0) := by unfold luhn; rw [h]; rfl
    have hle : (wts s.data.toList false).sum ≤ 10000000 := by
      have hw : ∀ (l : List Nat), (∀ x, x ∈ l → x ≤ 9) → l.sum ≤ 9 * l.length := by
        intro l
        induction l with
        | nil => simp
        | cons x l ih =>
          intro hx
          have := ih (fun y hy => hx y (by simp [hy]))
          have := hx x (by simp)
          simp only [List.sum_cons, List.length_cons]; omega
      have := hw (wts s.data.toList false) (by
        intro x hx
        simp only [wts, List.mem_map, List.mem_range] at hx
        obtain ⟨k, hk, rfl⟩ := hx
        unfold wtAt
        refine wv_le _ _ ?_
        have hg := dig_at hd (s.data.toList.length - 1 - k) (by omega)
        rw [List.getD_eq_getElem?_getD, List.getElem?_eq_getElem (by omega)]
        simp only [Option.getD_some]
        omega)
      have h2 : (wts s.data.toList false).length = s.size := by simp [wts]
      omega
    rw [h] at h1
    have hsum := fun (w1 : World) (hb : Below w.heap.size w w1) => sum_weights w1.heap.size (w1.heap.size + 1) (by omega) s false hs hd (allocs w1 [.cells #[.string s] 9, .cells #[.bool false] 4]) (allocs_get w1 _ 0 _ rfl) (allocs_get w1 _ 1 _ rfl) w1.heap.size (by omega) (by rw [allocs_size]; omega)
    obtain ⟨t, ht⟩ : ∃ t, (wts s.data.toList false).sum = t := ⟨_, rfl⟩
    rw [ht] at hle hv hsum
    have hmod : (IntKind.i64.wrap ((t : Int).tmod 10)) = ((t % 10 : Nat) : Int) := by
      rw [Int.tmod_eq_emod_of_nonneg (by omega)]; simp [IntKind.wrap, IntKind.bits, IntKind.signed]; omega
    have H1 := Lib.hid h1
    have HV := Lib.hid hv
    have HS := Lib.hid hsum
    clear h1 hv hsum h hd ht
    go_enter Tryz.func88, Tryz.ntmps88
    go_wp2_with (first
      | (go_at_call 37; go_must (refine H1.out.mono ?_); rintro e w1 ⟨rfl, hb⟩)
      | (go_at_call 102; go_must (refine (weights_any _ _ _).mono ?_); rintro e w2 ⟨rfl, rfl⟩)
      | (go_at_call 101; go_must (refine (HS.out w1 hb).mono ?_); rintro e w3 ⟨rfl, hb3⟩; have hb4 := below_step hb ((allocs_below w1 _).trans hb3)))
    go_ret
    refine ⟨ret_bool ?_, hb4⟩
    rw [HV.out]
    rw [Bool.eq_iff_iff, beq_iff_eq, beq_iff_eq]; omega

/-- digits.Card: what is wrong with a card's number. -/
def cardE (l : Bytes) : Int := if isNum l = false then 4 else if l.length < 13 then 3 else if 19 < l.length then 5 else if luhn l = false then 25 else 0

set_option maxHeartbeats 800000 in
/-- digits.Card -/
theorem card_any (s : ByteArray) (hs : s.size ≤ 1000000) (w : World) :
    Calls Tryz.prog 77 #[.string s] w fun e w' => e = .returned (.int .i64 (cardE s.data.toList)) ∧ Below w.heap.size w w' := by
  have hsz : s.data.toList.length = s.size := by simp
  have h1 := is_any s w
  have h2 := fun w1 => luhn_any s hs w1
  cases h : isNum s.data.toList with
  | false =>
    have hv : cardE s.data.toList = 4 := by unfold cardE; rw [if_pos h]
    rw [hv]; rw [h] at h1
    have H1 := Lib.hid h1
    clear h1 h hv h2 hsz
    go_enter Tryz.func77, Tryz.ntmps77
    go_wp2_with (go_at_call 37; go_must (refine H1.out.mono ?_); rintro e w1 ⟨rfl, hb⟩)
    go_ret
    exact ⟨rfl, hb⟩
  | true =>
    rw [h] at h1
    by_cases h13 : s.size < 13
    · have hv : cardE s.data.toList = 3 := by unfold cardE; rw [if_neg (by rw [h]; decide), if_pos (by omega)]
      rw [hv]
      have H1 := Lib.hid h1
      clear h1 h hv h2 hsz
      have h13' : decide ((s.size : Int) < 13) = true := by simp; omega
      go_enter Tryz.func77, Tryz.ntmps77
      go_wp2_with (go_at_call 37; go_must (refine H1.out.mono ?_); rintro e w1 ⟨rfl, hb⟩)
      go_ret
      exact ⟨rfl, hb⟩
    · have h13' : decide ((s.size : Int) < 13) = false := by simp; omega
      by_cases h19 : 19 < s.size
      · have hv : cardE s.data.toList = 5 := by unfold cardE; rw [if_neg (by rw [h]; decide), if_neg (by omega), if_pos (by omega)]
        rw [hv]
        have H1 := Lib.hid h1
        clear h1 h hv h2 hsz
        have h19' : decide ((19 : Int) < (s.size : Int)) = true := by simp; omega
        go_enter Tryz.func77, Tryz.ntmps77
        go_wp2_with (go_at_call 37; go_must (refine H1.out.mono ?_); rintro e w1 ⟨rfl, hb⟩)
        go_ret
        exact ⟨rfl, hb⟩
      · have h19' : decide ((19 : Int) < (s.size : Int)) = false := by simp; omega
        cases hl : luhn s.data.toList with
        | false =>
          have hv : cardE s.data.toList = 25 := by unfold cardE; rw [if_neg (by rw [h]; decide), if_neg (by omega), if_neg (by omega), if_pos hl]
          rw [hv]; rw [hl] at h2
          have H1 := Lib.hid h1
          have H2 := Lib.hid h2
          clear h1 h hv h2 hsz hl
          go_enter Tryz.func77, Tryz.ntmps77
          go_wp2_with (first | (go_at_call 37; go_must (refine H1.out.mono ?_); rintro e w1 ⟨rfl, hb⟩) | (go_at_call 88; go_must (refine (H2.out _).mono ?_); rintro e w2 ⟨rfl, hb2⟩; have hb3 := below_step hb hb2))
          go_ret
          exact ⟨rfl, hb3⟩
        | true =>
          have hv : cardE s.data.toList = 0 := by unfold cardE; rw [if_neg (by rw [h]; decide), if_neg (by omega), if_neg (by omega), if_neg (by rw [hl]; decide)]
          rw [hv]; rw [hl] at h2
          have H1 := Lib.hid h1
          have H2 := Lib.hid h2
          clear h1 h hv h2 hsz hl
          go_enter Tryz.func77, Tryz.ntmps77
          go_wp2_with (first | (go_at_call 37; go_must (refine H1.out.mono ?_); rintro e w1 ⟨rfl, hb⟩) | (go_at_call 88; go_must (refine (H2.out _).mono ?_); rintro e w2 ⟨rfl, hb2⟩; have hb3 := below_step hb hb2))
          go_ret
          exact ⟨rfl, hb3⟩

end Go.Proofs.YtiggnmhoececfaaGreatDoor

namespace Go.Proofs.YtiggnmhoececfaaGreatDoorW.PrintLast

section
variable {P : Program} {ops : Array Oper} {Q : Exit → Act → World → Prop} {md : Region.Mode} {S : World → Prop} {ds : List Nat}

/-- Operation d waits for operation i, by a chain of at most 'fuel' edges. -/
def Region.reachB (md : Region.Mode) (ops : Array Oper) (i : Nat) : Nat → Nat → Bool
  | 0, _ => false
  | fuel + 1, d => match ops[d]? with
    | some o => o.after.any fun e => Region.binds md e && (e.on == i || Region.reachB md ops i fuel e.on)
    | none => false

/-- What is listed is closed under the edges. -/
def Region.closedB (md : Region.Mode) (ops : Array Oper) (listed : Array Bool) : Bool :=
  (List.range ops.size).all fun j => !listed.getD j false || match ops[j]? with
    | some o => o.after.all fun e => !Region.binds md e || listed.getD e.on false
    | none => true

/-- Each of ds that has not come up yet waits for number i. -/
def Region.lastB (md : Region.Mode) (ops : Array Oper) (listed : Array Bool) (ds : List Nat) (i : Nat) : Bool :=
  ds.all fun d => listed.getD d true || Region.reachB md ops i ops.size d

def ListedClosed (md : Region.Mode) (ops : Array Oper) (listed : Array Bool) : Prop :=
  ∀ j oj, ops[j]? = some oj → listed.getD j false = true → ∀ e ∈ oj.after, Region.binds md e = true → listed.getD e.on false = true

theorem ListedClosed.set {listed : Array Bool} {i : Nat} (h : ListedClosed md ops listed) (hi : i ∈ Region.ready md ops listed) : ListedClosed md ops (listed.setIfInBounds i true) := by
  obtain ⟨_, oi, hoi, hall⟩ := mem_ready.1 hi
  intro j oj hj hl e he hb
  by_cases hij : i = j
  · subst hij
    have : oj = oi := Option.some.inj (hj.symm.trans hoi)
    subst this
    exact getD_set_true (hall e he hb)
  · rw [getD_set_ne false hij] at hl
    exact getD_set_true (h j oj hj hl e he hb)

/-- Whatever order is picked from here on, AND 'S' HOLDS BEHIND EVERY OPERATION THAT IS CARRIED OUT, those of ds apart. -/
def wpAnyLast (P : Program) (md : Region.Mode) (ops : Array Oper) (Q : Exit → Act → World → Prop) (S : World → Prop) (ds : List Nat) : Nat → Array Bool → Act → World → Prop
  | 0, listed, a, w => Region.ready md ops listed = [] ∧ Q .normal a w
  | fuel + 1, listed, a, w =>
    (Region.ready md ops listed = [] → Q .normal a w) ∧
    ∀ i ∈ Region.ready md ops listed, wpOp P ops Q i (fun a' w' => (i ∉ ds → S w → S w') ∧ wpAnyLast P md ops Q S ds fuel (listed.setIfInBounds i true) a' w') a w

end

section
variable {P : Program} {ops : Array Oper} {Q : Exit → Act → World → Prop} {md : Region.Mode} {S : World → Prop} {ds : List Nat}

def AllReadyL (P : Program) (md : Region.Mode) (ops : Array Oper) (Q : Exit → Act → World → Prop) (S : World → Prop) (ds : List Nat) (fuel : Nat) (listed : Array Bool) (a : Act) (w : World) (rs : List Nat) : Prop :=
  ∀ i ∈ rs, wpOp P ops Q i (fun a' w' => (i ∉ ds → S w → S w') ∧ wpAnyLast P md ops Q S ds fuel (listed.setIfInBounds i true) a' w') a w
theorem AllReadyL.nil {fuel : Nat} {listed : Array Bool} {a : Act} {w : World} : AllReadyL P md ops Q S ds fuel listed a w [] := fun _ h => by cases h
theorem AllReadyL.cons {fuel : Nat} {listed : Array Bool} {a : Act} {w : World} {i : Nat} {o : Oper} {rs : List Nat} (ho : ops[i]? = some o) (hd : i ∉ ds)
    (h : ∀ K' : Act → World → Prop, Shut (∀ a w, S w → (S w → wpAnyLast P md ops Q S ds fuel (listed.setIfInBounds i true) a w) → K' a w) → if Region.wanted o (yielded ops a.tmps) = true then Oper.wp P o a w K' Q else K' (a.put o.dst undef) w)
    (hs : AllReadyL P md ops Q S ds fuel listed a w rs) : AllReadyL P md ops Q S ds fuel listed a w (i :: rs) := fun j hj => by
  rcases List.mem_cons.1 hj with rfl | hj
  · exact wpOp_step ho (fun K' hK => h K' (fun a w hS hW => hK a w ⟨fun _ _ => hS, hW hS⟩))
  · exact hs j hj
def takeB (md : Region.Mode) (ops : Array Oper) (ds : List Nat) (l l' : Array Bool) (i : Nat) : Bool :=
  Region.noSelect ops && Region.free md ops l i && (Region.ready md ops l).contains i && Region.closedB md ops l && Region.lastB md ops l ds i && (l.setIfInBounds i true == l')
def anyB (md : Region.Mode) (ops : Array Oper) (l l' : Array Bool) (i : Nat) : Bool :=
  Region.noSelect ops && Region.free md ops l i && (Region.ready md ops l).contains i && (l.setIfInBounds i true == l')
def readyB (md : Region.Mode) (ops : Array Oper) (l l' : Array Bool) (i : Nat) : Bool := (Region.ready md ops l == [i]) && (l.setIfInBounds i true == l')
/-- The act with some destinations filled. -/
def putAll : Act → List (Tmp × Value) → Act
  | a, [] => a
  | a, (n, v) :: r => putAll (a.put (some n) v) r
theorem enters_ {f : FuncId} {fn : Func} (hf : P.funcs[f]? = some fn) (hname : (fn.name == "runtime.NumGoroutine") = false) (hb : fn.body.isSome = true) (args : Array Value) (w : World) : (callFunc f args).run P w = .ok (.enter f args) w := by
  have h1 : fn.name ≠ "runtime.NumGoroutine" := by simpa using hname
  obtain ⟨c, hc⟩ := Option.isSome_iff_exists.1 hb
  simp [callFunc, hf, h1, hc]
/-- A call in a plain region, as an arm of go_wp2_with ('hd' first: it fails at once at another operation). -/
theorem goesL_ {rest : List Oper} {oi : Oper} {a : Act} {w : World} (N : Option Tmp) (hd : oi.dst = N) (hg : oi.guard = none) {f : FuncId} {fn : Func} {as_ : Array Operand} {ts : Array TypeId} (hf : P.funcs[f]? = some fn) (hname : (fn.name == "runtime.NumGoroutine") = false) (hb : fn.body.isSome = true) (args : Array Value)
    (hop : oi.op = .call { callee := .value (.func f), args := as_, argTypes := ts }) (hargs : as_.map a.eval = args)
    (h : Calls P f args w fun e w' => ∃ v, e = .returned v ∧ wpList P ops Q rest (a.put N v) w') : wpList P ops Q (oi :: rest) a w := by
  refine wpList_plain hg fun K hK => ?_
  have he := enters_ hf hname hb args w
  have hrun : (execOp a.eval oi).run P w = .ok (.enter f args) w := by
    unfold execOp
    simp [hop, resolve, Deferred.ofValue, invoke, Act.eval, hargs, he]
  unfold Oper.wp
  rw [hrun, Oper.upon_enter]
  refine h.mono fun e w'' hh => ?_
  obtain ⟨v, rfl, hk⟩ := hh
  subst hd
  exact hK _ _ hk
theorem i64_w (n : Int) : IntKind.i64.wrap n = Go.RowKit.wrap64 n := by unfold Go.RowKit.wrap64; exact IntKind.wrap_i64 n
theorem i32_w (n : Int) : IntKind.i32.wrap n = Go.RowKit.wrap32 n := by unfold Go.RowKit.wrap32; exact IntKind.wrap_i32 n
end
end Go.Proofs.YtiggnmhoececfaaGreatDoorW.PrintLast

namespace Go.Proofs.YtiggnmhoececfaaGreatDoorW.PrintLast
open Go.Proofs.YtiggnmhoececfaaGreatDoorW.PrintWords (Aside0)
def needsOf (md : Region.Mode) (o : Oper) : List Nat := (o.after.toList.filter (fun e => Region.binds md e)).map (fun e => e.on)
def clashOf (md : Region.Mode) (ops : Array Oper) (i : Nat) (oi : Oper) : List Nat := (List.range ops.size).filter fun j => !(j == i) && match ops[j]? with
  | some oj => !(oj.after.any (fun e => Region.binds md e && e.on == i) || oi.apart ops oj)
  | none => false
/-- No select in it; for each operation: what must have come up before it, and what may not come up behind it if it is taken first. -/
def rtab (md : Region.Mode) (ops : Array Oper) : Bool × List (List Nat × List Nat) := (Region.noSelect ops, (List.range ops.size).map fun i => match ops[i]? with
  | some o => (needsOf md o, clashOf md ops i o)
  | none => ([], []))
def readyAt (T : List (List Nat × List Nat)) (l : List Bool) (i : Nat) : Bool := !l.getD i true && match T[i]? with
  | some r => r.1.all (fun j => l.getD j false)
  | none => false
def readyT (T : List (List Nat × List Nat)) (l : List Bool) : List Nat := (List.range T.length).filter (readyAt T l)
def freeT (T : List (List Nat × List Nat)) (l : List Bool) (i : Nat) : Bool := match T[i]? with
  | some r => r.2.all (fun j => l.getD j true)
  | none => false
def closedT (T : List (List Nat × List Nat)) (l : List Bool) : Bool := (List.range T.length).all fun j => !l.getD j false || match T[j]? with
  | some r => r.1.all (fun k => l.getD k false)
  | none => true
def reachT (T : List (List Nat × List Nat)) (i : Nat) : Nat → Nat → Bool
  | 0, _ => false
  | fuel + 1, d => match T[d]? with
    | some r => r.1.any fun j => j == i || reachT T i fuel j
    | none => false
def lastT (T : List (List Nat × List Nat)) (l : List Bool) (ds : List Nat) (i : Nat) : Bool := ds.all fun d => l.getD d true || reachT T i T.length d
section
variable {md : Region.Mode} {ops : Array Oper} {T : Bool × List (List Nat × List Nat)} {l l' li lj lk : Array Bool} {ds : List Nat} {i j k : Nat}
def anyT (T : Bool × List (List Nat × List Nat)) (l l' : List Bool) (i : Nat) : Bool := T.1 && freeT T.2 l i && readyAt T.2 l i && (l.set i true == l')
def takeT (T : Bool × List (List Nat × List Nat)) (ds : List Nat) (l l' : List Bool) (i : Nat) : Bool := T.1 && freeT T.2 l i && readyAt T.2 l i && closedT T.2 l && lastT T.2 l ds i && (l.set i true == l')
/-- What d waits for, as_ bits: told in the table (B), checked in one pass: each bit is a need of d, or a bit of an earlier need's. -/
def upM (B : List Nat) (d : Nat) : List Nat → Nat
  | [] => 0
  | n :: r => (2 ^ n ||| (if n < d then B.getD n 0 else 0)) ||| upM B d r
def waitsOk (T : List (List Nat × List Nat)) (B : List Nat) : Bool := (List.range T.length).all fun d => match T[d]? with
  | some r => (B.getD d 0 ||| upM B d r.1) == upM B d r.1
  | none => false
def lastW (T : List (List Nat × List Nat)) (B : List Nat) (l : List Bool) (ds : List Nat) (i : Nat) : Bool := ds.all fun d => l.getD d true || (decide (d < T.length) && (B.getD d 0).testBit i)
def takeW (T : Bool × List (List Nat × List Nat)) (B : List Nat) (ds : List Nat) (l l' : List Bool) (i : Nat) : Bool := T.1 && freeT T.2 l i && readyAt T.2 l i && closedT T.2 l && lastW T.2 B l ds i && (l.set i true == l')
end
/-- The operations of a region, by its number. -/
def opsIn : Code → Nat → Option (Array Oper)
  | .region id ops _, k => if id == k then some ops else none
  | .seq a b, k => match opsIn a k with
    | some o => some o
    | none => opsIn b k
  | .cond _ a b, k => match opsIn a k with
    | some o => some o
    | none => opsIn b k
  | .block _ c, k => opsIn c k
  | .loop c, k => opsIn c k
  | .scope c, k => opsIn c k
  | .rangeFunc _ _ a b, k => match opsIn a k with
    | some o => some o
    | none => opsIn b k
  | _, _ => none
def opsOf (f : Func) (k : Nat) : Array Oper := ((f.body.bind fun c => opsIn c k)).getD #[]
end Go.Proofs.YtiggnmhoececfaaGreatDoorW.PrintLast

namespace Go.Proofs.YtiggnmhoececfaaGreatDoorW.PrintLast
section
variable {P : Program} {ops : Array Oper} {Q : Exit → Act → World → Prop} {md : Region.Mode} {S : World → Prop} {ds : List Nat} {T : Bool × List (List Nat × List Nat)}
end
end Go.Proofs.YtiggnmhoececfaaGreatDoorW.PrintLast

namespace Go.Proofs.YtiggnmhoececfaaGreatDoorW.PrintWords
open Go.RowKit
namespace Kd
section
variable {α : Type} {d : Kd α} {e base g o n cap : Nat} {ok okp : Nat → Prop} {w W : World} {v : Value} {xs : List α}
end
section
variable {α : Type} {enc : α → Value} {h1 : ∀ x, (enc x).oneCell' = true} {e base g o n cap : Nat} {ok : Nat → Prop} {W : World} {xs : List α}
end
end Kd
end Go.Proofs.YtiggnmhoececfaaGreatDoorW.PrintWords

namespace Go.Proofs.YtiggnmhoececfaaGreatDoorW.PrintWords
open Go.RowKit
namespace Kd
/-- An element with its index: its blocks are those that f gives to it. -/
def tag {α : Type} (f : Nat → Nat) (d : Kd α) : Kd (α × Nat) where
  sz := d.sz
  E := d.E
  K := fun w x cs => d.K w x.1 cs
  M := fun w base ok x cs => d.M w base (fun k => ok k ∧ f k = x.2) x.1 cs
  K_len := fun h => d.K_len h
  K_one := fun h => d.K_one h
  K_below := fun hb h => d.K_below hb h
  K_of_M := fun h => d.K_of_M h
  M_mono := fun hok h => d.M_mono (fun k hk => ⟨hok k hk.1, hk.2⟩) h
  M_bound := fun h => d.M_mono (fun _ hk => ⟨⟨hk.1.1, hk.2⟩, hk.1.2⟩) (d.M_bound h)
  M_move := fun hm h => d.M_move (fun k hk => hm k hk.1) h
  M_lower := fun hb h => d.M_lower hb h
/-- Nothing but its cells: no block is said of it. -/
def bare {α : Type} (d : Kd α) : Kd α where
  sz := d.sz
  E := d.E
  K := d.K
  M := fun w base _ x cs => d.M w base (fun _ => False) x cs
  K_len := fun h => d.K_len h
  K_one := fun h => d.K_one h
  K_below := fun hb h => d.K_below hb h
  K_of_M := fun h => d.K_of_M h
  M_mono := fun _ h => h
  M_bound := fun h => h
  M_move := fun _ h => d.M_move (fun _ hk => hk.elim) h
  M_lower := fun hb h => d.M_lower hb h
/-- The cells themselves. -/
def raw (sz : Nat) : Kd (List Value) where
  sz := sz
  E := []
  K := fun _ x cs => cs = x ∧ cs.length = sz ∧ ∀ u ∈ cs, u.oneCell' = true
  M := fun _ _ _ x cs => cs = x ∧ cs.length = sz ∧ ∀ u ∈ cs, u.oneCell' = true
  K_len := fun h => h.2.1
  K_one := fun h => h.2.2
  K_below := fun _ h => h
  K_of_M := fun h => h
  M_mono := fun _ h => h
  M_bound := fun h => h
  M_move := fun _ h => h
  M_lower := fun _ h => h
/-- A row of elements (type e) of the call's own, no two of which lead to one block. -/
def S {α : Type} (d : Kd α) (e : Nat) (w : World) (base : Nat) (ok : Nat → Prop) (v : Value) (xs : List α) : Prop := ∃ f, (tag f d).R e w base ok v xs.zipIdx
section
variable {α β : Type} {d : Kd α} {d' : Kd β} {e e' : Nat} {w w1 W : World} {base b : Nat} {ok ok' okv oku : Nat → Prop} {u v : Value} {xs : List α} {ys : List β}
theorem S_nil (d : Kd α) (e : Nat) (w : World) (base : Nat) (ok : Nat → Prop) : S d e w base ok (.slice none 0 0) [] := ⟨fun _ => 0, R_nil _ _ _ _ _⟩
end
section
variable {α β : Type} {d : Kd α} {d' : Kd β} {e e' g : Nat} {w w1 W : World} {base b : Nat} {ok ok' okv oku : Nat → Prop} {u v : Value} {xs : List α} {ys : List β}
end
/-! #### append, make, literals: the new element's blocks are none of the elder ones' -/
section
variable {P : Program} {ops : Array Oper} {rest : List Oper} {o : Oper} {a : Act} {Q : Exit → Act → World → Prop} {Kc : Act → World → Prop} {α : Type}
end
/-! #### a row with a hole: element i is lent, its blocks are oki; of it the row says its cells alone -/
/-- Element i is these cells; the others are d's. -/
def gap {α : Type} (f : Nat → Nat) (d : Kd α) (i : Nat) (c : List Value) : Kd (α × Nat) where
  sz := d.sz
  E := d.E
  K := fun w x cs => (x.2 = i → cs = c ∧ cs.length = d.sz ∧ ∀ u ∈ cs, u.oneCell' = true) ∧ (x.2 ≠ i → d.K w x.1 cs)
  M := fun w base ok x cs => (x.2 = i → cs = c ∧ cs.length = d.sz ∧ ∀ u ∈ cs, u.oneCell' = true) ∧ (x.2 ≠ i → d.M w base (fun k => ok k ∧ f k = x.2) x.1 cs)
  K_len := fun {w x cs} h => by
    by_cases hx : x.2 = i
    · exact (h.1 hx).2.1
    · exact d.K_len (h.2 hx)
  K_one := fun {w x cs} h => by
    by_cases hx : x.2 = i
    · exact (h.1 hx).2.2
    · exact d.K_one (h.2 hx)
  K_below := fun hb h => ⟨h.1, fun hx => d.K_below hb (h.2 hx)⟩
  K_of_M := fun h => ⟨h.1, fun hx => d.K_of_M (h.2 hx)⟩
  M_mono := fun hok h => ⟨h.1, fun hx => d.M_mono (fun k hk => ⟨hok k hk.1, hk.2⟩) (h.2 hx)⟩
  M_bound := fun h => ⟨h.1, fun hx => d.M_mono (fun _ hk => ⟨⟨hk.1.1, hk.2⟩, hk.1.2⟩) (d.M_bound (h.2 hx))⟩
  M_move := fun hm h => ⟨h.1, fun hx => d.M_move (fun k hk => hm k hk.1) (h.2 hx)⟩
  M_lower := fun hb h => ⟨h.1, fun hx => d.M_lower hb (h.2 hx)⟩
def H {α : Type} (d : Kd α) (e : Nat) (w : World) (base : Nat) (ok : Nat → Prop) (v : Value) (xs : List α) (i : Int) (oki : Nat → Prop) (c : List Value) : Prop :=
  (∀ k, oki k → ok k) ∧ ∃ f, (gap f d i.toNat c).R e w base (fun k => ok k ∧ ¬ oki k) v xs.zipIdx
section
variable {α β : Type} {d : Kd α} {e e' g n cap : Nat} {w w1 W : World} {base : Nat} {ok ok' oki okp : Nat → Prop} {u v : Value} {xs : List α} {i : Int} {c : List Value}
end
section
variable {P : Program} {ops : Array Oper} {rest : List Oper} {o : Oper} {a : Act} {Q : Exit → Act → World → Prop} {α : Type}
end
end Kd
end Go.Proofs.YtiggnmhoececfaaGreatDoorW.PrintWords

namespace Go.Proofs.YtiggnmhoececfaaGreatDoorW.PrintWords
open Go.RowKit
namespace Kd
theorem reps_one {α : Type} {R : α → List Value → Prop} {size : Nat} {ps : List α} {cs : List Value} (h : Reps R size ps cs) (hs0 : 0 < size) (hR : ∀ p c, R p c → ∀ u ∈ c, u.oneCell' = true) : ∀ u ∈ cs, u.oneCell' = true := by
  intro u hu
  obtain ⟨q, hq, rfl⟩ := List.mem_iff_getElem.1 hu
  have hql : q / size < ps.length := by
    rw [Nat.div_lt_iff_lt_mul hs0, ← h.1]
    exact hq
  refine hR _ _ (h.2 (q / size) _ (List.getElem?_eq_getElem hql)) _ ?_
  rw [List.mem_iff_getElem?]
  refine ⟨q % size, ?_⟩
  rw [List.getElem?_take, if_pos (Nat.mod_lt _ hs0), List.getElem?_drop, Nat.mul_comm, Nat.div_add_mod, List.getElem?_eq_getElem hq]
/-- An array of n elements of kind d. -/
def arr {α : Type} (n : Nat) (d : Kd α) (hs : 0 < d.sz) : Kd (List α) where
  sz := n * d.sz
  E := d.E
  K := fun w xs cs => xs.length = n ∧ Reps (d.K w) d.sz xs cs
  M := fun w base ok xs cs => xs.length = n ∧ Reps (d.M w base ok) d.sz xs cs
  K_len := fun h => by rw [← h.1]; exact h.2.1
  K_one := fun h => reps_one h.2 hs (fun _ _ hk => d.K_one hk)
  K_below := fun hb h => ⟨h.1, h.2.imp_ (fun _ _ hk => d.K_below hb hk)⟩
  K_of_M := fun h => ⟨h.1, h.2.imp_ (fun _ _ hk => d.K_of_M hk)⟩
  M_mono := fun hok h => ⟨h.1, h.2.imp_ (fun _ _ hk => d.M_mono hok hk)⟩
  M_bound := fun h => ⟨h.1, h.2.imp_ (fun _ _ hk => d.M_bound hk)⟩
  M_move := fun hm h => ⟨h.1, h.2.imp_ (fun _ _ hk => d.M_move hm hk)⟩
  M_lower := fun hb h => ⟨h.1, h.2.imp_ (fun _ _ hk => d.M_lower hb hk)⟩
section
variable {α : Type} {n : Nat} {d : Kd α} {hs : 0 < d.sz} {w : World} {base : Nat} {ok : Nat → Prop} {xs : List α} {cs : List Value}
end
section
variable {α : Type} {n : Nat} {enc : α → Value} {h1 : ∀ x, (enc x).oneCell' = true} {hs : 0 < (scalar enc h1).sz} {w : World} {base : Nat} {ok : Nat → Prop} {xs : List α} {cs : List Value}
end
end Kd
end Go.Proofs.YtiggnmhoececfaaGreatDoorW.PrintWords

namespace Go.Proofs.YtiggnmhoececfaaGreatDoorW.PrintWords
open Go.RowKit
section
variable {P : Program}
end
namespace Kd
section
variable {P : Program} {ops : Array Oper} {rest : List Oper} {o : Oper} {a : Act} {Q : Exit → Act → World → Prop} {Kc : Act → World → Prop} {α : Type}
end
/-! #### the same for rows whose elements lie apart -/
/-- As_ tag; an element without index leads to nothing. -/
def tagO {α : Type} (f : Nat → Nat) (d : Kd α) : Kd (α × Option Nat) where
  sz := d.sz
  E := d.E
  K := fun w x cs => d.K w x.1 cs
  M := fun w base ok x cs => d.M w base (fun k => ok k ∧ some (f k) = x.2) x.1 cs
  K_len := fun h => d.K_len h
  K_one := fun h => d.K_one h
  K_below := fun hb h => d.K_below hb h
  K_of_M := fun h => d.K_of_M h
  M_mono := fun hok h => d.M_mono (fun k hk => ⟨hok k hk.1, hk.2⟩) h
  M_bound := fun h => d.M_mono (fun _ hk => ⟨⟨hk.1.1, hk.2⟩, hk.1.2⟩) (d.M_bound h)
  M_move := fun hm h => d.M_move (fun k hk => hm k hk.1) h
  M_lower := fun hb h => d.M_lower hb h
section
variable {α : Type} {d : Kd α} {e : Nat} {w : World} {base : Nat} {ok : Nat → Prop} {v : Value} {xs : List α}
def zipO (xs : List α) (z : α) (m : Nat) : List (α × Option Nat) := xs.zipIdx.map (fun p => (p.1, some p.2)) ++ List.replicate m (z, none)
end
section
variable {P : Program} {ops : Array Oper} {rest : List Oper} {o : Oper} {a : Act} {Q : Exit → Act → World → Prop} {Kc : Act → World → Prop} {α : Type}
end
end Kd
end Go.Proofs.YtiggnmhoececfaaGreatDoorW.PrintWords

namespace Go.Proofs.YtiggnmhoececfaaGreatDoorW.PrintWords
open Go.RowKit
namespace Kd
/-- What a kind reads lies in the blocks: nothing else of the world is looked at. -/
structure Heap {α : Type} (d : Kd α) : Prop where
  K : ∀ {w w1 : World} {x : α} {cs : List Value}, (∀ k, k < w.heap.size → w1.heap[k]? = w.heap[k]?) → d.K w x cs → d.K w1 x cs
theorem cell_heap {w w1 : World} (hb : ∀ k, k < w.heap.size → w1.heap[k]? = w.heap[k]?) {a : Addr} {v : Value} (h : w.cell? a = some v) : w1.cell? a = some v := by
  have := hb a.block (World.block_lt_of_cell? w a h)
  simpa [World.cell?, this] using h
theorem Heap.C {α : Type} {d : Kd α} (hd : Heap d) {w w1 : World} {A : Option Addr} {n : Nat} {xs : List α} (hb : ∀ k, k < w.heap.size → w1.heap[k]? = w.heap[k]?) (h : d.C w A n xs) : d.C w1 A n xs :=
  ⟨h.1, h.2.1, fun hn => by
    obtain ⟨ad, e, hc⟩ := h.2.2 hn
    refine ⟨ad, e, fun j p hj => ?_⟩
    obtain ⟨c, hs, hr, hcell⟩ := hc j p hj
    exact ⟨c, hs, hd.K hb hr, fun i u hu => cell_heap hb (hcell i u hu)⟩⟩
section
variable {α : Type} {d : Kd α} {e base g n c : Nat} {ok : Nat → Prop} {w w0 W : World} {A : Option Addr} {xs : List α}
end
end Kd
end Go.Proofs.YtiggnmhoececfaaGreatDoorW.PrintWords

namespace Go.Proofs.YtiggnmhoececfaaGreatDoorW.PrintWords
open Go.RowKit
def Kept (w W : World) (S : Nat → Prop) : Prop := w.heap.size ≤ W.heap.size ∧ ∀ i, i < w.heap.size → ¬ S i → W.heap[i]? = w.heap[i]?
section
variable {w W W2 : World} {S S2 S' : Nat → Prop}
theorem Kept.refl (w : World) (S : Nat → Prop) : Kept w w S := ⟨Nat.le_refl _, fun _ _ _ => rfl⟩
theorem Kept.of_below (h : Below w.heap.size w W) (S : Nat → Prop) : Kept w W S := ⟨h.size, fun i hi _ => h.block i hi⟩
theorem Kept.mono (h : Kept w W S) (hs : ∀ k, S k → S' k) : Kept w W S' := ⟨h.1, fun i hi hn => h.2 i hi (fun hk => hn (hs i hk))⟩
theorem Kept.then_ (h : Kept w W S) (k : Kept W W2 S2) (hs : ∀ k, S2 k → S k ∨ w.heap.size ≤ k) : Kept w W2 S :=
  ⟨Nat.le_trans h.1 k.1, fun i hi hn => (k.2 i (Nat.lt_of_lt_of_le hi h.1) (fun h2 => (hs i h2).elim hn (fun h3 => by omega))).trans (h.2 i hi hn)⟩
theorem Kept.below (h : Kept w W S) (hb : Below W.heap.size W W2) : Kept w W2 S := h.then_ (Kept.of_below hb (fun _ => False)) (fun _ hk => hk.elim)
theorem Kept.alloc (h : Kept w W S) (o : Obj) : Kept w (W.alloc o) S := h.below (below_alloc (Below.refl _ _) o)
theorem Kept.drew (h : Kept w W S) : Kept w W.drew S := h
theorem Kept.drewN (h : Kept w W S) (m : Nat) : Kept w (W.drewN m) S := h
theorem Kept.setCell (h : Kept w W S) {p : Addr} (hp : S p.block ∨ w.heap.size ≤ p.block) (u : Value) : Kept w (W.setCell p u) S :=
  h.then_ (S2 := fun k => k = p.block) ⟨by simp [World.setCell], fun i _ hn => Below.heap_setCell W p u i hn⟩ (fun k hk => by rw [hk]; exact hp)
end
namespace Kd
section
variable {α : Type} {d : Kd α} {e base n c : Nat} {ok oki S S2 : Nat → Prop} {w w0 W W1 W2 : World} {v : Value} {A : Option Addr} {xs : List α} {i : Int} {cs : List Value}
end
end Kd
end Go.Proofs.YtiggnmhoececfaaGreatDoorW.PrintWords

namespace Go.Proofs.YtiggnmhoececfaaGreatDoorW.PrintWords
open Go.RowKit
/-- P holds in W and in every world that has W's blocks of ok. -/
def Foot (P : World → Prop) (W : World) (ok : Nat → Prop) : Prop := ∀ W' : World, (∀ k, ok k → k < W.heap.size → W'.heap[k]? = W.heap[k]?) → P W'
theorem heap_lt {W W1 : World} {k : Nat} (h : W1.heap[k]? = W.heap[k]?) (hlt : k < W.heap.size) : k < W1.heap.size := by
  rw [Array.getElem?_eq_getElem hlt] at h
  exact (Array.getElem?_eq_some_iff.1 h).1
namespace Foot
variable {P Q : World → Prop} {W W1 : World} {ok ok' : Nat → Prop}
theorem mono (h : Foot P W ok) (hok : ∀ k, ok k → ok' k) : Foot P W ok' := fun W' hW => h W' (fun k hk hlt => hW k (hok k hk) hlt)
theorem bound (h : Foot P W ok) : Foot P W (fun k => ok k ∧ k < W.heap.size) := fun W' hW => h W' (fun k hk hlt => hW k ⟨hk, hlt⟩ hlt)
theorem step (h : Foot P W ok) (hm : ∀ k, ok k → k < W.heap.size → W1.heap[k]? = W.heap[k]?) : Foot P W1 ok := fun W' hW => h W' (fun k hk hlt => (hW k hk (heap_lt (hm k hk hlt) hlt)).trans (hm k hk hlt))
theorem imp (h : Foot P W ok) (hi : ∀ W', P W' → Q W') : Foot Q W ok := fun W' hW => hi W' (h W' hW)
/-- Moved, and still elder than what is new since W. -/
theorem old (h : Foot P W ok) (hb : Below W.heap.size W W1) : Foot P W1 (fun k => ok k ∧ k < W.heap.size) := (h.bound).step (fun k _ hlt => hb.block k hlt)
end Foot
namespace Kd
/-- A row that is only read: what it leads to lies in ok. -/
def F {α : Type} (d : Kd α) (W : World) (ok : Nat → Prop) (A : Option Addr) (n : Nat) (xs : List α) : Prop := Foot (fun W => d.C W A n xs) W ok
/-- An element's cells: what they lead to lies in ok. -/
def FK {α : Type} (d : Kd α) (W : World) (ok : Nat → Prop) (x : α) (c : List Value) : Prop := Foot (fun W => d.K W x c) W ok
section
variable {α β : Type} {d : Kd α} {e base n n' cc g N : Nat} {ok ok' okp S : Nat → Prop} {w w0 w1 W W1 : World} {A A' : Option Addr} {u v v1 : Value} {xs : List α} {xs' : List β} {d' : Kd β} {x : α} {c : List Value}
theorem F_nil (d : Kd α) (W : World) (ok : Nat → Prop) : F d W ok none ([] : List α).length [] := fun W' _ => C_nil d W'
theorem FK_of_M (h : d.M W base ok x c) : FK d W ok x c := fun _ hW => d.K_of_M (M_step h hW)
end
end Kd
end Go.Proofs.YtiggnmhoececfaaGreatDoorW.PrintWords

namespace Go.Proofs.YtiggnmhoececfaaGreatDoorW.PrintWords
open Go.RowKit
namespace Kd
/-- The cells one behind the other, element by element. -/
def chunks (sz : Nat) (n : Nat) (inner : List Value) : List (List Value) := (List.range n).map fun j => (inner.drop (j * sz)).take sz
theorem chunks_length (sz n : Nat) (inner : List Value) : (chunks sz n inner).length = n := by simp [chunks]
theorem chunks_at {sz n : Nat} {inner : List Value} {j : Nat} (hj : j < n) : (chunks sz n inner)[j]? = some ((inner.drop (j * sz)).take sz) := by simp [chunks, hj]
theorem chunks_get {sz n : Nat} {inner : List Value} {j : Nat} {c : List Value} (h : (chunks sz n inner)[j]? = some c) : c = (inner.drop (j * sz)).take sz := by
  have hj : j < n := by have := (List.getElem?_eq_some_iff.1 h).1; rwa [chunks_length] at this
  rw [chunks_at hj] at h
  injection h with h
  exact h.symm
theorem reps_raw {α : Type} {Rr : α → List Value → Prop} {sz : Nat} {xs : List α} {inner : List Value} (h : Reps Rr sz xs inner) (hR : ∀ x c, Rr x c → c.length = sz ∧ ∀ u ∈ c, u.oneCell' = true) : Reps (fun x cs => cs = x ∧ cs.length = sz ∧ ∀ u ∈ cs, u.oneCell' = true) sz (chunks sz xs.length inner) inner := by
  refine ⟨by rw [chunks_length]; exact h.1, fun j p hj => ?_⟩
  have hjl : j < xs.length := by have := (List.getElem?_eq_some_iff.1 hj).1; rwa [chunks_length] at this
  have hp := chunks_get hj
  exact ⟨hp.symm, hR _ _ (h.2 j _ (List.getElem?_eq_getElem hjl))⟩
section
variable {α : Type} {d : Kd α} {e base n cc g : Nat} {ok ok' okp S : Nat → Prop} {w w1 W W1 : World} {A : Option Addr} {u v v1 : Value} {xs : List α} {x : α} {c : List Value}
/-- A row of elements (type e) of the call's own; what the elements lead to is only read, and is not this row. -/
def N {α : Type} (d : Kd α) (e : Nat) (w : World) (base : Nat) (ok : Nat → Prop) (v : Value) (xs : List α) : Prop :=
  (∀ k, v.ownBlock = some k → ok k) ∧ ∃ rows : List (List Value), rows.length = xs.length ∧ (raw d.sz).R e w base (fun k => some k = v.ownBlock) v rows ∧ ∀ (j : Nat) (x : α) (c : List Value), xs[j]? = some x → rows[j]? = some c → FK d w (fun k => ok k ∧ some k ≠ v.ownBlock) x c
theorem R_N (h : d.R e w base ok v xs) : N d e w base ok v xs := by
  obtain ⟨h0, inner, ho, hr⟩ := h
  refine ⟨h0, chunks d.sz xs.length inner, chunks_length _ _ _, ⟨fun k hk => hk.symm, inner, by rw [chunks_length]; exact ho, reps_raw hr (fun x c hp => ⟨d.K_len (d.K_of_M hp), d.K_one (d.K_of_M hp)⟩)⟩, fun j x c hx hc => ?_⟩
  rw [chunks_get hc]
  exact FK_of_M (hr.2 j x hx)
theorem N_nil (d : Kd α) (e : Nat) (w : World) (base : Nat) (ok : Nat → Prop) : N d e w base ok (.slice none 0 0) [] := R_N (R_nil _ _ _ _ _)
end
end Kd
end Go.Proofs.YtiggnmhoececfaaGreatDoorW.PrintWords

namespace Go.Proofs.YtiggnmhoececfaaGreatDoorW.PrintWords
open Go.RowKit
namespace Kd
section
variable {α : Type} {d : Kd α} {W : World} {g n : Nat} {S ok : Nat → Prop} {A : Option Addr} {ad : Addr} {xs : List α}
end
end Kd
end Go.Proofs.YtiggnmhoececfaaGreatDoorW.PrintWords

namespace Go.Proofs.YtiggnmhoececfaaGreatDoorW.PrintWords
open Go.RowKit
section
variable {w w' u : World} {m B g : Nat} {o : Obj} {row : Option Nat} {S : Nat → Prop} {a : Addr} {v : Value}
end
namespace Kd
section
variable {α : Type} {d : Kd α} {e base n m : Nat} {ok : Nat → Prop} {w w' : World} {v : Value} {A : Option Addr} {xs : List α}
end
end Kd
end Go.Proofs.YtiggnmhoececfaaGreatDoorW.PrintWords

namespace Go.Proofs.YtiggnmhoececfaaGreatDoorW.PrintWords
open Go.RowKit
section
variable {P : Program} {d : Nat} {xs ys : Array Value} {f : Field} {fs : List Field} {a b : Value} {r s : Bool} {w : World}
end
end Go.Proofs.YtiggnmhoececfaaGreatDoorW.PrintWords

namespace Go.Proofs.YtiggnmhoececfaaGreatDoorW.PrintWords
/-- One cell an element. -/
theorem Reps.one {α : Type} {R : α → List Value → Prop} {ps : List α} {cs : List Value} {p : α} {v : Value} (hp : R p [v]) (h : Reps R 1 ps cs) : Reps R 1 (p :: ps) (v :: cs) := by
  refine ⟨by simp [h.1], fun j q hq => ?_⟩
  cases j with
  | zero =>
    simp only [List.getElem?_cons_zero, Option.some.injEq] at hq
    subst hq
    simpa using hp
  | succ j =>
    simp only [List.getElem?_cons_succ] at hq
    have h1 := h.2 j q hq
    simpa [Nat.mul_one] using h1
/-- More cells an element: told apart by the cells' list. -/
theorem Reps.front {α : Type} {R : α → List Value → Prop} {size : Nat} {ps : List α} {cs c all : List Value} {p : α} (hp : R p c) (hc : c.length = size) (h : Reps R size ps cs) (ha : c ++ cs = all) : Reps R size (p :: ps) all := by
  subst ha
  refine ⟨by rw [List.length_append, hc, h.1, List.length_cons, Nat.succ_mul, Nat.add_comm], fun j q hq => ?_⟩
  cases j with
  | zero =>
    simp only [List.getElem?_cons_zero, Option.some.injEq] at hq
    subst hq
    rw [Nat.zero_mul, List.drop_zero, List.take_append_of_le_length (by omega), List.take_of_length_le (by omega)]
    exact hp
  | succ j =>
    simp only [List.getElem?_cons_succ] at hq
    have h1 := h.2 j q hq
    rw [Nat.succ_mul, List.drop_append, List.drop_of_length_le (by rw [hc]; exact Nat.le_add_left _ _), List.nil_append, hc, Nat.add_sub_cancel]
    exact h1
theorem Reps.c2 {α : Type} {R : α → List Value → Prop} {ps : List α} {cs : List Value} {p : α} {va vb : Value} (hp : R p [va, vb]) (h : Reps R 2 ps cs) : Reps R 2 (p :: ps) (va :: vb :: cs) := Reps.front hp rfl h rfl
theorem Reps.c3 {α : Type} {R : α → List Value → Prop} {ps : List α} {cs : List Value} {p : α} {va vb vc : Value} (hp : R p [va, vb, vc]) (h : Reps R 3 ps cs) : Reps R 3 (p :: ps) (va :: vb :: vc :: cs) := Reps.front hp rfl h rfl
theorem Reps.c4 {α : Type} {R : α → List Value → Prop} {ps : List α} {cs : List Value} {p : α} {va vb vc vd : Value} (hp : R p [va, vb, vc, vd]) (h : Reps R 4 ps cs) : Reps R 4 (p :: ps) (va :: vb :: vc :: vd :: cs) := Reps.front hp rfl h rfl
theorem Reps.c5 {α : Type} {R : α → List Value → Prop} {ps : List α} {cs : List Value} {p : α} {va vb vc vd ve : Value} (hp : R p [va, vb, vc, vd, ve]) (h : Reps R 5 ps cs) : Reps R 5 (p :: ps) (va :: vb :: vc :: vd :: ve :: cs) := Reps.front hp rfl h rfl
theorem Reps.c6 {α : Type} {R : α → List Value → Prop} {ps : List α} {cs : List Value} {p : α} {va vb vc vd ve vf : Value} (hp : R p [va, vb, vc, vd, ve, vf]) (h : Reps R 6 ps cs) : Reps R 6 (p :: ps) (va :: vb :: vc :: vd :: ve :: vf :: cs) := Reps.front hp rfl h rfl
theorem Reps.c7 {α : Type} {R : α → List Value → Prop} {ps : List α} {cs : List Value} {p : α} {va vb vc vd ve vf vg : Value} (hp : R p [va, vb, vc, vd, ve, vf, vg]) (h : Reps R 7 ps cs) : Reps R 7 (p :: ps) (va :: vb :: vc :: vd :: ve :: vf :: vg :: cs) := Reps.front hp rfl h rfl
theorem Reps.c8 {α : Type} {R : α → List Value → Prop} {ps : List α} {cs : List Value} {p : α} {va vb vc vd ve vf vg vh : Value} (hp : R p [va, vb, vc, vd, ve, vf, vg, vh]) (h : Reps R 8 ps cs) : Reps R 8 (p :: ps) (va :: vb :: vc :: vd :: ve :: vf :: vg :: vh :: cs) := Reps.front hp rfl h rfl
theorem Reps.c9 {α : Type} {R : α → List Value → Prop} {ps : List α} {cs : List Value} {p : α} {va vb vc vd ve vf vg vh vi : Value} (hp : R p [va, vb, vc, vd, ve, vf, vg, vh, vi]) (h : Reps R 9 ps cs) : Reps R 9 (p :: ps) (va :: vb :: vc :: vd :: ve :: vf :: vg :: vh :: vi :: cs) := Reps.front hp rfl h rfl
theorem Reps.c10 {α : Type} {R : α → List Value → Prop} {ps : List α} {cs : List Value} {p : α} {va vb vc vd ve vf vg vh vi vj : Value} (hp : R p [va, vb, vc, vd, ve, vf, vg, vh, vi, vj]) (h : Reps R 10 ps cs) : Reps R 10 (p :: ps) (va :: vb :: vc :: vd :: ve :: vf :: vg :: vh :: vi :: vj :: cs) := Reps.front hp rfl h rfl
end Go.Proofs.YtiggnmhoececfaaGreatDoorW.PrintWords
