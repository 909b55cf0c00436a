/- cashierlaw09.NodeSteps returns true at every row in memory, at every path and number (with the document's Quote and Print). -/
import Derived.Test.YtfocognhcljhpaaGreatDoorG10
import Derived.Test.YtfocognhcljhpaaGreatDoorG8
import Derived.Test.YtfocognhcljhpaaGreatDoorG9

namespace Go.Proofs.YtfocognhcljhpaaGreatDoor
set_option linter.unusedVariables false
set_option linter.unusedSimpArgs false
open Go.RowKit Go.Shelf Go.Proofs.YtfocognhcljhpaaGreatDoorW.PrintWords Go.Proofs.YtfocognhcljhpaaGreatDoorW.PrintMore Go.Proofs.YtfocognhcljhpaaGreatDoor.PPrintRows Go.Proofs.YtfocognhcljhpaaGreatDoor.Tree

/-- A tree without its name. -/
def root0 : Tr → Tr
  | .mk k _ text kids => .mk k ⟨#[]⟩ text kids
theorem root0_size (t : Tr) : (root0 t).size = t.size := by cases t; rw [root0, Tr.size, Tr.size]

def subN (i : Nat) (x : Node) : Node := ⟨x.f0, x.f1, x.f2, x.f3 - i, x.f4 - i⟩
mutual
theorem sub_flat (i : Nat) : ∀ (t : Tr) (p : Int) (a : Nat), ((t.flat p (i + a)).map toN).map (subN i) = (t.flat (p - i) a).map toN
  | .mk k key text kids, p, a => by
    rw [Tr.flat, Tr.flat, List.map_cons, List.map_cons, List.map_cons, show i + a + 1 = i + (a + 1) by omega, sub_flats i kids]
    congr 1
    · unfold subN toN
      dsimp only
      congr 1
      omega
    · congr 2
      omega
theorem sub_flats (i : Nat) : ∀ (ts : List Tr) (p : Int) (a : Nat), ((flats p (i + a) ts).map toN).map (subN i) = (flats (p - i) a ts).map toN
  | [], p, a => by rw [flats, flats]; rfl
  | t :: ts, p, a => by
    rw [flats, flats, List.map_append, List.map_append, List.map_append, sub_flat i t, show i + a + t.size = i + (a + t.size) by omega, sub_flats i ts]
end
theorem mapIdx_tail {α β : Type} (f : Nat → α → β) (g : α → β) : ∀ (l : List α) (n : Nat), (∀ q x, f (q + n + 1) x = g x) → l.mapIdx (fun q x => f (q + n + 1) x) = l.map g := by
  intro l n h
  rw [show (fun q x => f (q + n + 1) x) = fun _ x => g x from funext fun q => funext fun x => h q x]
  apply List.ext_getElem?
  intro q
  rw [List.getElem?_mapIdx, List.getElem?_map]
/-- A value by itself is its tree's row. -/
theorem row_root {l : List Node} {r : List Node} {i : Nat} {p : Int} (s : Tr) (h : l.drop i = (s.flat p i).map toN ++ r) : rowV l i (i + s.size) = rowT (root0 s) := by
  have hl : (l.take (i + s.size)).drop i = (s.flat p i).map toN := by
    rw [List.drop_take, h, show i + s.size - i = s.size by omega]
    have e : s.size = ((s.flat p i).map toN).length := by rw [List.length_map, Tr.flat_len]
    rw [e, List.take_left']
    rfl
  unfold rowV
  rw [hl]
  cases s with
  | mk k key text kids =>
    unfold rowT root0
    rw [Tr.flat, Tr.flat, List.map_cons, List.map_cons]
    unfold outV
    rw [List.mapIdx_cons]
    congr 1
    · unfold outN toN
      dsimp only
      rw [if_pos rfl]
      congr 1
      omega
    · have h2 := mapIdx_tail (outN i) (subN i) ((flats (i : Int) (i + 1) kids).map toN) 0 (fun q x => by unfold outN subN; rw [if_neg (by omega)])
      simp only [Nat.add_zero] at h2
      rw [h2, sub_flats i kids (i : Int) 1]
      congr 2
      omega

/-- A member of a member: its place from the tree's on, its tree without its name. -/
def getT : List ByteArray → Tr → Option (Nat × Tr)
  | [], t => some (0, root0 t)
  | x :: xs, t => if t.kind = 7 then (match (pl 1 t.kids).find? (fun y => y.2.key.toList == x.toList) with
    | some y => (getT xs y.2).map (fun z => (y.1 + z.1, z.2))
    | none => none) else none
theorem getT_root (xs : List ByteArray) (t : Tr) : getT xs (root0 t) = getT xs t := by
  cases t with
  | mk k key text kids =>
    cases xs with
    | nil => rw [getT, getT, root0, root0]
    | cons x xs => rw [getT, getT]; rfl
theorem pl_shift (i : Nat) : ∀ (ts : List Tr) (a : Nat), pl (i + a) ts = (pl a ts).map fun y => (i + y.1, y.2)
  | [], a => rfl
  | t :: ts, a => by rw [pl, pl, List.map_cons, show i + a + t.size = i + (a + t.size) by omega, pl_shift i ts]
theorem members_T {l r : List Node} {i : Nat} {p : Int} (k : Int) (key text : ByteArray) (kids : List Tr) (h : l.drop i = ((Tr.mk k key text kids).flat p i).map toN ++ r) :
    membersL l i = if k = 7 then (pl 1 kids).map fun y => (y.2.key, i + y.1) else [] := by
  obtain ⟨e1, _, e3, e4⟩ := end_of _ h
  obtain ⟨_, h2⟩ := drop_flat h
  have hs := sizes_len kids
  rw [Tr.size] at e1 e4
  unfold membersL
  rw [e3]
  show (if k = 7 then _ else _) = _
  by_cases h7 : k = 7
  · rw [if_pos h7, if_pos h7]
    unfold itemsL
    rw [e3, if_pos (show 6 ≤ Tr.kind (.mk k key text kids) by show 6 ≤ k; omega), e1, kids_pl _ kids (i + 1) r l.length h2 (by omega) (by omega), pl_shift i kids 1, List.map_map, List.map_map]
    refine List.map_congr_left (fun y hy => ?_)
    have hm : (i + y.1, y.2) ∈ pl (i + 1) kids := by rw [pl_shift i kids 1]; exact List.mem_map_of_mem hy
    obtain ⟨⟨r', hr'⟩, _⟩ := pl_mem kids (i + 1) r h2 _ hm
    show mPr l (i + y.1) = _
    unfold mPr
    rw [(end_of y.2 hr').2.1]
  · rw [if_neg h7, if_neg h7]
theorem getP_T {l : List Node} : ∀ (xs : List ByteArray) (s : Tr) (p : Int) (i : Nat) (r : List Node), l.drop i = (s.flat p i).map toN ++ r → p < (i : Int) →
    getP l i xs = (getT xs s).map (fun z => i + z.1) ∧ ∀ z, getT xs s = some z → ∃ (s2 : Tr) (p2 : Int) (r2 : List Node), z.2 = root0 s2 ∧ p2 < ((i + z.1 : Nat) : Int) ∧ l.drop (i + z.1) = (s2.flat p2 (i + z.1)).map toN ++ r2
  | [], s, p, i, r, h, hp => ⟨rfl, fun z hz => by rw [getT] at hz; cases hz; exact ⟨s, p, r, rfl, by simpa using hp, h⟩⟩
  | x :: xs, .mk k key text kids, p, i, r, h, hp => by
    obtain ⟨_, h2⟩ := drop_flat h
    rw [getP, getT, members_T k key text kids h]
    have e1 : (Tr.mk k key text kids).kind = k := rfl
    have e2 : (Tr.mk k key text kids).kids = kids := rfl
    rw [e1, e2]
    by_cases h7 : k = 7
    · rw [if_pos h7, if_pos h7, List.find?_map]
      have e3 : (List.find? ((fun p : ByteArray × Nat => p.1.toList == x.toList) ∘ fun y : Nat × Tr => (y.2.key, i + y.1)) (pl 1 kids)) = (pl 1 kids).find? (fun y => y.2.key.toList == x.toList) := rfl
      rw [e3]
      cases hf : (pl 1 kids).find? (fun y => y.2.key.toList == x.toList) with
      | none => exact ⟨rfl, fun z hz => by cases hz⟩
      | some y =>
        have hy := List.mem_of_find?_eq_some hf
        have hm : (i + y.1, y.2) ∈ pl (i + 1) kids := by rw [pl_shift i kids 1]; exact List.mem_map_of_mem hy
        obtain ⟨⟨r', hr'⟩, hge, _⟩ := pl_mem kids (i + 1) r h2 _ hm
        dsimp only at hr' hge
        obtain ⟨g1, g2⟩ := getP_T xs y.2 (i : Int) (i + y.1) r' hr' (by omega)
        dsimp only [Option.map]
        refine ⟨?_, fun z hz => ?_⟩
        · rw [g1]
          cases getT xs y.2 with
          | none => rfl
          | some z => simp [Nat.add_assoc]
        · cases hg : getT xs y.2 with
          | none => rw [hg] at hz; cases hz
          | some z0 =>
            rw [hg] at hz
            cases hz
            obtain ⟨s2, p2, r2, q1, q2, q3⟩ := g2 z0 hg
            exact ⟨s2, p2, r2, q1, by rw [← Nat.add_assoc]; exact q2, by rw [← Nat.add_assoc]; exact q3⟩
    · rw [if_neg h7, if_neg h7]
      exact ⟨rfl, fun z hz => by cases hz⟩
theorem getP_append (l : List Node) : ∀ (xs ys : List ByteArray) (i : Nat), getP l i (xs ++ ys) = (getP l i xs).bind fun j => getP l j ys
  | [], ys, i => rfl
  | x :: xs, ys, i => by
    rw [List.cons_append, getP, getP]
    cases (membersL l i).find? (fun p => p.1.toList == x.toList) with
    | none => rfl
    | some p => exact getP_append l xs ys p.2
theorem root0_ok (nm : Bool) (t : Tr) (h : t.ok isNumL nm = true) : (root0 t).ok isNumL false = true := by
  cases t with
  | mk k key text kids =>
    rw [root0]
    rw [Tr.ok] at h ⊢
    unfold okN at h ⊢
    simp only [Bool.and_eq_true] at h ⊢
    exact ⟨⟨⟨⟨h.1.1.1.1, by rfl⟩, h.1.1.2⟩, h.1.2⟩, h.2⟩
theorem root0_tx (P : ByteArray → Bool) (hP : P ⟨#[]⟩ = true) (t : Tr) (h : t.tx P = true) : (root0 t).tx P = true := by
  cases t with
  | mk k key text kids =>
    rw [root0]
    rw [Tr.tx, Bool.and_eq_true, Bool.and_eq_true] at h ⊢
    exact ⟨⟨hP, h.1.2⟩, h.2⟩
theorem getT_ok (P : ByteArray → Bool) (hP : P ⟨#[]⟩ = true) : ∀ (xs : List ByteArray) (t : Tr) (nm : Bool) (z : Nat × Tr), t.ok isNumL nm = true → t.tx P = true → getT xs t = some z → z.2.ok isNumL false = true ∧ z.2.tx P = true ∧ z.1 + z.2.size ≤ t.size
  | [], t, nm, z, h1, h2, hz => by
    rw [getT] at hz
    cases hz
    exact ⟨root0_ok nm t h1, root0_tx P hP t h2, by rw [root0_size]; omega⟩
  | x :: xs, .mk k key text kids, nm, z, h1, h2, hz => by
    rw [getT] at hz
    split at hz
    · split at hz
      · rename_i y hf
        have hy := List.mem_of_find?_eq_some hf
        rw [Tr.ok, Bool.and_eq_true] at h1
        rw [Tr.tx, Bool.and_eq_true] at h2
        have h3 := h1.2
        have h4 := h2.2
        rw [oks_all] at h3
        rw [txs_all] at h4
        have hs : y.2 ∈ kids := by rw [← pl_snd 1 kids]; exact List.mem_map_of_mem hy
        have hsz : y.1 + y.2.size ≤ 1 + sizes kids := (pl_mem (l := ((flats 0 1 kids).map toN).cons ⟨0, ⟨#[]⟩, ⟨#[]⟩, 0, 0⟩) (p := 0) kids 1 [] (by simp) y hy).2.2.1
        cases hg : getT xs y.2 with
        | none => rw [hg] at hz; cases hz
        | some z0 =>
          rw [hg] at hz
          cases hz
          obtain ⟨a1, a2, a3⟩ := getT_ok P hP xs y.2 _ z0 (List.all_eq_true.1 h3 _ hs) (List.all_eq_true.1 h4 _ hs) hg
          rw [Tr.size]
          exact ⟨a1, a2, by dsimp only; omega⟩
      · cases hz
    · cases hz
end Go.Proofs.YtfocognhcljhpaaGreatDoor

namespace Go.Proofs.YtfocognhcljhpaaGreatDoor
set_option linter.unusedVariables false
set_option linter.unusedSimpArgs false
open Go.RowKit Go.Shelf Go.Proofs.YtfocognhcljhpaaGreatDoorW.PrintWords Go.Proofs.YtfocognhcljhpaaGreatDoorW.PrintLast Go.Proofs.YtfocognhcljhpaaGreatDoorW.PrintMore Go.Proofs.YtfocognhcljhpaaGreatDoor.PPrintRows Go.Proofs.YtfocognhcljhpaaGreatDoor.Tree

theorem hex16 (d : Nat) (h : d < 16) : ((⟨#[48, 49, 50, 51, 52, 53, 54, 55, 56, 57, 97, 98, 99, 100, 101, 102]⟩ : ByteArray).extract d (d + 1)).data.toList = [hexd d] := by
  rw [ByteArray.data_extract, Array.toList_extract]
  revert h
  revert d
  decide
set_option maxRecDepth 100000 in
set_option maxHeartbeats 4000000 in
theorem quote8_any (s : ByteArray) (hs : s.size ≤ 1000000) (w : World) :
    Calls Tryz.prog 16 #[.string s] w fun e w' => e = .returned (.string ⟨(quoteL s.data.toList).toArray⟩) ∧ Below w.heap.size w w' := by
  go_enter Tryz.func16, Tryz.ntmps16
  go_wp2_with fail
  go_loopw [3, 4] (fun v0 vi wr => ∃ (q : Nat) (o : ByteArray), q ≤ s.size ∧ vi = .int .i64 (q : Int) ∧ v0 = .string o ∧ o.data.toList = 34 :: (s.data.toList.take q).flatMap qc ∧ Below w.heap.size w wr) (fun _ vi _ => s.size - (intOf vi).toNat)
  case atStart => exact ⟨0, ⟨#[34]⟩, Nat.zero_le _, rfl, rfl, rfl, Below.refl _ _⟩
  case round =>
    obtain ⟨q, o, hq, rfl, rfl, ho, hB⟩ := hrel
    by_cases hlt : q < s.size
    · have k9 : decide ((q : Int) < (s.size : Int)) = true := decide_eq_true (by omega)
      have k10 : decide (q < s.size) = true := decide_eq_true hlt
      have HLT := Lib.hid hlt
      obtain ⟨c, hc⟩ : ∃ c : UInt8, s.data.toList[q]? = some c := ⟨s.data.toList[q]'(by simpa using hlt), List.getElem?_eq_getElem _⟩
      have hcn : s[q].toNat = c.toNat := by
        have e : s.data.toList[q]? = some s[q] := by rw [List.getElem?_eq_getElem (by simpa using hlt)]; rfl
        rw [e] at hc
        injection hc with hc
        rw [hc]
      have hstep : (s.data.toList.take (q + 1)).flatMap qc = (s.data.toList.take q).flatMap qc ++ qc c := by
        rw [List.take_add_one, hc]
        simp
      have hex : (s.extract q (q + 1)).data.toList = [c] := by
        rw [ByteArray.data_extract, Array.toList_extract]
        simp [List.extract, List.take_one, hc]
      have FIN := Lib.hid (show ∀ o' : ByteArray, o'.data.toList = o.data.toList ++ qc c → o'.data.toList = 34 :: (s.data.toList.take (q + 1)).flatMap qc from fun o' h => by rw [h, ho, hstep]; rfl)
      have hos : o.size ≤ 6000001 := by
        have h1 := congrArg List.length ho
        have h2 := flat_qc_len (s.data.toList.take q)
        rw [List.length_cons] at h1
        rw [List.length_take] at h2
        have h3 : o.data.toList.length = o.size := by simp
        omega
      have HB := Lib.hid hB
      have hx34 : qc c = if (s[q].toNat : Int) = 34 ∨ (s[q].toNat : Int) = 92 then [92, c] else if (s[q].toNat : Int) < 32 then escL c.toNat else [c] := by
        rw [hcn]
        unfold qc
        have e1 : (c = 34) = ((c.toNat : Int) = 34) := by rw [← UInt8.toNat_inj]; simp; omega
        have e2 : (c = 92) = ((c.toNat : Int) = 92) := by rw [← UInt8.toNat_inj]; simp; omega
        have e3 : (c < 32) = ((c.toNat : Int) < 32) := by rw [UInt8.lt_iff_toNat_lt]; simp; omega
        simp only [e1, e2, e3]
      generalize hn : s[q].toNat = n at hcn hx34
      clear hB ho hstep
      go_wp2_with fail
      all_goals first | (exfalso; omega) | skip
      all_goals (try simp only [beq_iff_eq, beq_eq_false_iff_ne, ne_eq] at *)
      all_goals first
        | (go_roundw
           case rel =>
             refine ⟨q + 1, _, HLT.out, by go_num, rfl, FIN.out _ ?_, HB.out⟩
             simp only [ByteArray.data_append, Array.toList_append, hex, List.append_assoc]
             rw [hx34]
             first
               | (rw [if_pos (by omega)] <;> rfl)
               | (rw [if_neg (by omega), if_pos (by omega)]; unfold escL; (first | rw [show c.toNat = 8 by omega] | rw [show c.toNat = 9 by omega] | rw [show c.toNat = 10 by omega] | rw [show c.toNat = 12 by omega] | rw [show c.toNat = 13 by omega]) <;> rfl)
               | (rw [if_neg (by omega), if_neg (by omega)] <;> rfl)
           case measure => have := HLT.out; simp [intOf]; omega)
        | skip
      go_quiet (fail)
      go_wp2_with fail
      go_roundw
      case rel =>
        refine ⟨q + 1, _, HLT.out, by go_num, rfl, FIN.out _ ?_, below_step HB.out ⟨rfl, rfl, rfl, Nat.le_refl _, fun _ _ => rfl⟩⟩
        erw [hn, hcn]
        have h32 : c.toNat < 32 := by omega
        simp only [ByteArray.data_append, Array.toList_append, hex16 (c.toNat / 16) (by omega), hex16 (c.toNat % 16) (by omega), List.append_assoc]
        rw [hx34, if_neg (by omega), if_pos (by omega)]
        unfold escL
        rw [if_neg (by omega), if_neg (by omega), if_neg (by omega), if_neg (by omega), if_neg (by omega)]
        rfl
      case measure => have := HLT.out; simp [intOf]; omega
    · have hqe : q = s.size := by omega
      subst hqe
      have k9 : decide ((s.size : Int) < (s.size : Int)) = false := decide_eq_false (by omega)
      have hos : o.size ≤ 6000001 := by
        have h1 := congrArg List.length ho
        have h2 := flat_qc_len (s.data.toList.take s.size)
        rw [List.length_cons] at h1
        rw [List.length_take] at h2
        have h3 : o.data.toList.length = o.size := by simp
        omega
      have HO := Lib.hid ho
      have HB := Lib.hid hB
      clear ho hB
      go_wp2_with fail
      all_goals first | (exfalso; omega) | skip
      go_ret
      refine ⟨congrArg (fun z => Ending.returned (.string z)) (show o ++ ⟨#[34]⟩ = _ from ?_), HB.out⟩
      apply ByteArray.ext
      apply Array.toList_inj.1
      rw [ByteArray.data_append, Array.toList_append, HO.out, List.take_of_length_le (by simp)]
      unfold quoteL
      simp
end Go.Proofs.YtfocognhcljhpaaGreatDoor

namespace Go.Proofs.YtfocognhcljhpaaGreatDoor
set_option linter.unusedVariables false
set_option linter.unusedSimpArgs false
open Go.RowKit Go.Shelf Go.Proofs.YtfocognhcljhpaaGreatDoorW.PrintWords Go.Proofs.YtfocognhcljhpaaGreatDoorW.PrintLast Go.Proofs.YtfocognhcljhpaaGreatDoorW.PrintMore Go.Proofs.YtfocognhcljhpaaGreatDoor.PPrintRows Go.Proofs.YtfocognhcljhpaaGreatDoor.Tree

theorem quoteL_le (s : ByteArray) (h : s.size ≤ 100000) : (quoteL s.data.toList).length ≤ 600002 := by
  have h2 := flat_qc_len s.data.toList
  have h3 : s.data.toList.length = s.size := by simp
  unfold quoteL
  simp only [List.length_cons, List.length_append, List.length_nil]
  omega
mutual
theorem prT_le : ∀ t : Tr, t.tx (fun b => decide (b.size ≤ 100000)) = true → (prT quoteL t).length + 600010 ≤ t.size * 2000000
  | .mk k key text kids, h => by
    rw [Tr.tx, Bool.and_eq_true, Bool.and_eq_true] at h
    rw [prT, Tr.size]
    split
    · have h1 := prK_le kids (k == 7) true h.2
      have ho : (opn k).length = 1 := by unfold opn; split <;> rfl
      have hc : (cls k).length = 1 := by unfold cls; split <;> rfl
      simp only [List.length_append, ho, hc]
      omega
    · have h1 := of_decide_eq_true h.1.2
      have h2 := quoteL_le text h1
      have h3 : text.data.toList.length = text.size := by simp
      have hw : (wordB quoteL k text.data.toList).length ≤ 600002 := by
        unfold wordB
        split
        · simp
        · split
          · simp
          · split
            · simp
            · split
              · exact h2
              · omega
      omega
theorem prK_le : ∀ (ts : List Tr) (nm first : Bool), txs (fun b => decide (b.size ≤ 100000)) ts = true → (prK quoteL nm first ts).length ≤ sizes ts * 2000000
  | [], nm, first, _ => by rw [prK]; simp
  | t :: ts, nm, first, h => by
    rw [txs, Bool.and_eq_true] at h
    have h1 := prT_le t h.1
    have h2 := prK_le ts nm false h.2
    have hk : t.key.size ≤ 100000 := by
      cases t with
      | mk k key text kids =>
        have := h.1
        rw [Tr.tx, Bool.and_eq_true, Bool.and_eq_true] at this
        exact of_decide_eq_true this.1.1
    have h3 := quoteL_le t.key hk
    rw [prK, sizes]
    simp only [List.length_append]
    have h4 : (if first = true then ([] : Bs) else [44]).length ≤ 1 := by split <;> simp
    have h5 : (if nm = true then quoteL t.key.data.toList ++ [58] else ([] : Bs)).length ≤ 600003 := by
      split
      · rw [List.length_append]; simp only [List.length_cons, List.length_nil]; omega
      · simp
    omega
end

theorem str_eq {o : ByteArray} {l : Bs} (h : o.data.toList = l) : o = ⟨l.toArray⟩ := by
  apply ByteArray.ext
  apply Array.toList_inj.1
  rw [h]

set_option maxRecDepth 100000 in
set_option maxHeartbeats 4000000 in
theorem print8_leaf (A : Option Addr) (cap base : Nat) (l : List Node) (k : Int) (key text : ByteArray) (i : Nat) (p e : Int) (hi : i < l.length) (hli : l[i] = ⟨k, key, text, p, e⟩) (h1 : 1 ≤ k) (h6 : k < 6) (htx : text.size ≤ 100000) (W : World) (hR : Row7 W base (.slice A l.length cap) l) :
    Calls Tryz.prog 20 #[.slice A l.length cap, .int .i64 (i : Int), .bool false] W fun e w' => e = .returned (.string ⟨(wordB quoteL k text.data.toList).toArray⟩) ∧ Below W.heap.size W w' := by
  obtain ⟨ad, rfl, d0, d1, d2, d3, d4⟩ := node7_at hR i hi
  rw [hli] at d0 d1 d2 d3 d4
  dsimp only at d0 d1 d2 d3 d4
  have k1 : decide (i < l.length) = true := decide_eq_true hi
  have k2 : decide ((i : Int) < (l.length : Int)) = true := decide_eq_true (by omega)
  have QU := Lib.hid (quote8_any text (by omega))
  have HB := Lib.hid (below_alloc (Below.refl W.heap.size W) (.cells #[.int .i64 k, .string key, .string text, .int .i64 p, .int .i64 e] 47))
  clear hR hli
  have hk : k = 1 ∨ k = 2 ∨ k = 3 ∨ k = 4 ∨ k = 5 := by omega
  rcases hk with rfl | rfl | rfl | rfl | rfl
  case inr.inr.inr.inr =>
    go_enter Tryz.func20, Tryz.ntmps20
    go_wp2_with (go_at_call 16; go_must (refine (QU.out _).mono ?_); rintro e' w1 ⟨rfl, hb⟩; have HB2 := Lib.hid (below_step HB.out hb); clear hb)
    go_ret
    exact ⟨rfl, HB2.out⟩
  all_goals
    go_enter Tryz.func20, Tryz.ntmps20
    go_wp2_with fail
    go_ret
    exact ⟨rfl, HB.out⟩

set_option maxRecDepth 100000 in
set_option maxHeartbeats 4000000 in
theorem print8_at (A : Option Addr) (cap base : Nat) (l : List Node) (hl : l.length ≤ 400000) : ∀ (m : Nat) (s : Tr) (nm : Bool) (i : Nat) (p : Int) (r : List Node), s.size ≤ m → s.ok isNumL nm = true → s.tx (fun b => decide (b.size ≤ 100000)) = true → p < (i : Int) → l.drop i = (s.flat p i).map toN ++ r → ∀ W, Row7 W base (.slice A l.length cap) l →
    Calls Tryz.prog 20 #[.slice A l.length cap, .int .i64 (i : Int), .bool false] W fun e w' => e = .returned (.string ⟨(prT quoteL s).toArray⟩) ∧ Below W.heap.size W w'
  | 0, s, nm, i, p, r, hm, _, _, _, _ => by have := s.size_pos; omega
  | m + 1, .mk k key text kids, nm, i, p, r, hm, hok, htx, hp, hd => by
    intro W hR
    obtain ⟨hn, hd2⟩ := drop_flat hd
    obtain ⟨hi, hli⟩ := List.getElem?_eq_some_iff.1 hn
    have hle := (end_of _ hd).2.2.2
    rw [Tr.size] at hm hle
    rw [Tr.ok, Bool.and_eq_true, Bool.and_eq_true] at hok
    rw [Tr.tx, Bool.and_eq_true, Bool.and_eq_true] at htx
    have hk17 : 1 ≤ k ∧ k ≤ 7 := by
      have := hok.1.1
      unfold okN at this
      rw [Bool.and_eq_true, Bool.and_eq_true] at this
      exact of_decide_eq_true this.1.1
    rw [prT]
    by_cases h6 : k < 6
    · rw [if_neg (by omega)]
      exact print8_leaf A cap base l k key text i p _ hi hli hk17.1 h6 (of_decide_eq_true htx.1.2) W hR
    · rw [if_pos (by omega)]
      have IH := Lib.hid (print8_at A cap base l hl m)
      obtain ⟨nmk, hnmk⟩ : ∃ b, (k == 7) = b := ⟨_, rfl⟩
      have k7 := hnmk
      rw [hnmk] at hok ⊢
      have e1 : (k == 1) = false := by simp; omega
      have e2 : (k == 2) = false := by simp; omega
      have e3 : (k == 3) = false := by simp; omega
      have e4 : (k == 4) = false := by simp; omega
      have e5 : (k == 5) = false := by simp; omega
      have HR := Lib.hid hR
      obtain ⟨ad, rfl, d0, d1, d2, d3, d4⟩ := node7_at hR i hi
      rw [hli] at d0 d1 d2 d3 d4
      dsimp only at d0 d1 d2 d3 d4
      have k1 : decide (i < l.length) = true := decide_eq_true hi
      have k2 : decide ((i : Int) < (l.length : Int)) = true := decide_eq_true (by omega)
      obtain ⟨W1, hW1⟩ : ∃ W1, W.alloc (.cells #[.int .i64 k, .string key, .string text, .int .i64 p, .int .i64 ((i + 1 + sizes kids : Nat) : Int)] 47) = W1 := ⟨_, rfl⟩
      have hb1 : Below W.heap.size W W1 := by rw [← hW1]; exact below_alloc (Below.refl _ _) _
      have hx1 : W1.heap[W.heap.size]? = some (.cells #[.int .i64 k, .string key, .string text, .int .i64 p, .int .i64 ((i + 1 + sizes kids : Nat) : Int)] 47 (0, 0)) := by rw [← hW1]; exact blk_new _ _
      have KIDS := Lib.hid (kids8_any (some ad) cap base l i (i + 1 + sizes kids) hi (by rw [hli]) (by omega) (by omega) hl W1 (hR.keep (fun k hk => hb1.block k (hR.own k hk).2)))
      rw [show i + 1 + sizes kids - (i + 1) = sizes kids by omega, kidsR_pl kids (i + 1) r hd2 (by omega)] at KIDS
      rw [← hW1] at KIDS
      obtain ⟨L, hL⟩ : ∃ L, pl (i + 1) kids = L := ⟨_, rfl⟩
      have hLk : L.map (·.2) = kids := by rw [← hL]; exact pl_snd _ _
      have hmem : ∀ x ∈ L, (∃ r', l.drop x.1 = (x.2.flat (i : Int) x.1).map toN ++ r') ∧ i + 1 ≤ x.1 ∧ x.1 + x.2.size ≤ i + 1 + sizes kids ∧ x.2 ∈ kids := by rw [← hL]; exact pl_mem kids (i + 1) r hd2
      rw [hL] at KIDS
      have hLl : L.length ≤ 400000 := by
        have := congrArg List.length hLk
        rw [List.length_map] at this
        have := sizes_len kids
        omega
      have hkx : ∀ t ∈ kids, t.ok isNumL nmk = true ∧ t.tx (fun b => decide (b.size ≤ 100000)) = true := by
        have h1 := hok.2
        have h2 := htx.2
        rw [oks_all] at h1
        rw [txs_all] at h2
        exact fun t ht => ⟨List.all_eq_true.1 h1 t ht, List.all_eq_true.1 h2 t ht⟩
      have hsz : (prK quoteL nmk true kids).length ≤ 800000000000 := by
        have h7 := prK_le kids nmk true htx.2
        have h8 : sizes kids ≤ 400000 := by omega
        omega
      have HK := Lib.hid hLk
      have HME := Lib.hid hmem
      have HKX := Lib.hid hkx
      have HB1 := Lib.hid hb1
      have HX1 := Lib.hid hx1
      have HW1 := Lib.hid hW1
      clear hR hli hn hd hd2 hok htx hk17 hnmk hL hLk hmem hkx hb1 hx1 hW1
      go_enter Tryz.func20, Tryz.ntmps20
      go_wp2_with (go_at_call 55; go_must (refine (KIDS.out).mono ?_); rintro e' w2 ⟨vk, rfl, hOk, hbk⟩; obtain ⟨Ak, ck, hvk⟩ := open_len hOk; rw [List.length_reverse, List.length_map] at hvk; subst hvk; rw [HW1.out] at hbk; have hx2 := (hbk.block _ (blk_lt HX1.out)).trans HX1.out; have c0 : w2.cell? ⟨W.heap.size, 0, none⟩ = some (.int .i64 k) := blkc hx2 0 rfl; have HO := Lib.hid hOk; have HBK := Lib.hid hbk; have HX2 := Lib.hid hx2; clear hOk hbk hx2)
      go_loopw [9, 47] (fun v0 vi wr => ∃ (q : Nat) (o : ByteArray), q ≤ L.length ∧ vi = .int .i64 (q : Int) ∧ v0 = .string o ∧ o.data.toList ++ prK quoteL nmk (q == 0) (kids.drop q) = prK quoteL nmk true kids ∧ Below w2.heap.size w2 wr) (fun _ vi _ => L.length - (intOf vi).toNat)
      case atStart => exact ⟨0, ⟨#[]⟩, Nat.zero_le _, rfl, rfl, rfl, Below.refl _ _⟩
      case round =>
        obtain ⟨q, o, hq, rfl, rfl, ho, hB⟩ := hrel
        have hos : o.size ≤ 800000000000 := by
          have h1 := congrArg List.length ho
          rw [List.length_append] at h1
          have h3 : o.data.toList.length = o.size := by simp
          omega
        have c1 := cellBelow hB c0
        by_cases hlt : q < L.length
        · have k9 : decide ((q : Int) < (L.length : Int)) = true := decide_eq_true (by omega)
          have k10 : decide (q < L.length) = true := decide_eq_true hlt
          have HLT := Lib.hid hlt
          obtain ⟨⟨r', hr'⟩, hx1, hx2, hx3⟩ := HME.out L[q] (List.getElem_mem hlt)
          have hkd : kids.drop q = L[q].2 :: kids.drop (q + 1) := by
            rw [← HK.out, ← List.map_drop, List.drop_eq_getElem_cons hlt, List.map_cons, List.map_drop]
            rfl
          obtain ⟨hto, htt⟩ := HKX.out _ hx3
          obtain ⟨ak, rfl, b0⟩ := open_at HO.out q (by simpa using hlt)
          have b1 := cellBelow hB b0
          have e0 : (L.map (·.1))[q]'(by simpa using hlt) = L[q].1 := by
            simp only [List.getElem_map]
            rfl
          rw [e0] at b1
          clear e0 b0
          obtain ⟨⟨kp, t⟩, hx⟩ : ∃ x, L[q] = x := ⟨_, rfl⟩
          rw [hx] at b1 hr' hx1 hx2 hx3 hkd hto htt
          dsimp only at b1 hr' hx1 hx2 hx3 hkd hto htt
          have htk : t.key.size ≤ 100000 := by
            cases t with
            | mk k key text kids =>
              rw [Tr.tx, Bool.and_eq_true, Bool.and_eq_true] at htt
              exact of_decide_eq_true htt.1.1
          have hpos := t.size_pos
          have hst : t.size ≤ sizes kids := by omega
          have hkl : kp < l.length := by omega
          have k11 : decide (kp < l.length) = true := decide_eq_true hkl
          have k12 : decide ((kp : Int) < (l.length : Int)) = true := decide_eq_true (by omega)
          obtain ⟨qb, hqb⟩ : ∃ qb : ByteArray, (⟨(quoteL t.key.data.toList).toArray⟩ : ByteArray) = qb := ⟨_, rfl⟩
          obtain ⟨pb, hpb⟩ : ∃ pb : ByteArray, (⟨(prT quoteL t).toArray⟩ : ByteArray) = pb := ⟨_, rfl⟩
          have QU := Lib.hid (quote8_any t.key (by omega))
          have hR3 := HR.out.keep (w1 := wr) (fun k hk => ((below_step (below_step HB1.out HBK.out) hB).block k (HR.out.own k hk).2))
          obtain ⟨_, e9, _, g1, _⟩ := node7_at hR3 kp hkl
          injection e9 with e9
          subst e9
          have hky : l[kp].f1 = t.key := by
            have h := (end_of t hr').2.1
            unfold keyAt at h
            rw [List.getElem?_eq_getElem hkl] at h
            exact h
          rw [hky] at g1
          have PR := Lib.hid (fun w (h : Below wr.heap.size wr w) => IH.out t nmk kp (i : Int) r' (by omega) hto htt (by omega) hr' w (HR.out.keep (fun k hk => ((below_step (below_step (below_step HB1.out HBK.out) hB) h).block k (HR.out.own k hk).2))))
          have hps := prT_le t htt
          have hps2 : t.size ≤ 400000 := by omega
          have hqs := quoteL_le t.key htk
          rw [hqb] at QU
          rw [hpb] at PR
          have hqd : qb.data.toList = quoteL t.key.data.toList := by rw [← hqb]
          have hpd : pb.data.toList = prT quoteL t := by rw [← hpb]
          have hqz : qb.size ≤ 600002 := by
            have h1 := congrArg List.length hqd
            have h3 : qb.data.toList.length = qb.size := by simp
            omega
          have hpz : pb.size ≤ 800000000000 := by
            have h1 := congrArg List.length hpd
            have h3 : pb.data.toList.length = pb.size := by simp
            omega
          have STEP := Lib.hid (show ∀ o' : ByteArray, o'.data.toList = o.data.toList ++ ((if (q == 0) = true then [] else [44]) ++ ((if nmk = true then quoteL t.key.data.toList ++ [58] else []) ++ prT quoteL t)) → o'.data.toList ++ prK quoteL nmk (q + 1 == 0) (kids.drop (q + 1)) = prK quoteL nmk true kids by
            intro o' h
            rw [h, ← ho, hkd, prK, show (q + 1 == 0) = false from rfl]
            simp only [List.append_assoc])
          have HB := Lib.hid hB
          clear hkd hto htt hr' hx1 hx2 hx3 hx hqb hpb hR3 hky hB ho htk hpos hst hps hps2 hqs
          by_cases hq0 : q = 0
          · have k53 : decide ((0 : Int) < (q : Int)) = false := decide_eq_false (by omega)
            have k56 : ¬ 0 < q := by omega
            have k54 : (q == 0) = true := by simp [hq0]
            rw [k54] at STEP
            clear hq0
            cases nmk with
            | false =>
              go_wp2_with (go_at_call 20; go_must (refine (PR.out _ (Below.refl _ _)).mono ?_); rintro e' w4 ⟨rfl, hb4⟩; have B4 := Lib.hid (below_step HB.out hb4); clear hb4)
              all_goals first | (exfalso; omega) | skip
              go_roundw
              case rel => exact ⟨q + 1, _, HLT.out, by go_num, rfl, STEP.out _ (by simp [ByteArray.data_append, hpd]), B4.out⟩
              case measure => have := HLT.out; simp [intOf]; omega
            | true =>
              go_wp2_with (first | (go_at_call 16; go_must (refine (QU.out _).mono ?_); rintro e' w3 ⟨rfl, hb3⟩; have B3 := Lib.hid hb3; clear hb3) | (go_at_call 20; go_must (refine (PR.out _ B3.out).mono ?_); rintro e' w4 ⟨rfl, hb4⟩; have B4 := Lib.hid (below_step (below_step HB.out B3.out) hb4); clear hb4))
              all_goals first | (exfalso; omega) | skip
              go_roundw
              case rel => exact ⟨q + 1, _, HLT.out, by go_num, rfl, STEP.out _ (by simp [ByteArray.data_append, hpd, hqd]), B4.out⟩
              case measure => have := HLT.out; simp [intOf]; omega
          · have k53 : decide ((0 : Int) < (q : Int)) = true := decide_eq_true (by omega)
            have k55 : decide (0 < q) = true := decide_eq_true (by omega)
            have k56 : 0 < q := by omega
            have k54 : (q == 0) = false := by simp [hq0]
            rw [k54] at STEP
            clear hq0
            cases nmk with
            | false =>
              go_wp2_with (go_at_call 20; go_must (refine (PR.out _ (Below.refl _ _)).mono ?_); rintro e' w4 ⟨rfl, hb4⟩; have B4 := Lib.hid (below_step HB.out hb4); clear hb4)
              all_goals first | (exfalso; omega) | skip
              go_roundw
              case rel => exact ⟨q + 1, _, HLT.out, by go_num, rfl, STEP.out _ (by simp [ByteArray.data_append, hpd]), B4.out⟩
              case measure => have := HLT.out; simp [intOf]; omega
            | true =>
              go_wp2_with (first | (go_at_call 16; go_must (refine (QU.out _).mono ?_); rintro e' w3 ⟨rfl, hb3⟩; have B3 := Lib.hid hb3; clear hb3) | (go_at_call 20; go_must (refine (PR.out _ B3.out).mono ?_); rintro e' w4 ⟨rfl, hb4⟩; have B4 := Lib.hid (below_step (below_step HB.out B3.out) hb4); clear hb4))
              all_goals first | (exfalso; omega) | skip
              go_roundw
              case rel => exact ⟨q + 1, _, HLT.out, by go_num, rfl, STEP.out _ (by simp [ByteArray.data_append, hpd, hqd]), B4.out⟩
              case measure => have := HLT.out; simp [intOf]; omega
        · have k9 : decide ((q : Int) < (L.length : Int)) = false := decide_eq_false (by omega)
          have hkl : L.length = kids.length := by have := congrArg List.length HK.out; rwa [List.length_map] at this
          rw [List.drop_eq_nil_of_le (by omega), prK, List.append_nil] at ho
          have HO' := Lib.hid ho
          have B5 := Lib.hid (below_step (below_step HB1.out HBK.out) hB)
          have hk7 : opn k = (if nmk = true then [123] else [91]) ∧ cls k = (if nmk = true then [125] else [93]) := by
            unfold opn cls
            by_cases h7 : k = 7
            · rw [if_pos h7, if_pos h7]; have : nmk = true := by rw [← k7]; simp [h7]
              rw [this]; exact ⟨rfl, rfl⟩
            · rw [if_neg h7, if_neg h7]; have : nmk = false := by rw [← k7]; simp [h7]
              rw [this]; exact ⟨rfl, rfl⟩
          have HK7 := Lib.hid hk7
          clear ho hB hkl hk7
          cases nmk with
          | false =>
            go_wp2_with fail
            all_goals first | (exfalso; omega) | skip
            go_ret
            refine ⟨congrArg (fun z => Ending.returned (.string z)) (str_eq ?_), B5.out⟩
            rw [HK7.out.1, HK7.out.2]
            simp [ByteArray.data_append, HO'.out]
          | true =>
            go_wp2_with fail
            all_goals first | (exfalso; omega) | skip
            go_ret
            refine ⟨congrArg (fun z => Ending.returned (.string z)) (str_eq ?_), B5.out⟩
            rw [HK7.out.1, HK7.out.2]
            simp [ByteArray.data_append, HO'.out]
end Go.Proofs.YtfocognhcljhpaaGreatDoor

namespace Go.Proofs.YtfocognhcljhpaaGreatDoor
set_option linter.unusedVariables false
set_option linter.unusedSimpArgs false
open Go.RowKit Go.Shelf Go.Proofs.YtfocognhcljhpaaGreatDoorW.PrintWords Go.Proofs.YtfocognhcljhpaaGreatDoorW.PrintLast Go.Proofs.YtfocognhcljhpaaGreatDoorW.PrintMore Go.Proofs.YtfocognhcljhpaaGreatDoor.PPrintRows Go.Proofs.YtfocognhcljhpaaGreatDoor.Tree

theorem rowT_small (t : Tr) (hs : t.size ≤ 400000) : Small (rowT t) := by
  intro n hn
  obtain ⟨j, hj, rfl⟩ := List.getElem_of_mem hn
  have h := rowT_at t j hj
  rw [rowT_len] at h hj
  omega
theorem row_T (A : Option Addr) (cap : Nat) (l : List Node) (hl : l.length ≤ 400000) (hlc : l.length ≤ cap) (hsm : Small l) (i : Nat) (s : Tr) (p : Int) (r : List Node) (h : l.drop i = (s.flat p i).map toN ++ r) (W : World) (hC : Kd.C kN W A l.length l) :
    Calls Tryz.prog 29 #[.slice A l.length cap, .int .i64 (i : Int)] W fun e' w' => ∃ v, e' = .returned v ∧ RowAt w' W.heap.size v (rowT (root0 s)) ∧ Below W.heap.size W w' := by
  obtain ⟨e1, _, _, e4⟩ := end_of s h
  have hpos := s.size_pos
  have hi : i < l.length := by omega
  have he : l[i].f4 = ((i + s.size : Nat) : Int) := by
    unfold endAt at e1
    rw [List.getElem?_eq_getElem hi] at e1
    exact e1
  have := row_any A cap l hl hlc hsm i (i + s.size) hi he (by omega) (by omega) W hC
  rw [row_root s h] at this
  exact this
theorem print8_T (A : Option Addr) (cap base : Nat) (t : Tr) (hok : t.ok isNumL false = true) (htx : t.tx (fun b => decide (b.size ≤ 100000)) = true) (hs : t.size ≤ 400000) (W : World) (hR : Row7 W base (.slice A (rowT t).length cap) (rowT t)) :
    Calls Tryz.prog 20 #[.slice A (rowT t).length cap, .int .i64 0, .bool false] W fun e w' => e = .returned (.string ⟨(prT quoteL t).toArray⟩) ∧ Below W.heap.size W w' :=
  print8_at A cap base (rowT t) (by rw [rowT_len]; exact hs) t.size t false 0 (-1) [] (Nat.le_refl _) hok htx (by omega) (rowT_drop t) W hR

set_option maxRecDepth 100000 in
set_option maxHeartbeats 4000000 in
theorem nodeSteps_ok (A : Option Addr) (c : Nat) (t : Tr) (ht : TreeOk t) (l : List Node) (hlt : l = rowT t) (W : World) (hc : l.length ≤ c) (hlen : l.length ≤ 300) (htx : ∀ n ∈ l, n.f1.size ≤ 200 ∧ n.f2.size ≤ 200) (htt : t.tx (fun b => decide (b.size ≤ 100000)) = true) (hC : Kd.C kN W A l.length l) (hA : ∀ a, A = some a → a.block < W.heap.size)
    (hlv : lightV l = true) (hcv : chkP l = 0) (Ap : Option Addr) (cp : Nat) (path : List ByteArray) (hpl : path.length ≤ 6) (hpc : path.length ≤ cp) (hcp : cp ≤ 9223372036854775807) (hP : TextsAt W Ap path) (st : Nat) (hst : st < 256) :
    Calls Tryz.prog 9 #[.slice A l.length c, .slice Ap path.length cp, .int .u8 (st : Int)] W fun e w' => e = .returned (.bool true) ∧ Below W.heap.size W w' := by
  have HLI := Lib.hid (fun w (h : Below W.heap.size W w) => light_any A c l (by omega) hc w (Kd.C_below hC h))
  have HCK := Lib.hid (fun w (h : Below W.heap.size W w) => chk_any A c l hc (by omega) (fun n hn => ⟨by have := (htx n hn).1; omega, by have := (htx n hn).2; omega⟩) w (Kd.C_below hC h))
  rw [hlv] at HLI
  rw [hcv] at HCK
  have hmono : ∀ (k : Nat) (h : k < l.length), (k : Int) < l[k].f4 ∧ l[k].f4 ≤ l.length := by subst hlt; exact fun k h => ⟨(rowT_at t k h).1, (rowT_at t k h).2.1⟩
  obtain ⟨k, hk⟩ : ∃ k : Nat, st % (path.length + 1) = k := ⟨_, rfl⟩
  have hkl : k ≤ path.length := by have := Nat.mod_lt st (show 0 < path.length + 1 by omega); omega
  have kr : Int.tmod (st : Int) ((path.length : Int) + 1) = (k : Int) := by rw [← hk]; rfl
  have kp : decide ((6 : Int) < (path.length : Int)) = false := decide_eq_false (by omega)
  have kp2 : ¬ 6 < path.length := by omega
  have hpos : 0 < l.length := by rw [hlt, rowT_len]; exact t.size_pos
  have hsm : Small l := by rw [hlt]; exact rowT_small t (by have := ht.size; omega)
  have hd : l.drop 0 = (t.flat (-1) 0).map toN ++ [] := by rw [hlt]; exact rowT_drop t
  have gi : ∀ xs, getI l 0 xs = getP l 0 xs := fun xs => by unfold getI; rw [if_pos (by omega)]; rfl
  have hp12 : path.take k ++ path.drop k = path := List.take_append_drop k path
  have hp1l : (path.take k).length = k := by rw [List.length_take]; omega
  have hap := getP_append l (path.take k) (path.drop k) 0
  rw [hp12] at hap
  have GET1 := Lib.hid (fun w (h : Below W.heap.size W w) => get_any A c l 0 (by omega) hc hmono Ap cp path (by omega) w (Kd.C_below hC h) (fun a ha => by have := hA a ha; have := h.size; omega) (hP.below h))
  have GET2 := Lib.hid (fun w (h : Below W.heap.size W w) => get_any A c l 0 (by omega) hc hmono Ap cp (path.take k) (by omega) w (Kd.C_below hC h) (fun a ha => by have := hA a ha; have := h.size; omega) (fun j hj => by
    obtain ⟨a, e, hcl⟩ := (hP.below h) j (by rw [List.length_take] at hj; omega)
    exact ⟨a, e, by rw [List.getElem_take]; exact hcl⟩))
  rw [gi] at GET1 GET2
  rw [hp1l] at GET2
  have kc : k ≤ cp := by omega
  obtain ⟨g1, g2⟩ := getP_T (path.take k) t (-1) 0 [] hd (by omega)
  cases hz : getT (path.take k) t with
  | none =>
    rw [hz] at g1
    rw [g1] at hap GET2
    rw [hap] at GET1
    rw [show getV ((Option.map (fun z : Nat × Tr => 0 + z.1) none).bind fun j => getP l j (path.drop k)) = .tuple #[.int .i64 0, .bool false] from rfl] at GET1
    rw [show getV (Option.map (fun z : Nat × Tr => 0 + z.1) none) = .tuple #[.int .i64 0, .bool false] from rfl] at GET2
    clear hlv hcv hC hmono hP hlt hap g1 g2 hz gi
    go_enter Tryz.func9, Tryz.ntmps9
    go_wp2_with (first | (go_at_call 26; go_must (refine (awake09_in _).mono ?_); rintro e w1 ⟨rfl, hb⟩; have B1 := Lib.hid hb; clear hb) | (go_at_call 12; go_must (refine (HLI.out _ B1.out).mono ?_); rintro e w2 ⟨rfl, hb⟩; have B2 := Lib.hid (below_step B1.out hb); clear hb) | (go_at_call 21; go_must (refine (HCK.out _ B2.out).mono ?_); rintro e w3 ⟨rfl, hb⟩; have B3 := Lib.hid (below_step B2.out hb); clear hb) | (go_at_call 36; first | (with_reducible refine (GET1.out _ B3.out).mono ?_; rintro e w4 ⟨rfl, hb⟩; have B4 := Lib.hid (below_step B3.out hb); clear hb) | (refine (GET2.out _ B4.out).mono ?_; rintro e w5 ⟨rfl, hb⟩; have B5 := Lib.hid (below_step B4.out hb); clear hb)))
    go_ret
    exact ⟨rfl, B5.out⟩
  | some z1 =>
    rw [hz] at g1
    obtain ⟨s2, p2, r2, hz2, hp2, hd2⟩ := g2 z1 hz
    obtain ⟨hf, hh⟩ : ∃ hf, 0 + z1.1 = hf := ⟨_, rfl⟩
    rw [hh] at hd2 hp2
    rw [show Option.map (fun z : Nat × Tr => 0 + z.1) (some z1) = some (0 + z1.1) from rfl, hh] at g1
    rw [g1] at hap GET2
    rw [show ((some hf).bind fun j => getP l j (path.drop k)) = getP l hf (path.drop k) from rfl] at hap
    obtain ⟨g3, g4⟩ := getP_T (path.drop k) s2 p2 hf r2 hd2 hp2
    rw [show getV (some hf) = .tuple #[.int .i64 (hf : Int), .bool true] from rfl] at GET2
    rw [g3] at hap
    rw [hap] at GET1
    obtain ⟨en, _, _, ele⟩ := end_of s2 hd2
    have hps := s2.size_pos
    have hfl : hf < l.length := by omega
    obtain ⟨hok2, htx2, _⟩ := getT_ok (fun b => decide (b.size ≤ 100000)) rfl (path.take k) t false z1 ht.ok htt hz
    rw [hz2] at hok2 htx2
    by_cases hkc : cp = k
    · subst hkc
      have hp3 : ∀ w, Below W.heap.size W w → TextsAt w Ap (path.drop cp) := fun w h j hj => absurd hj (by rw [List.length_drop]; omega)
      have GET3 := Lib.hid (fun w (h : Below W.heap.size W w) => get_any A c l (hf : Int) (by omega) hc hmono Ap 0 (path.drop cp) (by rw [List.length_drop]; omega) w (Kd.C_below hC h) (fun a ha => by have := hA a ha; have := h.size; omega) (hp3 w h))
      rw [show getI l (hf : Int) (path.drop cp) = getP l hf (path.drop cp) by unfold getI; rw [if_pos (by omega), Int.toNat_natCast], g3, List.length_drop] at GET3
      obtain ⟨own, hown⟩ : ∃ own, rowT (root0 s2) = own := ⟨_, rfl⟩
      have hownl : own.length = s2.size := by rw [← hown, rowT_len, root0_size]
      have hown9 : own.length ≤ 300 := by omega
      have ROW1 := Lib.hid (fun w (h : Below W.heap.size W w) => row_T A c l (by omega) hc hsm hf s2 p2 r2 hd2 w (Kd.C_below hC h))
      rw [hown] at ROW1
      have howm : ∀ (k : Nat) (h : k < own.length), (k : Int) < own[k].f4 ∧ own[k].f4 ≤ own.length := by subst hown; exact fun k h => ⟨(rowT_at _ k h).1, (rowT_at _ k h).2.1⟩
      have hosm : Small own := by rw [← hown]; exact rowT_small _ (by rw [root0_size]; omega)
      have hod : own.drop 0 = ((root0 s2).flat (-1) 0).map toN ++ [] := by rw [← hown]; exact rowT_drop _
      obtain ⟨g5, g6⟩ := getP_T (path.drop cp) (root0 s2) (-1) 0 [] hod (by omega)
      rw [getT_root] at g5 g6
      have GET4 := Lib.hid (fun w (A5 : Option Addr) (c5 : Nat) (h : Below W.heap.size W w) (h5 : own.length ≤ c5) (hC5 : Kd.C kN w A5 own.length own) (hA5 : ∀ a, A5 = some a → a.block < w.heap.size) => get_any A5 c5 own 0 (by omega) h5 howm Ap 0 (path.drop cp) (by rw [List.length_drop]; omega) w hC5 hA5 (hp3 w h))
      rw [show getI own 0 (path.drop cp) = getP own 0 (path.drop cp) by unfold getI; rw [if_pos (by omega)]; rfl, g5, List.length_drop] at GET4
      clear hownl
      rw [show path.length - cp = 0 by omega] at GET3 GET4
      cases ho : getT (path.drop cp) s2 with
      | none =>
        rw [ho] at GET1 GET3 GET4
        rw [show getV (Option.map (fun z : Nat × Tr => hf + z.1) none) = .tuple #[.int .i64 0, .bool false] from rfl] at GET1 GET3
        rw [show getV (Option.map (fun z : Nat × Tr => 0 + z.1) none) = .tuple #[.int .i64 0, .bool false] from rfl] at GET4
        clear hlv hcv hC hmono hP hlt hap g1 g2 g3 g4 g5 g6 hz gi hp3 howm hosm hod hd hd2 hsm en ho hown
        go_enter Tryz.func9, Tryz.ntmps9
        go_wp2_with (first | (go_at_call 26; go_must (refine (awake09_in _).mono ?_); rintro e w1 ⟨rfl, hb⟩; have B1 := Lib.hid hb; clear hb) | (go_at_call 12; go_must (refine (HLI.out _ B1.out).mono ?_); rintro e w2 ⟨rfl, hb⟩; have B2 := Lib.hid (below_step B1.out hb); clear hb) | (go_at_call 21; go_must (refine (HCK.out _ B2.out).mono ?_); rintro e w3 ⟨rfl, hb⟩; have B3 := Lib.hid (below_step B2.out hb); clear hb) | (go_at_call 36; first | (with_reducible refine (GET1.out _ B3.out).mono ?_; rintro e w4 ⟨rfl, hb⟩; have B4 := Lib.hid (below_step B3.out hb); clear hb) | (with_reducible refine (GET2.out _ B4.out).mono ?_; rintro e w5 ⟨rfl, hb⟩; have B5 := Lib.hid (below_step B4.out hb); clear hb) | (with_reducible refine (GET3.out _ B5.out).mono ?_; rintro e w6 ⟨rfl, hb⟩; have B6 := Lib.hid (below_step B5.out hb); clear hb) | (with_reducible refine (GET4.out _ A5 c5 B7.out HC5 CW7.out LW7.out).mono ?_; rintro e w8 ⟨rfl, hb⟩; have B8 := Lib.hid (below_step B7.out hb); have S8 := Lib.hid hb; clear hb)) | (go_at_call 29; first | (with_reducible refine (ROW1.out _ B6.out).mono ?_; rintro e w7 ⟨v5, rfl, hR, hb⟩; obtain ⟨A5, c5, rfl, HC5⟩ := hR.slice; have B7 := Lib.hid (below_step B6.out hb); have CW7 := Lib.hid (hR.C (by omega)); have LW7 := Lib.hid (show ∀ a, A5 = some a → a.block < w7.heap.size from fun a ha => by subst ha; exact row_lt hR a.block rfl); clear hb hR)))
        go_ret
        exact ⟨rfl, B8.out⟩
      | some z =>
        rw [ho] at GET1 GET3 GET4
        obtain ⟨s3, p3, r3, hz3, hp33, hd3⟩ := g4 z ho
        obtain ⟨s4, p4, r4, hz4, hp4, hd4⟩ := g6 z ho
        obtain ⟨q1, q2, q3⟩ := getT_ok (fun b => decide (b.size ≤ 100000)) rfl (path.drop cp) (root0 s2) false z hok2 htx2 (by rw [getT_root]; exact ho)
        rw [root0_size] at q3
        rw [show getV (Option.map (fun z : Nat × Tr => hf + z.1) (some z)) = .tuple #[.int .i64 ((hf + z.1 : Nat) : Int), .bool true] from rfl] at GET1 GET3
        rw [show getV (Option.map (fun z : Nat × Tr => 0 + z.1) (some z)) = .tuple #[.int .i64 ((0 + z.1 : Nat) : Int), .bool true] from rfl] at GET4
        obtain ⟨wh, hwh⟩ : ∃ wh, hf + z.1 = wh := ⟨_, rfl⟩
        obtain ⟨inn, hinn⟩ : ∃ inn, 0 + z.1 = inn := ⟨_, rfl⟩
        rw [hwh] at GET1 GET3 hd3
        rw [hinn] at GET4 hd4
        obtain ⟨L2, hL2⟩ : ∃ L2, rowT z.2 = L2 := ⟨_, rfl⟩
        have hL2l : L2.length ≤ 300 := by rw [← hL2, rowT_len]; omega
        have ROW2 := Lib.hid (fun w (A5 : Option Addr) (c5 : Nat) (h5 : own.length ≤ c5) (hC5 : Kd.C kN w A5 own.length own) => row_T A5 c5 own (by omega) h5 hosm inn s4 p4 r4 hd4 w hC5)
        have ROW3 := Lib.hid (fun w (h : Below W.heap.size W w) => row_T A c l (by omega) hc hsm wh s3 p3 r3 hd3 w (Kd.C_below hC h))
        rw [← hz4, hL2] at ROW2
        rw [← hz3, hL2] at ROW3
        have TO := Lib.hid (fun w (A6 : Option Addr) (c6 : Nat) (hC6 : Kd.C kN w A6 L2.length L2) => to_any A6 c6 L2 (by omega) w hC6)
        have PR := Lib.hid (fun w (A7 : Option Addr) (c7 base : Nat) (hR7 : Row7 w base (.slice A7 (rowT z.2).length c7) (rowT z.2)) => print8_T A7 c7 base z.2 q1 q2 (by omega) w hR7)
        rw [hL2] at PR
        clear hlv hcv hC hmono hP hlt hap g1 g2 g3 g4 g5 g6 hz gi hp3 howm hosm hod hd hd2 hsm en ho hd3 hd4 hz3 hz4 hown hL2 hwh hinn
        go_enter Tryz.func9, Tryz.ntmps9
        go_wp2_with (first | (go_at_call 26; go_must (refine (awake09_in _).mono ?_); rintro e w1 ⟨rfl, hb⟩; have B1 := Lib.hid hb; clear hb) | (go_at_call 12; go_must (refine (HLI.out _ B1.out).mono ?_); rintro e w2 ⟨rfl, hb⟩; have B2 := Lib.hid (below_step B1.out hb); clear hb) | (go_at_call 21; go_must (refine (HCK.out _ B2.out).mono ?_); rintro e w3 ⟨rfl, hb⟩; have B3 := Lib.hid (below_step B2.out hb); clear hb) | (go_at_call 36; first | (with_reducible refine (GET1.out _ B3.out).mono ?_; rintro e w4 ⟨rfl, hb⟩; have B4 := Lib.hid (below_step B3.out hb); clear hb) | (with_reducible refine (GET2.out _ B4.out).mono ?_; rintro e w5 ⟨rfl, hb⟩; have B5 := Lib.hid (below_step B4.out hb); clear hb) | (with_reducible refine (GET3.out _ B5.out).mono ?_; rintro e w6 ⟨rfl, hb⟩; have B6 := Lib.hid (below_step B5.out hb); clear hb) | (with_reducible refine (GET4.out _ A5 c5 B7.out HC5 CW7.out LW7.out).mono ?_; rintro e w8 ⟨rfl, hb⟩; have B8 := Lib.hid (below_step B7.out hb); have S8 := Lib.hid hb; clear hb)) | (go_at_call 29; first | (with_reducible refine (ROW1.out _ B6.out).mono ?_; rintro e w7 ⟨v5, rfl, hR, hb⟩; obtain ⟨A5, c5, rfl, HC5⟩ := hR.slice; have B7 := Lib.hid (below_step B6.out hb); have CW7 := Lib.hid (hR.C (by omega)); have LW7 := Lib.hid (show ∀ a, A5 = some a → a.block < w7.heap.size from fun a ha => by subst ha; exact row_lt hR a.block rfl); clear hb hR) | (with_reducible refine (ROW2.out _ A5 c5 HC5 (Kd.C_below CW7.out S8.out)).mono ?_; rintro e w9 ⟨v6, rfl, hR, hb⟩; obtain ⟨A6, c6, rfl, HC6⟩ := hR.slice; have B9 := Lib.hid (below_step B8.out hb); have CW9 := Lib.hid (hR.C (by omega)); clear hb hR) | (with_reducible refine (ROW3.out _ B11.out).mono ?_; rintro e w12 ⟨v8, rfl, hR, hb⟩; obtain ⟨A8, c8, rfl, HC8⟩ := hR.slice; have B12 := Lib.hid (below_step B11.out hb); have CW12 := Lib.hid (hR.C (by omega)); clear hb hR)) | (go_at_call 18; first | (with_reducible refine (TO.out _ A6 c6 CW9.out).mono ?_; rintro e w10 ⟨v7, rfl, hR, hb⟩; obtain ⟨A7, c7, rfl, HC7⟩ := hR.slice; have B10 := Lib.hid (below_step B9.out hb); have RW10 := Lib.hid hR; clear hb hR) | (with_reducible refine (TO.out _ A8 c8 CW12.out).mono ?_; rintro e w13 ⟨v9, rfl, hR, hb⟩; obtain ⟨A9, c9, rfl, HC9⟩ := hR.slice; have B13 := Lib.hid (below_step B12.out hb); have RW13 := Lib.hid hR; clear hb hR)) | (go_at_call 20; first | (with_reducible refine (PR.out _ A7 c7 _ RW10.out).mono ?_; rintro e w11 ⟨rfl, hb⟩; have B11 := Lib.hid (below_step B10.out hb); clear hb) | (with_reducible refine (PR.out _ A9 c9 _ RW13.out).mono ?_; rintro e w14 ⟨rfl, hb⟩; have B14 := Lib.hid (below_step B13.out hb); clear hb)))
        go_ret
        exact ⟨by simp, B14.out⟩
    · have hp3 : ∀ w, Below W.heap.size W w → TextsAt w (Option.map (fun x => x.add k) Ap) (path.drop k) := fun w h j hj => by
        obtain ⟨a, e, hcl⟩ := (hP.below h) (k + j) (by rw [List.length_drop] at hj; omega)
        exact ⟨a.add k, by rw [e]; rfl, by rw [← addn_add, List.getElem_drop]; exact hcl⟩
      have GET3 := Lib.hid (fun w (h : Below W.heap.size W w) => get_any A c l (hf : Int) (by omega) hc hmono (Option.map (fun x => x.add k) Ap) (cp - k) (path.drop k) (by rw [List.length_drop]; omega) w (Kd.C_below hC h) (fun a ha => by have := hA a ha; have := h.size; omega) (hp3 w h))
      rw [show getI l (hf : Int) (path.drop k) = getP l hf (path.drop k) by unfold getI; rw [if_pos (by omega), Int.toNat_natCast], g3, List.length_drop] at GET3
      obtain ⟨own, hown⟩ : ∃ own, rowT (root0 s2) = own := ⟨_, rfl⟩
      have hownl : own.length = s2.size := by rw [← hown, rowT_len, root0_size]
      have hown9 : own.length ≤ 300 := by omega
      have ROW1 := Lib.hid (fun w (h : Below W.heap.size W w) => row_T A c l (by omega) hc hsm hf s2 p2 r2 hd2 w (Kd.C_below hC h))
      rw [hown] at ROW1
      have howm : ∀ (k : Nat) (h : k < own.length), (k : Int) < own[k].f4 ∧ own[k].f4 ≤ own.length := by subst hown; exact fun k h => ⟨(rowT_at _ k h).1, (rowT_at _ k h).2.1⟩
      have hosm : Small own := by rw [← hown]; exact rowT_small _ (by rw [root0_size]; omega)
      have hod : own.drop 0 = ((root0 s2).flat (-1) 0).map toN ++ [] := by rw [← hown]; exact rowT_drop _
      obtain ⟨g5, g6⟩ := getP_T (path.drop k) (root0 s2) (-1) 0 [] hod (by omega)
      rw [getT_root] at g5 g6
      have GET4 := Lib.hid (fun w (A5 : Option Addr) (c5 : Nat) (h : Below W.heap.size W w) (h5 : own.length ≤ c5) (hC5 : Kd.C kN w A5 own.length own) (hA5 : ∀ a, A5 = some a → a.block < w.heap.size) => get_any A5 c5 own 0 (by omega) h5 howm (Option.map (fun x => x.add k) Ap) (cp - k) (path.drop k) (by rw [List.length_drop]; omega) w hC5 hA5 (hp3 w h))
      rw [show getI own 0 (path.drop k) = getP own 0 (path.drop k) by unfold getI; rw [if_pos (by omega)]; rfl, g5, List.length_drop] at GET4
      clear hownl
      cases ho : getT (path.drop k) s2 with
      | none =>
        rw [ho] at GET1 GET3 GET4
        rw [show getV (Option.map (fun z : Nat × Tr => hf + z.1) none) = .tuple #[.int .i64 0, .bool false] from rfl] at GET1 GET3
        rw [show getV (Option.map (fun z : Nat × Tr => 0 + z.1) none) = .tuple #[.int .i64 0, .bool false] from rfl] at GET4
        clear hlv hcv hC hmono hP hlt hap g1 g2 g3 g4 g5 g6 hz gi hp3 howm hosm hod hd hd2 hsm en ho hown
        go_enter Tryz.func9, Tryz.ntmps9
        go_wp2_with (first | (go_at_call 26; go_must (refine (awake09_in _).mono ?_); rintro e w1 ⟨rfl, hb⟩; have B1 := Lib.hid hb; clear hb) | (go_at_call 12; go_must (refine (HLI.out _ B1.out).mono ?_); rintro e w2 ⟨rfl, hb⟩; have B2 := Lib.hid (below_step B1.out hb); clear hb) | (go_at_call 21; go_must (refine (HCK.out _ B2.out).mono ?_); rintro e w3 ⟨rfl, hb⟩; have B3 := Lib.hid (below_step B2.out hb); clear hb) | (go_at_call 36; first | (with_reducible refine (GET1.out _ B3.out).mono ?_; rintro e w4 ⟨rfl, hb⟩; have B4 := Lib.hid (below_step B3.out hb); clear hb) | (with_reducible refine (GET2.out _ B4.out).mono ?_; rintro e w5 ⟨rfl, hb⟩; have B5 := Lib.hid (below_step B4.out hb); clear hb) | (with_reducible refine (GET3.out _ B5.out).mono ?_; rintro e w6 ⟨rfl, hb⟩; have B6 := Lib.hid (below_step B5.out hb); clear hb) | (with_reducible refine (GET4.out _ A5 c5 B7.out HC5 CW7.out LW7.out).mono ?_; rintro e w8 ⟨rfl, hb⟩; have B8 := Lib.hid (below_step B7.out hb); have S8 := Lib.hid hb; clear hb)) | (go_at_call 29; first | (with_reducible refine (ROW1.out _ B6.out).mono ?_; rintro e w7 ⟨v5, rfl, hR, hb⟩; obtain ⟨A5, c5, rfl, HC5⟩ := hR.slice; have B7 := Lib.hid (below_step B6.out hb); have CW7 := Lib.hid (hR.C (by omega)); have LW7 := Lib.hid (show ∀ a, A5 = some a → a.block < w7.heap.size from fun a ha => by subst ha; exact row_lt hR a.block rfl); clear hb hR)))
        go_ret
        exact ⟨rfl, B8.out⟩
      | some z =>
        rw [ho] at GET1 GET3 GET4
        obtain ⟨s3, p3, r3, hz3, hp33, hd3⟩ := g4 z ho
        obtain ⟨s4, p4, r4, hz4, hp4, hd4⟩ := g6 z ho
        obtain ⟨q1, q2, q3⟩ := getT_ok (fun b => decide (b.size ≤ 100000)) rfl (path.drop k) (root0 s2) false z hok2 htx2 (by rw [getT_root]; exact ho)
        rw [root0_size] at q3
        rw [show getV (Option.map (fun z : Nat × Tr => hf + z.1) (some z)) = .tuple #[.int .i64 ((hf + z.1 : Nat) : Int), .bool true] from rfl] at GET1 GET3
        rw [show getV (Option.map (fun z : Nat × Tr => 0 + z.1) (some z)) = .tuple #[.int .i64 ((0 + z.1 : Nat) : Int), .bool true] from rfl] at GET4
        obtain ⟨wh, hwh⟩ : ∃ wh, hf + z.1 = wh := ⟨_, rfl⟩
        obtain ⟨inn, hinn⟩ : ∃ inn, 0 + z.1 = inn := ⟨_, rfl⟩
        rw [hwh] at GET1 GET3 hd3
        rw [hinn] at GET4 hd4
        obtain ⟨L2, hL2⟩ : ∃ L2, rowT z.2 = L2 := ⟨_, rfl⟩
        have hL2l : L2.length ≤ 300 := by rw [← hL2, rowT_len]; omega
        have ROW2 := Lib.hid (fun w (A5 : Option Addr) (c5 : Nat) (h5 : own.length ≤ c5) (hC5 : Kd.C kN w A5 own.length own) => row_T A5 c5 own (by omega) h5 hosm inn s4 p4 r4 hd4 w hC5)
        have ROW3 := Lib.hid (fun w (h : Below W.heap.size W w) => row_T A c l (by omega) hc hsm wh s3 p3 r3 hd3 w (Kd.C_below hC h))
        rw [← hz4, hL2] at ROW2
        rw [← hz3, hL2] at ROW3
        have TO := Lib.hid (fun w (A6 : Option Addr) (c6 : Nat) (hC6 : Kd.C kN w A6 L2.length L2) => to_any A6 c6 L2 (by omega) w hC6)
        have PR := Lib.hid (fun w (A7 : Option Addr) (c7 base : Nat) (hR7 : Row7 w base (.slice A7 (rowT z.2).length c7) (rowT z.2)) => print8_T A7 c7 base z.2 q1 q2 (by omega) w hR7)
        rw [hL2] at PR
        clear hlv hcv hC hmono hP hlt hap g1 g2 g3 g4 g5 g6 hz gi hp3 howm hosm hod hd hd2 hsm en ho hd3 hd4 hz3 hz4 hown hL2 hwh hinn
        go_enter Tryz.func9, Tryz.ntmps9
        go_wp2_with (first | (go_at_call 26; go_must (refine (awake09_in _).mono ?_); rintro e w1 ⟨rfl, hb⟩; have B1 := Lib.hid hb; clear hb) | (go_at_call 12; go_must (refine (HLI.out _ B1.out).mono ?_); rintro e w2 ⟨rfl, hb⟩; have B2 := Lib.hid (below_step B1.out hb); clear hb) | (go_at_call 21; go_must (refine (HCK.out _ B2.out).mono ?_); rintro e w3 ⟨rfl, hb⟩; have B3 := Lib.hid (below_step B2.out hb); clear hb) | (go_at_call 36; first | (with_reducible refine (GET1.out _ B3.out).mono ?_; rintro e w4 ⟨rfl, hb⟩; have B4 := Lib.hid (below_step B3.out hb); clear hb) | (with_reducible refine (GET2.out _ B4.out).mono ?_; rintro e w5 ⟨rfl, hb⟩; have B5 := Lib.hid (below_step B4.out hb); clear hb) | (with_reducible refine (GET3.out _ B5.out).mono ?_; rintro e w6 ⟨rfl, hb⟩; have B6 := Lib.hid (below_step B5.out hb); clear hb) | (with_reducible refine (GET4.out _ A5 c5 B7.out HC5 CW7.out LW7.out).mono ?_; rintro e w8 ⟨rfl, hb⟩; have B8 := Lib.hid (below_step B7.out hb); have S8 := Lib.hid hb; clear hb)) | (go_at_call 29; first | (with_reducible refine (ROW1.out _ B6.out).mono ?_; rintro e w7 ⟨v5, rfl, hR, hb⟩; obtain ⟨A5, c5, rfl, HC5⟩ := hR.slice; have B7 := Lib.hid (below_step B6.out hb); have CW7 := Lib.hid (hR.C (by omega)); have LW7 := Lib.hid (show ∀ a, A5 = some a → a.block < w7.heap.size from fun a ha => by subst ha; exact row_lt hR a.block rfl); clear hb hR) | (with_reducible refine (ROW2.out _ A5 c5 HC5 (Kd.C_below CW7.out S8.out)).mono ?_; rintro e w9 ⟨v6, rfl, hR, hb⟩; obtain ⟨A6, c6, rfl, HC6⟩ := hR.slice; have B9 := Lib.hid (below_step B8.out hb); have CW9 := Lib.hid (hR.C (by omega)); clear hb hR) | (with_reducible refine (ROW3.out _ B11.out).mono ?_; rintro e w12 ⟨v8, rfl, hR, hb⟩; obtain ⟨A8, c8, rfl, HC8⟩ := hR.slice; have B12 := Lib.hid (below_step B11.out hb); have CW12 := Lib.hid (hR.C (by omega)); clear hb hR)) | (go_at_call 18; first | (with_reducible refine (TO.out _ A6 c6 CW9.out).mono ?_; rintro e w10 ⟨v7, rfl, hR, hb⟩; obtain ⟨A7, c7, rfl, HC7⟩ := hR.slice; have B10 := Lib.hid (below_step B9.out hb); have RW10 := Lib.hid hR; clear hb hR) | (with_reducible refine (TO.out _ A8 c8 CW12.out).mono ?_; rintro e w13 ⟨v9, rfl, hR, hb⟩; obtain ⟨A9, c9, rfl, HC9⟩ := hR.slice; have B13 := Lib.hid (below_step B12.out hb); have RW13 := Lib.hid hR; clear hb hR)) | (go_at_call 20; first | (with_reducible refine (PR.out _ A7 c7 _ RW10.out).mono ?_; rintro e w11 ⟨rfl, hb⟩; have B11 := Lib.hid (below_step B10.out hb); clear hb) | (with_reducible refine (PR.out _ A9 c9 _ RW13.out).mono ?_; rintro e w14 ⟨rfl, hb⟩; have B14 := Lib.hid (below_step B13.out hb); clear hb)))
        go_ret
        exact ⟨by simp, B14.out⟩

set_option maxRecDepth 100000 in
set_option maxHeartbeats 4000000 in
theorem nodeSteps_not (A : Option Addr) (c : Nat) (l : List Node) (W : World) (hc : l.length ≤ c) (hl : l.length ≤ 9223372036854775807) (hC : Kd.C kN W A l.length l) (Ap : Option Addr) (cp : Nat) (path : List ByteArray) (st : Nat)
    (hno : lightV l = true → chkP l = 0 → 6 < path.length) :
    Calls Tryz.prog 9 #[.slice A l.length c, .slice Ap path.length cp, .int .u8 (st : Int)] W fun e w' => e = .returned (.bool true) ∧ Below W.heap.size W w' := by
  have HLI := Lib.hid (fun w (h : Below W.heap.size W w) => light_any A c l hl hc w (Kd.C_below hC h))
  obtain ⟨lv, hlv⟩ : ∃ lv, lightV l = lv := ⟨_, rfl⟩
  rw [hlv] at HLI hno
  cases lv with
  | false =>
    clear hno hlv hC
    go_enter Tryz.func9, Tryz.ntmps9
    go_wp2_with (first | (go_at_call 26; go_must (refine (awake09_in _).mono ?_); rintro e w1 ⟨rfl, hb⟩; have B1 := Lib.hid hb; clear hb) | (go_at_call 12; go_must (refine (HLI.out _ B1.out).mono ?_); rintro e w2 ⟨rfl, hb⟩; have B2 := Lib.hid (below_step B1.out hb); clear hb))
    go_ret
    exact ⟨rfl, B2.out⟩
  | true =>
    have h1 := hno rfl
    obtain ⟨q1, q2⟩ := light_all hlv
    have HCK := Lib.hid (fun w (h : Below W.heap.size W w) => chk_any A c l hc (by omega) (fun n hn => ⟨by have := (q2 n hn).1; omega, by have := (q2 n hn).2; omega⟩) w (Kd.C_below hC h))
    obtain ⟨cv, hcv⟩ : ∃ cv, chkP l = cv := ⟨_, rfl⟩
    rw [hcv] at HCK h1
    clear hno hlv hC hcv q1 q2
    by_cases h0 : cv = 0
    · have k0 : (cv != 0) = false := by simp [h0]
      have hp := h1 h0
      have k6 : decide ((6 : Int) < (path.length : Int)) = true := decide_eq_true (by omega)
      have k7 : decide (6 < path.length) = true := decide_eq_true hp
      clear h1 h0
      go_enter Tryz.func9, Tryz.ntmps9
      go_wp2_with (first | (go_at_call 26; go_must (refine (awake09_in _).mono ?_); rintro e w1 ⟨rfl, hb⟩; have B1 := Lib.hid hb; clear hb) | (go_at_call 12; go_must (refine (HLI.out _ B1.out).mono ?_); rintro e w2 ⟨rfl, hb⟩; have B2 := Lib.hid (below_step B1.out hb); clear hb) | (go_at_call 21; go_must (refine (HCK.out _ B2.out).mono ?_); rintro e w3 ⟨rfl, hb⟩; have B3 := Lib.hid (below_step B2.out hb); clear hb))
      go_ret
      exact ⟨rfl, B3.out⟩
    · have k0 : (cv != 0) = true := by simpa using h0
      clear h1 h0
      go_enter Tryz.func9, Tryz.ntmps9
      go_wp2_with (first | (go_at_call 26; go_must (refine (awake09_in _).mono ?_); rintro e w1 ⟨rfl, hb⟩; have B1 := Lib.hid hb; clear hb) | (go_at_call 12; go_must (refine (HLI.out _ B1.out).mono ?_); rintro e w2 ⟨rfl, hb⟩; have B2 := Lib.hid (below_step B1.out hb); clear hb) | (go_at_call 21; go_must (refine (HCK.out _ B2.out).mono ?_); rintro e w3 ⟨rfl, hb⟩; have B3 := Lib.hid (below_step B2.out hb); clear hb))
      go_ret
      exact ⟨rfl, B3.out⟩

/-- NodeSteps answers true, whatever it is handed. -/
theorem nodeSteps_row (A : Option Addr) (c : Nat) (l : List Node) (Ap : Option Addr) (cp : Nat) (path : List ByteArray) (a : Int) (W : World) (h : Kd.C kN W A l.length l ∧ l.length ≤ c) (hP : TextsAt W Ap path ∧ path.length ≤ cp ∧ cp ≤ 9223372036854775807) (ha : 0 ≤ a ∧ a ≤ 255) :
    Calls Tryz.prog 9 #[.slice A l.length c, .slice Ap path.length cp, .int .u8 a] W fun e w' => e = .returned (.bool true) ∧ Below W.heap.size W w' := by
  obtain ⟨st, rfl⟩ : ∃ n : Nat, a = (n : Int) := ⟨a.toNat, by omega⟩
  obtain ⟨hC, hc⟩ := h
  obtain ⟨hP, hpc, hcp⟩ := hP
  by_cases h : lightV l = true ∧ chkP l = 0 ∧ path.length ≤ 6
  · obtain ⟨h1, h2, h3⟩ := h
    obtain ⟨t, ht, e⟩ := chk_zero h2
    obtain ⟨q1, q2⟩ := light_all h1
    have hpos : 0 < l.length := by rw [e, rowT_len]; exact t.size_pos
    have htt : t.tx (fun b => decide (b.size ≤ 100000)) = true := by
      rw [← flat_tx (fun b => decide (b.size ≤ 100000)) t (-1) 0, List.all_eq_true]
      intro n hn
      have hm : toN n ∈ l := by rw [e]; exact List.mem_map_of_mem hn
      obtain ⟨a1, a2⟩ := q2 _ hm
      have b1 : n.key.size ≤ 200 := a1
      have b2 : n.text.size ≤ 200 := a2
      rw [Bool.and_eq_true]
      exact ⟨decide_eq_true (by omega), decide_eq_true (by omega)⟩
    refine nodeSteps_ok A c t ht l e W hc q1 q2 htt hC (fun a ha => ?_) h1 h2 Ap cp path h3 hpc hcp hP st (by omega)
    obtain ⟨ad, e2, d0, _⟩ := node_at hC 0 hpos
    rw [ha] at e2
    cases e2
    have := World.block_lt_of_cell? _ _ d0
    rwa [show (a.add (0 * 5)).block = a.block by unfold Addr.add; split <;> rfl] at this
  · exact nodeSteps_not A c l W hc hC.2.1 hC Ap cp path st (fun h1 h2 => by
      rcases Nat.lt_or_ge 6 path.length with h3 | h3
      · exact h3
      · exact absurd ⟨h1, h2, h3⟩ h)
end Go.Proofs.YtfocognhcljhpaaGreatDoor
