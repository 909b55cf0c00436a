/- Those right within a value, members by names: the program's and the document's. -/
import Derived.Test.YtfocognhcljhpaaGreatDoorG8

namespace Go.Proofs.YtfocognhcljhpaaGreatDoor
set_option linter.unusedVariables false
set_option linter.unusedSimpArgs false
open Go.RowKit Go.Shelf Go.Proofs.YtfocognhcljhpaaGreatDoorW.PrintWords Go.Proofs.YtfocognhcljhpaaGreatDoorW.PrintMore Go.Proofs.YtfocognhcljhpaaGreatDoor.PPrintRows Go.Proofs.YtfocognhcljhpaaGreatDoor.Tree

def parAt (l : List Node) (j : Nat) : Int := match l[j]? with | some n => n.f3 | none => -1
/-- The places of f nodes from k on whose parent is i. -/
def kidsR (l : List Node) (i : Int) : Nat → Nat → List Nat
  | _, 0 => []
  | k, f + 1 => if parAt l k = i then k :: kidsR l i (k + 1) f else kidsR l i (k + 1) f
theorem kidsR_add (l : List Node) (i : Int) : ∀ (m n a : Nat), kidsR l i a (m + n) = kidsR l i a m ++ kidsR l i (a + m) n
  | 0, n, a => by simp [kidsR]
  | m + 1, n, a => by
    rw [show m + 1 + n = m + n + 1 by omega, kidsR, kidsR, kidsR_add l i m n (a + 1), show a + (m + 1) = a + 1 + m by omega]
    split <;> simp
theorem kidsR_len (l : List Node) (i : Int) : ∀ (f k : Nat), (kidsR l i k f).length ≤ f
  | 0, _ => by rw [kidsR]; exact Nat.le_refl _
  | f + 1, k => by
    rw [kidsR]
    have := kidsR_len l i f (k + 1)
    split
    · rw [List.length_cons]; omega
    · omega

mutual
theorem kidsR_far {l : List Node} {i : Int} : ∀ (t : Tr) (q : Int) (b : Nat) (r : List Node), l.drop b = (t.flat q b).map toN ++ r → i < q → q < (b : Int) → kidsR l i b t.size = []
  | .mk k key text kids, q, b, r, h, hq, hb => by
    obtain ⟨h1, h2⟩ := drop_flat h
    have hp : parAt l b = q := by unfold parAt; rw [h1]
    rw [Tr.size, show 1 + sizes kids = sizes kids + 1 by omega, kidsR, if_neg (by omega)]
    exact kidsR_fars kids (b : Int) (b + 1) r h2 (by omega) (by omega)
theorem kidsR_fars {l : List Node} {i : Int} : ∀ (ts : List Tr) (q : Int) (b : Nat) (r : List Node), l.drop b = (flats q b ts).map toN ++ r → i < q → q < (b : Int) → kidsR l i b (sizes ts) = []
  | [], q, b, r, _, _, _ => by rw [sizes, kidsR]
  | t :: ts, q, b, r, h, hq, hb => by
    rw [flats, List.map_append, List.append_assoc] at h
    have h2 : l.drop (b + t.size) = (flats q (b + t.size) ts).map toN ++ r := by rw [← List.drop_drop, h, List.drop_left' (by rw [List.length_map, Tr.flat_len])]
    rw [sizes, kidsR_add, kidsR_far t q b _ h hq hb, kidsR_fars ts q (b + t.size) r h2 hq (by omega)]
    rfl
end
theorem kidsR_one {l : List Node} {i : Int} (t : Tr) (b : Nat) (r : List Node) (h : l.drop b = (t.flat i b).map toN ++ r) (hi : i < (b : Int)) : kidsR l i b t.size = [b] := by
  cases t with
  | mk k key text kids =>
    obtain ⟨h1, h2⟩ := drop_flat h
    have hp : parAt l b = i := by unfold parAt; rw [h1]
    rw [Tr.size, show 1 + sizes kids = sizes kids + 1 by omega, kidsR, if_pos hp, kidsR_fars kids (b : Int) (b + 1) r h2 (by omega) (by omega)]
theorem kidsR_pl {l : List Node} {i : Int} : ∀ (ts : List Tr) (b : Nat) (r : List Node), l.drop b = (flats i b ts).map toN ++ r → i < (b : Int) → kidsR l i b (sizes ts) = (pl b ts).map (·.1)
  | [], b, r, _, _ => by rw [sizes, kidsR]; rfl
  | t :: ts, b, r, h, hi => by
    rw [flats, List.map_append, List.append_assoc] at h
    have h2 : l.drop (b + t.size) = (flats i (b + t.size) ts).map toN ++ r := by rw [← List.drop_drop, h, List.drop_left' (by rw [List.length_map, Tr.flat_len])]
    rw [sizes, kidsR_add, kidsR_one t b _ h hi, kidsR_pl ts (b + t.size) r h2 (by omega), pl, List.map_cons]
    rfl

mutual
/-- At each place of a tree's row there is a tree. -/
theorem sub_at {l : List Node} : ∀ (t : Tr) (p : Int) (a : Nat) (r : List Node), l.drop a = (t.flat p a).map toN ++ r → p < (a : Int) → ∀ i, a ≤ i → i < a + t.size → ∃ (s : Tr) (q : Int) (r' : List Node), l.drop i = (s.flat q i).map toN ++ r' ∧ q < (i : Int) ∧ i + s.size ≤ a + t.size
  | .mk k key text kids, p, a, r, h, hp, i, h1, h2 => by
    by_cases e : i = a
    · subst e
      exact ⟨_, p, r, h, hp, Nat.le_refl _⟩
    · obtain ⟨_, h3⟩ := drop_flat h
      rw [Tr.size] at h2 ⊢
      obtain ⟨s, q, r', h4, h5, h6⟩ := subs_at kids (a : Int) (a + 1) r h3 (by omega) i (by omega) (by omega)
      exact ⟨s, q, r', h4, h5, by omega⟩
theorem subs_at {l : List Node} : ∀ (ts : List Tr) (p : Int) (a : Nat) (r : List Node), l.drop a = (flats p a ts).map toN ++ r → p < (a : Int) → ∀ i, a ≤ i → i < a + sizes ts → ∃ (s : Tr) (q : Int) (r' : List Node), l.drop i = (s.flat q i).map toN ++ r' ∧ q < (i : Int) ∧ i + s.size ≤ a + sizes ts
  | [], p, a, r, _, _, i, h1, h2 => by rw [sizes] at h2; omega
  | t :: ts, p, a, r, h, hp, i, h1, h2 => by
    rw [flats, List.map_append, List.append_assoc] at h
    rw [sizes] at h2 ⊢
    by_cases e : i < a + t.size
    · obtain ⟨s, q, r', h4, h5, h6⟩ := sub_at t p a _ h hp i h1 e
      exact ⟨s, q, r', h4, h5, by omega⟩
    · have h3 : l.drop (a + t.size) = (flats p (a + t.size) ts).map toN ++ r := by rw [← List.drop_drop, h, List.drop_left' (by rw [List.length_map, Tr.flat_len])]
      obtain ⟨s, q, r', h4, h5, h6⟩ := subs_at ts p (a + t.size) r h3 (by omega) i (by omega) (by omega)
      exact ⟨s, q, r', h4, h5, by omega⟩
end

/-- The document's places right within a value are the program's. -/
theorem kids_ref {l : List Node} {t : Tr} (hl : l = rowT t) (i : Nat) (hi : i < l.length) : kidsR l (i : Int) (i + 1) ((endAt l i).toNat - (i + 1)) = kidsP l (endAt l i) l.length (i + 1) := by
  have hd : l.drop 0 = (t.flat (-1) 0).map toN ++ [] := by rw [hl]; exact rowT_drop t
  obtain ⟨s, q, r, h1, h2, h3⟩ := sub_at t (-1) 0 [] hd (by omega) i (by omega) (by rw [hl, rowT_len] at hi; omega)
  have he := (end_of s h1).1
  have hle := (end_of s h1).2.2.2
  cases s with
  | mk k key text kids =>
    obtain ⟨_, h4⟩ := drop_flat h1
    rw [Tr.size] at he hle
    have e1 : (endAt l i).toNat - (i + 1) = sizes kids := by rw [he]; omega
    have hsz := sizes_len kids
    rw [e1, kidsR_pl kids (i + 1) r h4 (by omega), he, kids_pl _ kids (i + 1) r l.length h4 (by omega) (by omega)]

/-- A member of a member, by names. -/
def getP (l : List Node) : Nat → List ByteArray → Option Nat
  | i, [] => some i
  | i, x :: xs => match (membersL l i).find? (fun p => p.1.toList == x.toList) with
    | some p => getP l p.2 xs
    | none => none
theorem getP_lt {l : List Node} (hmono : ∀ (k : Nat) (h : k < l.length), (k : Int) < l[k].f4 ∧ l[k].f4 ≤ l.length) : ∀ (xs : List ByteArray) (i j : Nat), i < l.length → getP l i xs = some j → j < l.length
  | [], i, j, hi, h => by rw [getP] at h; cases h; exact hi
  | x :: xs, i, j, hi, h => by
    rw [getP] at h
    split at h
    · rename_i p hp
      have hm := List.mem_of_find?_eq_some hp
      refine getP_lt hmono xs p.2 j ?_ h
      unfold membersL at hm
      split at hm
      · obtain ⟨k, hk, rfl⟩ := List.mem_map.1 hm
        exact itemsL_lt hi (hmono i hi).2 k hk
      · cases hm
    · cases h
end Go.Proofs.YtfocognhcljhpaaGreatDoor

namespace Go.Proofs.YtfocognhcljhpaaGreatDoor
set_option linter.unusedVariables false
set_option linter.unusedSimpArgs false
open Go.RowKit Go.Shelf Go.Proofs.YtfocognhcljhpaaGreatDoorW.PrintWords Go.Proofs.YtfocognhcljhpaaGreatDoorW.PrintLast Go.Proofs.YtfocognhcljhpaaGreatDoorW.PrintMore Go.Proofs.YtfocognhcljhpaaGreatDoor.PPrintRows Go.Proofs.YtfocognhcljhpaaGreatDoor.Tree

theorem open_len {w : World} {base : Nat} {v : Value} {op : List Nat} (h : OpenAt w base v op) : ∃ A c, v = .slice A op.length c := by
  obtain ⟨A, c, e, _⟩ := own_slice (open_own h)
  exact ⟨A, c, e⟩
set_option maxRecDepth 100000 in
set_option maxHeartbeats 4000000 in
theorem kids8_any (A : Option Addr) (cap base : Nat) (l : List Node) (i e : Nat) (hi : i < l.length) (he : l[i].f4 = (e : Int)) (hie : i < e) (hel : e ≤ l.length) (hl : l.length ≤ 400000) (W : World) (hR : Row7 W base (.slice A l.length cap) l) :
    Calls Tryz.prog 55 #[.slice A l.length cap, .int .i64 (i : Int)] W fun e' w' => ∃ v, e' = .returned v ∧ OpenAt w' W.heap.size v (kidsR l (i : Int) (i + 1) (e - (i + 1))).reverse ∧ Below W.heap.size W w' := by
  have HR := Lib.hid hR
  obtain ⟨ad, rfl, _, _, _, _, d4⟩ := node7_at hR i hi
  rw [he] at d4
  have HI := Lib.hid hi
  have HIE := Lib.hid hie
  have HEL := Lib.hid hel
  have k1 : decide (i < l.length) = true := decide_eq_true hi
  have k2 : decide ((i : Int) < (l.length : Int)) = true := decide_eq_true (by omega)
  clear hR he
  go_enter Tryz.func55, Tryz.ntmps55
  go_wp2_with fail
  go_loopw [5, 6] (fun v0 vi wr => ∃ (q : Nat) (A3 : Option Addr) (c3 n3 : Nat) (L3 : List Nat), i + 1 ≤ q ∧ q ≤ e ∧ vi = .int .i64 (q : Int) ∧ v0 = .slice A3 n3 c3 ∧ n3 = L3.length ∧ OpenAt wr W.heap.size (.slice A3 n3 c3) L3 ∧ L3.reverse = kidsR l (i : Int) (i + 1) (q - (i + 1)) ∧ Below W.heap.size W wr)
    (fun _ vi _ => e - (intOf vi).toNat)
  case atStart => exact ⟨i + 1, none, 0, 0, [], Nat.le_refl _, by omega, by go_num, rfl, rfl, open_of (World.ownsRow_nil _ _ _ _), by simp [kidsR], Below.refl _ _⟩
  case round =>
    obtain ⟨q, A3, c3, n3, L3, h1q, h2q, rfl, rfl, rfl, hO3, hL3, hB3⟩ := hrel
    have c4 := cellBelow hB3 d4
    by_cases hlt : q < e
    · have k9 : decide ((q : Int) < (e : Int)) = true := decide_eq_true (by omega)
      have hql : q < l.length := by omega
      have k10 : decide (q < l.length) = true := decide_eq_true hql
      have k11 : decide ((q : Int) < (l.length : Int)) = true := decide_eq_true (by omega)
      have HLT := Lib.hid hlt
      have H1Q := Lib.hid h1q
      obtain ⟨_, e9, _, _, _, d3, _⟩ := node7_at (HR.out.keep (w1 := wr) (fun k hk => hB3.block k (HR.out.own k hk).2)) q hql
      injection e9 with e9
      subst e9
      have hpa : parAt l q = l[q].f3 := by unfold parAt; rw [List.getElem?_eq_getElem hql]
      obtain ⟨x3, hx3⟩ : ∃ x, l[q].f3 = x := ⟨_, rfl⟩
      rw [hx3] at d3 hpa
      have hstep : kidsR l (i : Int) (i + 1) (q + 1 - (i + 1)) = kidsR l (i : Int) (i + 1) (q - (i + 1)) ++ (if x3 = (i : Int) then [q] else []) := by
        rw [show q + 1 - (i + 1) = (q - (i + 1)) + 1 by omega, kidsR_add, show i + 1 + (q - (i + 1)) = q by omega, kidsR, hpa]
        rfl
      clear hx3 hpa
      by_cases hx : x3 = (i : Int)
      · have k3 : (x3 == (i : Int)) = true := by simp [hx]
        rw [if_pos hx] at hstep
        have hln : L3.length ≤ 900000 := by
          have := congrArg List.length hL3
          have h2 := kidsR_len l (i : Int) (q - (i + 1)) (i + 1)
          rw [List.length_reverse] at this
          omega
        have fin : ∃ A5 n5 c5 w5, (Builtin.append_ #[71, 71] 71 #[.slice A3 L3.length c3, .slice (some ⟨wr.heap.size, 0, none⟩) 1 1]).run Tryz.prog (wr.alloc (.cells #[.int .i64 (q : Int)] 3)) = .ok (.slice A5 n5 c5) w5 ∧
            Hid (n5 = (q :: L3).length ∧ OpenAt w5 W.heap.size (.slice A5 n5 c5) (q :: L3) ∧ (q :: L3).reverse = kidsR l (i : Int) (i + 1) (q + 1 - (i + 1)) ∧ Below W.heap.size W w5) := by
          obtain ⟨v5, w5, hr, hO5, hG5, _⟩ := int_append hO3 q hln hB3.size
          obtain ⟨A5, c5, rfl⟩ := open_len hO5
          refine ⟨A5, _, c5, w5, hr, Lib.hid ⟨rfl, hO5, by rw [hstep, List.reverse_cons, hL3], ?_⟩⟩
          exact (below_alloc hB3 _).grown hG5 (by have := hB3.size; simp; omega) (fun k e => (own_int (open_own hO3) k e).1)
        obtain ⟨A5, n5, c5, w5, hr2, hF⟩ := fin
        have HF5 := Lib.hid hF.out
        subst hx
        clear hF hO3 hL3 hB3 hstep
        go_wp2_with (at_builtin; refine wpList_append_runI _ rfl _ _ 71 71 rfl _ _ rfl rfl hr2 ?_)
        go_roundw
        case rel =>
          obtain ⟨h1, h2, h3, h4⟩ := HF5.out
          exact ⟨q + 1, A5, c5, n5, _, by have := H1Q.out; omega, HLT.out, by go_num, rfl, h1, h2, h3, h4⟩
        case measure => have := HLT.out; simp [intOf]; omega
      · have k3 : (x3 == (i : Int)) = false := by simp [hx]
        rw [if_neg hx, List.append_nil, ← hL3] at hstep
        have HF5 := Lib.hid (And.intro hO3 (And.intro hstep hB3))
        clear hO3 hL3 hB3 hstep
        go_wp2_with fail
        go_roundw
        case rel =>
          obtain ⟨h2, h3, h4⟩ := HF5.out
          exact ⟨q + 1, A3, c3, _, L3, by have := H1Q.out; omega, HLT.out, by go_num, rfl, rfl, h2, h3.symm, h4⟩
        case measure => have := HLT.out; simp [intOf]; omega
    · have k9 : decide ((q : Int) < (e : Int)) = false := decide_eq_false (by omega)
      have hqe : q = e := by omega
      subst hqe
      have R3 := Lib.hid (And.intro hO3 (And.intro hL3 hB3))
      clear hL3 hO3 hB3
      go_wp2_with fail
      go_ret
      obtain ⟨r1, r2, r3⟩ := R3.out
      exact ⟨_, rfl, by rw [← r2, List.reverse_reverse]; exact r1, r3⟩

/-- A slice of texts in memory. -/
def TextsAt (w : World) (A : Option Addr) (l : List ByteArray) : Prop := ∀ j (hj : j < l.length), ∃ a, A = some a ∧ w.cell? (a.add j) = some (.string l[j])
theorem TextsAt.below {w w1 : World} {A : Option Addr} {l : List ByteArray} (h : TextsAt w A l) (hb : Below w.heap.size w w1) : TextsAt w1 A l := fun j hj => by
  obtain ⟨a, e, hc⟩ := h j hj
  exact ⟨a, e, cellBelow hb hc⟩

/-- Those right within a value of any place. -/
def itemsI (l : List Node) (i : Int) : List Nat := if 0 ≤ i ∧ i < (l.length : Int) then itemsL l i.toNat else []
def membersI (l : List Node) (i : Int) : List (ByteArray × Nat) := if 0 ≤ i ∧ i < (l.length : Int) then membersL l i.toNat else []
def getI (l : List Node) (i : Int) (path : List ByteArray) : Option Nat := if 0 ≤ i ∧ i < (l.length : Int) then getP l i.toNat path else none
def refV : Option Nat → Int
  | some j => (j : Int)
  | none => -1

set_option maxRecDepth 100000 in
set_option maxHeartbeats 4000000 in
theorem items9_any (A : Option Addr) (cap base : Nat) (l : List Node) (t : Tr) (hlt : l = rowT t) (hl : l.length ≤ 400000) (i : Int) (W : World) (hR : Row7 W base (.slice A l.length cap) l) :
    Calls Tryz.prog 38 #[.slice A l.length cap, .int .i64 i] W fun e' w' => ∃ v, e' = .returned v ∧ OpenAt w' W.heap.size v (itemsI l i).reverse ∧ Below W.heap.size W w' := by
  by_cases h : 0 ≤ i ∧ i < (l.length : Int)
  · obtain ⟨j, rfl⟩ : ∃ j : Nat, i = (j : Int) := ⟨i.toNat, by omega⟩
    have hj : j < l.length := by omega
    have k0 : decide ((j : Int) < 0) = false := decide_eq_false (by omega)
    have k1 : decide ((l.length : Int) ≤ (j : Int)) = false := decide_eq_false (by omega)
    have k2 : decide (j < l.length) = true := decide_eq_true hj
    have k3 : decide ((j : Int) < (l.length : Int)) = true := decide_eq_true (by omega)
    obtain ⟨ad, rfl, d0, _⟩ := node7_at hR j hj
    obtain ⟨m1, m2⟩ : (j : Int) < l[j].f4 ∧ l[j].f4 ≤ l.length := by subst hlt; exact ⟨(rowT_at t j hj).1, (rowT_at t j hj).2.1⟩
    obtain ⟨e, he⟩ : ∃ e : Nat, l[j].f4 = (e : Int) := ⟨l[j].f4.toNat, by omega⟩
    have KI := Lib.hid (kids8_any (some ad) cap base l j e hj he (by omega) (by omega) hl W hR)
    have hke : endAt l j = (e : Int) := by unfold endAt; rw [List.getElem?_eq_getElem hj]; exact he
    have hkr := kids_ref hlt j hj
    rw [hke, Int.toNat_natCast] at hkr
    rw [hkr] at KI
    have hit : itemsI l (j : Int) = if 6 ≤ l[j].f0 then kidsP l (e : Int) l.length (j + 1) else [] := by
      unfold itemsI
      rw [if_pos h, Int.toNat_natCast]
      unfold itemsL
      rw [hke, show kndAt l j = l[j].f0 by unfold kndAt; rw [List.getElem?_eq_getElem hj]]
    rw [hit]
    clear hit hkr hke hR he m1 m2 h
    generalize l[j].f0 = x0 at d0
    by_cases h6 : 6 ≤ x0
    · have k6 : decide (x0 < 6) = false := decide_eq_false (by omega)
      rw [if_pos h6]
      clear hlt
      go_enter Tryz.func38, Tryz.ntmps38
      go_wp2_with (go_at_call 55; go_must (refine (KI.out).mono ?_); rintro e' w2 ⟨v, rfl, hO, hB⟩; have HO := Lib.hid (And.intro hO hB); clear hO hB)
      go_ret
      exact ⟨_, rfl, HO.out.1, HO.out.2⟩
    · have k6 : decide (x0 < 6) = true := decide_eq_true (by omega)
      rw [if_neg h6]
      clear hlt
      go_enter Tryz.func38, Tryz.ntmps38
      go_wp2_with fail
      go_ret
      exact ⟨_, rfl, open_of (World.ownsRow_nil _ _ _ _), Below.refl _ _⟩
  · have hit : itemsI l i = [] := by unfold itemsI; rw [if_neg h]
    rw [hit]
    clear hit hR
    by_cases h0 : i < 0
    · have k0 : decide (i < 0) = true := decide_eq_true h0
      clear hlt
      go_enter Tryz.func38, Tryz.ntmps38
      go_wp2_with fail
      go_ret
      exact ⟨_, rfl, open_of (World.ownsRow_nil _ _ _ _), Below.refl _ _⟩
    · have k0 : decide (i < 0) = false := decide_eq_false h0
      have k1 : decide ((l.length : Int) ≤ i) = true := decide_eq_true (by omega)
      clear hlt
      go_enter Tryz.func38, Tryz.ntmps38
      go_wp2_with fail
      go_ret
      exact ⟨_, rfl, open_of (World.ownsRow_nil _ _ _ _), Below.refl _ _⟩
end Go.Proofs.YtfocognhcljhpaaGreatDoor

namespace Go.Proofs.YtfocognhcljhpaaGreatDoor
set_option linter.unusedVariables false
set_option linter.unusedSimpArgs false
open Go.RowKit Go.Shelf Go.Proofs.YtfocognhcljhpaaGreatDoorW.PrintWords Go.Proofs.YtfocognhcljhpaaGreatDoorW.PrintLast Go.Proofs.YtfocognhcljhpaaGreatDoorW.PrintMore Go.Proofs.YtfocognhcljhpaaGreatDoor.PPrintRows Go.Proofs.YtfocognhcljhpaaGreatDoor.Tree

/-- The first of some places that has a name; -1. -/
def nextV (l : List Node) (ks : List Nat) (x : ByteArray) : Int := refV (ks.find? fun k => (keyAt l k).toList == x.toList)
theorem find_mem (l : List Node) (i : Nat) (x : ByteArray) : (membersL l i).find? (fun p => p.1.toList == x.toList) = if kndAt l i = 7 then ((itemsL l i).find? fun k => (keyAt l k).toList == x.toList).map (mPr l) else none := by
  unfold membersL
  split
  · rw [List.find?_map]
    rfl
  · rfl
theorem nextV_none {l : List Node} {ks : List Nat} {x : ByteArray} (h : ks.find? (fun k => (keyAt l k).toList == x.toList) = none) : nextV l ks x = -1 := by unfold nextV; rw [h]; rfl
theorem nextV_some {l : List Node} {ks : List Nat} {x : ByteArray} {k : Nat} (h : ks.find? (fun k => (keyAt l k).toList == x.toList) = some k) : nextV l ks x = (k : Int) := by unfold nextV; rw [h]; rfl

set_option maxRecDepth 100000 in
set_option maxHeartbeats 4000000 in
theorem getR_ok (A : Option Addr) (cap base : Nat) (l : List Node) (t : Tr) (hlt0 : l = rowT t) (hl : l.length ≤ 400000) (i : Nat) (hi : i < l.length) (Ap : Option Addr) (cp : Nat) (path : List ByteArray) (hpl : path.length ≤ 1000) (W : World)
    (hR : Row7 W base (.slice A l.length cap) l) (hP : TextsAt W Ap path) :
    Calls Tryz.prog 41 #[.slice A l.length cap, .int .i64 (i : Int), .slice Ap path.length cp] W fun e w' => e = .returned (.int .i64 (refV (getP l i path))) ∧ Below W.heap.size W w' := by
  have hmono : ∀ (k : Nat) (h : k < l.length), (k : Int) < l[k].f4 ∧ l[k].f4 ≤ l.length := by subst hlt0; exact fun k h => ⟨(rowT_at t k h).1, (rowT_at t k h).2.1⟩
  have HM := Lib.hid hmono
  have HR := Lib.hid hR
  have HP := Lib.hid hP
  have HLT0 := Lib.hid hlt0
  obtain ⟨res, hres⟩ : ∃ res, getP l i path = res := ⟨_, rfl⟩
  have HRES := Lib.hid hres
  rw [hres]
  have k0 : decide ((i : Int) < 0) = false := decide_eq_false (by omega)
  have k1 : decide ((l.length : Int) ≤ (i : Int)) = false := decide_eq_false (by omega)
  have k2 : decide (l.length ≤ i) = false := decide_eq_false (by omega)
  have k3 : ¬ l.length ≤ i := by omega
  have HI := Lib.hid hi
  clear hmono hR hP hlt0 hres
  go_enter Tryz.func41, Tryz.ntmps41
  go_wp2_with fail
  go_loopw [1, 22] (fun v1 vi wr => ∃ (q i' : Nat), q ≤ path.length ∧ i' < l.length ∧ vi = .int .i64 (q : Int) ∧ v1 = .int .i64 (i' : Int) ∧ getP l i' (path.drop q) = res ∧ Below W.heap.size W wr) (fun _ vi _ => path.length - (intOf vi).toNat)
  case atStart => exact ⟨0, i, Nat.zero_le _, HI.out, rfl, rfl, HRES.out, Below.refl _ _⟩
  case round =>
    obtain ⟨q, i', hq, hi', rfl, rfl, hget, hB⟩ := hrel
    by_cases hlt : q < path.length
    · have k9 : decide ((q : Int) < (path.length : Int)) = true := decide_eq_true (by omega)
      have k10 : decide (q < path.length) = true := decide_eq_true hlt
      obtain ⟨pa, rfl, p0⟩ := HP.out q hlt
      have p1 := cellBelow hB p0
      rw [List.drop_eq_getElem_cons hlt, getP] at hget
      obtain ⟨x, hx⟩ : ∃ x, path[q] = x := ⟨_, rfl⟩
      rw [hx] at p1 hget
      rw [find_mem] at hget
      have k11 : decide (i' < l.length) = true := decide_eq_true hi'
      have k12 : decide ((i' : Int) < (l.length : Int)) = true := decide_eq_true (by omega)
      obtain ⟨ad, rfl, d0, d1, d2, d3, d4⟩ := node7_at (HR.out.keep (w1 := wr) (fun k hk => hB.block k (HR.out.own k hk).2)) i' hi'
      have hkn : kndAt l i' = l[i'].f0 := by unfold kndAt; rw [List.getElem?_eq_getElem hi']
      rw [hkn] at hget
      by_cases h7 : l[i'].f0 = 7
      · rw [if_pos h7] at hget
        have k7 : (l[i'].f0 != 7) = false := by simp [h7]
        obtain ⟨m1, m2⟩ := HM.out i' hi'
        obtain ⟨e, he⟩ : ∃ e : Nat, l[i'].f4 = (e : Int) := ⟨l[i'].f4.toNat, by omega⟩
        have KI := Lib.hid (fun w (h : Below wr.heap.size wr w) => kids8_any (some ad) cap base l i' e hi' he (by omega) (by omega) hl w (HR.out.keep (fun k hk => (below_step hB h).block k (HR.out.own k hk).2)))
        have hke : endAt l i' = (e : Int) := by unfold endAt; rw [List.getElem?_eq_getElem hi']; exact he
        have hkr := kids_ref HLT0.out i' hi'
        rw [hke, Int.toNat_natCast] at hkr
        have hit : itemsL l i' = kidsP l (e : Int) l.length (i' + 1) := by unfold itemsL; rw [hkn, if_pos (by omega), hke]
        rw [hkr, ← hit] at KI
        obtain ⟨L, hL⟩ : ∃ L, itemsL l i' = L := ⟨_, rfl⟩
        have hLl : L.length ≤ l.length := by rw [← hL]; exact itemsL_len l i'
        have hLm : ∀ k ∈ L, k < l.length := by rw [← hL]; exact itemsL_lt hi' m2
        rw [hL] at KI hget
        have HGET := Lib.hid hget
        have HLM := Lib.hid hLm
        have HB := Lib.hid hB
        generalize l[i'].f0 = x0 at d0 k7
        clear hget hLm hB hkn hkr hit hke he m1 m2 d1 d2 d3 d4 h7 hL hx
        go_wp2_with (go_at_call 55; go_must (refine (KI.out _ (Below.refl _ _)).mono ?_); rintro e' w2 ⟨vk, rfl, hOk, hbk⟩; obtain ⟨Ak, ck, hvk⟩ := open_len hOk; rw [List.length_reverse] at hvk; subst hvk; have HO := Lib.hid hOk; have HBK := Lib.hid hbk; clear hOk hbk)
        go_loopw [9, 36] (fun v9 vi wr3 => ∃ (q2 : Nat), q2 ≤ L.length ∧ vi = .int .i64 (q2 : Int) ∧ v9 = .int .i64 (nextV l (L.take q2) x) ∧ Below w2.heap.size w2 wr3) (fun _ vi _ => L.length - (intOf vi).toNat)
        case atStart => exact ⟨0, Nat.zero_le _, rfl, rfl, Below.refl _ _⟩
        case round =>
          obtain ⟨q2, hq2, rfl, rfl, hB2⟩ := hrel
          by_cases hl2 : q2 < L.length
          · have k13 : decide ((q2 : Int) < (L.length : Int)) = true := decide_eq_true (by omega)
            have k14 : decide (q2 < L.length) = true := decide_eq_true hl2
            have HL2 := Lib.hid hl2
            obtain ⟨ak, rfl, b0⟩ := open_at HO.out q2 hl2
            have b1 := cellBelow hB2 b0
            have hkl := HLM.out L[q2] (List.getElem_mem hl2)
            have htk : L.take (q2 + 1) = L.take q2 ++ [L[q2]] := List.take_succ_eq_append_getElem hl2
            obtain ⟨kp, hkp, b2⟩ : ∃ kp : Nat, L[q2] = kp ∧ wr.cell? (ak.add q2) = some (.int .i64 (kp : Int)) := ⟨_, rfl, b1⟩
            rw [hkp] at hkl htk
            have k15 : decide (kp < l.length) = true := decide_eq_true hkl
            have k16 : decide ((kp : Int) < (l.length : Int)) = true := decide_eq_true (by omega)
            obtain ⟨_, e9, _, g1, g2, g3, g4⟩ := node7_at (HR.out.keep (w1 := wr) (fun k hk => (below_step (below_step HB.out HBK.out) hB2).block k (HR.out.own k hk).2)) kp hkl
            injection e9 with e9
            subst e9
            have hky : keyAt l kp = l[kp].f1 := by unfold keyAt; rw [List.getElem?_eq_getElem hkl]
            obtain ⟨key, hkey⟩ : ∃ z, l[kp].f1 = z := ⟨_, rfl⟩
            rw [hkey] at g1 hky
            have hfa : (L.take (q2 + 1)).find? (fun k => (keyAt l k).toList == x.toList) = ((L.take q2).find? (fun k => (keyAt l k).toList == x.toList)).or (if (key.toList == x.toList) = true then some kp else none) := by
              rw [htk, List.find?_append, List.find?_singleton, hky]
            have HB2 := Lib.hid hB2
            clear htk hB2 b0 b1 hkp hky hkey g2 g3 g4
            cases hfd : (L.take q2).find? (fun k => (keyAt l k).toList == x.toList) with
            | some k0 =>
              rw [hfd, Option.some_or] at hfa
              rw [nextV_some hfd]
              have k17 : decide ((k0 : Int) < 0) = false := decide_eq_false (by omega)
              have HFA := Lib.hid hfa
              clear hfa hfd
              go_wp2_with fail
              go_roundw
              case rel => exact ⟨q2 + 1, HL2.out, by go_num, by rw [nextV_some HFA.out], HB2.out⟩
              case measure => have := HL2.out; simp [intOf]; omega
            | none =>
              rw [hfd, Option.none_or] at hfa
              rw [nextV_none hfd]
              by_cases hkx : (key.toList == x.toList) = true
              · rw [if_pos hkx] at hfa
                have HFA := Lib.hid hfa
                clear hfa hfd
                go_wp2_with fail
                go_roundw
                case rel => exact ⟨q2 + 1, HL2.out, by go_num, by rw [nextV_some HFA.out], HB2.out⟩
                case measure => have := HL2.out; simp [intOf]; omega
              · rw [if_neg hkx] at hfa
                have hkx2 : (key.toList == x.toList) = false := by simpa using hkx
                have HFA := Lib.hid hfa
                clear hfa hfd hkx
                go_wp2_with fail
                go_roundw
                case rel => exact ⟨q2 + 1, HL2.out, by go_num, by rw [nextV_none HFA.out], HB2.out⟩
                case measure => have := HL2.out; simp [intOf]; omega
          · have k13 : decide ((q2 : Int) < (L.length : Int)) = false := decide_eq_false (by omega)
            rw [List.take_of_length_le (by omega)]
            have hget := HGET.out
            have HBE := Lib.hid (below_step (below_step HB.out HBK.out) hB2)
            have HLTQ := Lib.hid hlt
            clear hB2
            cases hfd : L.find? (fun k => (keyAt l k).toList == x.toList) with
            | none =>
              rw [hfd] at hget
              dsimp only [Option.map] at hget
              subst hget
              rw [nextV_none hfd]
              clear hfd
              go_wp2_with fail
              go_ret
              exact ⟨rfl, HBE.out⟩
            | some k0 =>
              rw [hfd] at hget
              dsimp only [Option.map, mPr] at hget
              rw [nextV_some hfd]
              have k17 : decide ((k0 : Int) < 0) = false := decide_eq_false (by omega)
              have HK0 := Lib.hid (HLM.out k0 (List.mem_of_find?_eq_some hfd))
              have HG2 := Lib.hid hget
              clear hfd hget
              go_wp2_with fail
              go_roundw
              case rel => exact ⟨q + 1, k0, HLTQ.out, HK0.out, by go_num, rfl, HG2.out, HBE.out⟩
              case measure => have := HLTQ.out; simp [intOf]; omega
      · rw [if_neg h7] at hget
        have k7 : (l[i'].f0 != 7) = true := by simp [h7]
        have HB := Lib.hid hB
        generalize l[i'].f0 = x0 at d0 k7
        dsimp only at hget
        subst hget
        clear hB hkn d1 d2 d3 d4 h7 hx
        go_wp2_with fail
        go_ret
        exact ⟨rfl, HB.out⟩
    · have hqq : q = path.length := by omega
      subst hqq
      have k9 : decide ((path.length : Int) < (path.length : Int)) = false := decide_eq_false (by omega)
      rw [List.drop_eq_nil_of_le (Nat.le_refl _), getP] at hget
      subst hget
      have HB := Lib.hid hB
      clear hB
      go_wp2_with fail
      go_ret
      exact ⟨rfl, HB.out⟩

theorem getR_any (A : Option Addr) (cap base : Nat) (l : List Node) (t : Tr) (hlt0 : l = rowT t) (hl : l.length ≤ 400000) (i : Int) (Ap : Option Addr) (cp : Nat) (path : List ByteArray) (hpl : path.length ≤ 1000) (W : World)
    (hR : Row7 W base (.slice A l.length cap) l) (hP : TextsAt W Ap path) :
    Calls Tryz.prog 41 #[.slice A l.length cap, .int .i64 i, .slice Ap path.length cp] W fun e w' => e = .returned (.int .i64 (refV (getI l i path))) ∧ Below W.heap.size W w' := by
  unfold getI
  by_cases h : 0 ≤ i ∧ i < (l.length : Int)
  · obtain ⟨j, rfl⟩ : ∃ j : Nat, i = (j : Int) := ⟨i.toNat, by omega⟩
    rw [if_pos h, Int.toNat_natCast]
    exact getR_ok A cap base l t hlt0 hl j (by omega) Ap cp path hpl W hR hP
  · rw [if_neg h]
    clear hlt0 hR
    by_cases h0 : i < 0
    · have k0 : decide (i < 0) = true := decide_eq_true h0
      go_enter Tryz.func41, Tryz.ntmps41
      go_wp2_with fail
      go_ret
      exact ⟨rfl, Below.refl _ _⟩
    · have k0 : decide (i < 0) = false := decide_eq_false h0
      have k1 : decide ((l.length : Int) ≤ i) = true := decide_eq_true (by omega)
      go_enter Tryz.func41, Tryz.ntmps41
      go_wp2_with fail
      go_ret
      exact ⟨rfl, Below.refl _ _⟩
end Go.Proofs.YtfocognhcljhpaaGreatDoor

namespace Go.Proofs.YtfocognhcljhpaaGreatDoor
set_option linter.unusedVariables false
set_option linter.unusedSimpArgs false
open Go.RowKit Go.Shelf Go.Proofs.YtfocognhcljhpaaGreatDoorW.PrintWords Go.Proofs.YtfocognhcljhpaaGreatDoorW.PrintLast Go.Proofs.YtfocognhcljhpaaGreatDoorW.PrintMore Go.Proofs.YtfocognhcljhpaaGreatDoor.PPrintRows Go.Proofs.YtfocognhcljhpaaGreatDoor.Tree
attribute [local go_sem] Oper.semAt_some

theorem there_no (A : Option Addr) (n c : Nat) (i : Int) (h : i < 0 ∨ (n : Int) ≤ i) (w : World) : Calls Tryz.prog 68 #[.slice A n c, .int .i64 i] w fun e w' => e = .returned (.bool false) ∧ w = w' := by
  by_cases h0 : 0 ≤ i
  · have k0 : decide (0 ≤ i) = true := decide_eq_true h0
    have k1 : decide (i < (n : Int)) = false := decide_eq_false (by omega)
    go_enter Tryz.func68, Tryz.ntmps68
    go_wp2
    go_ret
    exact ⟨rfl, rfl⟩
  · have k0 : decide (0 ≤ i) = false := decide_eq_false h0
    go_enter Tryz.func68, Tryz.ntmps68
    go_wp2
    go_ret
    exact ⟨rfl, rfl⟩

/-- Marks of ranges over functions that a frame has gone through: each its own, none shut. -/
def MarksAt (base : Nat) (rs : List Nat) (w : World) : Prop := rs.Nodup ∧ ∀ r ∈ rs, base ≤ r ∧ w.heap[r]? = some (.deferred (some []))
def marksD (rs : List Nat) : List Deferred := rs.map fun r => { target := .collected r, args := #[] }
theorem MarksAt.keep {base : Nat} {rs : List Nat} {w w1 : World} (h : MarksAt base rs w) (hk : ∀ (k : Nat) (o : Obj), w.heap[k]? = some o → o.isCells = false → w1.heap[k]? = some o) : MarksAt base rs w1 :=
  ⟨h.1, fun r hr => ⟨(h.2 r hr).1, hk _ _ (h.2 r hr).2 rfl⟩⟩
theorem leaves_marks {F : Fence} {n : Nat} {P : Program} {fn : Func} {tmps : Array Value} {R : Ending → World → Prop} {base : Nat} : ∀ (rs : List Nat) (w : World), MarksAt base rs w → (∀ w', Below base w w' → LeavesIn F n P fn tmps R [] .returning w') → LeavesInM F n P fn tmps R (marksD rs) .returning w
  | [], w, _, h => h w (Below.refl _ _)
  | r :: rs, w, hm, h => by
    obtain ⟨hn, hm⟩ := hm
    obtain ⟨hb, hd⟩ := hm r (by simp)
    have hb1 : Below base w (w.putObj r (.deferred none)) := ⟨rfl, rfl, rfl, by simp [World.putObj], fun k hk => World.putObj_heap_other (by omega)⟩
    refine ⟨by simp, .inl ⟨r, _, rfl, run_takeDeferred hd, leaves_marks rs _ ⟨(List.nodup_cons.1 hn).2, fun r' hr' => ⟨(hm r' (by simp [hr'])).1, (World.putObj_heap_other (fun e => ?_)).trans (hm r' (by simp [hr'])).2⟩⟩ (fun w' hw' => h w' (hb1.trans hw'))⟩⟩
    exact (List.nodup_cons.1 hn).1 (by first | exact e ▸ hr' | exact e.symm ▸ hr')

set_option maxRecDepth 100000 in
set_option maxHeartbeats 4000000 in
theorem items1_no (lp Bi Bl n : Nat) (A : Option Addr) (cap m : Nat) (i : Int) (hno : i < 0 ∨ (m : Int) ≤ i) (W : World) (hBi : W.heap[Bi]? = some (.cells #[.int .i64 i] 3 (0, 0))) (hBl : W.heap[Bl]? = some (.cells #[.slice A m cap] 22 (0, 0))) :
    CallsIn Fence.wide (n + 1) Tryz.prog 72 #[.func (.yield lp) #[] #[], .pointer (some ⟨Bl, 0, none⟩), .pointer (some ⟨Bi, 0, none⟩)] W fun e W' => (∃ v, e = .returned v) ∧ W' = W := by
  have ci : W.cell? ⟨Bi, 0, none⟩ = some (.int .i64 i) := blkc hBi 0 rfl
  have cl : W.cell? ⟨Bl, 0, none⟩ = some (.slice A m cap) := blkc hBl 0 rfl
  have TH := Lib.hid (fun w => there_no A m cap i hno w)
  refine callsIn_of_wp Tryz.func72 rfl trivial ?_ rfl
  simp only [Tryz.ntmps72, List.size_toArray, List.length_cons, List.length_nil, Nat.reduceAdd, Nat.reduceSub, Array.replicate_succ, Array.replicate_zero, List.push_toArray, List.append_toArray, List.nil_append, List.cons_append]
  gi_wp2_with (refine ⟨trivial, ?_⟩; gi_at_call 68; go_must (refine ((callsIn_wide (n := n)).2 (TH.out _)).mono ?_); rintro e' w1 ⟨rfl, rfl⟩)
  refine bodyPost_ret (results_none rfl _ _ _) rfl ?_
  exact ⟨⟨_, rfl⟩, rfl⟩

set_option maxRecDepth 100000 in
set_option maxHeartbeats 4000000 in
theorem members1_no (lp Bi Bl : Nat) (A : Option Addr) (cap m : Nat) (i : Int) (hno : i < 0 ∨ (m : Int) ≤ i) (W : World) (hBi : W.heap[Bi]? = some (.cells #[.int .i64 i] 3 (0, 0))) (hBl : W.heap[Bl]? = some (.cells #[.slice A m cap] 22 (0, 0))) :
    CallsIn Fence.wide 9 Tryz.prog 71 #[.func (.yield lp) #[] #[], .pointer (some ⟨Bl, 0, none⟩), .pointer (some ⟨Bi, 0, none⟩)] W fun e W' => (∃ v, e = .returned v) ∧ Below W.heap.size W W' := by
  have ci : W.cell? ⟨Bi, 0, none⟩ = some (.int .i64 i) := blkc hBi 0 rfl
  have cl : W.cell? ⟨Bl, 0, none⟩ = some (.slice A m cap) := blkc hBl 0 rfl
  have hb1 : Below W.heap.size W (W.alloc (.cells #[.func (.yield lp) #[] #[]] tFn)) := below_alloc (Below.refl _ _) _
  have ci1 := cellBelow hb1 ci
  have cl1 := cellBelow hb1 cl
  have TH := Lib.hid (fun w => there_no A m cap i hno w)
  have HB1 := Lib.hid hb1
  clear hb1
  refine callsIn_of_wp_marks Tryz.func71 rfl trivial ?_ rfl
  simp only [Tryz.ntmps71, List.size_toArray, List.length_cons, List.length_nil, Nat.reduceAdd, Nat.reduceSub, Array.replicate_succ, Array.replicate_zero, List.push_toArray, List.append_toArray, List.nil_append, List.cons_append]
  gi_wp2_with (refine ⟨trivial, ?_⟩; gi_at_call 68; go_must (refine ((callsIn_wide (n := 8)).2 (TH.out _)).mono ?_); rintro e' w1 ⟨rfl, rfl⟩)
  exact ⟨_, results_none rfl _ _ _, ⟨_, rfl⟩, HB1.out⟩

theorem Chg.kpM2 {S : Nat → Prop} {X Y : World} {A : Option Addr} {N : Nat} (h : Chg S X Y) (hS : ∀ k, S k → k < X.heap.size → ∃ cs T, X.heap[k]? = some (.cells cs T (0, 0)) ∧ T ≠ 22 ∧ (k < N ∨ (T ≠ 3 ∧ T ≠ tFn))) (hA : ∀ a, A = some a → a.block < X.heap.size ∧ ¬ S a.block) : KpM A N X Y :=
  ⟨h.size, fun k o hk _ ho => (h.block k (blk_lt hk) (fun hs => by obtain ⟨cs, T, e, _⟩ := hS k hs (blk_lt hk); rw [e] at hk; cases hk; cases ho)).trans hk,
    fun k cs T hk hT => (h.block k (blk_lt hk) (fun hs => by
      obtain ⟨cs', T', e, n1, n2⟩ := hS k hs (blk_lt hk)
      rw [e] at hk
      cases hk
      rcases hT with e | ⟨hN, e⟩
      · exact n1 e
      · rcases n2 with n2 | ⟨n2, n3⟩
        · omega
        · rcases e with e | e
          · exact n2 e
          · exact n3 e)).trans hk,
    fun a ha => h.block _ (hA a ha).1 (hA a ha).2⟩
theorem membersL_lt {l : List Node} (hmono : ∀ (k : Nat) (h : k < l.length), (k : Int) < l[k].f4 ∧ l[k].f4 ≤ l.length) {i : Nat} (hi : i < l.length) : ∀ p ∈ membersL l i, p.2 < l.length := by
  intro p hp
  unfold membersL at hp
  split at hp
  · obtain ⟨k, hk, rfl⟩ := List.mem_map.1 hp
    exact itemsL_lt hi (hmono i hi).2 k hk
  · cases hp

theorem pre_nil {α : Type} {l : List α} (h : l <+: []) : l = [] := List.prefix_nil.1 h

theorem seq_itemsI (m Bi Bl : Nat) (A : Option Addr) (cap : Nat) (l : List Node) (i : Int) (hl : l.length ≤ 900000) (hlc : l.length ≤ cap)
    (hmono : ∀ (k : Nat) (h : k < l.length), (k : Int) < l[k].f4 ∧ l[k].f4 ≤ l.length) (w0 : World) (hBi : w0.heap[Bi]? = some (.cells #[.int .i64 i] 3 (0, 0))) (hBl : w0.heap[Bl]? = some (.cells #[.slice A l.length cap] 22 (0, 0))) (hC : Kd.C kN w0 A l.length l) :
    SeqB (m + 1) Tryz.prog 72 #[.pointer (some ⟨Bl, 0, none⟩), .pointer (some ⟨Bi, 0, none⟩)] intEnc (fun _ => KpS (WS Bi Bl A)) (fun _ A B => B = A) (fun pre x => pre ++ [x] <+: itemsI l i) (fun ys => ys = itemsI l i) (fun pre => pre <+: itemsI l i) w0 := by
  unfold itemsI
  by_cases h : 0 ≤ i ∧ i < (l.length : Int)
  · rw [if_pos h]
    obtain ⟨j, rfl⟩ : ∃ j : Nat, i = (j : Int) := ⟨i.toNat, by omega⟩
    exact seq_items m Bi Bl A cap l j (by omega) hl hlc hmono w0 hBi hBl hC
  · rw [if_neg h]
    intro lp J Jx W hW _ _ _ h0
    refine (items1_no lp Bi Bl m A cap l.length i (by omega) W ((hW.block Bi (blk_lt hBi)).trans hBi) (blk_below hBl hW)).mono ?_
    rintro e W' ⟨h1, rfl⟩
    exact ⟨h1, .inl ⟨[], rfl, h0⟩⟩
theorem seq_membersI (Bi Bl : Nat) (A : Option Addr) (cap : Nat) (l : List Node) (i : Int) (hl : l.length ≤ 900000) (hlc : l.length ≤ cap)
    (hmono : ∀ (k : Nat) (h : k < l.length), (k : Int) < l[k].f4 ∧ l[k].f4 ≤ l.length) (w0 : World) (hBi : w0.heap[Bi]? = some (.cells #[.int .i64 i] 3 (0, 0))) (hBl : w0.heap[Bl]? = some (.cells #[.slice A l.length cap] 22 (0, 0))) (hC : Kd.C kN w0 A l.length l) (hA : ∀ a, A = some a → a.block < w0.heap.size) :
    SeqB 9 Tryz.prog 71 #[.pointer (some ⟨Bl, 0, none⟩), .pointer (some ⟨Bi, 0, none⟩)] mEnc (KpM A) MvM (fun pre x => pre ++ [x] <+: membersI l i) (fun ys => ys = membersI l i) (fun pre => pre <+: membersI l i) w0 := by
  unfold membersI
  by_cases h : 0 ≤ i ∧ i < (l.length : Int)
  · rw [if_pos h]
    obtain ⟨j, rfl⟩ : ∃ j : Nat, i = (j : Int) := ⟨i.toNat, by omega⟩
    exact seq_members Bi Bl A cap l j (by omega) hl hlc hmono w0 hBi hBl hC hA
  · rw [if_neg h]
    intro lp J Jx W hW hJ _ _ h0
    refine (members1_no lp Bi Bl A cap l.length i (by omega) W ((hW.block Bi (blk_lt hBi)).trans hBi) (blk_below hBl hW)).mono ?_
    rintro e W' ⟨h1, h2⟩
    exact ⟨h1, .inl ⟨[], rfl, hJ _ _ _ h0 (MvM.of_below h2)⟩⟩

def txtAt (l : List Node) (j : Nat) : ByteArray := match l[j]? with | some n => n.f2 | none => ⟨#[]⟩
def getV : Option Nat → Value
  | some j => .tuple #[.int .i64 (j : Int), .bool true]
  | none => .tuple #[.int .i64 0, .bool false]

set_option maxRecDepth 100000 in
set_option maxHeartbeats 4000000 in
theorem get_ok (A : Option Addr) (cap : Nat) (l : List Node) (i : Nat) (hi : i < l.length) (hl : l.length ≤ 900000) (hlc : l.length ≤ cap)
    (hmono : ∀ (k : Nat) (h : k < l.length), (k : Int) < l[k].f4 ∧ l[k].f4 ≤ l.length) (Ap : Option Addr) (cp : Nat) (path : List ByteArray) (hpl : path.length ≤ 1000)
    (W : World) (hC : Kd.C kN W A l.length l) (hA : ∀ a, A = some a → a.block < W.heap.size) (hP : TextsAt W Ap path) :
    Calls Tryz.prog 36 #[.slice A l.length cap, .int .i64 (i : Int), .slice Ap path.length cp] W fun e w' => e = .returned (getV (getP l i path)) ∧ Below W.heap.size W w' := by
  have HM := Lib.hid hmono
  have HC := Lib.hid hC
  have HA := Lib.hid hA
  have HP := Lib.hid hP
  have TH := Lib.hid (fun w => there_yes A l.length cap i hi w)
  obtain ⟨res, hres⟩ : ∃ res, getP l i path = res := ⟨_, rfl⟩
  have HRES := Lib.hid hres
  rw [hres]
  clear hmono hC hP hres hA
  have HW0 := Lib.hid (below_alloc (Below.refl W.heap.size W) (.cells #[.int .i64 (i : Int)] 3))
  have HX0 := Lib.hid (blk_new W (.cells #[.int .i64 (i : Int)] 3))
  refine (callsIn_wide (n := 10)).1 ?_
  refine callsIn_of_wp_marks Tryz.func36 rfl trivial ?_ rfl
  simp only [Tryz.ntmps36, List.size_toArray, List.length_cons, List.length_nil, Nat.reduceAdd, Nat.reduceSub, Array.replicate_succ, Array.replicate_zero, List.push_toArray, List.append_toArray, List.nil_append, List.cons_append]
  gi_wp2
  refine scope_straight_in ?_
  gi_wp2_with (refine ⟨trivial, ?_⟩; gi_at_call 68; go_must (refine ((callsIn_wide (n := 9)).2 (TH.out _)).mono ?_); rintro e' w1 ⟨rfl, rfl⟩)
  refine wpIn_label ?_
  gi_wp2
  refine wpIn_loop (fun a wr => ∃ (q i' : Nat) (rs : List Nat) (x9 x19 x20 x21 x22 x23 x24 x31 : Value), a = { tmps := #[.slice A l.length cap, .int .i64 (i : Int), .slice Ap path.length cp, undef, .pointer (some ⟨W.heap.size, 0, none⟩), undef, .int .i64 0, .bool false, undef, x9, undef, undef, .slice A l.length cap, .int .i64 (i : Int), .bool true, .bool false, .slice Ap path.length cp, .int .i64 (path.length : Int), .int .i64 (q : Int), x19, x20, x21, x22, x23, x24, undef, undef, undef, undef, undef, undef, x31, undef], defers := marksD rs } ∧
      q ≤ path.length ∧ i' < l.length ∧ getP l i' (path.drop q) = res ∧ wr.heap[W.heap.size]? = some (.cells #[.int .i64 (i' : Int)] 3 (0, 0)) ∧ MarksAt W.heap.size rs wr ∧ Below W.heap.size W wr)
    (fun a _ => path.length - (intOf (a.tmps.getD 18 undef)).toNat) ?start ?round
  case start => exact ⟨0, i, [], undef, undef, undef, undef, undef, undef, undef, undef, rfl, Nat.zero_le _, hi, HRES.out, HX0.out, ⟨List.nodup_nil, fun _ h => by cases h⟩, HW0.out⟩
  case round =>
    rintro a wr ⟨q, i', rs, x9, x19, x20, x21, x22, x23, x24, x31, rfl, hq, hi', hget, hbox, hmk, hB⟩
    have hW := hB.size
    have c0 : wr.cell? ⟨W.heap.size, 0, none⟩ = some (.int .i64 (i' : Int)) := blkc hbox 0 rfl
    by_cases hlt : q < path.length
    · have k9 : decide ((q : Int) < (path.length : Int)) = true := decide_eq_true (by omega)
      have k10 : decide (q < path.length) = true := decide_eq_true hlt
      obtain ⟨pa, rfl, p0⟩ := HP.out q hlt
      have p1 := cellBelow hB p0
      rw [List.drop_eq_getElem_cons hlt, getP] at hget
      obtain ⟨x, hx⟩ : ∃ x, path[q] = x := ⟨_, rfl⟩
      rw [hx] at p1 hget
      have c5 := cellBelow (below_alloc (Below.refl wr.heap.size wr) (.cells #[.string x] 9)) c0
      have HGET := Lib.hid hget
      have HMK := Lib.hid hmk
      have HB := Lib.hid hB
      have HBOX := Lib.hid hbox
      clear hget hmk hB hbox p0 hx
      gi_wp2_with (refine ⟨trivial, ?_⟩; gi_at_call 34; go_must (refine ((callsIn_wide (n := 9)).2 (members_any _ _ _ _ _)).mono ?_); rintro e' w4 ⟨rfl, hw4⟩; have HW4 := Lib.hid hw4; clear hw4)
      have hw4 := HW4.out
      have g0 : w4.heap[wr.heap.size]? = some (.cells #[.string x] 9 (0, 0)) := by rw [hw4]; exact allocs_get wr [.cells #[.string x] 9, .cells #[.slice A l.length cap] 22, .cells #[.int .i64 (i' : Int)] 3] 0 _ rfl
      have g1 : w4.heap[wr.heap.size + 1]? = some (.cells #[.slice A l.length cap] 22 (0, 0)) := by rw [hw4]; exact allocs_get wr [.cells #[.string x] 9, .cells #[.slice A l.length cap] 22, .cells #[.int .i64 (i' : Int)] 3] 1 _ rfl
      have g2 : w4.heap[wr.heap.size + 1 + 1]? = some (.cells #[.int .i64 (i' : Int)] 3 (0, 0)) := by rw [hw4]; exact allocs_get wr [.cells #[.string x] 9, .cells #[.slice A l.length cap] 22, .cells #[.int .i64 (i' : Int)] 3] 2 _ rfl
      have hb4 : Below wr.heap.size wr w4 := by rw [hw4]; exact allocs_below wr [.cells #[.string x] 9, .cells #[.slice A l.length cap] 22, .cells #[.int .i64 (i' : Int)] 3]
      have hsz4 : w4.heap.size = wr.heap.size + 3 := by rw [hw4]; simp
      have hbox4 : w4.heap[W.heap.size]? = some (.cells #[.int .i64 (i' : Int)] 3 (0, 0)) := (hb4.block _ (blk_lt HBOX.out)).trans HBOX.out
      have hbw4 := below_step HB.out hb4
      have hC4 := Kd.C_below HC.out hbw4
      have hmk4 : MarksAt W.heap.size rs w4 := HMK.out.keep (fun k o ho _ => (hb4.block k (blk_lt ho)).trans ho)
      have hbl := blk_lt HBOX.out
      have HSQ := Lib.hid (seq_members (wr.heap.size + 1 + 1) (wr.heap.size + 1) A cap l i' hi' hl hlc HM.out w4 g2 g1 hC4 (fun a ha => by have := HA.out a ha; omega))
      have HG0 := Lib.hid g0
      have HBOX4 := Lib.hid hbox4
      have HBW4 := Lib.hid hbw4
      have HMK4 := Lib.hid hmk4
      clear hw4 HW4 g0 g1 g2 hb4 hbox4 hbw4 hC4 hmk4 HMK HB HBOX c0 c5 p1 HRES HW0 HX0
      have hf0 : Hid (∀ p ∈ ([] : List (ByteArray × Nat)), (p.1.toList == x.toList) = false) := Lib.hid (fun _ h => by cases h)
      refine range_b (by omega) (gf := 71) (lb := #[.pointer (some ⟨wr.heap.size + 1, 0, none⟩), .pointer (some ⟨wr.heap.size + 1 + 1, 0, none⟩)]) rfl (enters_of Tryz.func71 (by kernel_rfl) rfl)
        HSQ.out (Below.refl _ _) (fun h k => h.trans k) (fun X l' o o' h1 h2 ho hc' => KpM.putObj h2 (fun a ha => by have := HA.out a ha; omega) ho hc') (fun X Y (h : MvM _ X Y) k o h1 h2 ho => h.block k o ho (.inl h2)) (fun _ => rfl)
        (fun pre X => Below w4.heap.size w4 X ∧ ∀ p ∈ pre, (p.1.toList == x.toList) = false)
        (fun c pre X => c = .exit 1 ∧ ∃ (pre' : List (ByteArray × Nat)) (y : ByteArray × Nat), pre = pre' ++ [y] ∧ (∀ p ∈ pre', (p.1.toList == x.toList) = false) ∧ (y.1.toList == x.toList) = true ∧ Chg (fun j => j = W.heap.size) w4 X ∧ X.heap[W.heap.size]? = some (.cells #[.int .i64 (y.2 : Int)] 3 (0, 0)))
        (fun s X Y row hs hg hr => ⟨hs.1.grown hg hs.1.size (fun k e => (hr k e).1), hs.2⟩)
        (fun c s X Y row hs hg hr => by
          obtain ⟨h1, pre', y, h2, h3, h4, h5, h6⟩ := hs
          have hkb : ∀ k, k < w4.heap.size → k < X.heap.size → Y.heap[k]? = X.heap[k]? := fun k h1 h2 => hg.block k h2 (fun e => by have := (hr k e.symm).1; omega)
          exact ⟨h1, pre', y, h2, h3, h4, ⟨hg.os.trans h5.os, hg.tape.trans h5.tape, hg.output.trans h5.output, Nat.le_trans h5.size hg.size, fun k hk hs => (hkb k hk (Nat.lt_of_lt_of_le hk h5.size)).trans (h5.block k hk hs)⟩, (hkb _ (by omega) (blk_lt h6)).trans h6⟩)
        (fun s X Y h (k : MvM _ X Y) => ⟨h.1.trans (k.to_below (by omega) h.1.size), h.2⟩)
        (fun c s X Y h (k : MvM _ X Y) => by
          obtain ⟨h1, pre', y, h2, h3, h4, h5, h6⟩ := h
          have kb := k.to_below (M := w4.heap.size) (by omega) h5.size
          exact ⟨h1, pre', y, h2, h3, h4, ⟨kb.os.trans h5.os, kb.tape.trans h5.tape, kb.output.trans h5.output, Nat.le_trans h5.size kb.size, fun k hk hs => (kb.block k hk).trans (h5.block k hk hs)⟩, (kb.block _ (by omega)).trans h6⟩)
        ⟨Below.refl _ _, hf0.out⟩
        (fun y a' X => a' = { tmps := #[.slice A l.length cap, .int .i64 (i : Int), .slice (some pa) path.length cp, undef, .pointer (some ⟨W.heap.size, 0, none⟩), undef, .int .i64 0, .bool false, undef, .pointer (some ⟨wr.heap.size, 0, none⟩), .string y.1, .int .i64 (y.2 : Int), .slice A l.length cap, .int .i64 (i : Int), .bool true, .bool false, .slice (some pa) path.length cp, .int .i64 (path.length : Int), .int .i64 (q : Int), .bool true, .pointer (some (pa.add q)), .string x, .slice A l.length cap, .int .i64 (i' : Int),
            .func (.func 71) #[] #[.pointer (some ⟨wr.heap.size + 1, 0, none⟩), .pointer (some ⟨wr.heap.size + 1 + 1, 0, none⟩)], .string y.1, .int .i64 (y.2 : Int), undef, undef, undef, undef, x31, undef], defers := [] })
        (fun x a' s X Y row hs hg hr => hs) ?assign ?body ?done ?stop
      case assign =>
        rintro lq pre y X K hI hK
        have e1 : (mEnc y) = #[.string y.1, .int .i64 (y.2 : Int)] := rfl
        rw [e1]
        have HI := Lib.hid hI
        clear e1 hI
        gi_wp2
        exact hK _ _ (KeepsFrom.refl _ _) (KpM.refl _ _ _) HI.out rfl
      case body =>
        rintro lq pre y a' X hlq ⟨r, hr⟩ ⟨hbx, hf⟩ rfl hT
        have hg0 := (hbx.block _ (by omega)).trans HG0.out
        have hbo := (hbx.block W.heap.size (by omega)).trans HBOX4.out
        have c9 : X.cell? ⟨wr.heap.size, 0, none⟩ = some (.string x) := blkc hg0 0 rfl
        have cf : X.cell? ⟨W.heap.size, 0, none⟩ = some (.int .i64 (i' : Int)) := blkc hbo 0 rfl
        have qf := blk_frozen hbo 0
        have HBX := Lib.hid hbx
        have HF := Lib.hid hf
        have HBO := Lib.hid hbo
        clear hbx hf hg0 hbo hr hT
        dsimp only
        by_cases hky : (y.1.toList == x.toList) = true
        · gi_wp2
          have ch : Chg (fun j => j = W.heap.size) X (X.setCell ⟨W.heap.size, 0, none⟩ (.int .i64 (y.2 : Int))) := Chg.setCell rfl
          have hXs := HBX.out.size
          refine ⟨ch.keepsFrom (fun k hk _ => by subst hk; exact ⟨_, _, HBO.out⟩), ch.kpM2 (fun k hk _ => by subst hk; exact ⟨_, _, HBO.out, by decide, .inl (by omega)⟩) (fun a ha => by have := HA.out a ha; exact ⟨by omega, by omega⟩), rfl, pre, y, rfl, HF.out, hky, (Chg.below HBX.out).trans ch, by simp [World.setCell, Array.getElem?_modify, HBO.out]⟩
        · have hky2 : (y.1.toList == x.toList) = false := by simpa using hky
          gi_wp2
          refine ⟨KeepsFrom.refl _ _, KpM.refl _ _ _, HBX.out, fun p hp => ?_⟩
          rcases List.mem_append.1 hp with hp | hp
          · exact HF.out p hp
          · rw [List.mem_singleton] at hp
            rw [hp]; exact hky2
      case done =>
        rintro D ys X hD rfl ⟨hbx, hf⟩ hK
        have hfn : (membersL l i').find? (fun p => p.1.toList == x.toList) = none := List.find?_eq_none.2 (fun p hp => by rw [hf p hp]; simp)
        have hres := HGET.out
        rw [hfn] at hres
        have hmkX : MarksAt W.heap.size (D :: rs) X := ⟨List.nodup_cons.2 ⟨fun h => by have := blk_lt (HMK4.out.2 D h).2; omega, HMK4.out.1⟩, fun r hr => by
          rcases List.mem_cons.1 hr with rfl | hr
          · exact ⟨by omega, hK⟩
          · exact ⟨(HMK4.out.2 r hr).1, (hbx.block r (blk_lt (HMK4.out.2 r hr).2)).trans (HMK4.out.2 r hr).2⟩⟩
        have HMX := Lib.hid hmkX
        have HBX := Lib.hid (below_step HBW4.out hbx)
        subst hres
        clear hmkX hbx hf hfn hK
        gi_wp2
        refine (leaves_marks (D :: rs) _ HMX.out fun w' hw' => ?_)
        exact ⟨_, results_tmp2 rfl _ _ _, rfl, HBX.out.trans hw'⟩
      case stop =>
        rintro D c pre X hD hSp ⟨rfl, pre', y, rfl, hf, hky, hch, hbo⟩ hK
        obtain ⟨tl, htl⟩ := hSp
        have hfn : (membersL l i').find? (fun p => p.1.toList == x.toList) = some y := by
          rw [← htl, List.append_assoc, List.find?_append, List.find?_eq_none.2 (fun p hp => by rw [hf p hp]; simp)]
          simp [hky]
        have hres := HGET.out
        rw [hfn] at hres
        have hylt : y.2 < l.length := membersL_lt HM.out hi' y (by rw [← htl]; simp)
        have hmkX : MarksAt W.heap.size (D :: rs) X := ⟨List.nodup_cons.2 ⟨fun h => by have := blk_lt (HMK4.out.2 D h).2; omega, HMK4.out.1⟩, fun r hr => by
          rcases List.mem_cons.1 hr with rfl | hr
          · exact ⟨by omega, hK⟩
          · have h9 := (HMK4.out.2 r hr).2
            exact ⟨(HMK4.out.2 r hr).1, (hch.block r (blk_lt h9) (fun e => by rw [e, HBOX4.out] at h9; cases h9)).trans h9⟩⟩
        have hbX : Below W.heap.size W X := HBW4.out.trans (hch.to_below (by omega) (fun k hk => by omega))
        have HMX := Lib.hid hmkX
        have HBX := Lib.hid hbX
        have HRS := Lib.hid hres
        have HBO := Lib.hid hbo
        clear hmkX hbX hf hfn hK hres hbo hch hky htl
        gi_wp2
        refine ⟨⟨q + 1, y.2, D :: rs, ⟨by omega, rfl⟩, hlt, hylt, HRS.out, HBO.out, HMX.out, HBX.out⟩, ?_⟩
        simp [intOf]
        omega
    · have hqq : q = path.length := by omega
      subst hqq
      have k9 : decide ((path.length : Int) < (path.length : Int)) = false := decide_eq_false (by omega)
      rw [List.drop_eq_nil_of_le (Nat.le_refl _), getP] at hget
      subst hget
      have HMK := Lib.hid hmk
      have HB := Lib.hid hB
      clear hmk hB hbox HRES
      gi_wp2
      refine noGoto_ret (leaves_marks rs _ HMK.out fun w' hw' => ?_)
      exact ⟨_, results_tmp2 rfl _ _ _, rfl, HB.out.trans hw'⟩

theorem get_any (A : Option Addr) (cap : Nat) (l : List Node) (i : Int) (hl : l.length ≤ 900000) (hlc : l.length ≤ cap)
    (hmono : ∀ (k : Nat) (h : k < l.length), (k : Int) < l[k].f4 ∧ l[k].f4 ≤ l.length) (Ap : Option Addr) (cp : Nat) (path : List ByteArray) (hpl : path.length ≤ 1000)
    (W : World) (hC : Kd.C kN W A l.length l) (hA : ∀ a, A = some a → a.block < W.heap.size) (hP : TextsAt W Ap path) :
    Calls Tryz.prog 36 #[.slice A l.length cap, .int .i64 i, .slice Ap path.length cp] W fun e w' => e = .returned (getV (getI l i path)) ∧ Below W.heap.size W w' := by
  unfold getI
  by_cases h : 0 ≤ i ∧ i < (l.length : Int)
  · obtain ⟨j, rfl⟩ : ∃ j : Nat, i = (j : Int) := ⟨i.toNat, by omega⟩
    rw [if_pos h, Int.toNat_natCast]
    exact get_ok A cap l j (by omega) hl hlc hmono Ap cp path hpl W hC hA hP
  · rw [if_neg h]
    have TH := Lib.hid (fun w => there_no A l.length cap i (by omega) w)
    have HW0 := Lib.hid (below_alloc (Below.refl W.heap.size W) (.cells #[.int .i64 i] 3))
    clear hC hmono
    refine (callsIn_wide (n := 10)).1 ?_
    refine callsIn_of_wp_marks Tryz.func36 rfl trivial ?_ rfl
    simp only [Tryz.ntmps36, List.size_toArray, List.length_cons, List.length_nil, Nat.reduceAdd, Nat.reduceSub, Array.replicate_succ, Array.replicate_zero, List.push_toArray, List.append_toArray, List.nil_append, List.cons_append]
    gi_wp2
    refine scope_straight_in ?_
    gi_wp2_with (refine ⟨trivial, ?_⟩; gi_at_call 68; go_must (refine ((callsIn_wide (n := 9)).2 (TH.out _)).mono ?_); rintro e' w1 ⟨rfl, rfl⟩)
    refine noGoto_ret ?_
    exact ⟨_, results_tmp2 rfl _ _ _, rfl, HW0.out⟩

/-- A member's text. -/
def textV (l : List Node) (o : Option Nat) : Value := match o with
  | some j => if kndAt l j = 5 then .tuple #[.string (txtAt l j), .bool true] else .tuple #[.string ⟨#[]⟩, .bool false]
  | none => .tuple #[.string ⟨#[]⟩, .bool false]

set_option maxRecDepth 100000 in
set_option maxHeartbeats 4000000 in
theorem ntext_any (A : Option Addr) (cap : Nat) (l : List Node) (i : Int) (hl : l.length ≤ 900000) (hlc : l.length ≤ cap)
    (hmono : ∀ (k : Nat) (h : k < l.length), (k : Int) < l[k].f4 ∧ l[k].f4 ≤ l.length) (key : ByteArray)
    (W : World) (hC : Kd.C kN W A l.length l) (hA : ∀ a, A = some a → a.block < W.heap.size) :
    Calls Tryz.prog 42 #[.slice A l.length cap, .int .i64 i, .string key] W fun e w' => e = .returned (textV l (getI l i [key])) ∧ Below W.heap.size W w' := by
  have hlt : ∀ j, getI l i [key] = some j → j < l.length := by
    intro j h
    unfold getI at h
    split at h
    · exact getP_lt hmono [key] i.toNat j (by omega) h
    · cases h
  obtain ⟨W1, hW1⟩ : ∃ W1, W.alloc (.cells #[.string key] 9) = W1 := ⟨_, rfl⟩
  have hb1 : Below W.heap.size W W1 := by rw [← hW1]; exact below_alloc (Below.refl _ _) _
  have hx1 : W1.heap[W.heap.size]? = some (.cells #[.string key] 9 (0, 0)) := by rw [← hW1]; exact blk_new _ _
  have GET := Lib.hid (get_any A cap l i hl hlc hmono (some ⟨W.heap.size, 0, none⟩) 1 [key] (by simp) W1 (Kd.C_below hC hb1) (fun a ha => Nat.lt_of_lt_of_le (hA a ha) hb1.size) (fun j hj => by
    obtain rfl : j = 0 := by simpa using hj
    exact ⟨_, rfl, blkc hx1 0 rfl⟩))
  obtain ⟨o, ho⟩ : ∃ o, getI l i [key] = o := ⟨_, rfl⟩
  rw [ho] at GET hlt ⊢
  rw [← hW1] at GET
  have HB1 := Lib.hid hb1
  have HW1 := Lib.hid hW1
  have HC := Lib.hid hC
  clear hb1 hx1 hW1 ho hC hmono
  cases o with
  | none =>
    rw [show getV none = .tuple #[.int .i64 0, .bool false] from rfl] at GET
    go_enter Tryz.func42, Tryz.ntmps42
    go_wp2_with (go_at_call 36; go_must (refine (GET.out).mono ?_); rintro e' w2 ⟨rfl, hb2⟩; rw [HW1.out] at hb2; have HB2 := Lib.hid (below_step HB1.out hb2); clear hb2)
    refine bodyPost_ret (results_tmp2 rfl _ _ _) rfl ?_
    exact ⟨rfl, HB2.out⟩
  | some j =>
    have hj := hlt j rfl
    rw [show getV (some j) = .tuple #[.int .i64 (j : Int), .bool true] from rfl] at GET
    have k1 : decide (j < l.length) = true := decide_eq_true hj
    have k2 : decide ((j : Int) < (l.length : Int)) = true := decide_eq_true (by omega)
    unfold textV
    dsimp only
    rw [show kndAt l j = l[j].f0 by unfold kndAt; rw [List.getElem?_eq_getElem hj], show txtAt l j = l[j].f2 by unfold txtAt; rw [List.getElem?_eq_getElem hj]]
    obtain ⟨n, hn⟩ : ∃ n, l[j] = n := ⟨_, rfl⟩
    have HN := Lib.hid hn
    rw [hn]
    by_cases h5 : n.f0 = 5
    · have k5 : (n.f0 != 5) = false := by simp [h5]
      rw [if_pos h5]
      go_enter Tryz.func42, Tryz.ntmps42
      go_wp2_with (go_at_call 36; go_must (refine (GET.out).mono ?_); rintro e' w2 ⟨rfl, hb2⟩; rw [HW1.out] at hb2; have HB2 := Lib.hid (below_step HB1.out hb2); obtain ⟨ad, rfl, d0, _, d2, _, _⟩ := node_at (Kd.C_below HC.out HB2.out) j hj; rw [HN.out] at d0 d2; clear hb2)
      refine bodyPost_ret (results_tmp2 rfl _ _ _) rfl ?_
      exact ⟨rfl, HB2.out⟩
    · have k5 : (n.f0 != 5) = true := by simp [h5]
      rw [if_neg h5]
      go_enter Tryz.func42, Tryz.ntmps42
      go_wp2_with (go_at_call 36; go_must (refine (GET.out).mono ?_); rintro e' w2 ⟨rfl, hb2⟩; rw [HW1.out] at hb2; have HB2 := Lib.hid (below_step HB1.out hb2); obtain ⟨ad, rfl, d0, _, d2, _, _⟩ := node_at (Kd.C_below HC.out HB2.out) j hj; rw [HN.out] at d0 d2; clear hb2)
      refine bodyPost_ret (results_tmp2 rfl _ _ _) rfl ?_
      exact ⟨rfl, HB2.out⟩
end Go.Proofs.YtfocognhcljhpaaGreatDoor

namespace Go.Proofs.YtfocognhcljhpaaGreatDoor
set_option linter.unusedVariables false
set_option linter.unusedSimpArgs false
open Go.RowKit Go.Shelf Go.Proofs.YtfocognhcljhpaaGreatDoorW.PrintWords Go.Proofs.YtfocognhcljhpaaGreatDoorW.PrintLast Go.Proofs.YtfocognhcljhpaaGreatDoorW.PrintMore Go.Proofs.YtfocognhcljhpaaGreatDoor.PPrintRows Go.Proofs.YtfocognhcljhpaaGreatDoor.Tree
attribute [local go_sem] Oper.semAt_some

set_option maxRecDepth 100000 in
set_option maxHeartbeats 4000000 in
theorem equal_ints (A B : Option Addr) (n c c' b1 b2 : Nat) (L : List Nat) (hn : n = L.length) (hl : L.length ≤ 400000) (W : World) (h1 : OpenAt W b1 (.slice A n c) L.reverse) (h2 : OpenAt W b2 (.slice B n c') L.reverse) :
    Calls Tryz.prog 37 #[.slice A n c, .slice B n c'] W fun e w' => e = .returned (.bool true) ∧ Below W.heap.size W w' := by
  subst hn
  have H1 := Lib.hid h1
  have H2 := Lib.hid h2
  clear h1 h2
  go_enter Tryz.func37, Tryz.ntmps37
  go_wp2_with fail
  go_loopw [13] (fun vi wr => ∃ (q : Nat), q ≤ L.length ∧ vi = .int .i64 (q : Int) ∧ Below W.heap.size W wr) (fun vi _ => L.length - (intOf vi).toNat)
  case atStart => exact ⟨0, Nat.zero_le _, rfl, Below.refl _ _⟩
  case round =>
    obtain ⟨q, hq, rfl, hB⟩ := hrel
    by_cases hlt : q < L.length
    · have k9 : decide ((q : Int) < (L.length : Int)) = true := decide_eq_true (by omega)
      have k10 : decide (q < L.length) = true := decide_eq_true hlt
      have HLT := Lib.hid hlt
      obtain ⟨ad, rfl, d0⟩ := open_at H1.out q hlt
      obtain ⟨bd, rfl, b0⟩ := open_at H2.out q hlt
      have d1 := cellBelow hB d0
      have b1 := cellBelow hB b0
      generalize L[q] = x at d1 b1 d0 b0
      have B1 := Lib.hid hB
      clear hB d0 b0
      go_wp2_with fail
      go_quiet (fail)
      go_wp2_with fail
      go_roundw
      case rel => exact ⟨q + 1, HLT.out, by go_num, below_step B1.out ⟨rfl, rfl, rfl, Nat.le_refl _, fun _ _ => rfl⟩⟩
      case measure => have := HLT.out; simp [intOf]; omega
    · have k9 : decide ((q : Int) < (L.length : Int)) = false := decide_eq_false (by omega)
      have B1 := Lib.hid hB
      clear hB
      go_wp2_with fail
      go_ret
      exact ⟨rfl, B1.out⟩

/-- The places of strings among the first q. -/
def findU (l : List Node) (q : Nat) : List Nat := (List.range q).filter fun k => kndAt l k == 5
theorem findU_succ (l : List Node) (q : Nat) : findU l (q + 1) = findU l q ++ (if kndAt l q == 5 then [q] else []) := by
  unfold findU
  rw [List.range_succ, List.filter_append]
  congr 1
  rw [List.filter_cons, List.filter_nil]
theorem findU_len (l : List Node) (q : Nat) : (findU l q).length ≤ q := by
  unfold findU
  exact Nat.le_trans (List.length_filter_le _ _) (by simp)
theorem findU_pre (l : List Node) (q n : Nat) (h : q ≤ n) : findU l q <+: findU l n := by
  induction n with
  | zero => obtain rfl : q = 0 := by omega
            exact List.prefix_refl _
  | succ n ih =>
    by_cases e : q = n + 1
    · subst e; exact List.prefix_refl _
    · exact (ih (by omega)).trans (by rw [findU_succ]; exact List.prefix_append _ _)

theorem so_any (n : Node) (w : World) : Calls Tryz.prog 40 #[.agg #[.int .i64 n.f0, .string n.f1, .string n.f2, .int .i64 n.f3, .int .i64 n.f4]] w fun e w' => e = .returned (.bool (n.f0 == 5)) ∧ Below w.heap.size w w' := by
  obtain ⟨x0, x1, x2, x3, x4⟩ := n
  dsimp only
  go_enter Tryz.func40, Tryz.ntmps40
  go_wp2
  go_ret
  exact ⟨rfl, below_alloc (Below.refl _ _) _⟩

def FS (Bl Bs : Nat) (A : Option Addr) (k : Nat) : Prop := k = Bl ∨ k = Bs ∨ ∃ a, A = some a ∧ k = a.block
set_option maxRecDepth 100000 in
set_option maxHeartbeats 4000000 in
theorem find1_in (lp Bl Bs n : Nat) (A : Option Addr) (cap : Nat) (l : List Node) (hl : l.length ≤ 900000) (W : World)
    (J Jx : List Nat → World → Prop) (hMv : ∀ s X Y, J s X → Below X.heap.size X Y → J s Y)
    (hY : ∀ pre x W1, J pre W1 → pre ++ [x] <+: findU l l.length → YieldAt Fence.wide n Tryz.prog lp (intEnc x) W1 fun e W' =>
      (e = .returned (.bool true) ∧ J (pre ++ [x]) W' ∧ KpS (FS Bl Bs A) W1 W') ∨ (e = .returned (.bool false) ∧ Jx (pre ++ [x]) W'))
    (hBl : W.heap[Bl]? = some (.cells #[.slice A l.length cap] 22 (0, 0))) (hBs : W.heap[Bs]? = some (.cells #[.func (.func 40) #[] #[]] 75 (0, 0))) (hC : Kd.C kN W A l.length l) (h0 : J [] W) :
    CallsIn Fence.wide (n + 1) Tryz.prog 73 #[.func (.yield lp) #[] #[], .pointer (some ⟨Bl, 0, none⟩), .pointer (some ⟨Bs, 0, none⟩)] W fun e W' => (∃ v, e = .returned v) ∧
      ((∃ ys, ys = findU l l.length ∧ J ys W') ∨ (∃ pre, pre <+: findU l l.length ∧ Jx pre W')) := by
  have HY := Lib.hid hY
  have HC := Lib.hid hC
  have HMV := Lib.hid hMv
  have cl : W.cell? ⟨Bl, 0, none⟩ = some (.slice A l.length cap) := blkc hBl 0 rfl
  clear hY hC hMv
  refine callsIn_of_wp Tryz.func73 rfl trivial ?_ rfl
  simp only [Tryz.ntmps73, List.size_toArray, List.length_cons, List.length_nil, Nat.reduceAdd, Nat.reduceSub, Array.replicate_succ, Array.replicate_zero, List.push_toArray, List.append_toArray, List.nil_append, List.cons_append]
  gi_wp2
  gi_loopw [8] (fun vi wr => ∃ (q : Nat), vi = .int .i64 q ∧ q ≤ l.length ∧ J (findU l q) wr ∧ wr.heap[Bl]? = some (.cells #[.slice A l.length cap] 22 (0, 0)) ∧ wr.heap[Bs]? = some (.cells #[.func (.func 40) #[] #[]] 75 (0, 0)) ∧ Kd.C kN wr A l.length l)
    (fun vi _ => l.length - (intOf vi).toNat)
  case atStart => exact ⟨0, rfl, Nat.zero_le _, h0, hBl, hBs, HC.out⟩
  case round =>
    obtain ⟨q, rfl, hq, hJ, hBl', hBs', hC'⟩ := hrel
    by_cases hlt : q < l.length
    · have k9 : decide ((q : Int) < (l.length : Int)) = true := decide_eq_true (by omega)
      have k10 : decide (q < l.length) = true := decide_eq_true hlt
      have HLT := Lib.hid hlt
      obtain ⟨ad, rfl, d0, d1, d2, d3, d4⟩ := node_at hC' q hlt
      have hkq : kndAt l q = l[q].f0 := by
        unfold kndAt
        rw [List.getElem?_eq_getElem hlt] <;> rfl
      have hfs := findU_succ l q
      have hfp := findU_pre l (q + 1) l.length hlt
      rw [hfs, hkq] at hfp
      rw [hkq] at hfs
      generalize hx : l[q] = x at d0 d1 d2 d3 d4 hfs hfp
      obtain ⟨x0, x1, x2, x3, x4⟩ := x
      dsimp only at d0 d1 d2 d3 d4 hfs hfp
      obtain ⟨w1, hw1⟩ : ∃ w1, wr.alloc (.cells #[.int .i64 x0, .string x1, .string x2, .int .i64 x3, .int .i64 x4] 48) = w1 := ⟨_, rfl⟩
      have hb1 : Below wr.heap.size wr w1 := by rw [← hw1]; exact below_alloc (Below.refl _ _) _
      have e0 := cellBelow hb1 (blkc hBs' 0 rfl)
      have HB1 := Lib.hid hb1
      have HBL := Lib.hid hBl'
      have HBS := Lib.hid hBs'
      have HCC := Lib.hid hC'
      have HJ := Lib.hid hJ
      have SO := Lib.hid (so_any ⟨x0, x1, x2, x3, x4⟩)
      rw [← hw1] at e0
      have HW1 := Lib.hid hw1
      have HFS := Lib.hid hfs
      have HFP := Lib.hid hfp
      clear hb1 hBl' hBs' hC' hJ hw1 hx hfs hfp hkq
      by_cases hx5 : x0 = 5
      · subst hx5
        have k5 : ((5 : Int) == 5) = true := rfl
        rw [if_pos k5] at HFS HFP
        gi_wp2_with (refine ⟨trivial, ?_⟩; gi_at_call 40; go_must (refine ((callsIn_wide (n := n)).2 (SO.out _)).mono ?_); rintro e' w2 ⟨rfl, hb2⟩; rw [HW1.out] at hb2; have HB2 := Lib.hid (below_step HB1.out hb2); clear hb2; obtain ⟨fn, tmps, assign, body, hy, hR0⟩ := HY.out (findU l q) q w2 (HMV.out _ _ _ HJ.out HB2.out) HFP.out; have hR := hR0; clear hR0; dsimp only [intEnc] at hy)
        refine hR.mono ?_
        rintro e' W3 (⟨rfl, hJ3, hk3⟩ | ⟨rfl, hJx3⟩)
        · have HX := Lib.hid ((hk3.2 Bl (.inl rfl)).trans ((HB2.out.block _ (blk_lt HBL.out)).trans HBL.out))
          have HX2 := Lib.hid ((hk3.2 Bs (.inr (.inl rfl))).trans ((HB2.out.block _ (blk_lt HBS.out)).trans HBS.out))
          have HX3 := Lib.hid (kdC_keep (Kd.C_below HCC.out HB2.out) (w1 := W3) (fun a ha => hk3.2 a.block (.inr (.inr ⟨a, ha, rfl⟩))))
          clear hk3 hy
          gi_wp2
          go_roundw
          case rel => exact ⟨q + 1, by go_num, HLT.out, by rw [HFS.out]; exact hJ3, HX.out, HX2.out, HX3.out⟩
          case measure => have := HLT.out; simp [intOf]; omega
        · clear hy
          gi_wp2
          refine bodyPost_ret (results_none rfl _ _ _) rfl ?_
          exact ⟨⟨_, rfl⟩, .inr ⟨_, HFP.out, hJx3⟩⟩
      · have k5 : (x0 == 5) = false := by simp [hx5]
        gi_wp2_with (refine ⟨trivial, ?_⟩; gi_at_call 40; go_must (refine ((callsIn_wide (n := n)).2 (SO.out _)).mono ?_); rintro e' w2 ⟨rfl, hb2⟩; have B2 := Lib.hid hb2; clear hb2)
        refine ⟨fun f hf => (by cases hf), ?_⟩
        gi_wp2
        rw [HW1.out] at B2
        have HB2 := Lib.hid (below_step HB1.out B2.out)
        go_roundw
        case rel =>
          refine ⟨q + 1, by go_num, HLT.out, ?_, (HB2.out.block _ (blk_lt HBL.out)).trans HBL.out, (HB2.out.block _ (blk_lt HBS.out)).trans HBS.out, Kd.C_below HCC.out HB2.out⟩
          rw [HFS.out]
          simp only [k5, Bool.false_eq_true, if_false, List.append_nil]
          exact HMV.out _ _ _ HJ.out HB2.out
        case measure => have := HLT.out; simp [intOf]; omega
    · have k9 : decide ((q : Int) < (l.length : Int)) = false := decide_eq_false (by omega)
      have hqq : q = l.length := by omega
      subst hqq
      have HJ := Lib.hid hJ
      clear hJ
      gi_wp2
      go_end0
      exact ⟨⟨_, rfl⟩, .inl ⟨_, rfl, HJ.out⟩⟩

theorem seq_find (m Bl Bs : Nat) (A : Option Addr) (cap : Nat) (l : List Node) (hl : l.length ≤ 900000) (w0 : World) (hBl : w0.heap[Bl]? = some (.cells #[.slice A l.length cap] 22 (0, 0))) (hBs : w0.heap[Bs]? = some (.cells #[.func (.func 40) #[] #[]] 75 (0, 0))) (hC : Kd.C kN w0 A l.length l) :
    SeqB (m + 1) Tryz.prog 73 #[.pointer (some ⟨Bl, 0, none⟩), .pointer (some ⟨Bs, 0, none⟩)] intEnc (fun _ => KpS (FS Bl Bs A)) (fun _ X Y => Below X.heap.size X Y) (fun pre x => pre ++ [x] <+: findU l l.length) (fun ys => ys = findU l l.length) (fun pre => pre <+: findU l l.length) w0 := by
  intro lp J Jx W hW hJ _ hY h0
  refine find1_in lp Bl Bs m A cap l hl W J Jx hJ (fun pre x W1 h1 h2 => ?_) (blk_below hBl hW) (blk_below hBs hW) (Kd.C_below hC hW) h0
  obtain ⟨fn, tmps, assign, body, hy, hR⟩ := hY pre x W1 h1 h2
  exact ⟨fn, tmps, assign, body, hy, hR.mono (fun e W' h => h.imp id (fun h => ⟨h.1, h.2.1⟩))⟩

theorem find_any (A : Option Addr) (n c : Nat) (w : World) :
    Calls Tryz.prog 39 #[.slice A n c, .func (.func 40) #[] #[]] w fun e w' => e = .returned (.func (.func 73) #[] #[.pointer (some ⟨w.heap.size, 0, none⟩), .pointer (some ⟨w.heap.size + 1, 0, none⟩)]) ∧ w' = (w.alloc (.cells #[.slice A n c] 22)).alloc (.cells #[.func (.func 40) #[] #[]] 75) := by
  go_enter Tryz.func39, Tryz.ntmps39
  go_wp2
  go_ret
  exact ⟨rfl, rfl⟩
end Go.Proofs.YtfocognhcljhpaaGreatDoor
