/- Texts taken together, trimmed. -/
import Derived.Test.YtfocognhcljhpaaGreatDoorR8
import Derived.BigQuiet
set_option linter.unusedVariables false
set_option linter.unusedSimpArgs false
namespace Go.Proofs.YtfocognhcljhpaaGreatDoor
open Go.RowKit Go.Shelf Go.Proofs.YtfocognhcljhpaaGreatDoorW.PrintWords Go.Proofs.YtfocognhcljhpaaGreatDoorW.PrintMore Go.Proofs.YtfocognhcljhpaaGreatDoor.PPrintRows Go.Proofs.YtfocognhcljhpaaGreatDoor.Tree
def parAt (l : List Node) (j : Nat) : Int := match l[j]? with | some n => n.f3 | none => -1
def kidsR (l : List Node) (i : Int) : Nat → Nat → List Nat
 | _, 0 => []
 | k, f + 1 => if parAt l k = i then k :: kidsR l i (k + 1) f else kidsR l i (k + 1) f
theorem kidsR_add (l : List Node) (i : Int) : ∀ (m n a : Nat), kidsR l i a (m + n) = kidsR l i a m ++ kidsR l i (a + m) n
 | 0, n, a => by simp [kidsR]
 | m + 1, n, a => by
  rw [show m + 1 + n = m + n + 1 by omega, kidsR, kidsR, kidsR_add l i m n (a + 1), show a + (m + 1) = a + 1 + m by omega]
  split <;> simp
theorem kidsR_len (l : List Node) (i : Int) : ∀ (f k : Nat), (kidsR l i k f).length ≤ f
 | 0, _ => by rw [kidsR]; exact Nat.le_refl _
 | f + 1, k => by
  rw [kidsR]
  have := kidsR_len l i f (k + 1)
  split
  ·rw [List.length_cons]; omega
  ·omega
mutual
theorem kidsR_far {l : List Node} {i : Int} : ∀ (t : Tr) (q : Int) (b : Nat) (r : List Node), l.drop b = (t.flat q b).map toN ++ r → i < q → q < (b : Int) → kidsR l i b t.size = []
 | .mk k key text kids, q, b, r, h, hq, hb => by
  obtain ⟨h1, h2⟩ := drop_flat h
  have hp : parAt l b = q := by unfold parAt; rw [h1]
  rw [Tr.size, show 1 + sizes kids = sizes kids + 1 by omega, kidsR, if_neg (by omega)]
  exact kidsR_fars kids (b : Int) (b + 1) r h2 (by omega) (by omega)
theorem kidsR_fars {l : List Node} {i : Int} : ∀ (ts : List Tr) (q : Int) (b : Nat) (r : List Node), l.drop b = (flats q b ts).map toN ++ r → i < q → q < (b : Int) → kidsR l i b (sizes ts) = []
 | [], q, b, r, _, _, _ => by rw [sizes, kidsR]
 | t :: ts, q, b, r, h, hq, hb => by
  rw [flats, List.map_append, List.append_assoc] at h
  have h2 : l.drop (b + t.size) = (flats q (b + t.size) ts).map toN ++ r := by rw [← List.drop_drop, h, List.drop_left' (by rw [List.length_map, Tr.flat_len])]
  rw [sizes, kidsR_add, kidsR_far t q b _ h hq hb, kidsR_fars ts q (b + t.size) r h2 hq (by omega)]
  rfl
end
theorem kidsR_one {l : List Node} {i : Int} (t : Tr) (b : Nat) (r : List Node) (h : l.drop b = (t.flat i b).map toN ++ r) (hi : i < (b : Int)) : kidsR l i b t.size = [b] := by
 cases t with
 | mk k key text kids =>
  obtain ⟨h1, h2⟩ := drop_flat h
  have hp : parAt l b = i := by unfold parAt; rw [h1]
  rw [Tr.size, show 1 + sizes kids = sizes kids + 1 by omega, kidsR, if_pos hp, kidsR_fars kids (b : Int) (b + 1) r h2 (by omega) (by omega)]
theorem kidsR_pl {l : List Node} {i : Int} : ∀ (ts : List Tr) (b : Nat) (r : List Node), l.drop b = (flats i b ts).map toN ++ r → i < (b : Int) → kidsR l i b (sizes ts) = (pl b ts).map (·.1)
 | [], b, r, _, _ => by rw [sizes, kidsR]; rfl
 | t :: ts, b, r, h, hi => by
  rw [flats, List.map_append, List.append_assoc] at h
  have h2 : l.drop (b + t.size) = (flats i (b + t.size) ts).map toN ++ r := by rw [← List.drop_drop, h, List.drop_left' (by rw [List.length_map, Tr.flat_len])]
  rw [sizes, kidsR_add, kidsR_one t b _ h hi, kidsR_pl ts (b + t.size) r h2 (by omega), pl, List.map_cons]
  rfl
def getP (l : List Node) : Nat → List ByteArray → Option Nat
 | i, [] => some i
 | i, x :: xs => match (membersL l i).find? (fun p => p.1.toList == x.toList) with
  | some p => getP l p.2 xs
  | none => none
end Go.Proofs.YtfocognhcljhpaaGreatDoor
namespace Go.Proofs.YtfocognhcljhpaaGreatDoor
open Go.RowKit Go.Shelf Go.Proofs.YtfocognhcljhpaaGreatDoorW.PrintWords Go.Proofs.YtfocognhcljhpaaGreatDoorW.PrintLast Go.Proofs.YtfocognhcljhpaaGreatDoorW.PrintMore Go.Proofs.YtfocognhcljhpaaGreatDoor.PPrintRows Go.Proofs.YtfocognhcljhpaaGreatDoor.Tree
theorem open_len {w : World} {base : Nat} {v : Value} {op : List Nat} (h : OpenAt w base v op) : ∃ A c, v = .slice A op.length c := by
 obtain ⟨A, c, e, _⟩ := own_slice (open_own h)
 exact ⟨A, c, e⟩
set_option maxRecDepth 100000 in
set_option maxHeartbeats 4000000 in
theorem kids8_any (A : Option Addr) (cap base : Nat) (l : List Node) (i e : Nat) (hi : i < l.length) (he : l[i].f4 = (e : Int)) (hie : i < e) (hel : e ≤ l.length) (hl : l.length ≤ 400000) (W : World) (hR : Row7 W base (.slice A l.length cap) l) :
  Calls Tryz.prog 55 #[.slice A l.length cap, .int .i64 (i : Int)] W fun e' w' => ∃ v, e' = .returned v ∧ OpenAt w' W.heap.size v (kidsR l (i : Int) (i + 1) (e - (i + 1))).reverse ∧ Below W.heap.size W w' := by
 have HR := Lib.hid hR
 obtain ⟨ad, rfl, _, _, _, _, d4⟩ := node7_at hR i hi
 rw [he] at d4
 have HI := Lib.hid hi
 have HIE := Lib.hid hie
 have HEL := Lib.hid hel
 have k1 : decide (i < l.length) = true := decide_eq_true hi
 have k2 : decide ((i : Int) < (l.length : Int)) = true := decide_eq_true (by omega)
 clear hR he
 go_enter Tryz.func55, Tryz.ntmps55
 go_wp2_with fail
 go_loopw [5, 6] (fun v0 vi wr => ∃ (q : Nat) (A3 : Option Addr) (c3 n3 : Nat) (L3 : List Nat), i + 1 ≤ q ∧ q ≤ e ∧ vi = .int .i64 (q : Int) ∧ v0 = .slice A3 n3 c3 ∧ n3 = L3.length ∧ OpenAt wr W.heap.size (.slice A3 n3 c3) L3 ∧ L3.reverse = kidsR l (i : Int) (i + 1) (q - (i + 1)) ∧ Below W.heap.size W wr)
  (fun _ vi _ => e - (intOf vi).toNat)
 case atStart => exact ⟨i + 1, none, 0, 0, [], Nat.le_refl _, by omega, by go_num, rfl, rfl, open_of (World.ownsRow_nil _ _ _ _), by simp [kidsR], Below.refl _ _⟩
 case round =>
  obtain ⟨q, A3, c3, n3, L3, h1q, h2q, rfl, rfl, rfl, hO3, hL3, hB3⟩ := hrel
  have c4 := cellBelow hB3 d4
  by_cases hlt : q < e
  ·have k9 : decide ((q : Int) < (e : Int)) = true := decide_eq_true (by omega)
   have hql : q < l.length := by omega
   have k10 : decide (q < l.length) = true := decide_eq_true hql
   have k11 : decide ((q : Int) < (l.length : Int)) = true := decide_eq_true (by omega)
   have HLT := Lib.hid hlt
   have H1Q := Lib.hid h1q
   obtain ⟨_, e9, _, _, _, d3, _⟩ := node7_at (HR.out.keep (w1 := wr) (fun k hk => hB3.block k (HR.out.own k hk).2)) q hql
   injection e9 with e9
   subst e9
   have hpa : parAt l q = l[q].f3 := by unfold parAt; rw [List.getElem?_eq_getElem hql]
   obtain ⟨x3, hx3⟩ : ∃ x, l[q].f3 = x := ⟨_, rfl⟩
   rw [hx3] at d3 hpa
   have hstep : kidsR l (i : Int) (i + 1) (q + 1 - (i + 1)) = kidsR l (i : Int) (i + 1) (q - (i + 1)) ++ (if x3 = (i : Int) then [q] else []) := by
    rw [show q + 1 - (i + 1) = (q - (i + 1)) + 1 by omega, kidsR_add, show i + 1 + (q - (i + 1)) = q by omega, kidsR, hpa]
    rfl
   clear hx3 hpa
   by_cases hx : x3 = (i : Int)
   ·have k3 : (x3 == (i : Int)) = true := by simp [hx]
    rw [if_pos hx] at hstep
    have hln : L3.length ≤ 900000 := by
     have := congrArg List.length hL3
     have h2 := kidsR_len l (i : Int) (q - (i + 1)) (i + 1)
     rw [List.length_reverse] at this
     omega
    have fin : ∃ A5 n5 c5 w5, (Builtin.append_ #[71, 71] 71 #[.slice A3 L3.length c3, .slice (some ⟨wr.heap.size, 0, none⟩) 1 1]).run Tryz.prog (wr.alloc (.cells #[.int .i64 (q : Int)] 3)) = .ok (.slice A5 n5 c5) w5 ∧
      Hid (n5 = (q :: L3).length ∧ OpenAt w5 W.heap.size (.slice A5 n5 c5) (q :: L3) ∧ (q :: L3).reverse = kidsR l (i : Int) (i + 1) (q + 1 - (i + 1)) ∧ Below W.heap.size W w5) := by
     obtain ⟨v5, w5, hr, hO5, hG5, _⟩ := int_append hO3 q hln hB3.size
     obtain ⟨A5, c5, rfl⟩ := open_len hO5
     refine ⟨A5, _, c5, w5, hr, Lib.hid ⟨rfl, hO5, by rw [hstep, List.reverse_cons, hL3], ?_⟩⟩
     exact (below_alloc hB3 _).grown hG5 (by have := hB3.size; simp; omega) (fun k e => (own_int (open_own hO3) k e).1)
    obtain ⟨A5, n5, c5, w5, hr2, hF⟩ := fin
    have HF5 := Lib.hid hF.out
    subst hx
    clear hF hO3 hL3 hB3 hstep
    go_wp2_with (at_builtin; refine wpList_append_runI _ rfl _ _ 71 71 rfl _ _ rfl rfl hr2 ?_)
    go_roundw
    case rel =>
     obtain ⟨h1, h2, h3, h4⟩ := HF5.out
     exact ⟨q + 1, A5, c5, n5, _, by have := H1Q.out; omega, HLT.out, by go_num, rfl, h1, h2, h3, h4⟩
    case measure => have := HLT.out; simp [intOf]; omega
   ·have k3 : (x3 == (i : Int)) = false := by simp [hx]
    rw [if_neg hx, List.append_nil, ← hL3] at hstep
    have HF5 := Lib.hid (And.intro hO3 (And.intro hstep hB3))
    clear hO3 hL3 hB3 hstep
    go_wp2_with fail
    go_roundw
    case rel =>
     obtain ⟨h2, h3, h4⟩ := HF5.out
     exact ⟨q + 1, A3, c3, _, L3, by have := H1Q.out; omega, HLT.out, by go_num, rfl, rfl, h2, h3.symm, h4⟩
    case measure => have := HLT.out; simp [intOf]; omega
  ·have k9 : decide ((q : Int) < (e : Int)) = false := decide_eq_false (by omega)
   have hqe : q = e := by omega
   subst hqe
   have R3 := Lib.hid (And.intro hO3 (And.intro hL3 hB3))
   clear hL3 hO3 hB3
   go_wp2_with fail
   go_ret
   obtain ⟨r1, r2, r3⟩ := R3.out
   exact ⟨_, rfl, by rw [← r2, List.reverse_reverse]; exact r1, r3⟩
def TextsAt (w : World) (A : Option Addr) (l : List ByteArray) : Prop := ∀ j (hj : j < l.length), ∃ a, A = some a ∧ w.cell? (a.add j) = some (.string l[j])
def itemsI (l : List Node) (i : Int) : List Nat := if 0 ≤ i ∧ i < (l.length : Int) then itemsL l i.toNat else []
def membersI (l : List Node) (i : Int) : List (ByteArray × Nat) := if 0 ≤ i ∧ i < (l.length : Int) then membersL l i.toNat else []
def getI (l : List Node) (i : Int) (path : List ByteArray) : Option Nat := if 0 ≤ i ∧ i < (l.length : Int) then getP l i.toNat path else none
def refV : Option Nat → Int
 | some j => (j : Int)
 | none => -1
theorem hex16 (d : Nat) (h : d < 16) : ((⟨#[48, 49, 50, 51, 52, 53, 54, 55, 56, 57, 97, 98, 99, 100, 101, 102]⟩ : ByteArray).extract d (d + 1)).data.toList = [hexd d] := by
 rw [ByteArray.data_extract, Array.toList_extract]
 revert h
 revert d
 decide
set_option maxRecDepth 100000 in
set_option maxHeartbeats 4000000 in
theorem quote8_any (s : ByteArray) (hs : s.size ≤ 1000000) (w : World) :
    Calls Tryz.prog 16 #[.string s] w fun e w' => e = .returned (.string ⟨(quoteL s.data.toList).toArray⟩) ∧ Below w.heap.size w w' := by
  go_enter Tryz.func16, Tryz.ntmps16
  go_wp2_with fail
  go_loopw [3, 4] (fun v0 vi wr => ∃ (q : Nat) (o : ByteArray), q ≤ s.size ∧ vi = .int .i64 (q : Int) ∧ v0 = .string o ∧ o.data.toList = 34 :: (s.data.toList.take q).flatMap qc ∧ Below w.heap.size w wr) (fun _ vi _ => s.size - (intOf vi).toNat)
  case atStart => exact ⟨0, ⟨#[34]⟩, Nat.zero_le _, rfl, rfl, rfl, Below.refl _ _⟩
  case round =>
    obtain ⟨q, o, hq, rfl, rfl, ho, hB⟩ := hrel
    by_cases hlt : q < s.size
    · have k9 : decide ((q : Int) < (s.size : Int)) = true := decide_eq_true (by omega)
      have k10 : decide (q < s.size) = true := decide_eq_true hlt
      have HLT := Lib.hid hlt
      obtain ⟨c, hc⟩ : ∃ c : UInt8, s.data.toList[q]? = some c := ⟨s.data.toList[q]'(by simpa using hlt), List.getElem?_eq_getElem _⟩
      have hcn : s[q].toNat = c.toNat := by
        have e : s.data.toList[q]? = some s[q] := by rw [List.getElem?_eq_getElem (by simpa using hlt)]; rfl
        rw [e] at hc
        injection hc with hc
        rw [hc]
      have hstep : (s.data.toList.take (q + 1)).flatMap qc = (s.data.toList.take q).flatMap qc ++ qc c := by
        rw [List.take_add_one, hc]
        simp
      have hex : (s.extract q (q + 1)).data.toList = [c] := by
        rw [ByteArray.data_extract, Array.toList_extract]
        simp [List.extract, List.take_one, hc]
      have FIN := Lib.hid (show ∀ o' : ByteArray, o'.data.toList = o.data.toList ++ qc c → o'.data.toList = 34 :: (s.data.toList.take (q + 1)).flatMap qc from fun o' h => by rw [h, ho, hstep]; rfl)
      have hos : o.size ≤ 6000001 := by
        have h1 := congrArg List.length ho
        have h2 := flat_qc_len (s.data.toList.take q)
        rw [List.length_cons] at h1
        rw [List.length_take] at h2
        have h3 : o.data.toList.length = o.size := by simp
        omega
      have HB := Lib.hid hB
      have hx34 : qc c = if (s[q].toNat : Int) = 34 ∨ (s[q].toNat : Int) = 92 then [92, c] else if (s[q].toNat : Int) < 32 then escL c.toNat else [c] := by
        rw [hcn]
        unfold qc
        have e1 : (c = 34) = ((c.toNat : Int) = 34) := by rw [← UInt8.toNat_inj]; simp; omega
        have e2 : (c = 92) = ((c.toNat : Int) = 92) := by rw [← UInt8.toNat_inj]; simp; omega
        have e3 : (c < 32) = ((c.toNat : Int) < 32) := by rw [UInt8.lt_iff_toNat_lt]; simp; omega
        simp only [e1, e2, e3]
      generalize hn : s[q].toNat = n at hcn hx34
      clear hB ho hstep
      go_wp2_with fail
      all_goals first | (exfalso; omega) | skip
      all_goals (try simp only [beq_iff_eq, beq_eq_false_iff_ne, ne_eq] at *)
      all_goals first
        | (go_roundw
           case rel =>
             refine ⟨q + 1, _, HLT.out, by go_num, rfl, FIN.out _ ?_, HB.out⟩
             simp only [ByteArray.data_append, Array.toList_append, hex, List.append_assoc]
             rw [hx34]
             first
               | (rw [if_pos (by omega)] <;> rfl)
               | (rw [if_neg (by omega), if_pos (by omega)]; unfold escL; (first | rw [show c.toNat = 8 by omega] | rw [show c.toNat = 9 by omega] | rw [show c.toNat = 10 by omega] | rw [show c.toNat = 12 by omega] | rw [show c.toNat = 13 by omega]) <;> rfl)
               | (rw [if_neg (by omega), if_neg (by omega)] <;> rfl)
           case measure => have := HLT.out; simp [intOf]; omega)
        | skip
      go_quiet (fail)
      go_wp2_with fail
      go_roundw
      case rel =>
        refine ⟨q + 1, _, HLT.out, by go_num, rfl, FIN.out _ ?_, below_step HB.out ⟨rfl, rfl, rfl, Nat.le_refl _, fun _ _ => rfl⟩⟩
        erw [hn, hcn]
        have h32 : c.toNat < 32 := by omega
        simp only [ByteArray.data_append, Array.toList_append, hex16 (c.toNat / 16) (by omega), hex16 (c.toNat % 16) (by omega), List.append_assoc]
        rw [hx34, if_neg (by omega), if_pos (by omega)]
        unfold escL
        rw [if_neg (by omega), if_neg (by omega), if_neg (by omega), if_neg (by omega), if_neg (by omega)]
        rfl
      case measure => have := HLT.out; simp [intOf]; omega
    · have hqe : q = s.size := by omega
      subst hqe
      have k9 : decide ((s.size : Int) < (s.size : Int)) = false := decide_eq_false (by omega)
      have hos : o.size ≤ 6000001 := by
        have h1 := congrArg List.length ho
        have h2 := flat_qc_len (s.data.toList.take s.size)
        rw [List.length_cons] at h1
        rw [List.length_take] at h2
        have h3 : o.data.toList.length = o.size := by simp
        omega
      have HO := Lib.hid ho
      have HB := Lib.hid hB
      clear ho hB
      go_wp2_with fail
      all_goals first | (exfalso; omega) | skip
      go_ret
      refine ⟨congrArg (fun z => Ending.returned (.string z)) (show o ++ ⟨#[34]⟩ = _ from ?_), HB.out⟩
      apply ByteArray.ext
      apply Array.toList_inj.1
      rw [ByteArray.data_append, Array.toList_append, HO.out, List.take_of_length_le (by simp)]
      unfold quoteL
      simp
theorem quoteL_le (s : ByteArray) (h : s.size ≤ 100000) : (quoteL s.data.toList).length ≤ 600002 := by
 have h2 := flat_qc_len s.data.toList
 have h3 : s.data.toList.length = s.size := by simp
 unfold quoteL
 simp only [List.length_cons, List.length_append, List.length_nil]
 omega
mutual
theorem prT_le8 : ∀ t : Tr, t.tx (fun b => decide (b.size ≤ 100000)) = true → (prT quoteL t).length + 600010 ≤ t.size * 2000000
 | .mk k key text kids, h => by
  rw [Tr.tx, Bool.and_eq_true, Bool.and_eq_true] at h
  rw [prT, Tr.size]
  split
  ·have h1 := prK_le8 kids (k == 7) true h.2
   have ho : (opn k).length = 1 := by unfold opn; split <;> rfl
   have hc : (cls k).length = 1 := by unfold cls; split <;> rfl
   simp only [List.length_append, ho, hc]
   omega
  ·have h1 := of_decide_eq_true h.1.2
   have h2 := quoteL_le text h1
   have h3 : text.data.toList.length = text.size := by simp
   have hw : (wordB quoteL k text.data.toList).length ≤ 600002 := by
    unfold wordB
    split
    ·simp
    ·split
     ·simp
     ·split
      ·simp
      ·split
       ·exact h2
       ·omega
   omega
theorem prK_le8 : ∀ (ts : List Tr) (nm first : Bool), txs (fun b => decide (b.size ≤ 100000)) ts = true → (prK quoteL nm first ts).length ≤ sizes ts * 2000000
 | [], nm, first, _ => by rw [prK]; simp
 | t :: ts, nm, first, h => by
  rw [txs, Bool.and_eq_true] at h
  have h1 := prT_le8 t h.1
  have h2 := prK_le8 ts nm false h.2
  have hk : t.key.size ≤ 100000 := by
   cases t with
   | mk k key text kids =>
    have := h.1
    rw [Tr.tx, Bool.and_eq_true, Bool.and_eq_true] at this
    exact of_decide_eq_true this.1.1
  have h3 := quoteL_le t.key hk
  rw [prK, sizes]
  simp only [List.length_append]
  have h4 : (if first = true then ([] : Bs) else [44]).length ≤ 1 := by split <;> simp
  have h5 : (if nm = true then quoteL t.key.data.toList ++ [58] else ([] : Bs)).length ≤ 600003 := by
   split
   ·rw [List.length_append]; simp only [List.length_cons, List.length_nil]; omega
   ·simp
  omega
end
theorem str_eq {o : ByteArray} {l : Bs} (h : o.data.toList = l) : o = ⟨l.toArray⟩ := by
 apply ByteArray.ext
 apply Array.toList_inj.1
 rw [h]
set_option maxRecDepth 100000 in
set_option maxHeartbeats 4000000 in
theorem print8_leaf (A : Option Addr) (cap base : Nat) (l : List Node) (k : Int) (key text : ByteArray) (i : Nat) (p e : Int) (hi : i < l.length) (hli : l[i] = ⟨k, key, text, p, e⟩) (h1 : 1 ≤ k) (h6 : k < 6) (htx : text.size ≤ 100000) (W : World) (hR : Row7 W base (.slice A l.length cap) l) :
  Calls Tryz.prog 20 #[.slice A l.length cap, .int .i64 (i : Int), .bool false] W fun e w' => e = .returned (.string ⟨(wordB quoteL k text.data.toList).toArray⟩) ∧ Below W.heap.size W w' := by
 obtain ⟨ad, rfl, d0, d1, d2, d3, d4⟩ := node7_at hR i hi
 rw [hli] at d0 d1 d2 d3 d4
 dsimp only at d0 d1 d2 d3 d4
 have k1 : decide (i < l.length) = true := decide_eq_true hi
 have k2 : decide ((i : Int) < (l.length : Int)) = true := decide_eq_true (by omega)
 have QU := Lib.hid (quote8_any text (by omega))
 have HB := Lib.hid (below_alloc (Below.refl W.heap.size W) (.cells #[.int .i64 k, .string key, .string text, .int .i64 p, .int .i64 e] 47))
 clear hR hli
 have hk : k = 1 ∨ k = 2 ∨ k = 3 ∨ k = 4 ∨ k = 5 := by omega
 rcases hk with rfl | rfl | rfl | rfl | rfl
 case inr.inr.inr.inr =>
  go_enter Tryz.func20, Tryz.ntmps20
  go_wp2_with (go_at_call 16; go_must (refine (QU.out _).mono ?_); rintro e' w1 ⟨rfl, hb⟩; have HB2 := Lib.hid (below_step HB.out hb); clear hb)
  go_ret
  exact ⟨rfl, HB2.out⟩
 all_goals
  go_enter Tryz.func20, Tryz.ntmps20
  go_wp2_with fail
  go_ret
  exact ⟨rfl, HB.out⟩
set_option maxRecDepth 100000 in
set_option maxHeartbeats 4000000 in
theorem print8_at (A : Option Addr) (cap base : Nat) (l : List Node) (hl : l.length ≤ 400000) : ∀ (m : Nat) (s : Tr) (nm : Bool) (i : Nat) (p : Int) (r : List Node), s.size ≤ m → s.ok isNumL nm = true → s.tx (fun b => decide (b.size ≤ 100000)) = true → p < (i : Int) → l.drop i = (s.flat p i).map toN ++ r → ∀ W, Row7 W base (.slice A l.length cap) l →
  Calls Tryz.prog 20 #[.slice A l.length cap, .int .i64 (i : Int), .bool false] W fun e w' => e = .returned (.string ⟨(prT quoteL s).toArray⟩) ∧ Below W.heap.size W w'
 | 0, s, nm, i, p, r, hm, _, _, _, _ => by have := s.size_pos; omega
 | m + 1, .mk k key text kids, nm, i, p, r, hm, hok, htx, hp, hd => by
  intro W hR
  obtain ⟨hn, hd2⟩ := drop_flat hd
  obtain ⟨hi, hli⟩ := List.getElem?_eq_some_iff.1 hn
  have hle := (end_of _ hd).2.2.2
  rw [Tr.size] at hm hle
  rw [Tr.ok, Bool.and_eq_true, Bool.and_eq_true] at hok
  rw [Tr.tx, Bool.and_eq_true, Bool.and_eq_true] at htx
  have hk17 : 1 ≤ k ∧ k ≤ 7 := by
   have := hok.1.1
   unfold okN at this
   rw [Bool.and_eq_true, Bool.and_eq_true] at this
   exact of_decide_eq_true this.1.1
  rw [prT]
  by_cases h6 : k < 6
  ·rw [if_neg (by omega)]
   exact print8_leaf A cap base l k key text i p _ hi hli hk17.1 h6 (of_decide_eq_true htx.1.2) W hR
  ·rw [if_pos (by omega)]
   have IH := Lib.hid (print8_at A cap base l hl m)
   obtain ⟨nmk, hnmk⟩ : ∃ b, (k == 7) = b := ⟨_, rfl⟩
   have k7 := hnmk
   rw [hnmk] at hok ⊢
   have e1 : (k == 1) = false := by simp; omega
   have e2 : (k == 2) = false := by simp; omega
   have e3 : (k == 3) = false := by simp; omega
   have e4 : (k == 4) = false := by simp; omega
   have e5 : (k == 5) = false := by simp; omega
   have HR := Lib.hid hR
   obtain ⟨ad, rfl, d0, d1, d2, d3, d4⟩ := node7_at hR i hi
   rw [hli] at d0 d1 d2 d3 d4
   dsimp only at d0 d1 d2 d3 d4
   have k1 : decide (i < l.length) = true := decide_eq_true hi
   have k2 : decide ((i : Int) < (l.length : Int)) = true := decide_eq_true (by omega)
   obtain ⟨W1, hW1⟩ : ∃ W1, W.alloc (.cells #[.int .i64 k, .string key, .string text, .int .i64 p, .int .i64 ((i + 1 + sizes kids : Nat) : Int)] 47) = W1 := ⟨_, rfl⟩
   have hb1 : Below W.heap.size W W1 := by rw [← hW1]; exact below_alloc (Below.refl _ _) _
   have hx1 : W1.heap[W.heap.size]? = some (.cells #[.int .i64 k, .string key, .string text, .int .i64 p, .int .i64 ((i + 1 + sizes kids : Nat) : Int)] 47 (0, 0)) := by rw [← hW1]; exact blk_new _ _
   have KIDS := Lib.hid (kids8_any (some ad) cap base l i (i + 1 + sizes kids) hi (by rw [hli]) (by omega) (by omega) hl W1 (hR.keep (fun k hk => hb1.block k (hR.own k hk).2)))
   rw [show i + 1 + sizes kids - (i + 1) = sizes kids by omega, kidsR_pl kids (i + 1) r hd2 (by omega)] at KIDS
   rw [← hW1] at KIDS
   obtain ⟨L, hL⟩ : ∃ L, pl (i + 1) kids = L := ⟨_, rfl⟩
   have hLk : L.map (·.2) = kids := by rw [← hL]; exact pl_snd _ _
   have hmem : ∀ x ∈ L, (∃ r', l.drop x.1 = (x.2.flat (i : Int) x.1).map toN ++ r') ∧ i + 1 ≤ x.1 ∧ x.1 + x.2.size ≤ i + 1 + sizes kids ∧ x.2 ∈ kids := by rw [← hL]; exact pl_mem kids (i + 1) r hd2
   rw [hL] at KIDS
   have hLl : L.length ≤ 400000 := by
    have := congrArg List.length hLk
    rw [List.length_map] at this
    have := sizes_len kids
    omega
   have hkx : ∀ t ∈ kids, t.ok isNumL nmk = true ∧ t.tx (fun b => decide (b.size ≤ 100000)) = true := by
    have h1 := hok.2
    have h2 := htx.2
    rw [oks_all] at h1
    rw [txs_all] at h2
    exact fun t ht => ⟨List.all_eq_true.1 h1 t ht, List.all_eq_true.1 h2 t ht⟩
   have hsz : (prK quoteL nmk true kids).length ≤ 800000000000 := by
    have h7 := prK_le8 kids nmk true htx.2
    have h8 : sizes kids ≤ 400000 := by omega
    omega
   have HK := Lib.hid hLk
   have HME := Lib.hid hmem
   have HKX := Lib.hid hkx
   have HB1 := Lib.hid hb1
   have HX1 := Lib.hid hx1
   have HW1 := Lib.hid hW1
   clear hR hli hn hd hd2 hok htx hk17 hnmk hL hLk hmem hkx hb1 hx1 hW1
   go_enter Tryz.func20, Tryz.ntmps20
   go_wp2_with (go_at_call 55; go_must (refine (KIDS.out).mono ?_); rintro e' w2 ⟨vk, rfl, hOk, hbk⟩; obtain ⟨Ak, ck, hvk⟩ := open_len hOk; rw [List.length_reverse, List.length_map] at hvk; subst hvk; rw [HW1.out] at hbk; have hx2 := (hbk.block _ (blk_lt HX1.out)).trans HX1.out; have c0 : w2.cell? ⟨W.heap.size, 0, none⟩ = some (.int .i64 k) := blkc hx2 0 rfl; have HO := Lib.hid hOk; have HBK := Lib.hid hbk; have HX2 := Lib.hid hx2; clear hOk hbk hx2)
   go_loopw [9, 47] (fun v0 vi wr => ∃ (q : Nat) (o : ByteArray), q ≤ L.length ∧ vi = .int .i64 (q : Int) ∧ v0 = .string o ∧ o.data.toList ++ prK quoteL nmk (q == 0) (kids.drop q) = prK quoteL nmk true kids ∧ Below w2.heap.size w2 wr) (fun _ vi _ => L.length - (intOf vi).toNat)
   case atStart => exact ⟨0, ⟨#[]⟩, Nat.zero_le _, rfl, rfl, rfl, Below.refl _ _⟩
   case round =>
    obtain ⟨q, o, hq, rfl, rfl, ho, hB⟩ := hrel
    have hos : o.size ≤ 800000000000 := by
     have h1 := congrArg List.length ho
     rw [List.length_append] at h1
     have h3 : o.data.toList.length = o.size := by simp
     omega
    have c1 := cellBelow hB c0
    by_cases hlt : q < L.length
    ·have k9 : decide ((q : Int) < (L.length : Int)) = true := decide_eq_true (by omega)
     have k10 : decide (q < L.length) = true := decide_eq_true hlt
     have HLT := Lib.hid hlt
     obtain ⟨⟨r', hr'⟩, hx1, hx2, hx3⟩ := HME.out L[q] (List.getElem_mem hlt)
     have hkd : kids.drop q = L[q].2 :: kids.drop (q + 1) := by
      rw [← HK.out, ← List.map_drop, List.drop_eq_getElem_cons hlt, List.map_cons, List.map_drop]
      rfl
     obtain ⟨hto, htt⟩ := HKX.out _ hx3
     obtain ⟨ak, rfl, b0⟩ := open_at HO.out q (by simpa using hlt)
     have b1 := cellBelow hB b0
     have e0 : (L.map (·.1))[q]'(by simpa using hlt) = L[q].1 := by
      simp only [List.getElem_map]
      rfl
     rw [e0] at b1
     clear e0 b0
     obtain ⟨⟨kp, t⟩, hx⟩ : ∃ x, L[q] = x := ⟨_, rfl⟩
     rw [hx] at b1 hr' hx1 hx2 hx3 hkd hto htt
     dsimp only at b1 hr' hx1 hx2 hx3 hkd hto htt
     have htk : t.key.size ≤ 100000 := by
      cases t with
      | mk k key text kids =>
       rw [Tr.tx, Bool.and_eq_true, Bool.and_eq_true] at htt
       exact of_decide_eq_true htt.1.1
     have hpos := t.size_pos
     have hst : t.size ≤ sizes kids := by omega
     have hkl : kp < l.length := by omega
     have k11 : decide (kp < l.length) = true := decide_eq_true hkl
     have k12 : decide ((kp : Int) < (l.length : Int)) = true := decide_eq_true (by omega)
     obtain ⟨qb, hqb⟩ : ∃ qb : ByteArray, (⟨(quoteL t.key.data.toList).toArray⟩ : ByteArray) = qb := ⟨_, rfl⟩
     obtain ⟨pb, hpb⟩ : ∃ pb : ByteArray, (⟨(prT quoteL t).toArray⟩ : ByteArray) = pb := ⟨_, rfl⟩
     have QU := Lib.hid (quote8_any t.key (by omega))
     have hR3 := HR.out.keep (w1 := wr) (fun k hk => ((below_step (below_step HB1.out HBK.out) hB).block k (HR.out.own k hk).2))
     obtain ⟨_, e9, _, g1, _⟩ := node7_at hR3 kp hkl
     injection e9 with e9
     subst e9
     have hky : l[kp].f1 = t.key := by
      have h := (end_of t hr').2.1
      unfold keyAt at h
      rw [List.getElem?_eq_getElem hkl] at h
      exact h
     rw [hky] at g1
     have PR := Lib.hid (fun w (h : Below wr.heap.size wr w) => IH.out t nmk kp (i : Int) r' (by omega) hto htt (by omega) hr' w (HR.out.keep (fun k hk => ((below_step (below_step (below_step HB1.out HBK.out) hB) h).block k (HR.out.own k hk).2))))
     have hps := prT_le8 t htt
     have hps2 : t.size ≤ 400000 := by omega
     have hqs := quoteL_le t.key htk
     rw [hqb] at QU
     rw [hpb] at PR
     have hqd : qb.data.toList = quoteL t.key.data.toList := by rw [← hqb]
     have hpd : pb.data.toList = prT quoteL t := by rw [← hpb]
     have hqz : qb.size ≤ 600002 := by
      have h1 := congrArg List.length hqd
      have h3 : qb.data.toList.length = qb.size := by simp
      omega
     have hpz : pb.size ≤ 800000000000 := by
      have h1 := congrArg List.length hpd
      have h3 : pb.data.toList.length = pb.size := by simp
      omega
     have STEP := Lib.hid (show ∀ o' : ByteArray, o'.data.toList = o.data.toList ++ ((if (q == 0) = true then [] else [44]) ++ ((if nmk = true then quoteL t.key.data.toList ++ [58] else []) ++ prT quoteL t)) → o'.data.toList ++ prK quoteL nmk (q + 1 == 0) (kids.drop (q + 1)) = prK quoteL nmk true kids by
      intro o' h
      rw [h, ← ho, hkd, prK, show (q + 1 == 0) = false from rfl]
      simp only [List.append_assoc])
     have HB := Lib.hid hB
     clear hkd hto htt hr' hx1 hx2 hx3 hx hqb hpb hR3 hky hB ho htk hpos hst hps hps2 hqs
     by_cases hq0 : q = 0
     ·have k53 : decide ((0 : Int) < (q : Int)) = false := decide_eq_false (by omega)
      have k56 : ¬ 0 < q := by omega
      have k54 : (q == 0) = true := by simp [hq0]
      rw [k54] at STEP
      clear hq0
      cases nmk with
      | false =>
       go_wp2_with (go_at_call 20; go_must (refine (PR.out _ (Below.refl _ _)).mono ?_); rintro e' w4 ⟨rfl, hb4⟩; have B4 := Lib.hid (below_step HB.out hb4); clear hb4)
       all_goals first | (exfalso; omega) | skip
       go_roundw
       case rel => exact ⟨q + 1, _, HLT.out, by go_num, rfl, STEP.out _ (by simp [ByteArray.data_append, hpd]), B4.out⟩
       case measure => have := HLT.out; simp [intOf]; omega
      | true =>
       go_wp2_with (first | (go_at_call 16; go_must (refine (QU.out _).mono ?_); rintro e' w3 ⟨rfl, hb3⟩; have B3 := Lib.hid hb3; clear hb3) | (go_at_call 20; go_must (refine (PR.out _ B3.out).mono ?_); rintro e' w4 ⟨rfl, hb4⟩; have B4 := Lib.hid (below_step (below_step HB.out B3.out) hb4); clear hb4))
       all_goals first | (exfalso; omega) | skip
       go_roundw
       case rel => exact ⟨q + 1, _, HLT.out, by go_num, rfl, STEP.out _ (by simp [ByteArray.data_append, hpd, hqd]), B4.out⟩
       case measure => have := HLT.out; simp [intOf]; omega
     ·have k53 : decide ((0 : Int) < (q : Int)) = true := decide_eq_true (by omega)
      have k55 : decide (0 < q) = true := decide_eq_true (by omega)
      have k56 : 0 < q := by omega
      have k54 : (q == 0) = false := by simp [hq0]
      rw [k54] at STEP
      clear hq0
      cases nmk with
      | false =>
       go_wp2_with (go_at_call 20; go_must (refine (PR.out _ (Below.refl _ _)).mono ?_); rintro e' w4 ⟨rfl, hb4⟩; have B4 := Lib.hid (below_step HB.out hb4); clear hb4)
       all_goals first | (exfalso; omega) | skip
       go_roundw
       case rel => exact ⟨q + 1, _, HLT.out, by go_num, rfl, STEP.out _ (by simp [ByteArray.data_append, hpd]), B4.out⟩
       case measure => have := HLT.out; simp [intOf]; omega
      | true =>
       go_wp2_with (first | (go_at_call 16; go_must (refine (QU.out _).mono ?_); rintro e' w3 ⟨rfl, hb3⟩; have B3 := Lib.hid hb3; clear hb3) | (go_at_call 20; go_must (refine (PR.out _ B3.out).mono ?_); rintro e' w4 ⟨rfl, hb4⟩; have B4 := Lib.hid (below_step (below_step HB.out B3.out) hb4); clear hb4))
       all_goals first | (exfalso; omega) | skip
       go_roundw
       case rel => exact ⟨q + 1, _, HLT.out, by go_num, rfl, STEP.out _ (by simp [ByteArray.data_append, hpd, hqd]), B4.out⟩
       case measure => have := HLT.out; simp [intOf]; omega
    ·have k9 : decide ((q : Int) < (L.length : Int)) = false := decide_eq_false (by omega)
     have hkl : L.length = kids.length := by have := congrArg List.length HK.out; rwa [List.length_map] at this
     rw [List.drop_eq_nil_of_le (by omega), prK, List.append_nil] at ho
     have HO' := Lib.hid ho
     have B5 := Lib.hid (below_step (below_step HB1.out HBK.out) hB)
     have hk7 : opn k = (if nmk = true then [123] else [91]) ∧ cls k = (if nmk = true then [125] else [93]) := by
      unfold opn cls
      by_cases h7 : k = 7
      ·rw [if_pos h7, if_pos h7]; have : nmk = true := by rw [← k7]; simp [h7]
       rw [this]; exact ⟨rfl, rfl⟩
      ·rw [if_neg h7, if_neg h7]; have : nmk = false := by rw [← k7]; simp [h7]
       rw [this]; exact ⟨rfl, rfl⟩
     have HK7 := Lib.hid hk7
     clear ho hB hkl hk7
     cases nmk with
     | false =>
      go_wp2_with fail
      all_goals first | (exfalso; omega) | skip
      go_ret
      refine ⟨congrArg (fun z => Ending.returned (.string z)) (str_eq ?_), B5.out⟩
      rw [HK7.out.1, HK7.out.2]
      simp [ByteArray.data_append, HO'.out]
     | true =>
      go_wp2_with fail
      all_goals first | (exfalso; omega) | skip
      go_ret
      refine ⟨congrArg (fun z => Ending.returned (.string z)) (str_eq ?_), B5.out⟩
      rw [HK7.out.1, HK7.out.2]
      simp [ByteArray.data_append, HO'.out]
end Go.Proofs.YtfocognhcljhpaaGreatDoor
namespace Go.Proofs.YtfocognhcljhpaaGreatDoor
open Go.Proofs.YtfocognhcljhpaaGreatDoor.Tree
def abvK (out : List (Nat × Tr)) (x : Nat × Tr) (at_ : Nat) : Bool := match out[at_]? with | some y => bl (kb x.2) (kb y.2) | none => false
def posK (out : List (Nat × Tr)) (x : Nat × Tr) : Nat → Nat
 | 0 => 0
 | a + 1 => if abvK out x a = true then posK out x a else a + 1
def insK (out : List (Nat × Tr)) (x : Nat × Tr) : List (Nat × Tr) := out.take (posK out x out.length) ++ x :: out.drop (posK out x out.length)
def ord8L (L : List (Nat × Tr)) : List (Nat × Tr) := L.foldl insK []
theorem posK_le (out : List (Nat × Tr)) (x : Nat × Tr) : ∀ a, posK out x a ≤ a
 | 0 => Nat.le_refl _
 | a + 1 => by
  rw [posK]
  have := posK_le out x a
  split <;> omega
theorem posK_above (out : List (Nat × Tr)) (x : Nat × Tr) : ∀ a j, posK out x a ≤ j → j < a → abvK out x j = true
 | 0, j, _, h => by omega
 | a + 1, j, h1, h2 => by
  rw [posK] at h1
  by_cases h : abvK out x a = true
  ·rw [if_pos h] at h1
   rcases Nat.lt_or_ge j a with h3 | h3
   ·exact posK_above out x a j h1 h3
   ·obtain rfl : j = a := by omega
    exact h
  ·rw [if_neg h] at h1; omega
theorem posK_at (out : List (Nat × Tr)) (x : Nat × Tr) : ∀ a, posK out x a = 0 ∨ abvK out x (posK out x a - 1) = false
 | 0 => .inl rfl
 | a + 1 => by
  rw [posK]
  by_cases h : abvK out x a = true
  ·rw [if_pos h]; exact posK_at out x a
  ·rw [if_neg h]; exact .inr (by simpa using h)
abbrev leK (x y : Nat × Tr) : Prop := kle x.2 y.2 = true
theorem insK_perm (out : List (Nat × Tr)) (x : Nat × Tr) : (insK out x).Perm (x :: out) := by
 unfold insK
 refine List.perm_middle.trans ?_
 rw [List.take_append_drop]
theorem insK_len (out : List (Nat × Tr)) (x : Nat × Tr) : (insK out x).length = out.length + 1 := by
 rw [(insK_perm out x).length_eq, List.length_cons]
theorem insK_sorted {out : List (Nat × Tr)} (x : Nat × Tr) (h : out.Pairwise leK) : (insK out x).Pairwise leK := by
 unfold insK
 obtain ⟨p, hp⟩ : ∃ p, posK out x out.length = p := ⟨_, rfl⟩
 have h1 := posK_le out x out.length
 have h2 := posK_above out x out.length
 have h3 := posK_at out x out.length
 rw [hp] at h1 h2 h3 ⊢
 have hlow : ∀ y ∈ out.take p, leK y x := by
  intro y hy
  obtain ⟨j, hj, rfl⟩ := List.getElem_of_mem hy
  rw [List.length_take] at hj
  rw [List.getElem_take]
  rcases h3 with h3 | h3
  ·omega
  ·have hlast : leK (out[p - 1]'(by omega)) x := by
    unfold abvK at h3
    rw [List.getElem?_eq_getElem (by omega)] at h3
    show kle _ _ = true
    unfold kle
    rw [Bool.not_eq_true']
    exact h3
   rcases Nat.lt_or_ge j (p - 1) with h4 | h4
   ·exact kle_trans _ _ _ (List.pairwise_iff_getElem.1 h j (p - 1) (by omega) (by omega) h4) hlast
   ·obtain rfl : j = p - 1 := by omega
    exact hlast
 have hhi : ∀ y ∈ out.drop p, leK x y := by
  intro y hy
  obtain ⟨j, hj, rfl⟩ := List.getElem_of_mem hy
  rw [List.length_drop] at hj
  rw [List.getElem_drop]
  have h4 := h2 (p + j) (by omega) (by omega)
  unfold abvK at h4
  rw [List.getElem?_eq_getElem (by omega)] at h4
  show kle _ _ = true
  unfold kle
  rw [bl_asymm _ _ h4]
  rfl
 rw [List.pairwise_append, List.pairwise_cons]
 refine ⟨h.sublist (List.take_sublist _ _), ⟨hhi, h.sublist (List.drop_sublist _ _)⟩, ?_⟩
 intro a ha b hb
 rw [List.mem_cons] at hb
 rcases hb with rfl | hb
 ·exact hlow a ha
 ·exact kle_trans _ _ _ (hlow a ha) (hhi b hb)
theorem ord8L_go : ∀ (L out : List (Nat × Tr)), out.Pairwise leK → (L.foldl insK out).Pairwise leK ∧ (L.foldl insK out).Perm (out ++ L)
 | [], out, h => ⟨h, by simp⟩
 | x :: L, out, h => by
  obtain ⟨h1, h2⟩ := ord8L_go L (insK out x) (insK_sorted x h)
  rw [List.foldl_cons]
  refine ⟨h1, h2.trans ?_⟩
  exact ((insK_perm out x).append_right L).trans List.perm_middle.symm
theorem ord8L_perm (L : List (Nat × Tr)) : (ord8L L).Perm L := by have h := (ord8L_go L [] .nil).2; rw [List.nil_append] at h; exact h
theorem ord8L_sorted (L : List (Nat × Tr)) : (ord8L L).Pairwise leK := (ord8L_go L [] .nil).1
theorem kb_inj {a b : Tr} {l : List Tr} (h : (l.map kb).Nodup) (ha : a ∈ l) (hb : b ∈ l) (e : kb a = kb b) : a = b := by
 obtain ⟨i, hi, rfl⟩ := List.getElem_of_mem ha
 obtain ⟨j, hj, rfl⟩ := List.getElem_of_mem hb
 have hn := List.pairwise_iff_getElem.1 h
 rcases Nat.lt_trichotomy i j with h1 | h1 | h1
 ·exact absurd (by rw [List.getElem_map, List.getElem_map]; exact e) (hn i j (by simpa using hi) (by simpa using hj) h1)
 ·subst h1; rfl
 ·exact absurd (by rw [List.getElem_map, List.getElem_map]; exact e.symm) (hn j i (by simpa using hj) (by simpa using hi) h1)
theorem ord8L_srt (L : List (Nat × Tr)) (h : ((L.map (·.2)).map kb).Nodup) : (ord8L L).map (fun x => srt x.2) = ordK 7 (srts (L.map (·.2))) := by
 unfold ordK
 rw [if_pos rfl, srts_map]
 have hk : ∀ t, kb (srt t) = kb t := fun t => by unfold kb; rw [srt_key]
 have hP : ((ord8L L).map (fun x => srt x.2)).Perm (((L.map (·.2)).map srt).mergeSort kle) := by
  refine ((ord8L_perm L).map _).trans ?_
  refine List.Perm.trans ?_ (List.mergeSort_perm _ _).symm
  rw [List.map_map]
  exact .refl _
 have hN : (((L.map (·.2)).map srt).map kb).Nodup := by
  rw [List.map_map]
  rw [show (kb ∘ srt) = kb from funext hk]
  exact h
 refine List.Perm.eq_of_pairwise (le := fun a b => kle a b = true) ?_ ?_ ?_ hP
 ·intro a b ha hb h1 h2
  have ha' := (List.mergeSort_perm _ _).mem_iff.1 (hP.mem_iff.1 ha)
  have hb' := (List.mergeSort_perm _ _).mem_iff.1 hb
  exact kb_inj hN ha' hb' (kle_anti h1 h2)
 ·rw [List.pairwise_map]
  refine (ord8L_sorted L).imp ?_
  intro a b hab
  show kle _ _ = true
  unfold kle
  rw [hk, hk]
  exact hab
 ·exact List.pairwise_mergeSort kle_trans kle_total _
end Go.Proofs.YtfocognhcljhpaaGreatDoor
namespace Go.Proofs.YtfocognhcljhpaaGreatDoor
open Go.RowKit Go.Shelf Go.Proofs.YtfocognhcljhpaaGreatDoorW.PrintWords Go.Proofs.YtfocognhcljhpaaGreatDoorW.PrintLast Go.Proofs.YtfocognhcljhpaaGreatDoorW.PrintMore Go.Proofs.YtfocognhcljhpaaGreatDoor.PPrintRows Go.Proofs.YtfocognhcljhpaaGreatDoor.Tree
theorem int_appends {W : World} {base : Nat} {v : Value} {op : List Nat} (h : OpenAt W base v op) (A : Option Addr) (c : Nat) (js : List Nat)
  (hc : 0 < js.length → ∃ ad, A = some ad ∧ ∀ i (hi : i < js.length), W.cell? (ad.add i) = some (.int .i64 (js[i] : Int))) (hl : op.length + js.length ≤ 900000) (hbase : base ≤ W.heap.size) :
  ∃ v' w', (Builtin.append_ #[71, 71] 71 #[v, .slice A js.length c]).run Tryz.prog W = .ok v' w' ∧ OpenAt w' base v' (js.reverse ++ op) ∧ W.grownBy w' v.ownBlock ∧ (∀ k, v'.ownBlock = some k → v.ownBlock = some k ∨ W.heap.size ≤ k) := by
 obtain ⟨i0, hi0, hz0, hz1, hz2⟩ := info_parts int_info
 rcases A with _ | ad
 ·have hj : js = [] := by
   rcases js with _ | ⟨x, xs⟩
   ·rfl
   ·obtain ⟨ad, h, _⟩ := hc (by simp)
    cases h
  subst hj
  refine ⟨v, W, ?_, by simpa using h, World.grownBy.refl W _, fun k hk => .inl hk⟩
  obtain ⟨A, c', rfl⟩ := open_len h
  rcases (open_own h).2 with ⟨e1, e2⟩ | ⟨g, cap, cur, e1, _, _, hnc, _⟩
  ·simp only [Value.slice.injEq] at e1
   obtain ⟨rfl, e2, rfl⟩ := e1
   obtain rfl : op = [] := List.length_eq_zero_iff.1 e2
   simp [Builtin.append_, run_underlying Tryz.underlying71, sizeOf, typeInfo, hi0, Builtin.lenOf, Builtin.firstCells]
  ·simp only [Value.slice.injEq] at e1
   obtain ⟨rfl, _, rfl⟩ := e1
   simp [Builtin.append_, run_underlying Tryz.underlying71, sizeOf, typeInfo, hi0, Builtin.lenOf, Builtin.firstCells, hnc, storeCells]
 ·have hcells : ∀ j u, (js.map fun (j : Nat) => Value.int .i64 (j : Int))[j]? = some u → W.cell? (ad.add j) = some u := by
   intro j u hu
   rw [List.getElem?_map] at hu
   obtain ⟨y, hy, rfl⟩ := Option.map_eq_some_iff.1 hu
   obtain ⟨hj, rfl⟩ := List.getElem?_eq_some_iff.1 hy
   obtain ⟨ad', e, hx⟩ := hc (by omega)
   cases e
   exact hx j hj
  obtain ⟨v', w', h1, h2, h3, h4, h5⟩ := run_append_own_at (P := Tryz.prog) (w := W) base 71 71 3 i0 _ 1 8 Tryz.underlying71 hi0 hz0 hz1 hz2 rfl (by decide) v op.length _ (open_own h) ad js.length c (js.map fun (j : Nat) => Value.int .i64 (j : Int)) (by simp)
   hcells (fun u hu => by obtain ⟨y, _, rfl⟩ := List.mem_map.1 hu; rfl) (by unfold maxLen; omega) (by omega) hbase
  refine ⟨v', w', h1, open_of (by simpa [Nat.add_comm] using h2), h3, fun k hk => ?_⟩
  rcases h5 with h5 | h5
  ·exact .inl (by rw [← h5]; exact hk)
  ·rw [h5] at hk
   cases hk
   exact .inr (Nat.le_refl _)
theorem gtr_bl (x y : ByteArray) : (!Op.bytesLess y.toList x.toList && !y.toList == x.toList) = bl x.data.toList y.data.toList := by
 rw [ByteArray.toList_eq, ByteArray.toList_eq, bl_eq]
 cases h : bl x.data.toList y.data.toList with
 | true =>
  rw [bl_asymm _ _ h]
  have hne : (y.data.toList == x.data.toList) = false := by
   rw [beq_eq_false_iff_ne]
   intro e
   rw [e] at h
   have h2 := bl_asymm _ _ h
   rw [h] at h2
   cases h2
  rw [hne]
  rfl
 | false =>
  cases h2 : bl y.data.toList x.data.toList with
  | true => rfl
  | false =>
   have := bl_total _ _ h h2
   rw [this]
   simp
theorem ord_fin1 {W wo wq : World} {A3 : Option Addr} {n3 c3 : Nat} {out : List Nat} (hO : OpenAt wo W.heap.size (.slice A3 n3 c3) out.reverse) (hn : n3 = out.length) (hW : Below W.heap.size W wo) (hB : Below wo.heap.size wo wq) (hl : out.length ≤ 400000) (m : Nat) (hm : m ≤ out.length) (A4 : Option Addr) (c4 : Nat) (hA4 : 0 < m → A4 = A3) :
  ∃ A5 c5 w5, (Builtin.append_ #[71, 71] 71 #[.slice none 0 0, .slice A4 m c4]).run Tryz.prog wq = .ok (.slice A5 m c5) w5 ∧
   Hid (OpenAt w5 W.heap.size (.slice A5 m c5) (out.take m).reverse ∧ Below wo.heap.size wo w5 ∧ ∀ k, (Value.slice A5 m c5).ownBlock = some k → wo.heap.size ≤ k) := by
 subst hn
 have hlen : (out.take m).length = m := by rw [List.length_take]; omega
 obtain ⟨v5, w5, h1, h2, h3, h4⟩ := int_appends (W := wq) (base := W.heap.size) (v := .slice none 0 0) (op := []) (open_of (World.ownsRow_nil _ _ _ _)) A4 c4 (out.take m)
  (fun hpos => by
   rw [hlen] at hpos
   obtain ⟨ao, e, _⟩ := open_at hO 0 (by omega)
   refine ⟨ao, (hA4 hpos).trans e, fun i hi => ?_⟩
   rw [hlen] at hi
   obtain ⟨ao', e', hc⟩ := open_at hO i (by omega)
   obtain rfl : ao = ao' := Option.some.inj (e.symm.trans e')
   rw [List.getElem_take]
   exact cellBelow hB hc) (by rw [hlen]; simp; omega) (Nat.le_trans hW.size hB.size)
 rw [hlen] at h1
 rw [List.append_nil] at h2
 obtain ⟨A5, c5, rfl⟩ := open_len h2
 rw [List.length_reverse, hlen] at h1 h2 h4
 exact ⟨A5, c5, w5, h1, Lib.hid ⟨h2, hB.grown h3 hB.size (fun k e => by cases e), fun k e => by
  rcases h4 k e with h | h
  ·cases h
  ·exact Nat.le_trans hB.size h⟩⟩
theorem ord_fin2 {base N : Nat} {wo w5 : World} {A5 : Option Addr} {m c5 : Nat} {xs : List Nat} (h : OpenAt w5 base (.slice A5 m c5) xs) (hx : xs.length = m) (hm : m ≤ 400000) (hB : Below N wo w5) (hN : N ≤ w5.heap.size) (hown : ∀ k, (Value.slice A5 m c5).ownBlock = some k → N ≤ k) (hbase : base ≤ w5.heap.size) (kx : Nat) :
  ∃ A6 c6 w6, (Builtin.append_ #[71, 71] 71 #[.slice A5 m c5, .slice (some ⟨w5.heap.size, 0, none⟩) 1 1]).run Tryz.prog (w5.alloc (.cells #[.int .i64 (kx : Int)] 3)) = .ok (.slice A6 (m + 1) c6) w6 ∧
   Hid (OpenAt w6 base (.slice A6 (m + 1) c6) (kx :: xs) ∧ Below N wo w6 ∧ ∀ k, (Value.slice A6 (m + 1) c6).ownBlock = some k → N ≤ k) := by
 obtain ⟨v6, w6, h1, h2, h3, h4⟩ := int_append h kx (by omega) hbase
 obtain ⟨A6, c6, rfl⟩ := open_len h2
 rw [List.length_cons, hx] at h1 h2 h4
 have hB' : Below N wo (w5.alloc (.cells #[.int .i64 (kx : Int)] 3)) := hB.alloc hN _
 exact ⟨A6, c6, w6, h1, Lib.hid ⟨h2, hB'.grown h3 (by simp; omega) hown, fun k e => by
  rcases h4 k e with h | h
  ·exact hown k h
  ·exact Nat.le_trans hN h⟩⟩
theorem ord_fin3 {W wo w6 : World} {A3 A6 A8 : Option Addr} {n3 c3 c6 c8 : Nat} {out xs : List Nat} (hO : OpenAt wo W.heap.size (.slice A3 n3 c3) out.reverse) (hn : n3 = out.length) (hl : out.length ≤ 400000) (m : Nat) (hm : m ≤ out.length)
  (h : OpenAt w6 W.heap.size (.slice A6 (m + 1) c6) xs) (hx : xs.length = m + 1) (hW : Below W.heap.size W wo) (hB : Below wo.heap.size wo w6) (hown : ∀ k, (Value.slice A6 (m + 1) c6).ownBlock = some k → wo.heap.size ≤ k) (hA8 : m < out.length → ∃ ao, A3 = some ao ∧ A8 = some (ao.add m)) :
  ∃ A7 c7 w7, (Builtin.append_ #[71, 71] 71 #[.slice A6 (m + 1) c6, .slice A8 (out.length - m) c8]).run Tryz.prog w6 = .ok (.slice A7 (out.length + 1) c7) w7 ∧
   Hid (OpenAt w7 W.heap.size (.slice A7 (out.length + 1) c7) ((out.drop m).reverse ++ xs) ∧ Below wo.heap.size wo w7) := by
 subst hn
 have hlen : (out.drop m).length = out.length - m := List.length_drop
 obtain ⟨v7, w7, h1, h2, h3, h4⟩ := int_appends h A8 c8 (out.drop m)
  (fun hpos => by
   rw [hlen] at hpos
   obtain ⟨ao, e, rfl⟩ := hA8 (by omega)
   refine ⟨_, rfl, fun i hi => ?_⟩
   rw [hlen] at hi
   obtain ⟨ao', e', hc⟩ := open_at hO (m + i) (by omega)
   obtain rfl : ao = ao' := Option.some.inj (e.symm.trans e')
   rw [List.getElem_drop, Addr.add_add]
   exact cellBelow hB hc) (by rw [hlen]; omega) (Nat.le_trans hW.size hB.size)
 rw [hlen] at h1
 obtain ⟨A7, c7, rfl⟩ := open_len h2
 rw [List.length_append, List.length_reverse, hlen, hx, show out.length - m + (m + 1) = out.length + 1 by omega] at h1 h2
 exact ⟨A7, c7, w7, h1, Lib.hid ⟨h2, hB.grown h3 hB.size hown⟩⟩
set_option maxRecDepth 100000 in
set_option maxHeartbeats 4000000 in
theorem order8_any (A : Option Addr) (cap base : Nat) (l : List Node) (hl : l.length ≤ 400000) (L : List (Nat × Tr)) (hLl : L.length ≤ 400000) (hL : ∀ x ∈ L, ∃ h : x.1 < l.length, l[x.1].f1 = x.2.key) (W : World) (hR : Row7 W base (.slice A l.length cap) l)
  (Ak : Option Addr) (ck bk : Nat) (hK : OpenAt W bk (.slice Ak L.length ck) (L.map (·.1)).reverse) :
  Calls Tryz.prog 56 #[.slice A l.length cap, .slice Ak L.length ck] W fun e' w' => ∃ v, e' = .returned v ∧ OpenAt w' W.heap.size v ((ord8L L).map (·.1)).reverse ∧ Below W.heap.size W w' := by
 have HR := Lib.hid hR
 have HK := Lib.hid hK
 have HL := Lib.hid hL
 clear hR hK hL
 go_enter Tryz.func56, Tryz.ntmps56
 go_wp2_with fail
 go_loopw [5, 12] (fun v5 vi wr => ∃ (q : Nat) (A3 : Option Addr) (c3 n3 : Nat), q ≤ L.length ∧ vi = .int .i64 (q : Int) ∧ v5 = .slice A3 n3 c3 ∧ n3 = ((L.take q).foldl insK []).length ∧ OpenAt wr W.heap.size (.slice A3 n3 c3) (((L.take q).foldl insK []).map (·.1)).reverse ∧ Below W.heap.size W wr)
  (fun _ vi _ => L.length - (intOf vi).toNat)
 case atStart => exact ⟨0, none, 0, 0, Nat.zero_le _, by go_num, rfl, rfl, open_of (World.ownsRow_nil _ _ _ _), Below.refl _ _⟩
 case round =>
  obtain ⟨q, A3, c3, n3, hq, rfl, rfl, rfl, hO, hB⟩ := hrel
  by_cases hlt : q < L.length
  ·have k1 : decide (q < L.length) = true := decide_eq_true hlt
   have k2 : decide ((q : Int) < (L.length : Int)) = true := decide_eq_true (by omega)
   obtain ⟨out, hout⟩ : ∃ o, (L.take q).foldl insK [] = o := ⟨_, rfl⟩
   rw [hout] at hO ⊢
   obtain ⟨x, hx⟩ : ∃ x, L[q] = x := ⟨_, rfl⟩
   have hnext : (L.take (q + 1)).foldl insK [] = insK out x := by
    rw [List.take_succ_eq_append_getElem hlt, List.foldl_append, hout, hx]
    rfl
   obtain ⟨ak, rfl, b0⟩ := open_at HK.out q (by simpa using hlt)
   have e0 : (L.map (·.1))[q]'(by simpa using hlt) = x.1 := by rw [List.getElem_map, hx]
   rw [e0] at b0
   have b1 := cellBelow hB b0
   clear b0 e0
   have HO := Lib.hid hO
   have HB := Lib.hid hB
   have HN := Lib.hid hnext
   clear hO hB hnext
   have hmem : ∀ y ∈ out, y ∈ L := fun y hy => by
    have hp := (ord8L_go (L.take q) [] .nil).2
    rw [hout, List.nil_append] at hp
    exact List.mem_of_mem_take (hp.mem_iff.1 hy)
   have hxL : x ∈ L := hx ▸ List.getElem_mem hlt
   have hol : out.length = q := by
    have hp := (ord8L_go (L.take q) [] .nil).2
    rw [hout, List.nil_append] at hp
    rw [hp.length_eq, List.length_take]
    omega
   obtain ⟨kx, tx⟩ := x
   obtain ⟨hx1, hx2⟩ := HL.out _ hxL
   dsimp only at hx1 hx2 b1
   have HME := Lib.hid hmem
   clear hmem hxL hx hout
   obtain ⟨wo, rfl⟩ : ∃ wo, wo = wr := ⟨_, rfl⟩
   go_wp2_with fail
   go_loopw [8] (fun v8 wr2 => ∃ a : Nat, a ≤ out.length ∧ v8 = .int .i64 (a : Int) ∧ posK out (kx, tx) a = posK out (kx, tx) out.length ∧ Below wo.heap.size wo wr2) (fun v8 _ => (intOf v8).toNat)
   case atStart => exact ⟨out.length, Nat.le_refl _, by go_num, rfl, Below.refl _ _⟩
   case round =>
    obtain ⟨a, ha, rfl, hpos, hB2⟩ := hrel
    rcases a with _ | a
    ·go_wp2_with fail
     go_quiet (fail)
     obtain ⟨wq, hwq⟩ : ∃ wq, wr.drewN nq = wq := ⟨_, rfl⟩
     have hB4 : Below wo.heap.size wo wq := by rw [← hwq]; exact pw_below_drewN hB2 _
     rw [hwq]
     have hcap : out.length ≤ c3 := by have h := (Kd.R_reads' HO.out).2.1; simpa using h
     rcases A3 with _ | ao
     ·have hz : out.length = 0 ∧ c3 = 0 := by
       rcases (open_own HO.out).2 with ⟨e1, e2⟩ | ⟨g, cap, cur, e1, _, _, hnc, _⟩
       ·simp only [Value.slice.injEq] at e1
        exact ⟨by simpa using e1.2.1, e1.2.2⟩
       ·simp only [Value.slice.injEq] at e1
        cases e1.1
      obtain ⟨hz1, rfl⟩ := hz
      obtain ⟨A5, c5, w5, hr5, hF5⟩ := ord_fin1 (wq := wq) HO.out (by rw [List.length_map]) HB.out hB4 (by rw [List.length_map]; omega) 0 (Nat.zero_le _) none 0 (fun h => absurd h (by decide))
      obtain ⟨A6, c6, w6, hr6, hF6⟩ := ord_fin2 hF5.out.1 (by simp) (by omega) hF5.out.2.1 hF5.out.2.1.size hF5.out.2.2 (Nat.le_trans HB.out.size hF5.out.2.1.size) kx
      obtain ⟨A7, c7, w7, hr7, hF7⟩ := ord_fin3 (c8 := 0) HO.out (by rw [List.length_map]) (by rw [List.length_map]; omega) 0 (Nat.zero_le _) hF6.out.1 (by simp) HB.out hF6.out.2.1 hF6.out.2.2 (A8 := none) (fun h => by rw [List.length_map] at h; omega)
      rw [List.length_map] at hr7 hF7
      have hpm : posK out (kx, tx) out.length = 0 := by rw [← hpos]; rfl
      have FIN := Lib.hid (show q + 1 = ((L.take (q + 1)).foldl insK []).length ∧ OpenAt w7 W.heap.size (.slice A7 (q + 1) c7) (((L.take (q + 1)).foldl insK []).map (·.1)).reverse ∧ Below W.heap.size W w7 by
       rw [HN.out]
       refine ⟨by rw [insK_len, hol], ?_, below_step HB.out hF7.out.2⟩
       have e : ((insK out (kx, tx)).map (·.1)).reverse = ((out.map (·.1)).drop 0).reverse ++ kx :: ((out.map (·.1)).take 0).reverse := by
        unfold insK
        rw [hpm]
        simp [List.map_take, List.map_drop]
       rw [e]
       have h := hF7.out.1
       rw [hol] at h
       exact h)
      clear hpm hF7
      rw [hol, Nat.sub_zero] at hr7
      clear hB4 hwq hpos hF5 hF6
      go_wp2_with (at_builtin; first | ((refine wpList_append_runI _ rfl _ _ 71 71 rfl _ _ rfl rfl hr5 ?_); clear hr5) | ((refine wpList_append_runI _ rfl _ _ 71 71 rfl _ _ rfl rfl hr6 ?_); clear hr6) | ((refine wpList_append_runI _ rfl _ _ 71 71 rfl _ _ rfl rfl hr7 ?_); clear hr7))
      go_roundw
      case rel => exact ⟨q + 1, A7, c7, q + 1, by omega, by go_num, rfl, FIN.out⟩
      case measure => simp [intOf]; omega
     ·by_cases hc0 : c3 = 0
      ·subst hc0
       obtain ⟨A5, c5, w5, hr5, hF5⟩ := ord_fin1 (wq := wq) HO.out (by rw [List.length_map]) HB.out hB4 (by rw [List.length_map]; omega) 0 (Nat.zero_le _) (some ao) 0 (fun h => absurd h (by decide))
       obtain ⟨A6, c6, w6, hr6, hF6⟩ := ord_fin2 hF5.out.1 (by simp) (by omega) hF5.out.2.1 hF5.out.2.1.size hF5.out.2.2 (Nat.le_trans HB.out.size hF5.out.2.1.size) kx
       obtain ⟨A7, c7, w7, hr7, hF7⟩ := ord_fin3 (c8 := 0) HO.out (by rw [List.length_map]) (by rw [List.length_map]; omega) 0 (Nat.zero_le _) hF6.out.1 (by simp) HB.out hF6.out.2.1 hF6.out.2.2 (A8 := some ao) (fun h => by rw [List.length_map] at h; omega)
       rw [List.length_map] at hr7 hF7
       have hpm : posK out (kx, tx) out.length = 0 := by rw [← hpos]; rfl
       have FIN := Lib.hid (show q + 1 = ((L.take (q + 1)).foldl insK []).length ∧ OpenAt w7 W.heap.size (.slice A7 (q + 1) c7) (((L.take (q + 1)).foldl insK []).map (·.1)).reverse ∧ Below W.heap.size W w7 by
        rw [HN.out]
        refine ⟨by rw [insK_len, hol], ?_, below_step HB.out hF7.out.2⟩
        have e : ((insK out (kx, tx)).map (·.1)).reverse = ((out.map (·.1)).drop 0).reverse ++ kx :: ((out.map (·.1)).take 0).reverse := by
         unfold insK
         rw [hpm]
         simp [List.map_take, List.map_drop]
        rw [e]
        have h := hF7.out.1
        rw [hol] at h
        exact h)
       clear hpm hF7
       rw [hol, Nat.sub_zero] at hr7
       clear hB4 hwq hpos hF5 hF6
       go_wp2_with (at_builtin; first | ((refine wpList_append_runI _ rfl _ _ 71 71 rfl _ _ rfl rfl hr5 ?_); clear hr5) | ((refine wpList_append_runI _ rfl _ _ 71 71 rfl _ _ rfl rfl hr6 ?_); clear hr6) | ((refine wpList_append_runI _ rfl _ _ 71 71 rfl _ _ rfl rfl hr7 ?_); clear hr7))
       go_roundw
       case rel => exact ⟨q + 1, A7, c7, q + 1, by omega, by go_num, rfl, FIN.out⟩
       case measure => simp [intOf]; omega
      ·have hc1 : 0 < c3 := by omega
       obtain ⟨A5, c5, w5, hr5, hF5⟩ := ord_fin1 (wq := wq) HO.out (by rw [List.length_map]) HB.out hB4 (by rw [List.length_map]; omega) 0 (Nat.zero_le _) (some ao) c3 (fun h => absurd h (by decide))
       obtain ⟨A6, c6, w6, hr6, hF6⟩ := ord_fin2 hF5.out.1 (by simp) (by omega) hF5.out.2.1 hF5.out.2.1.size hF5.out.2.2 (Nat.le_trans HB.out.size hF5.out.2.1.size) kx
       obtain ⟨A7, c7, w7, hr7, hF7⟩ := ord_fin3 (c8 := c3) HO.out (by rw [List.length_map]) (by rw [List.length_map]; omega) 0 (Nat.zero_le _) hF6.out.1 (by simp) HB.out hF6.out.2.1 hF6.out.2.2 (A8 := some ao) (fun _ => ⟨ao, rfl, by rw [Addr.add_zero']⟩)
       rw [List.length_map] at hr7 hF7
       have hpm : posK out (kx, tx) out.length = 0 := by rw [← hpos]; rfl
       have FIN := Lib.hid (show q + 1 = ((L.take (q + 1)).foldl insK []).length ∧ OpenAt w7 W.heap.size (.slice A7 (q + 1) c7) (((L.take (q + 1)).foldl insK []).map (·.1)).reverse ∧ Below W.heap.size W w7 by
        rw [HN.out]
        refine ⟨by rw [insK_len, hol], ?_, below_step HB.out hF7.out.2⟩
        have e : ((insK out (kx, tx)).map (·.1)).reverse = ((out.map (·.1)).drop 0).reverse ++ kx :: ((out.map (·.1)).take 0).reverse := by
         unfold insK
         rw [hpm]
         simp [List.map_take, List.map_drop]
        rw [e]
        have h := hF7.out.1
        rw [hol] at h
        exact h)
       clear hpm hF7
       rw [hol, Nat.sub_zero] at hr7
       clear hB4 hwq hpos hF5 hF6
       go_wp2_with (at_builtin; first | ((refine wpList_append_runI _ rfl _ _ 71 71 rfl _ _ rfl rfl hr5 ?_); clear hr5) | ((refine wpList_append_runI _ rfl _ _ 71 71 rfl _ _ rfl rfl hr6 ?_); clear hr6) | ((refine wpList_append_runI _ rfl _ _ 71 71 rfl _ _ rfl rfl hr7 ?_); clear hr7))
       go_roundw
       case rel => exact ⟨q + 1, A7, c7, q + 1, by omega, by go_num, rfl, FIN.out⟩
       case measure => simp [intOf]; omega
    ·obtain ⟨ao, rfl, g0⟩ := open_at HO.out a (by rw [List.length_map]; omega)
     obtain ⟨⟨ky, ty⟩, hy⟩ : ∃ y, out[a] = y := ⟨_, rfl⟩
     have e0 : (out.map (·.1))[a]'(by rw [List.length_map]; omega) = ky := by rw [List.getElem_map, hy]
     rw [e0] at g0
     obtain ⟨hy1, hy2⟩ := HL.out _ (HME.out _ (hy ▸ List.getElem_mem (by omega)))
     dsimp only at hy1 hy2
     have hR2 := HR.out.keep (w1 := wr) (fun k hk => (below_step HB.out hB2).block k (HR.out.own k hk).2)
     obtain ⟨ad, rfl, _, f1, _⟩ := node7_at hR2 ky hy1
     obtain ⟨_, e9, _, f2, _⟩ := node7_at hR2 kx hx1
     injection e9 with e9
     subst e9
     rw [hy2] at f1
     rw [hx2] at f2
     have g1 := cellBelow hB2 g0
     have HB3 := Lib.hid hB2
     have HPO := Lib.hid hpos
     have k4 : decide (ky < l.length) = true := decide_eq_true hy1
     have k5 : decide (kx < l.length) = true := decide_eq_true hx1
     have k6 : decide ((ky : Int) < (l.length : Int)) = true := decide_eq_true (by omega)
     have k7 : decide ((kx : Int) < (l.length : Int)) = true := decide_eq_true (by omega)
     have k8 : decide (a < out.length) = true := decide_eq_true (by omega)
     have k9 : decide ((a : Int) < (out.length : Int)) = true := decide_eq_true (by omega)
     have hgt := gtr_bl tx.key ty.key
     obtain ⟨gb, hgb⟩ : ∃ b, bl tx.key.data.toList ty.key.data.toList = b := ⟨_, rfl⟩
     have habv : abvK out (kx, tx) a = gb := by
      unfold abvK
      rw [List.getElem?_eq_getElem (by omega), hy]
      exact hgb
     have HAB := Lib.hid habv
     rw [hgb] at hgt
     clear hB2 hpos g0 e0 hy habv hgb
     obtain ⟨m, hm⟩ : ∃ m, a + 1 = m := ⟨_, rfl⟩
     have k10 : (m : Int) - 1 = (a : Int) := by omega
     have k11 : IntKind.i64.wrap ((m : Int) - 1) = (a : Int) := by rw [k10]; exact wrap_id _ (by omega) (by omega)
     have k3 : decide ((0 : Int) < (m : Int)) = true := decide_eq_true (by omega)
     have k12 : decide ((0 : Int) ≤ (a : Int)) = true := decide_eq_true (by omega)
     have k13 : (0 : Int) < (m : Int) := by omega
     have k14 : 0 < m := by omega
     have k15 : decide (0 < m) = true := decide_eq_true (by omega)
     have k16 : decide (a < q) = true := decide_eq_true (by omega)
     have k17 : decide ((a : Int) < (q : Int)) = true := decide_eq_true (by omega)
     rw [hm] at ha HPO ⊢
     go_wp2_with fail
     go_quiet (fail)
     rcases gb with _ | _
     ·have hcap : out.length ≤ c3 := by have h := (Kd.R_reads' HO.out).2.1; simpa using h
      have r1 : m ≤ c3 := by omega
      have r2 : (m : Int) ≤ (c3 : Int) := by omega
      have r3 : decide ((m : Int) ≤ (c3 : Int)) = true := decide_eq_true r2
      have r4 : (0 : Int) ≤ (m : Int) := by omega
      have r5 : decide ((0 : Int) ≤ (m : Int)) = true := decide_eq_true r4
      have r6 : decide (m ≤ c3) = true := decide_eq_true r1
      have r7 : ¬ (c3 : Int) < (m : Int) := by omega
      have r8 : ¬ c3 < m := by omega
      have r9 : ¬ c3 = 0 := by omega
      obtain ⟨wq, hwq⟩ : ∃ wq, wr.drewN nq = wq := ⟨_, rfl⟩
      have hB4 : Below wo.heap.size wo wq := by rw [← hwq]; exact pw_below_drewN HB3.out _
      rw [hwq]
      have hB5 : Below W.heap.size W wq := below_step HB.out hB4
      obtain ⟨A5, c5, w5, hr5, hF5⟩ := ord_fin1 (wq := wq) HO.out (by rw [List.length_map]) HB.out hB4 (by rw [List.length_map]; omega) m (by rw [List.length_map]; exact ha) (some ao) c3 (fun _ => rfl)
      have hl5 : ((out.map (·.1)).take m).reverse.length = m := by simp; omega
      obtain ⟨A6, c6, w6, hr6, hF6⟩ := ord_fin2 hF5.out.1 hl5 (by omega) hF5.out.2.1 hF5.out.2.1.size hF5.out.2.2 (Nat.le_trans HB.out.size hF5.out.2.1.size) kx
      have HB5 := Lib.hid hB5
      clear hB4 hB5 hwq
      have hx6 : (kx :: ((out.map (·.1)).take m).reverse).length = m + 1 := by rw [List.length_cons, hl5]
      by_cases hcm : c3 = m
      ·obtain ⟨A7, c7, w7, hr7, hF7⟩ := ord_fin3 (c8 := 0) HO.out (by rw [List.length_map]) (by rw [List.length_map]; omega) m (by rw [List.length_map]; exact ha) hF6.out.1 hx6 HB.out hF6.out.2.1 hF6.out.2.2 (A8 := some ao) (fun h => by rw [List.length_map] at h; omega)
       rw [List.length_map] at hr7 hF7
       have hpm : posK out (kx, tx) out.length = m := by rw [← HPO.out, ← hm, posK, if_neg (by rw [HAB.out]; decide)]
       have FIN := Lib.hid (show q + 1 = ((L.take (q + 1)).foldl insK []).length ∧ OpenAt w7 W.heap.size (.slice A7 (q + 1) c7) (((L.take (q + 1)).foldl insK []).map (·.1)).reverse ∧ Below W.heap.size W w7 by
        rw [HN.out]
        refine ⟨by rw [insK_len, hol], ?_, below_step HB.out hF7.out.2⟩
        have e : ((insK out (kx, tx)).map (·.1)).reverse = ((out.map (·.1)).drop m).reverse ++ kx :: ((out.map (·.1)).take m).reverse := by
         unfold insK
         rw [hpm]
         simp [List.map_take, List.map_drop]
        rw [e]
        have h := hF7.out.1
        rw [hol] at h
        exact h)
       clear hpm hF7
       rw [hol] at hr7
       subst hcm
       go_wp2_with (at_builtin; first | ((refine wpList_append_runI _ rfl _ _ 71 71 rfl _ _ rfl rfl hr5 ?_); clear hr5) | ((refine wpList_append_runI _ rfl _ _ 71 71 rfl _ _ rfl rfl hr6 ?_); clear hr6) | ((refine wpList_append_runI _ rfl _ _ 71 71 rfl _ _ rfl rfl hr7 ?_); clear hr7))
       go_roundw
       case rel => exact ⟨q + 1, A7, c7, q + 1, by omega, by go_num, rfl, FIN.out⟩
       case measure => simp [intOf]; omega
      ·obtain ⟨A7, c7, w7, hr7, hF7⟩ := ord_fin3 (c8 := c3 - m) HO.out (by rw [List.length_map]) (by rw [List.length_map]; omega) m (by rw [List.length_map]; exact ha) hF6.out.1 hx6 HB.out hF6.out.2.1 hF6.out.2.2 (A8 := some (ao.add m)) (fun _ => ⟨ao, rfl, rfl⟩)
       rw [List.length_map] at hr7 hF7
       have hpm : posK out (kx, tx) out.length = m := by rw [← HPO.out, ← hm, posK, if_neg (by rw [HAB.out]; decide)]
       have FIN := Lib.hid (show q + 1 = ((L.take (q + 1)).foldl insK []).length ∧ OpenAt w7 W.heap.size (.slice A7 (q + 1) c7) (((L.take (q + 1)).foldl insK []).map (·.1)).reverse ∧ Below W.heap.size W w7 by
        rw [HN.out]
        refine ⟨by rw [insK_len, hol], ?_, below_step HB.out hF7.out.2⟩
        have e : ((insK out (kx, tx)).map (·.1)).reverse = ((out.map (·.1)).drop m).reverse ++ kx :: ((out.map (·.1)).take m).reverse := by
         unfold insK
         rw [hpm]
         simp [List.map_take, List.map_drop]
        rw [e]
        have h := hF7.out.1
        rw [hol] at h
        exact h)
       clear hpm hF7
       rw [hol] at hr7
       go_wp2_with (at_builtin; first | ((refine wpList_append_runI _ rfl _ _ 71 71 rfl _ _ rfl rfl hr5 ?_); clear hr5) | ((refine wpList_append_runI _ rfl _ _ 71 71 rfl _ _ rfl rfl hr6 ?_); clear hr6) | ((refine wpList_append_runI _ rfl _ _ 71 71 rfl _ _ rfl rfl hr7 ?_); clear hr7))
       go_roundw
       case rel => exact ⟨q + 1, A7, c7, q + 1, by omega, by go_num, rfl, FIN.out⟩
       case measure => simp [intOf]; omega
     ·go_wp2_with fail
      go_roundw
      case rel =>
       refine ⟨a, by omega, by first | rfl | go_num, ?_, pw_below_drewN HB3.out _⟩
       rw [← HPO.out, ← hm, posK, if_pos HAB.out]
      case measure => simp [intOf]; omega
  ·have k1 : decide (q < L.length) = false := decide_eq_false hlt
   have k2 : decide ((q : Int) < (L.length : Int)) = false := decide_eq_false (by omega)
   rw [List.take_of_length_le (by omega)] at hO ⊢
   have HO := Lib.hid hO
   have HB := Lib.hid hB
   clear hO hB
   go_wp2_with fail
   go_ret
   exact ⟨_, rfl, HO.out, HB.out⟩
set_option maxRecDepth 100000 in
set_option maxHeartbeats 4000000 in
theorem print8s_leaf (A : Option Addr) (cap base : Nat) (l : List Node) (k : Int) (key text : ByteArray) (i : Nat) (p e : Int) (hi : i < l.length) (hli : l[i] = ⟨k, key, text, p, e⟩) (h1 : 1 ≤ k) (h6 : k < 6) (htx : text.size ≤ 100000) (W : World) (hR : Row7 W base (.slice A l.length cap) l) :
  Calls Tryz.prog 20 #[.slice A l.length cap, .int .i64 (i : Int), .bool true] W fun e w' => e = .returned (.string ⟨(wordB quoteL k text.data.toList).toArray⟩) ∧ Below W.heap.size W w' := by
 obtain ⟨ad, rfl, d0, d1, d2, d3, d4⟩ := node7_at hR i hi
 rw [hli] at d0 d1 d2 d3 d4
 dsimp only at d0 d1 d2 d3 d4
 have k1 : decide (i < l.length) = true := decide_eq_true hi
 have k2 : decide ((i : Int) < (l.length : Int)) = true := decide_eq_true (by omega)
 have QU := Lib.hid (quote8_any text (by omega))
 have HB := Lib.hid (below_alloc (Below.refl W.heap.size W) (.cells #[.int .i64 k, .string key, .string text, .int .i64 p, .int .i64 e] 47))
 clear hR hli
 have hk : k = 1 ∨ k = 2 ∨ k = 3 ∨ k = 4 ∨ k = 5 := by omega
 rcases hk with rfl | rfl | rfl | rfl | rfl
 case inr.inr.inr.inr =>
  go_enter Tryz.func20, Tryz.ntmps20
  go_wp2_with (go_at_call 16; go_must (refine (QU.out _).mono ?_); rintro e' w1 ⟨rfl, hb⟩; have HB2 := Lib.hid (below_step HB.out hb); clear hb)
  go_ret
  exact ⟨rfl, HB2.out⟩
 all_goals
  go_enter Tryz.func20, Tryz.ntmps20
  go_wp2_with fail
  go_ret
  exact ⟨rfl, HB.out⟩
def Prs8 (A : Option Addr) (cap base : Nat) (l : List Node) (m : Nat) : Prop := ∀ (s : Tr) (nm : Bool) (i : Nat) (p : Int) (r : List Node), s.size ≤ m → s.ok isNumL nm = true → s.uniq = true → s.tx (fun b => decide (b.size ≤ 100000)) = true → p < (i : Int) → l.drop i = (s.flat p i).map toN ++ r → ∀ W, Row7 W base (.slice A l.length cap) l →
  Calls Tryz.prog 20 #[.slice A l.length cap, .int .i64 (i : Int), .bool true] W fun e w' => e = .returned (.string ⟨(prT quoteL (srt s)).toArray⟩) ∧ Below W.heap.size W w'
set_option maxRecDepth 100000 in
set_option maxHeartbeats 4000000 in
theorem print8s_arr (A : Option Addr) (cap base : Nat) (l : List Node) (hl : l.length ≤ 400000) (m : Nat) (ih : Prs8 A cap base l m) (key text : ByteArray) (kids : List Tr) (nm : Bool) (i : Nat) (p : Int) (r : List Node) (hm : (Tr.mk 6 key text kids).size ≤ m + 1) (hok : (Tr.mk 6 key text kids).ok isNumL nm = true) (hu : (Tr.mk 6 key text kids).uniq = true)
  (htx : (Tr.mk 6 key text kids).tx (fun b => decide (b.size ≤ 100000)) = true) (hp : p < (i : Int)) (hd : l.drop i = ((Tr.mk 6 key text kids).flat p i).map toN ++ r) (W : World) (hR : Row7 W base (.slice A l.length cap) l) :
  Calls Tryz.prog 20 #[.slice A l.length cap, .int .i64 (i : Int), .bool true] W fun e w' => e = .returned (.string ⟨(prT quoteL (srt (Tr.mk 6 key text kids))).toArray⟩) ∧ Below W.heap.size W w' := by
 obtain ⟨hn, hd2⟩ := drop_flat hd
 obtain ⟨hi, hli⟩ := List.getElem?_eq_some_iff.1 hn
 have hle := (end_of _ hd).2.2.2
 have hus : uniqs kids = true := by
  rw [Tr.uniq, Bool.and_eq_true] at hu
  exact hu.2
 have hstx : (srt (Tr.mk 6 key text kids)).tx (fun b => decide (b.size ≤ 100000)) = true := by rw [srt_tx]; exact htx
 have hssz : (srt (Tr.mk 6 key text kids)).size = (Tr.mk 6 key text kids).size := srt_size _
 rw [srt] at hstx hssz ⊢
 rw [Tr.size] at hm hle
 rw [Tr.ok, Bool.and_eq_true, Bool.and_eq_true] at hok
 rw [Tr.tx, Bool.and_eq_true, Bool.and_eq_true] at htx hstx
 rw [Tr.size, Tr.size] at hssz
 rw [prT, if_pos (by decide)]
 have IH := Lib.hid ih
 clear ih
 have hR' := hR
 obtain ⟨ad, rfl, d0, d1, d2, d3, d4⟩ := node7_at hR i hi
 obtain ⟨A', hA'⟩ : ∃ A', some ad = A' := ⟨_, rfl⟩
 rw [hA'] at hR'
 rw [hli] at d0 d1 d2 d3 d4
 dsimp only at d0 d1 d2 d3 d4
 have k1 : decide (i < l.length) = true := decide_eq_true hi
 have k2 : decide ((i : Int) < (l.length : Int)) = true := decide_eq_true (by omega)
 obtain ⟨W1, hW1⟩ : ∃ W1, W.alloc (.cells #[.int .i64 6, .string key, .string text, .int .i64 p, .int .i64 ((i + 1 + sizes kids : Nat) : Int)] 47) = W1 := ⟨_, rfl⟩
 have hb1 : Below W.heap.size W W1 := by rw [← hW1]; exact below_alloc (Below.refl _ _) _
 have hx1 : W1.heap[W.heap.size]? = some (.cells #[.int .i64 6, .string key, .string text, .int .i64 p, .int .i64 ((i + 1 + sizes kids : Nat) : Int)] 47 (0, 0)) := by rw [← hW1]; exact blk_new _ _
 have KIDS := Lib.hid (kids8_any (some ad) cap base l i (i + 1 + sizes kids) hi (by rw [hli]) (by omega) (by omega) hl W1 (hR.keep (fun k hk => hb1.block k (hR.own k hk).2)))
 rw [show i + 1 + sizes kids - (i + 1) = sizes kids by omega, kidsR_pl kids (i + 1) r hd2 (by omega)] at KIDS
 obtain ⟨L, hL⟩ : ∃ L, pl (i + 1) kids = L := ⟨_, rfl⟩
 have hLk : L.map (·.2) = kids := by rw [← hL]; exact pl_snd _ _
 have hmem : ∀ x ∈ L, (∃ r', l.drop x.1 = (x.2.flat (i : Int) x.1).map toN ++ r') ∧ i + 1 ≤ x.1 ∧ x.1 + x.2.size ≤ i + 1 + sizes kids ∧ x.2 ∈ kids := by rw [← hL]; exact pl_mem kids (i + 1) r hd2
 rw [hL] at KIDS
 have hLl : L.length ≤ 400000 := by
  have := congrArg List.length hLk
  rw [List.length_map] at this
  have := sizes_len kids
  omega
 obtain ⟨L2, hL2⟩ : ∃ L2, L = L2 := ⟨_, rfl⟩
 have hp2 : ∀ x ∈ L2, x ∈ L := fun x hx => hL2 ▸ hx
 have hk2 : L2.map (fun x => srt x.2) = ordK 6 (srts kids) := by
  rw [← hL2]
  unfold ordK
  rw [if_neg (by decide), srts_map, ← hLk, List.map_map]
  rfl
 have hl2 : L2.length = L.length := by rw [← hL2]
 rw [hL2] at KIDS
 rw [← hk2] at hstx hssz ⊢
 obtain ⟨ks, hks⟩ : ∃ ks, L2.map (fun x => srt x.2) = ks := ⟨_, rfl⟩
 rw [hks] at hstx hssz ⊢
 have hkx : ∀ t ∈ kids, t.ok isNumL false = true ∧ t.tx (fun b => decide (b.size ≤ 100000)) = true ∧ t.uniq = true := by
  have h1 := hok.2
  have h2 := htx.2
  rw [oks_all] at h1
  rw [txs_all] at h2
  rw [uniqs_all] at hus
  exact fun t ht => ⟨List.all_eq_true.1 h1 t ht, List.all_eq_true.1 h2 t ht, List.all_eq_true.1 hus t ht⟩
 have hsz : (prK quoteL false true ks).length ≤ 800000000000 := by
  have h7 := prK_le8 ks false true hstx.2
  have h8 : sizes ks ≤ 400000 := by omega
  omega
 have hL2l : L2.length ≤ 400000 := by omega
 have HK := Lib.hid hks
 have HME := Lib.hid (fun x hx => hmem x (hp2 x hx))
 have HKX := Lib.hid hkx
 have HB1 := Lib.hid hb1
 have HX1 := Lib.hid hx1
 rw [← hW1] at KIDS
 have HW1 := Lib.hid hW1
 have HR := Lib.hid hR
 subst hA'
 clear hR' hR hli hn hd hd2 hok htx hstx hL hLk hmem hkx hb1 hx1 hW1 hks hk2 hp2 hL2 hu hus
 go_enter Tryz.func20, Tryz.ntmps20
 go_wp2_with (go_at_call 55; go_must (refine (KIDS.out).mono ?_); rintro e' w2 ⟨vk, rfl, hOk, hbk⟩; obtain ⟨Ak, ck, hvk⟩ := open_len hOk; rw [List.length_reverse, List.length_map] at hvk; subst hvk; rw [HW1.out] at hbk hOk; have hx2 := (hbk.block _ (blk_lt HX1.out)).trans HX1.out; have c0 : w2.cell? ⟨W.heap.size, 0, none⟩ = some (.int .i64 6) := blkc hx2 0 rfl; have HO := Lib.hid hOk; have HBK := Lib.hid hbk; have HX2 := Lib.hid hx2; clear hOk hbk hx2)
 go_loopw [9, 47] (fun v0 vi wr => ∃ (q : Nat) (o : ByteArray), q ≤ L2.length ∧ vi = .int .i64 (q : Int) ∧ v0 = .string o ∧ o.data.toList ++ prK quoteL false (q == 0) (ks.drop q) = prK quoteL false true ks ∧ Below w2.heap.size w2 wr) (fun _ vi _ => L2.length - (intOf vi).toNat)
 case atStart => exact ⟨0, ⟨#[]⟩, Nat.zero_le _, rfl, rfl, rfl, Below.refl _ _⟩
 case round =>
  obtain ⟨q, o, hq, rfl, rfl, ho, hB⟩ := hrel
  have hos : o.size ≤ 800000000000 := by
   have h1 := congrArg List.length ho
   rw [List.length_append] at h1
   have h3 : o.data.toList.length = o.size := by simp
   omega
  have c1 := cellBelow hB c0
  by_cases hlt : q < L2.length
  ·have k9 : decide ((q : Int) < (L2.length : Int)) = true := decide_eq_true (by omega)
   have k10 : decide (q < L2.length) = true := decide_eq_true hlt
   have HLT := Lib.hid hlt
   obtain ⟨⟨r', hr'⟩, hx1, hx2, hx3⟩ := HME.out L2[q] (List.getElem_mem hlt)
   have hkd : ks.drop q = srt L2[q].2 :: ks.drop (q + 1) := by
    rw [← HK.out, ← List.map_drop, List.drop_eq_getElem_cons hlt, List.map_cons, List.map_drop]
    rfl
   obtain ⟨hto, htt, htu⟩ := HKX.out _ hx3
   obtain ⟨ak, rfl, b0⟩ := open_at HO.out q (by simpa using hlt)
   have b1 := cellBelow hB b0
   have e0 : (L2.map (·.1))[q]'(by simpa using hlt) = L2[q].1 := by
    simp only [List.getElem_map]
    rfl
   rw [e0] at b1
   clear e0 b0
   obtain ⟨⟨kp, t⟩, hx⟩ : ∃ x, L2[q] = x := ⟨_, rfl⟩
   rw [hx] at b1 hr' hx1 hx2 hx3 hkd hto htt htu
   dsimp only at b1 hr' hx1 hx2 hx3 hkd hto htt htu
   have htk : t.key.size ≤ 100000 := by
    cases t with
    | mk k key text kids =>
     rw [Tr.tx, Bool.and_eq_true, Bool.and_eq_true] at htt
     exact of_decide_eq_true htt.1.1
   have hpos := t.size_pos
   have hkl : kp < l.length := by omega
   have k11 : decide (kp < l.length) = true := decide_eq_true hkl
   have k12 : decide ((kp : Int) < (l.length : Int)) = true := decide_eq_true (by omega)
   obtain ⟨qb, hqb⟩ : ∃ qb : ByteArray, (⟨(quoteL t.key.data.toList).toArray⟩ : ByteArray) = qb := ⟨_, rfl⟩
   obtain ⟨pb, hpb⟩ : ∃ pb : ByteArray, (⟨(prT quoteL (srt t)).toArray⟩ : ByteArray) = pb := ⟨_, rfl⟩
   have QU := Lib.hid (quote8_any t.key (by omega))
   have hR3 := HR.out.keep (w1 := wr) (fun k hk => ((below_step (below_step HB1.out HBK.out) hB).block k (HR.out.own k hk).2))
   obtain ⟨_, e9, _, g1, _⟩ := node7_at hR3 kp hkl
   injection e9 with e9
   subst e9
   have hky : l[kp].f1 = t.key := by
    have h := (end_of t hr').2.1
    unfold keyAt at h
    rw [List.getElem?_eq_getElem hkl] at h
    exact h
   rw [hky] at g1
   have PR := Lib.hid (fun w (h : Below wr.heap.size wr w) => IH.out t false kp (i : Int) r' (by omega) hto htu htt (by omega) hr' w (HR.out.keep (fun k hk => ((below_step (below_step (below_step HB1.out HBK.out) hB) h).block k (HR.out.own k hk).2))))
   have hps := prT_le8 (srt t) (by rw [srt_tx]; exact htt)
   rw [srt_size] at hps
   have hps2 : t.size ≤ 400000 := by omega
   have hqs := quoteL_le t.key htk
   rw [hqb] at QU
   rw [hpb] at PR
   have hqd : qb.data.toList = quoteL t.key.data.toList := by rw [← hqb]
   have hpd : pb.data.toList = prT quoteL (srt t) := by rw [← hpb]
   have hqz : qb.size ≤ 600002 := by
    have h1 := congrArg List.length hqd
    have h3 : qb.data.toList.length = qb.size := by simp
    omega
   have hpz : pb.size ≤ 800000000000 := by
    have h1 := congrArg List.length hpd
    have h3 : pb.data.toList.length = pb.size := by simp
    omega
   have STEP := Lib.hid (show ∀ o' : ByteArray, o'.data.toList = o.data.toList ++ ((if (q == 0) = true then [] else [44]) ++ ((if false = true then quoteL t.key.data.toList ++ [58] else []) ++ prT quoteL (srt t))) → o'.data.toList ++ prK quoteL false (q + 1 == 0) (ks.drop (q + 1)) = prK quoteL false true ks by
    intro o' h
    rw [h, ← ho, hkd, prK, show (q + 1 == 0) = false from rfl, srt_key]
    simp only [List.append_assoc])
   have HB := Lib.hid hB
   clear hkd hto htt htu hr' hx1 hx2 hx3 hx hqb hpb hR3 hky hB ho htk hpos hps hps2 hqs
   by_cases hq0 : q = 0
   ·have k53 : decide ((0 : Int) < (q : Int)) = false := decide_eq_false (by omega)
    have k56 : ¬ 0 < q := by omega
    have k54 : (q == 0) = true := by simp [hq0]
    rw [k54] at STEP
    clear hq0
    go_wp2_with (go_at_call 20; go_must (refine (PR.out _ (Below.refl _ _)).mono ?_); rintro e' w4 ⟨rfl, hb4⟩; have B4 := Lib.hid (below_step HB.out hb4); clear hb4)
    all_goals first | (exfalso; omega) | skip
    go_roundw
    case rel => exact ⟨q + 1, _, HLT.out, by go_num, rfl, STEP.out _ (by simp [ByteArray.data_append, hpd]), B4.out⟩
    case measure => have := HLT.out; simp [intOf]; omega
   ·have k53 : decide ((0 : Int) < (q : Int)) = true := decide_eq_true (by omega)
    have k55 : decide (0 < q) = true := decide_eq_true (by omega)
    have k56 : 0 < q := by omega
    have k54 : (q == 0) = false := by simp [hq0]
    rw [k54] at STEP
    clear hq0
    go_wp2_with (go_at_call 20; go_must (refine (PR.out _ (Below.refl _ _)).mono ?_); rintro e' w4 ⟨rfl, hb4⟩; have B4 := Lib.hid (below_step HB.out hb4); clear hb4)
    all_goals first | (exfalso; omega) | skip
    go_roundw
    case rel => exact ⟨q + 1, _, HLT.out, by go_num, rfl, STEP.out _ (by simp [ByteArray.data_append, hpd]), B4.out⟩
    case measure => have := HLT.out; simp [intOf]; omega
  ·have k9 : decide ((q : Int) < (L2.length : Int)) = false := decide_eq_false (by omega)
   have hkl : L2.length = ks.length := by have := congrArg List.length HK.out; rwa [List.length_map] at this
   rw [List.drop_eq_nil_of_le (by omega), prK, List.append_nil] at ho
   have HO' := Lib.hid ho
   have B5 := Lib.hid (below_step (below_step HB1.out HBK.out) hB)
   clear ho hB hkl
   go_wp2_with fail
   all_goals first | (exfalso; omega) | skip
   go_ret
   refine ⟨congrArg (fun z => Ending.returned (.string z)) (str_eq ?_), B5.out⟩
   simp [ByteArray.data_append, HO'.out, opn, cls]
set_option maxRecDepth 100000 in
set_option maxHeartbeats 4000000 in
theorem print8s_obj (A : Option Addr) (cap base : Nat) (l : List Node) (hl : l.length ≤ 400000) (m : Nat) (ih : Prs8 A cap base l m) (key text : ByteArray) (kids : List Tr) (nm : Bool) (i : Nat) (p : Int) (r : List Node) (hm : (Tr.mk 7 key text kids).size ≤ m + 1) (hok : (Tr.mk 7 key text kids).ok isNumL nm = true) (hu : (Tr.mk 7 key text kids).uniq = true)
  (htx : (Tr.mk 7 key text kids).tx (fun b => decide (b.size ≤ 100000)) = true) (hp : p < (i : Int)) (hd : l.drop i = ((Tr.mk 7 key text kids).flat p i).map toN ++ r) (W : World) (hR : Row7 W base (.slice A l.length cap) l) :
  Calls Tryz.prog 20 #[.slice A l.length cap, .int .i64 (i : Int), .bool true] W fun e w' => e = .returned (.string ⟨(prT quoteL (srt (Tr.mk 7 key text kids))).toArray⟩) ∧ Below W.heap.size W w' := by
 obtain ⟨hn, hd2⟩ := drop_flat hd
 obtain ⟨hi, hli⟩ := List.getElem?_eq_some_iff.1 hn
 have hle := (end_of _ hd).2.2.2
 have huk : (kids.map kb).Nodup := by
  rw [Tr.uniq, Bool.and_eq_true] at hu
  have h := hu.1
  simpa using h
 have hus : uniqs kids = true := by
  rw [Tr.uniq, Bool.and_eq_true] at hu
  exact hu.2
 have hstx : (srt (Tr.mk 7 key text kids)).tx (fun b => decide (b.size ≤ 100000)) = true := by rw [srt_tx]; exact htx
 have hssz : (srt (Tr.mk 7 key text kids)).size = (Tr.mk 7 key text kids).size := srt_size _
 rw [srt] at hstx hssz ⊢
 rw [Tr.size] at hm hle
 rw [Tr.ok, Bool.and_eq_true, Bool.and_eq_true] at hok
 rw [Tr.tx, Bool.and_eq_true, Bool.and_eq_true] at htx hstx
 rw [Tr.size, Tr.size] at hssz
 rw [prT, if_pos (by decide)]
 have IH := Lib.hid ih
 clear ih
 have hR' := hR
 obtain ⟨ad, rfl, d0, d1, d2, d3, d4⟩ := node7_at hR i hi
 obtain ⟨A', hA'⟩ : ∃ A', some ad = A' := ⟨_, rfl⟩
 rw [hA'] at hR'
 rw [hli] at d0 d1 d2 d3 d4
 dsimp only at d0 d1 d2 d3 d4
 have k1 : decide (i < l.length) = true := decide_eq_true hi
 have k2 : decide ((i : Int) < (l.length : Int)) = true := decide_eq_true (by omega)
 obtain ⟨W1, hW1⟩ : ∃ W1, W.alloc (.cells #[.int .i64 7, .string key, .string text, .int .i64 p, .int .i64 ((i + 1 + sizes kids : Nat) : Int)] 47) = W1 := ⟨_, rfl⟩
 have hb1 : Below W.heap.size W W1 := by rw [← hW1]; exact below_alloc (Below.refl _ _) _
 have hx1 : W1.heap[W.heap.size]? = some (.cells #[.int .i64 7, .string key, .string text, .int .i64 p, .int .i64 ((i + 1 + sizes kids : Nat) : Int)] 47 (0, 0)) := by rw [← hW1]; exact blk_new _ _
 have KIDS := Lib.hid (kids8_any (some ad) cap base l i (i + 1 + sizes kids) hi (by rw [hli]) (by omega) (by omega) hl W1 (hR.keep (fun k hk => hb1.block k (hR.own k hk).2)))
 rw [show i + 1 + sizes kids - (i + 1) = sizes kids by omega, kidsR_pl kids (i + 1) r hd2 (by omega)] at KIDS
 obtain ⟨L, hL⟩ : ∃ L, pl (i + 1) kids = L := ⟨_, rfl⟩
 have hLk : L.map (·.2) = kids := by rw [← hL]; exact pl_snd _ _
 have hmem : ∀ x ∈ L, (∃ r', l.drop x.1 = (x.2.flat (i : Int) x.1).map toN ++ r') ∧ i + 1 ≤ x.1 ∧ x.1 + x.2.size ≤ i + 1 + sizes kids ∧ x.2 ∈ kids := by rw [← hL]; exact pl_mem kids (i + 1) r hd2
 rw [hL] at KIDS
 have hLl : L.length ≤ 400000 := by
  have := congrArg List.length hLk
  rw [List.length_map] at this
  have := sizes_len kids
  omega
 obtain ⟨L2, hL2⟩ : ∃ L2, ord8L L = L2 := ⟨_, rfl⟩
 have hp2 : ∀ x ∈ L2, x ∈ L := fun x hx => (ord8L_perm L).mem_iff.1 (hL2 ▸ hx)
 have hk2 : L2.map (fun x => srt x.2) = ordK 7 (srts kids) := by
  rw [← hL2, ord8L_srt L (by rw [hLk]; exact huk), hLk]
 have hl2 : L2.length = L.length := by rw [← hL2]; exact (ord8L_perm L).length_eq
 have ORD := Lib.hid (fun (Ak : Option Addr) (ck : Nat) (w : World) (hb : Below W1.heap.size W1 w) (hO : OpenAt w W1.heap.size (.slice Ak L.length ck) (L.map (·.1)).reverse) => order8_any A' cap base l hl L hLl (fun x hx => by
   obtain ⟨⟨r', hr'⟩, hx1, hx2, hx3⟩ := hmem x hx
   have := x.2.size_pos
   have hkl : x.1 < l.length := by omega
   refine ⟨hkl, ?_⟩
   have h := (end_of x.2 hr').2.1
   unfold keyAt at h
   rw [List.getElem?_eq_getElem hkl] at h
   exact h) w (hR'.keep (fun k hk => (hb1.trans (hb.mono hb1.size)).block k (hR'.own k hk).2)) Ak ck W1.heap.size hO)
 rw [hL2] at ORD
 rw [← hk2] at hstx hssz ⊢
 obtain ⟨ks, hks⟩ : ∃ ks, L2.map (fun x => srt x.2) = ks := ⟨_, rfl⟩
 rw [hks] at hstx hssz ⊢
 have hkx : ∀ t ∈ kids, t.ok isNumL true = true ∧ t.tx (fun b => decide (b.size ≤ 100000)) = true ∧ t.uniq = true := by
  have h1 := hok.2
  have h2 := htx.2
  rw [oks_all] at h1
  rw [txs_all] at h2
  rw [uniqs_all] at hus
  exact fun t ht => ⟨List.all_eq_true.1 h1 t ht, List.all_eq_true.1 h2 t ht, List.all_eq_true.1 hus t ht⟩
 have hsz : (prK quoteL true true ks).length ≤ 800000000000 := by
  have h7 := prK_le8 ks true true hstx.2
  have h8 : sizes ks ≤ 400000 := by omega
  omega
 have hL2l : L2.length ≤ 400000 := by omega
 have HK := Lib.hid hks
 have HME := Lib.hid (fun x hx => hmem x (hp2 x hx))
 have HKX := Lib.hid hkx
 have HB1 := Lib.hid hb1
 have HX1 := Lib.hid hx1
 rw [← hW1] at KIDS
 have HW1 := Lib.hid hW1
 have HR := Lib.hid hR
 subst hA'
 clear hR' hR hli hn hd hd2 hok htx hstx hL hLk hmem hkx hb1 hx1 hW1 hks hk2 hp2 hL2 hu hus huk
 go_enter Tryz.func20, Tryz.ntmps20
 go_wp2_with (first | (go_at_call 55; go_must (refine (KIDS.out).mono ?_); rintro e' w2 ⟨vk, rfl, hOk, hbk⟩; obtain ⟨Ak, ck, hvk⟩ := open_len hOk; rw [List.length_reverse, List.length_map] at hvk; subst hvk; rw [HW1.out] at hbk hOk; have hx2 := (hbk.block _ (blk_lt HX1.out)).trans HX1.out; have c0 : w2.cell? ⟨W.heap.size, 0, none⟩ = some (.int .i64 7) := blkc hx2 0 rfl; have HO := Lib.hid hOk; have HBK := Lib.hid hbk; have HX2 := Lib.hid hx2; clear hOk hbk hx2) | (go_at_call 56; go_must (refine (ORD.out Ak ck _ HBK.out HO.out).mono ?_); rintro e' w3 ⟨vo, rfl, hOo, hbo⟩; obtain ⟨Ao, co, hvo⟩ := open_len hOo; rw [List.length_reverse, List.length_map] at hvo; subst hvo; have hx3 := (hbo.block _ (blk_lt HX2.out)).trans HX2.out; have c9 : w3.cell? ⟨W.heap.size, 0, none⟩ = some (.int .i64 7) := blkc hx3 0 rfl; have HO2 := Lib.hid hOo; have HBK2 := Lib.hid (HBK.out.trans (hbo.mono HBK.out.size)); have HX3 := Lib.hid hx3; clear hOo hbo hx3))
 go_loopw [9, 47] (fun v0 vi wr => ∃ (q : Nat) (o : ByteArray), q ≤ L2.length ∧ vi = .int .i64 (q : Int) ∧ v0 = .string o ∧ o.data.toList ++ prK quoteL true (q == 0) (ks.drop q) = prK quoteL true true ks ∧ Below w3.heap.size w3 wr) (fun _ vi _ => L2.length - (intOf vi).toNat)
 case atStart => exact ⟨0, ⟨#[]⟩, Nat.zero_le _, rfl, rfl, rfl, Below.refl _ _⟩
 case round =>
  obtain ⟨q, o, hq, rfl, rfl, ho, hB⟩ := hrel
  have hos : o.size ≤ 800000000000 := by
   have h1 := congrArg List.length ho
   rw [List.length_append] at h1
   have h3 : o.data.toList.length = o.size := by simp
   omega
  have c1 := cellBelow hB c9
  by_cases hlt : q < L2.length
  ·have k9 : decide ((q : Int) < (L2.length : Int)) = true := decide_eq_true (by omega)
   have k10 : decide (q < L2.length) = true := decide_eq_true hlt
   have HLT := Lib.hid hlt
   obtain ⟨⟨r', hr'⟩, hx1, hx2, hx3⟩ := HME.out L2[q] (List.getElem_mem hlt)
   have hkd : ks.drop q = srt L2[q].2 :: ks.drop (q + 1) := by
    rw [← HK.out, ← List.map_drop, List.drop_eq_getElem_cons hlt, List.map_cons, List.map_drop]
    rfl
   obtain ⟨hto, htt, htu⟩ := HKX.out _ hx3
   obtain ⟨ak, rfl, b0⟩ := open_at HO2.out q (by simpa using hlt)
   have b1 := cellBelow hB b0
   have e0 : (L2.map (·.1))[q]'(by simpa using hlt) = L2[q].1 := by
    simp only [List.getElem_map]
    rfl
   rw [e0] at b1
   clear e0 b0
   obtain ⟨⟨kp, t⟩, hx⟩ : ∃ x, L2[q] = x := ⟨_, rfl⟩
   rw [hx] at b1 hr' hx1 hx2 hx3 hkd hto htt htu
   dsimp only at b1 hr' hx1 hx2 hx3 hkd hto htt htu
   have htk : t.key.size ≤ 100000 := by
    cases t with
    | mk k key text kids =>
     rw [Tr.tx, Bool.and_eq_true, Bool.and_eq_true] at htt
     exact of_decide_eq_true htt.1.1
   have hpos := t.size_pos
   have hkl : kp < l.length := by omega
   have k11 : decide (kp < l.length) = true := decide_eq_true hkl
   have k12 : decide ((kp : Int) < (l.length : Int)) = true := decide_eq_true (by omega)
   obtain ⟨qb, hqb⟩ : ∃ qb : ByteArray, (⟨(quoteL t.key.data.toList).toArray⟩ : ByteArray) = qb := ⟨_, rfl⟩
   obtain ⟨pb, hpb⟩ : ∃ pb : ByteArray, (⟨(prT quoteL (srt t)).toArray⟩ : ByteArray) = pb := ⟨_, rfl⟩
   have QU := Lib.hid (quote8_any t.key (by omega))
   have hR3 := HR.out.keep (w1 := wr) (fun k hk => ((below_step (below_step HB1.out HBK2.out) hB).block k (HR.out.own k hk).2))
   obtain ⟨_, e9, _, g1, _⟩ := node7_at hR3 kp hkl
   injection e9 with e9
   subst e9
   have hky : l[kp].f1 = t.key := by
    have h := (end_of t hr').2.1
    unfold keyAt at h
    rw [List.getElem?_eq_getElem hkl] at h
    exact h
   rw [hky] at g1
   have PR := Lib.hid (fun w (h : Below wr.heap.size wr w) => IH.out t true kp (i : Int) r' (by omega) hto htu htt (by omega) hr' w (HR.out.keep (fun k hk => ((below_step (below_step (below_step HB1.out HBK2.out) hB) h).block k (HR.out.own k hk).2))))
   have hps := prT_le8 (srt t) (by rw [srt_tx]; exact htt)
   rw [srt_size] at hps
   have hps2 : t.size ≤ 400000 := by omega
   have hqs := quoteL_le t.key htk
   rw [hqb] at QU
   rw [hpb] at PR
   have hqd : qb.data.toList = quoteL t.key.data.toList := by rw [← hqb]
   have hpd : pb.data.toList = prT quoteL (srt t) := by rw [← hpb]
   have hqz : qb.size ≤ 600002 := by
    have h1 := congrArg List.length hqd
    have h3 : qb.data.toList.length = qb.size := by simp
    omega
   have hpz : pb.size ≤ 800000000000 := by
    have h1 := congrArg List.length hpd
    have h3 : pb.data.toList.length = pb.size := by simp
    omega
   have STEP := Lib.hid (show ∀ o' : ByteArray, o'.data.toList = o.data.toList ++ ((if (q == 0) = true then [] else [44]) ++ ((if true = true then quoteL t.key.data.toList ++ [58] else []) ++ prT quoteL (srt t))) → o'.data.toList ++ prK quoteL true (q + 1 == 0) (ks.drop (q + 1)) = prK quoteL true true ks by
    intro o' h
    rw [h, ← ho, hkd, prK, show (q + 1 == 0) = false from rfl, srt_key]
    simp only [List.append_assoc])
   have HB := Lib.hid hB
   clear hkd hto htt htu hr' hx1 hx2 hx3 hx hqb hpb hR3 hky hB ho htk hpos hps hps2 hqs
   by_cases hq0 : q = 0
   ·have k53 : decide ((0 : Int) < (q : Int)) = false := decide_eq_false (by omega)
    have k56 : ¬ 0 < q := by omega
    have k54 : (q == 0) = true := by simp [hq0]
    rw [k54] at STEP
    clear hq0
    go_wp2_with (first | (go_at_call 16; go_must (refine (QU.out _).mono ?_); rintro e' w5 ⟨rfl, hb3⟩; have B3 := Lib.hid hb3; clear hb3) | (go_at_call 20; go_must (refine (PR.out _ B3.out).mono ?_); rintro e' w4 ⟨rfl, hb4⟩; have B4 := Lib.hid (below_step (below_step HB.out B3.out) hb4); clear hb4))
    all_goals first | (exfalso; omega) | skip
    go_roundw
    case rel => exact ⟨q + 1, _, HLT.out, by go_num, rfl, STEP.out _ (by simp [ByteArray.data_append, hpd, hqd]), B4.out⟩
    case measure => have := HLT.out; simp [intOf]; omega
   ·have k53 : decide ((0 : Int) < (q : Int)) = true := decide_eq_true (by omega)
    have k55 : decide (0 < q) = true := decide_eq_true (by omega)
    have k56 : 0 < q := by omega
    have k54 : (q == 0) = false := by simp [hq0]
    rw [k54] at STEP
    clear hq0
    go_wp2_with (first | (go_at_call 16; go_must (refine (QU.out _).mono ?_); rintro e' w5 ⟨rfl, hb3⟩; have B3 := Lib.hid hb3; clear hb3) | (go_at_call 20; go_must (refine (PR.out _ B3.out).mono ?_); rintro e' w4 ⟨rfl, hb4⟩; have B4 := Lib.hid (below_step (below_step HB.out B3.out) hb4); clear hb4))
    all_goals first | (exfalso; omega) | skip
    go_roundw
    case rel => exact ⟨q + 1, _, HLT.out, by go_num, rfl, STEP.out _ (by simp [ByteArray.data_append, hpd, hqd]), B4.out⟩
    case measure => have := HLT.out; simp [intOf]; omega
  ·have k9 : decide ((q : Int) < (L2.length : Int)) = false := decide_eq_false (by omega)
   have hkl : L2.length = ks.length := by have := congrArg List.length HK.out; rwa [List.length_map] at this
   rw [List.drop_eq_nil_of_le (by omega), prK, List.append_nil] at ho
   have HO' := Lib.hid ho
   have B5 := Lib.hid (below_step (below_step HB1.out HBK2.out) hB)
   clear ho hB hkl
   go_wp2_with fail
   all_goals first | (exfalso; omega) | skip
   go_ret
   refine ⟨congrArg (fun z => Ending.returned (.string z)) (str_eq ?_), B5.out⟩
   simp [ByteArray.data_append, HO'.out, opn, cls]
theorem print8s_at (A : Option Addr) (cap base : Nat) (l : List Node) (hl : l.length ≤ 400000) : ∀ (m : Nat), Prs8 A cap base l m
 | 0 => fun s nm i p r hm _ _ _ _ _ => by have := s.size_pos; omega
 | m + 1 => by
  rintro ⟨k, key, text, kids⟩ nm i p r hm hok hu htx hp hd W hR
  have hk17 : 1 ≤ k ∧ k ≤ 7 := by
   rw [Tr.ok, Bool.and_eq_true, Bool.and_eq_true] at hok
   have := hok.1.1
   unfold okN at this
   rw [Bool.and_eq_true, Bool.and_eq_true] at this
   exact of_decide_eq_true this.1.1
  by_cases h6 : k < 6
  ·obtain ⟨hn, hd2⟩ := drop_flat hd
   obtain ⟨hi, hli⟩ := List.getElem?_eq_some_iff.1 hn
   rw [Tr.tx, Bool.and_eq_true, Bool.and_eq_true] at htx
   rw [srt, prT, if_neg (by omega)]
   exact print8s_leaf A cap base l k key text i p _ hi hli hk17.1 h6 (of_decide_eq_true htx.1.2) W hR
  ·have hk : k = 6 ∨ k = 7 := by omega
   rcases hk with rfl | rfl
   ·exact print8s_arr A cap base l hl m (print8s_at A cap base l hl m) key text kids nm i p r hm hok hu htx hp hd W hR
   ·exact print8s_obj A cap base l hl m (print8s_at A cap base l hl m) key text kids nm i p r hm hok hu htx hp hd W hR
end Go.Proofs.YtfocognhcljhpaaGreatDoor
