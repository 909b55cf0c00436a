/- Rows laid of rows; the document's Quote, Print, Span. -/
import Derived.Test.YtfocognhcljhpaaGreatDoorL8
import Derived.Test.YtfocognhcljhpaaGreatDoorL9
namespace Go.Proofs.YtfocognhcljhpaaGreatDoor
set_option linter.unusedVariables false
set_option linter.unusedSimpArgs false
open Go.RowKit Go.Shelf Go.Proofs.YtfocognhcljhpaaGreatDoorW.PrintWords Go.Proofs.YtfocognhcljhpaaGreatDoorW.PrintMore Go.Proofs.YtfocognhcljhpaaGreatDoor.PPrintRows Go.Proofs.YtfocognhcljhpaaGreatDoor.Tree
def parAt (l : List Node) (j : Nat) : Int := match l[j]? with | some n => n.f3 | none => -1
/-- The places of f nodes from k on whose parent is i. -/
def kidsR (l : List Node) (i : Int) : Nat → Nat → List Nat
 | _, 0 => []
 | k, f + 1 => if parAt l k = i then k :: kidsR l i (k + 1) f else kidsR l i (k + 1) f
theorem kidsR_add (l : List Node) (i : Int) : ∀ (m n a : Nat), kidsR l i a (m + n) = kidsR l i a m ++ kidsR l i (a + m) n
 | 0, n, a => by simp [kidsR]
 | m + 1, n, a => by
  rw [show m + 1 + n = m + n + 1 by omega, kidsR, kidsR, kidsR_add l i m n (a + 1), show a + (m + 1) = a + 1 + m by omega]
  split <;> simp
theorem kidsR_len (l : List Node) (i : Int) : ∀ (f k : Nat), (kidsR l i k f).length ≤ f
 | 0, _ => by rw [kidsR]; exact Nat.le_refl _
 | f + 1, k => by
  rw [kidsR]
  have := kidsR_len l i f (k + 1)
  split
  ·rw [List.length_cons]; omega
  ·omega
mutual
theorem kidsR_far {l : List Node} {i : Int} : ∀ (t : Tr) (q : Int) (b : Nat) (r : List Node), l.drop b = (t.flat q b).map toN ++ r → i < q → q < (b : Int) → kidsR l i b t.size = []
 | .mk k key text kids, q, b, r, h, hq, hb => by
  obtain ⟨h1, h2⟩ := drop_flat h
  have hp : parAt l b = q := by unfold parAt; rw [h1]
  rw [Tr.size, show 1 + sizes kids = sizes kids + 1 by omega, kidsR, if_neg (by omega)]
  exact kidsR_fars kids (b : Int) (b + 1) r h2 (by omega) (by omega)
theorem kidsR_fars {l : List Node} {i : Int} : ∀ (ts : List Tr) (q : Int) (b : Nat) (r : List Node), l.drop b = (flats q b ts).map toN ++ r → i < q → q < (b : Int) → kidsR l i b (sizes ts) = []
 | [], q, b, r, _, _, _ => by rw [sizes, kidsR]
 | t :: ts, q, b, r, h, hq, hb => by
  rw [flats, List.map_append, List.append_assoc] at h
  have h2 : l.drop (b + t.size) = (flats q (b + t.size) ts).map toN ++ r := by rw [← List.drop_drop, h, List.drop_left' (by rw [List.length_map, Tr.flat_len])]
  rw [sizes, kidsR_add, kidsR_far t q b _ h hq hb, kidsR_fars ts q (b + t.size) r h2 hq (by omega)]
  rfl
end
theorem kidsR_one {l : List Node} {i : Int} (t : Tr) (b : Nat) (r : List Node) (h : l.drop b = (t.flat i b).map toN ++ r) (hi : i < (b : Int)) : kidsR l i b t.size = [b] := by
 cases t with
 | mk k key text kids =>
  obtain ⟨h1, h2⟩ := drop_flat h
  have hp : parAt l b = i := by unfold parAt; rw [h1]
  rw [Tr.size, show 1 + sizes kids = sizes kids + 1 by omega, kidsR, if_pos hp, kidsR_fars kids (b : Int) (b + 1) r h2 (by omega) (by omega)]
theorem kidsR_pl {l : List Node} {i : Int} : ∀ (ts : List Tr) (b : Nat) (r : List Node), l.drop b = (flats i b ts).map toN ++ r → i < (b : Int) → kidsR l i b (sizes ts) = (pl b ts).map (·.1)
 | [], b, r, _, _ => by rw [sizes, kidsR]; rfl
 | t :: ts, b, r, h, hi => by
  rw [flats, List.map_append, List.append_assoc] at h
  have h2 : l.drop (b + t.size) = (flats i (b + t.size) ts).map toN ++ r := by rw [← List.drop_drop, h, List.drop_left' (by rw [List.length_map, Tr.flat_len])]
  rw [sizes, kidsR_add, kidsR_one t b _ h hi, kidsR_pl ts (b + t.size) r h2 (by omega), pl, List.map_cons]
  rfl
/-- A member of a member, by names. -/
def getP (l : List Node) : Nat → List ByteArray → Option Nat
 | i, [] => some i
 | i, x :: xs => match (membersL l i).find? (fun p => p.1.toList == x.toList) with
  | some p => getP l p.2 xs
  | none => none
end Go.Proofs.YtfocognhcljhpaaGreatDoor
namespace Go.Proofs.YtfocognhcljhpaaGreatDoor
set_option linter.unusedVariables false
set_option linter.unusedSimpArgs false
open Go.RowKit Go.Shelf Go.Proofs.YtfocognhcljhpaaGreatDoorW.PrintWords Go.Proofs.YtfocognhcljhpaaGreatDoorW.PrintMore Go.Proofs.YtfocognhcljhpaaGreatDoor.PPrintRows Go.Proofs.YtfocognhcljhpaaGreatDoor.Tree
/-- A tree without its name. -/
def root0 : Tr → Tr
 | .mk k _ text kids => .mk k ⟨#[]⟩ text kids
theorem root0_size (t : Tr) : (root0 t).size = t.size := by cases t; rw [root0, Tr.size, Tr.size]
def subN (i : Nat) (x : Node) : Node := ⟨x.f0, x.f1, x.f2, x.f3 - i, x.f4 - i⟩
mutual
theorem sub_flat (i : Nat) : ∀ (t : Tr) (p : Int) (a : Nat), ((t.flat p (i + a)).map toN).map (subN i) = (t.flat (p - i) a).map toN
 | .mk k key text kids, p, a => by
  rw [Tr.flat, Tr.flat, List.map_cons, List.map_cons, List.map_cons, show i + a + 1 = i + (a + 1) by omega, sub_flats i kids]
  congr 1
  ·unfold subN toN
   dsimp only
   congr 1
   omega
  ·congr 2
   omega
theorem sub_flats (i : Nat) : ∀ (ts : List Tr) (p : Int) (a : Nat), ((flats p (i + a) ts).map toN).map (subN i) = (flats (p - i) a ts).map toN
 | [], p, a => by rw [flats, flats]; rfl
 | t :: ts, p, a => by
  rw [flats, flats, List.map_append, List.map_append, List.map_append, sub_flat i t, show i + a + t.size = i + (a + t.size) by omega, sub_flats i ts]
end
theorem mapIdx_tail {α β : Type} (f : Nat → α → β) (g : α → β) : ∀ (l : List α) (n : Nat), (∀ q x, f (q + n + 1) x = g x) → l.mapIdx (fun q x => f (q + n + 1) x) = l.map g := by
 intro l n h
 rw [show (fun q x => f (q + n + 1) x) = fun _ x => g x from funext fun q => funext fun x => h q x]
 apply List.ext_getElem?
 intro q
 rw [List.getElem?_mapIdx, List.getElem?_map]
/-- A value by itself is its tree's row. -/
theorem row_root {l : List Node} {r : List Node} {i : Nat} {p : Int} (s : Tr) (h : l.drop i = (s.flat p i).map toN ++ r) : rowV l i (i + s.size) = rowT (root0 s) := by
 have hl : (l.take (i + s.size)).drop i = (s.flat p i).map toN := by
  rw [List.drop_take, h, show i + s.size - i = s.size by omega]
  have e : s.size = ((s.flat p i).map toN).length := by rw [List.length_map, Tr.flat_len]
  rw [e, List.take_left']
  rfl
 unfold rowV
 rw [hl]
 cases s with
 | mk k key text kids =>
  unfold rowT root0
  rw [Tr.flat, Tr.flat, List.map_cons, List.map_cons]
  unfold outV
  rw [List.mapIdx_cons]
  congr 1
  ·unfold outN toN
   dsimp only
   rw [if_pos rfl]
   congr 1
   omega
  ·have h2 := mapIdx_tail (outN i) (subN i) ((flats (i : Int) (i + 1) kids).map toN) 0 (fun q x => by unfold outN subN; rw [if_neg (by omega)])
   simp only [Nat.add_zero] at h2
   rw [h2, sub_flats i kids (i : Int) 1]
   congr 2
   omega
/-- A member of a member: its place from the tree's on, its tree without its name. -/
def getT : List ByteArray → Tr → Option (Nat × Tr)
 | [], t => some (0, root0 t)
 | x :: xs, t => if t.kind = 7 then (match (pl 1 t.kids).find? (fun y => y.2.key.toList == x.toList) with
  | some y => (getT xs y.2).map (fun z => (y.1 + z.1, z.2))
  | none => none) else none
theorem root0_ok (nm : Bool) (t : Tr) (h : t.ok isNumL nm = true) : (root0 t).ok isNumL false = true := by
 cases t with
 | mk k key text kids =>
  rw [root0]
  rw [Tr.ok] at h ⊢
  unfold okN at h ⊢
  simp only [Bool.and_eq_true] at h ⊢
  exact ⟨⟨⟨⟨h.1.1.1.1, by rfl⟩, h.1.1.2⟩, h.1.2⟩, h.2⟩
theorem root0_tx (P : ByteArray → Bool) (hP : P ⟨#[]⟩ = true) (t : Tr) (h : t.tx P = true) : (root0 t).tx P = true := by
 cases t with
 | mk k key text kids =>
  rw [root0]
  rw [Tr.tx, Bool.and_eq_true, Bool.and_eq_true] at h ⊢
  exact ⟨⟨hP, h.1.2⟩, h.2⟩
end Go.Proofs.YtfocognhcljhpaaGreatDoor
namespace Go.Proofs.YtfocognhcljhpaaGreatDoor
set_option linter.unusedVariables false
set_option linter.unusedSimpArgs false
open Go.RowKit Go.Shelf Go.Proofs.YtfocognhcljhpaaGreatDoorW.PrintWords Go.Proofs.YtfocognhcljhpaaGreatDoorW.PrintMore Go.Proofs.YtfocognhcljhpaaGreatDoor.PPrintRows Go.Proofs.YtfocognhcljhpaaGreatDoor.Tree
/-- A tree by another name. -/
def keyed (key : ByteArray) : Tr → Tr
 | .mk k _ text kids => .mk k key text kids
theorem keyed_size (key : ByteArray) (t : Tr) : (keyed key t).size = t.size := by cases t; rw [keyed, Tr.size, Tr.size]
theorem keyed_key (key : ByteArray) (t : Tr) : (keyed key t).key = key := by cases t; rfl
theorem keyed_pr (Q : Bs → Bs) (key : ByteArray) (t : Tr) : prT Q (keyed key t) = prT Q t := by cases t; rw [keyed, prT, prT]
def plusN (i : Nat) (x : Node) : Node := ⟨x.f0, x.f1, x.f2, x.f3 + i, x.f4 + i⟩
mutual
theorem add_flat (i : Nat) : ∀ (t : Tr) (p : Int) (a : Nat), ((t.flat p a).map toN).map (plusN i) = (t.flat (p + i) (i + a)).map toN
 | .mk k key text kids, p, a => by
  rw [Tr.flat, Tr.flat, List.map_cons, List.map_cons, List.map_cons, show i + a + 1 = i + (a + 1) by omega, add_flats i kids, show (a : Int) + (i : Int) = ((i + a : Nat) : Int) by omega]
  congr 1
  unfold plusN toN
  dsimp only
  congr 1
  omega
theorem add_flats (i : Nat) : ∀ (ts : List Tr) (p : Int) (a : Nat), ((flats p a ts).map toN).map (plusN i) = (flats (p + i) (i + a) ts).map toN
 | [], p, a => by rw [flats, flats]; rfl
 | t :: ts, p, a => by
  rw [flats, flats, List.map_append, List.map_append, List.map_append, add_flat i t, show i + a + t.size = i + (a + t.size) by omega, add_flats i ts]
end
theorem lay_keyed (a : Nat) (key : ByteArray) (t : Tr) : layV a 0 key (rowT t) = ((keyed key t).flat 0 a).map toN := by
 cases t with
 | mk k key0 text kids =>
  unfold rowT keyed
  rw [Tr.flat, Tr.flat, List.map_cons, List.map_cons]
  unfold layV
  rw [List.mapIdx_cons]
  congr 1
  ·unfold layN toN
   dsimp only
   rw [if_pos rfl]
   congr 1
   omega
  ·have h2 := mapIdx_tail (layN a 0 key) (plusN a) ((flats ((0 : Nat) : Int) (0 + 1) kids).map toN) 0 (fun q x => by unfold layN plusN; rw [if_neg (by omega)])
   simp only [Nat.add_zero] at h2
   rw [h2, add_flats a kids ((0 : Nat) : Int) (0 + 1)]
   congr 2
   omega
/-- The row of a tree that there may be. -/
def optRow : Option Tr → List Node
 | some t => rowT t
 | none => []
/-- The trees of members, by their names. -/
def kidsO : List (ByteArray × Option Tr) → List Tr
 | [] => []
 | (key, some t) :: ms => keyed key t :: kidsO ms
 | (_, none) :: ms => kidsO ms
theorem kidsO_app : ∀ a b, kidsO (a ++ b) = kidsO a ++ kidsO b
 | [], b => rfl
 | (key, some t) :: a, b => by rw [List.cons_append, kidsO, kidsO, kidsO_app a b]; rfl
 | (key, none) :: a, b => by rw [List.cons_append, kidsO, kidsO, kidsO_app a b]
theorem laysP_T : ∀ (ms : List (ByteArray × Option Tr)) (out : List Node), laysP out (ms.map fun m => (m.1, optRow m.2)) = out ++ (flats 0 out.length (kidsO ms)).map toN
 | [], out => by rw [kidsO, flats]; simp [laysP]
 | (key, none) :: ms, out => by
  rw [kidsO, List.map_cons]
  show laysP (out ++ layV out.length 0 key []) _ = _
  rw [show layV out.length 0 key [] = [] from rfl, List.append_nil]
  exact laysP_T ms out
 | (key, some t) :: ms, out => by
  rw [kidsO, List.map_cons]
  show laysP (out ++ layV out.length 0 key (rowT t)) _ = _
  rw [lay_keyed, laysP_T ms, List.length_append, List.length_map, Tr.flat_len, flats, List.map_append, List.append_assoc]
/-- An array, an object, laid of rows: its tree. -/
theorem allV_T (k : Int) (ms : List Mb) (mo : List (ByteArray × Option Tr)) (h : ms.map prM = mo.map fun m => (m.1, optRow m.2)) : allV k ms = rowT (.mk k ⟨#[]⟩ ⟨#[]⟩ (kidsO mo)) := by
 unfold allV
 rw [laysV_P, h, laysP_T mo [root k]]
 show setEnd (root k :: (flats 0 1 (kidsO mo)).map toN) 0 _ = _
 rw [setEnd_root]
 unfold rowT
 rw [Tr.flat, List.map_cons]
 congr 1
 unfold toN
 dsimp only
 congr 1
 simp [flats_len]
 omega
theorem prK_snoc (Q : Bs → Bs) (nm : Bool) : ∀ (ts : List Tr) (t : Tr) (first : Bool), prK Q nm first (ts ++ [t]) = prK Q nm first ts ++ ((if (first && ts.isEmpty) = true then [] else [44]) ++ ((if nm = true then Q t.key.data.toList ++ [58] else []) ++ prT Q t))
 | [], t, first => by
  rw [List.nil_append, prK, prK, prK]
  simp
 | u :: us, t, first => by
  rw [List.cons_append, prK, prK, prK_snoc Q nm us t false]
  simp
theorem keyed_ok (nm nm2 : Bool) (key : ByteArray) (t : Tr) (h : t.ok isNumL nm = true) (hk : nm2 = true ∨ key = ⟨#[]⟩) : (keyed key t).ok isNumL nm2 = true := by
 cases t with
 | mk k key0 text kids =>
  rw [keyed]
  rw [Tr.ok] at h ⊢
  unfold okN at h ⊢
  simp only [Bool.and_eq_true] at h ⊢
  refine ⟨⟨⟨⟨h.1.1.1.1, ?_⟩, h.1.1.2⟩, h.1.2⟩, h.2⟩
  rw [Bool.or_eq_true]
  rcases hk with h | h
  ·exact .inl h
  ·subst h; exact .inr rfl
theorem keyed_tx (P : ByteArray → Bool) (key : ByteArray) (hP : P key = true) (t : Tr) (h : t.tx P = true) : (keyed key t).tx P = true := by
 cases t with
 | mk k key0 text kids =>
  rw [keyed]
  rw [Tr.tx, Bool.and_eq_true, Bool.and_eq_true] at h ⊢
  exact ⟨⟨hP, h.1.2⟩, h.2⟩
end Go.Proofs.YtfocognhcljhpaaGreatDoor
namespace Go.Proofs.YtfocognhcljhpaaGreatDoor
set_option linter.unusedVariables false
set_option linter.unusedSimpArgs false
open Go.RowKit Go.Shelf Go.Proofs.YtfocognhcljhpaaGreatDoorW.PrintWords Go.Proofs.YtfocognhcljhpaaGreatDoorW.PrintLast Go.Proofs.YtfocognhcljhpaaGreatDoorW.PrintMore Go.Proofs.YtfocognhcljhpaaGreatDoor.PPrintRows Go.Proofs.YtfocognhcljhpaaGreatDoor.Tree
theorem open_len {w : World} {base : Nat} {v : Value} {op : List Nat} (h : OpenAt w base v op) : ∃ A c, v = .slice A op.length c := by
 obtain ⟨A, c, e, _⟩ := own_slice (open_own h)
 exact ⟨A, c, e⟩
set_option maxRecDepth 100000 in
set_option maxHeartbeats 4000000 in
theorem kids8_any (A : Option Addr) (cap base : Nat) (l : List Node) (i e : Nat) (hi : i < l.length) (he : l[i].f4 = (e : Int)) (hie : i < e) (hel : e ≤ l.length) (hl : l.length ≤ 400000) (W : World) (hR : Row7 W base (.slice A l.length cap) l) :
  Calls Tryz.prog 55 #[.slice A l.length cap, .int .i64 (i : Int)] W fun e' w' => ∃ v, e' = .returned v ∧ OpenAt w' W.heap.size v (kidsR l (i : Int) (i + 1) (e - (i + 1))).reverse ∧ Below W.heap.size W w' := by
 have HR := Lib.hid hR
 obtain ⟨ad, rfl, _, _, _, _, d4⟩ := node7_at hR i hi
 rw [he] at d4
 have HI := Lib.hid hi
 have HIE := Lib.hid hie
 have HEL := Lib.hid hel
 have k1 : decide (i < l.length) = true := decide_eq_true hi
 have k2 : decide ((i : Int) < (l.length : Int)) = true := decide_eq_true (by omega)
 clear hR he
 go_enter Tryz.func55, Tryz.ntmps55
 go_wp2_with fail
 go_loopw [5, 6] (fun v0 vi wr => ∃ (q : Nat) (A3 : Option Addr) (c3 n3 : Nat) (L3 : List Nat), i + 1 ≤ q ∧ q ≤ e ∧ vi = .int .i64 (q : Int) ∧ v0 = .slice A3 n3 c3 ∧ n3 = L3.length ∧ OpenAt wr W.heap.size (.slice A3 n3 c3) L3 ∧ L3.reverse = kidsR l (i : Int) (i + 1) (q - (i + 1)) ∧ Below W.heap.size W wr)
  (fun _ vi _ => e - (intOf vi).toNat)
 case atStart => exact ⟨i + 1, none, 0, 0, [], Nat.le_refl _, by omega, by go_num, rfl, rfl, open_of (World.ownsRow_nil _ _ _ _), by simp [kidsR], Below.refl _ _⟩
 case round =>
  obtain ⟨q, A3, c3, n3, L3, h1q, h2q, rfl, rfl, rfl, hO3, hL3, hB3⟩ := hrel
  have c4 := cellBelow hB3 d4
  by_cases hlt : q < e
  ·have k9 : decide ((q : Int) < (e : Int)) = true := decide_eq_true (by omega)
   have hql : q < l.length := by omega
   have k10 : decide (q < l.length) = true := decide_eq_true hql
   have k11 : decide ((q : Int) < (l.length : Int)) = true := decide_eq_true (by omega)
   have HLT := Lib.hid hlt
   have H1Q := Lib.hid h1q
   obtain ⟨_, e9, _, _, _, d3, _⟩ := node7_at (HR.out.keep (w1 := wr) (fun k hk => hB3.block k (HR.out.own k hk).2)) q hql
   injection e9 with e9
   subst e9
   have hpa : parAt l q = l[q].f3 := by unfold parAt; rw [List.getElem?_eq_getElem hql]
   obtain ⟨x3, hx3⟩ : ∃ x, l[q].f3 = x := ⟨_, rfl⟩
   rw [hx3] at d3 hpa
   have hstep : kidsR l (i : Int) (i + 1) (q + 1 - (i + 1)) = kidsR l (i : Int) (i + 1) (q - (i + 1)) ++ (if x3 = (i : Int) then [q] else []) := by
    rw [show q + 1 - (i + 1) = (q - (i + 1)) + 1 by omega, kidsR_add, show i + 1 + (q - (i + 1)) = q by omega, kidsR, hpa]
    rfl
   clear hx3 hpa
   by_cases hx : x3 = (i : Int)
   ·have k3 : (x3 == (i : Int)) = true := by simp [hx]
    rw [if_pos hx] at hstep
    have hln : L3.length ≤ 900000 := by
     have := congrArg List.length hL3
     have h2 := kidsR_len l (i : Int) (q - (i + 1)) (i + 1)
     rw [List.length_reverse] at this
     omega
    have fin : ∃ A5 n5 c5 w5, (Builtin.append_ #[71, 71] 71 #[.slice A3 L3.length c3, .slice (some ⟨wr.heap.size, 0, none⟩) 1 1]).run Tryz.prog (wr.alloc (.cells #[.int .i64 (q : Int)] 3)) = .ok (.slice A5 n5 c5) w5 ∧
      Hid (n5 = (q :: L3).length ∧ OpenAt w5 W.heap.size (.slice A5 n5 c5) (q :: L3) ∧ (q :: L3).reverse = kidsR l (i : Int) (i + 1) (q + 1 - (i + 1)) ∧ Below W.heap.size W w5) := by
     obtain ⟨v5, w5, hr, hO5, hG5, _⟩ := int_append hO3 q hln hB3.size
     obtain ⟨A5, c5, rfl⟩ := open_len hO5
     refine ⟨A5, _, c5, w5, hr, Lib.hid ⟨rfl, hO5, by rw [hstep, List.reverse_cons, hL3], ?_⟩⟩
     exact (below_alloc hB3 _).grown hG5 (by have := hB3.size; simp; omega) (fun k e => (own_int (open_own hO3) k e).1)
    obtain ⟨A5, n5, c5, w5, hr2, hF⟩ := fin
    have HF5 := Lib.hid hF.out
    subst hx
    clear hF hO3 hL3 hB3 hstep
    go_wp2_with (at_builtin; refine wpList_append_runI _ rfl _ _ 71 71 rfl _ _ rfl rfl hr2 ?_)
    go_roundw
    case rel =>
     obtain ⟨h1, h2, h3, h4⟩ := HF5.out
     exact ⟨q + 1, A5, c5, n5, _, by have := H1Q.out; omega, HLT.out, by go_num, rfl, h1, h2, h3, h4⟩
    case measure => have := HLT.out; simp [intOf]; omega
   ·have k3 : (x3 == (i : Int)) = false := by simp [hx]
    rw [if_neg hx, List.append_nil, ← hL3] at hstep
    have HF5 := Lib.hid (And.intro hO3 (And.intro hstep hB3))
    clear hO3 hL3 hB3 hstep
    go_wp2_with fail
    go_roundw
    case rel =>
     obtain ⟨h2, h3, h4⟩ := HF5.out
     exact ⟨q + 1, A3, c3, _, L3, by have := H1Q.out; omega, HLT.out, by go_num, rfl, rfl, h2, h3.symm, h4⟩
    case measure => have := HLT.out; simp [intOf]; omega
  ·have k9 : decide ((q : Int) < (e : Int)) = false := decide_eq_false (by omega)
   have hqe : q = e := by omega
   subst hqe
   have R3 := Lib.hid (And.intro hO3 (And.intro hL3 hB3))
   clear hL3 hO3 hB3
   go_wp2_with fail
   go_ret
   obtain ⟨r1, r2, r3⟩ := R3.out
   exact ⟨_, rfl, by rw [← r2, List.reverse_reverse]; exact r1, r3⟩
/-- A slice of texts in memory. -/
def TextsAt (w : World) (A : Option Addr) (l : List ByteArray) : Prop := ∀ j (hj : j < l.length), ∃ a, A = some a ∧ w.cell? (a.add j) = some (.string l[j])
theorem TextsAt.below {w w1 : World} {A : Option Addr} {l : List ByteArray} (h : TextsAt w A l) (hb : Below w.heap.size w w1) : TextsAt w1 A l := fun j hj => by
 obtain ⟨a, e, hc⟩ := h j hj
 exact ⟨a, e, cellBelow hb hc⟩
/-- Those right within a value of any place. -/
def itemsI (l : List Node) (i : Int) : List Nat := if 0 ≤ i ∧ i < (l.length : Int) then itemsL l i.toNat else []
def membersI (l : List Node) (i : Int) : List (ByteArray × Nat) := if 0 ≤ i ∧ i < (l.length : Int) then membersL l i.toNat else []
def getI (l : List Node) (i : Int) (path : List ByteArray) : Option Nat := if 0 ≤ i ∧ i < (l.length : Int) then getP l i.toNat path else none
def refV : Option Nat → Int
 | some j => (j : Int)
 | none => -1
end Go.Proofs.YtfocognhcljhpaaGreatDoor
namespace Go.Proofs.YtfocognhcljhpaaGreatDoor
set_option linter.unusedVariables false
set_option linter.unusedSimpArgs false
open Go.RowKit Go.Shelf Go.Proofs.YtfocognhcljhpaaGreatDoorW.PrintWords Go.Proofs.YtfocognhcljhpaaGreatDoorW.PrintLast Go.Proofs.YtfocognhcljhpaaGreatDoorW.PrintMore Go.Proofs.YtfocognhcljhpaaGreatDoor.PPrintRows Go.Proofs.YtfocognhcljhpaaGreatDoor.Tree
theorem hex16 (d : Nat) (h : d < 16) : ((⟨#[48, 49, 50, 51, 52, 53, 54, 55, 56, 57, 97, 98, 99, 100, 101, 102]⟩ : ByteArray).extract d (d + 1)).data.toList = [hexd d] := by
 rw [ByteArray.data_extract, Array.toList_extract]
 revert h
 revert d
 decide
set_option maxRecDepth 100000 in
set_option maxHeartbeats 4000000 in
theorem quote8_any (s : ByteArray) (hs : s.size ≤ 1000000) (w : World) :
    Calls Tryz.prog 16 #[.string s] w fun e w' => e = .returned (.string ⟨(quoteL s.data.toList).toArray⟩) ∧ Below w.heap.size w w' := by
  go_enter Tryz.func16, Tryz.ntmps16
  go_wp2_with fail
  go_loopw [3, 4] (fun v0 vi wr => ∃ (q : Nat) (o : ByteArray), q ≤ s.size ∧ vi = .int .i64 (q : Int) ∧ v0 = .string o ∧ o.data.toList = 34 :: (s.data.toList.take q).flatMap qc ∧ Below w.heap.size w wr) (fun _ vi _ => s.size - (intOf vi).toNat)
  case atStart => exact ⟨0, ⟨#[34]⟩, Nat.zero_le _, rfl, rfl, rfl, Below.refl _ _⟩
  case round =>
    obtain ⟨q, o, hq, rfl, rfl, ho, hB⟩ := hrel
    by_cases hlt : q < s.size
    · have k9 : decide ((q : Int) < (s.size : Int)) = true := decide_eq_true (by omega)
      have k10 : decide (q < s.size) = true := decide_eq_true hlt
      have HLT := Lib.hid hlt
      obtain ⟨c, hc⟩ : ∃ c : UInt8, s.data.toList[q]? = some c := ⟨s.data.toList[q]'(by simpa using hlt), List.getElem?_eq_getElem _⟩
      have hcn : s[q].toNat = c.toNat := by
        have e : s.data.toList[q]? = some s[q] := by rw [List.getElem?_eq_getElem (by simpa using hlt)]; rfl
        rw [e] at hc
        injection hc with hc
        rw [hc]
      have hstep : (s.data.toList.take (q + 1)).flatMap qc = (s.data.toList.take q).flatMap qc ++ qc c := by
        rw [List.take_add_one, hc]
        simp
      have hex : (s.extract q (q + 1)).data.toList = [c] := by
        rw [ByteArray.data_extract, Array.toList_extract]
        simp [List.extract, List.take_one, hc]
      have FIN := Lib.hid (show ∀ o' : ByteArray, o'.data.toList = o.data.toList ++ qc c → o'.data.toList = 34 :: (s.data.toList.take (q + 1)).flatMap qc from fun o' h => by rw [h, ho, hstep]; rfl)
      have hos : o.size ≤ 6000001 := by
        have h1 := congrArg List.length ho
        have h2 := flat_qc_len (s.data.toList.take q)
        rw [List.length_cons] at h1
        rw [List.length_take] at h2
        have h3 : o.data.toList.length = o.size := by simp
        omega
      have HB := Lib.hid hB
      have hx34 : qc c = if (s[q].toNat : Int) = 34 ∨ (s[q].toNat : Int) = 92 then [92, c] else if (s[q].toNat : Int) < 32 then escL c.toNat else [c] := by
        rw [hcn]
        unfold qc
        have e1 : (c = 34) = ((c.toNat : Int) = 34) := by rw [← UInt8.toNat_inj]; simp; omega
        have e2 : (c = 92) = ((c.toNat : Int) = 92) := by rw [← UInt8.toNat_inj]; simp; omega
        have e3 : (c < 32) = ((c.toNat : Int) < 32) := by rw [UInt8.lt_iff_toNat_lt]; simp; omega
        simp only [e1, e2, e3]
      generalize hn : s[q].toNat = n at hcn hx34
      clear hB ho hstep
      go_wp2_with fail
      all_goals first | (exfalso; omega) | skip
      all_goals (try simp only [beq_iff_eq, beq_eq_false_iff_ne, ne_eq] at *)
      all_goals first
        | (go_roundw
           case rel =>
             refine ⟨q + 1, _, HLT.out, by go_num, rfl, FIN.out _ ?_, HB.out⟩
             simp only [ByteArray.data_append, Array.toList_append, hex, List.append_assoc]
             rw [hx34]
             first
               | (rw [if_pos (by omega)] <;> rfl)
               | (rw [if_neg (by omega), if_pos (by omega)]; unfold escL; (first | rw [show c.toNat = 8 by omega] | rw [show c.toNat = 9 by omega] | rw [show c.toNat = 10 by omega] | rw [show c.toNat = 12 by omega] | rw [show c.toNat = 13 by omega]) <;> rfl)
               | (rw [if_neg (by omega), if_neg (by omega)] <;> rfl)
           case measure => have := HLT.out; simp [intOf]; omega)
        | skip
      go_quiet (fail)
      go_wp2_with fail
      go_roundw
      case rel =>
        refine ⟨q + 1, _, HLT.out, by go_num, rfl, FIN.out _ ?_, below_step HB.out ⟨rfl, rfl, rfl, Nat.le_refl _, fun _ _ => rfl⟩⟩
        erw [hn, hcn]
        have h32 : c.toNat < 32 := by omega
        simp only [ByteArray.data_append, Array.toList_append, hex16 (c.toNat / 16) (by omega), hex16 (c.toNat % 16) (by omega), List.append_assoc]
        rw [hx34, if_neg (by omega), if_pos (by omega)]
        unfold escL
        rw [if_neg (by omega), if_neg (by omega), if_neg (by omega), if_neg (by omega), if_neg (by omega)]
        rfl
      case measure => have := HLT.out; simp [intOf]; omega
    · have hqe : q = s.size := by omega
      subst hqe
      have k9 : decide ((s.size : Int) < (s.size : Int)) = false := decide_eq_false (by omega)
      have hos : o.size ≤ 6000001 := by
        have h1 := congrArg List.length ho
        have h2 := flat_qc_len (s.data.toList.take s.size)
        rw [List.length_cons] at h1
        rw [List.length_take] at h2
        have h3 : o.data.toList.length = o.size := by simp
        omega
      have HO := Lib.hid ho
      have HB := Lib.hid hB
      clear ho hB
      go_wp2_with fail
      all_goals first | (exfalso; omega) | skip
      go_ret
      refine ⟨congrArg (fun z => Ending.returned (.string z)) (show o ++ ⟨#[34]⟩ = _ from ?_), HB.out⟩
      apply ByteArray.ext
      apply Array.toList_inj.1
      rw [ByteArray.data_append, Array.toList_append, HO.out, List.take_of_length_le (by simp)]
      unfold quoteL
      simp
end Go.Proofs.YtfocognhcljhpaaGreatDoor
namespace Go.Proofs.YtfocognhcljhpaaGreatDoor
set_option linter.unusedVariables false
set_option linter.unusedSimpArgs false
open Go.RowKit Go.Shelf Go.Proofs.YtfocognhcljhpaaGreatDoorW.PrintWords Go.Proofs.YtfocognhcljhpaaGreatDoorW.PrintLast Go.Proofs.YtfocognhcljhpaaGreatDoorW.PrintMore Go.Proofs.YtfocognhcljhpaaGreatDoor.PPrintRows Go.Proofs.YtfocognhcljhpaaGreatDoor.Tree
theorem quoteL_le (s : ByteArray) (h : s.size ≤ 100000) : (quoteL s.data.toList).length ≤ 600002 := by
 have h2 := flat_qc_len s.data.toList
 have h3 : s.data.toList.length = s.size := by simp
 unfold quoteL
 simp only [List.length_cons, List.length_append, List.length_nil]
 omega
mutual
theorem prT_le : ∀ t : Tr, t.tx (fun b => decide (b.size ≤ 100000)) = true → (prT quoteL t).length + 600010 ≤ t.size * 2000000
 | .mk k key text kids, h => by
  rw [Tr.tx, Bool.and_eq_true, Bool.and_eq_true] at h
  rw [prT, Tr.size]
  split
  ·have h1 := prK_le kids (k == 7) true h.2
   have ho : (opn k).length = 1 := by unfold opn; split <;> rfl
   have hc : (cls k).length = 1 := by unfold cls; split <;> rfl
   simp only [List.length_append, ho, hc]
   omega
  ·have h1 := of_decide_eq_true h.1.2
   have h2 := quoteL_le text h1
   have h3 : text.data.toList.length = text.size := by simp
   have hw : (wordB quoteL k text.data.toList).length ≤ 600002 := by
    unfold wordB
    split
    ·simp
    ·split
     ·simp
     ·split
      ·simp
      ·split
       ·exact h2
       ·omega
   omega
theorem prK_le : ∀ (ts : List Tr) (nm first : Bool), txs (fun b => decide (b.size ≤ 100000)) ts = true → (prK quoteL nm first ts).length ≤ sizes ts * 2000000
 | [], nm, first, _ => by rw [prK]; simp
 | t :: ts, nm, first, h => by
  rw [txs, Bool.and_eq_true] at h
  have h1 := prT_le t h.1
  have h2 := prK_le ts nm false h.2
  have hk : t.key.size ≤ 100000 := by
   cases t with
   | mk k key text kids =>
    have := h.1
    rw [Tr.tx, Bool.and_eq_true, Bool.and_eq_true] at this
    exact of_decide_eq_true this.1.1
  have h3 := quoteL_le t.key hk
  rw [prK, sizes]
  simp only [List.length_append]
  have h4 : (if first = true then ([] : Bs) else [44]).length ≤ 1 := by split <;> simp
  have h5 : (if nm = true then quoteL t.key.data.toList ++ [58] else ([] : Bs)).length ≤ 600003 := by
   split
   ·rw [List.length_append]; simp only [List.length_cons, List.length_nil]; omega
   ·simp
  omega
end
theorem str_eq {o : ByteArray} {l : Bs} (h : o.data.toList = l) : o = ⟨l.toArray⟩ := by
 apply ByteArray.ext
 apply Array.toList_inj.1
 rw [h]
set_option maxRecDepth 100000 in
set_option maxHeartbeats 4000000 in
theorem print8_leaf (A : Option Addr) (cap base : Nat) (l : List Node) (k : Int) (key text : ByteArray) (i : Nat) (p e : Int) (hi : i < l.length) (hli : l[i] = ⟨k, key, text, p, e⟩) (h1 : 1 ≤ k) (h6 : k < 6) (htx : text.size ≤ 100000) (W : World) (hR : Row7 W base (.slice A l.length cap) l) :
  Calls Tryz.prog 20 #[.slice A l.length cap, .int .i64 (i : Int), .bool false] W fun e w' => e = .returned (.string ⟨(wordB quoteL k text.data.toList).toArray⟩) ∧ Below W.heap.size W w' := by
 obtain ⟨ad, rfl, d0, d1, d2, d3, d4⟩ := node7_at hR i hi
 rw [hli] at d0 d1 d2 d3 d4
 dsimp only at d0 d1 d2 d3 d4
 have k1 : decide (i < l.length) = true := decide_eq_true hi
 have k2 : decide ((i : Int) < (l.length : Int)) = true := decide_eq_true (by omega)
 have QU := Lib.hid (quote8_any text (by omega))
 have HB := Lib.hid (below_alloc (Below.refl W.heap.size W) (.cells #[.int .i64 k, .string key, .string text, .int .i64 p, .int .i64 e] 47))
 clear hR hli
 have hk : k = 1 ∨ k = 2 ∨ k = 3 ∨ k = 4 ∨ k = 5 := by omega
 rcases hk with rfl | rfl | rfl | rfl | rfl
 case inr.inr.inr.inr =>
  go_enter Tryz.func20, Tryz.ntmps20
  go_wp2_with (go_at_call 16; go_must (refine (QU.out _).mono ?_); rintro e' w1 ⟨rfl, hb⟩; have HB2 := Lib.hid (below_step HB.out hb); clear hb)
  go_ret
  exact ⟨rfl, HB2.out⟩
 all_goals
  go_enter Tryz.func20, Tryz.ntmps20
  go_wp2_with fail
  go_ret
  exact ⟨rfl, HB.out⟩
set_option maxRecDepth 100000 in
set_option maxHeartbeats 4000000 in
theorem print8_at (A : Option Addr) (cap base : Nat) (l : List Node) (hl : l.length ≤ 400000) : ∀ (m : Nat) (s : Tr) (nm : Bool) (i : Nat) (p : Int) (r : List Node), s.size ≤ m → s.ok isNumL nm = true → s.tx (fun b => decide (b.size ≤ 100000)) = true → p < (i : Int) → l.drop i = (s.flat p i).map toN ++ r → ∀ W, Row7 W base (.slice A l.length cap) l →
  Calls Tryz.prog 20 #[.slice A l.length cap, .int .i64 (i : Int), .bool false] W fun e w' => e = .returned (.string ⟨(prT quoteL s).toArray⟩) ∧ Below W.heap.size W w'
 | 0, s, nm, i, p, r, hm, _, _, _, _ => by have := s.size_pos; omega
 | m + 1, .mk k key text kids, nm, i, p, r, hm, hok, htx, hp, hd => by
  intro W hR
  obtain ⟨hn, hd2⟩ := drop_flat hd
  obtain ⟨hi, hli⟩ := List.getElem?_eq_some_iff.1 hn
  have hle := (end_of _ hd).2.2.2
  rw [Tr.size] at hm hle
  rw [Tr.ok, Bool.and_eq_true, Bool.and_eq_true] at hok
  rw [Tr.tx, Bool.and_eq_true, Bool.and_eq_true] at htx
  have hk17 : 1 ≤ k ∧ k ≤ 7 := by
   have := hok.1.1
   unfold okN at this
   rw [Bool.and_eq_true, Bool.and_eq_true] at this
   exact of_decide_eq_true this.1.1
  rw [prT]
  by_cases h6 : k < 6
  ·rw [if_neg (by omega)]
   exact print8_leaf A cap base l k key text i p _ hi hli hk17.1 h6 (of_decide_eq_true htx.1.2) W hR
  ·rw [if_pos (by omega)]
   have IH := Lib.hid (print8_at A cap base l hl m)
   obtain ⟨nmk, hnmk⟩ : ∃ b, (k == 7) = b := ⟨_, rfl⟩
   have k7 := hnmk
   rw [hnmk] at hok ⊢
   have e1 : (k == 1) = false := by simp; omega
   have e2 : (k == 2) = false := by simp; omega
   have e3 : (k == 3) = false := by simp; omega
   have e4 : (k == 4) = false := by simp; omega
   have e5 : (k == 5) = false := by simp; omega
   have HR := Lib.hid hR
   obtain ⟨ad, rfl, d0, d1, d2, d3, d4⟩ := node7_at hR i hi
   rw [hli] at d0 d1 d2 d3 d4
   dsimp only at d0 d1 d2 d3 d4
   have k1 : decide (i < l.length) = true := decide_eq_true hi
   have k2 : decide ((i : Int) < (l.length : Int)) = true := decide_eq_true (by omega)
   obtain ⟨W1, hW1⟩ : ∃ W1, W.alloc (.cells #[.int .i64 k, .string key, .string text, .int .i64 p, .int .i64 ((i + 1 + sizes kids : Nat) : Int)] 47) = W1 := ⟨_, rfl⟩
   have hb1 : Below W.heap.size W W1 := by rw [← hW1]; exact below_alloc (Below.refl _ _) _
   have hx1 : W1.heap[W.heap.size]? = some (.cells #[.int .i64 k, .string key, .string text, .int .i64 p, .int .i64 ((i + 1 + sizes kids : Nat) : Int)] 47 (0, 0)) := by rw [← hW1]; exact blk_new _ _
   have KIDS := Lib.hid (kids8_any (some ad) cap base l i (i + 1 + sizes kids) hi (by rw [hli]) (by omega) (by omega) hl W1 (hR.keep (fun k hk => hb1.block k (hR.own k hk).2)))
   rw [show i + 1 + sizes kids - (i + 1) = sizes kids by omega, kidsR_pl kids (i + 1) r hd2 (by omega)] at KIDS
   rw [← hW1] at KIDS
   obtain ⟨L, hL⟩ : ∃ L, pl (i + 1) kids = L := ⟨_, rfl⟩
   have hLk : L.map (·.2) = kids := by rw [← hL]; exact pl_snd _ _
   have hmem : ∀ x ∈ L, (∃ r', l.drop x.1 = (x.2.flat (i : Int) x.1).map toN ++ r') ∧ i + 1 ≤ x.1 ∧ x.1 + x.2.size ≤ i + 1 + sizes kids ∧ x.2 ∈ kids := by rw [← hL]; exact pl_mem kids (i + 1) r hd2
   rw [hL] at KIDS
   have hLl : L.length ≤ 400000 := by
    have := congrArg List.length hLk
    rw [List.length_map] at this
    have := sizes_len kids
    omega
   have hkx : ∀ t ∈ kids, t.ok isNumL nmk = true ∧ t.tx (fun b => decide (b.size ≤ 100000)) = true := by
    have h1 := hok.2
    have h2 := htx.2
    rw [oks_all] at h1
    rw [txs_all] at h2
    exact fun t ht => ⟨List.all_eq_true.1 h1 t ht, List.all_eq_true.1 h2 t ht⟩
   have hsz : (prK quoteL nmk true kids).length ≤ 800000000000 := by
    have h7 := prK_le kids nmk true htx.2
    have h8 : sizes kids ≤ 400000 := by omega
    omega
   have HK := Lib.hid hLk
   have HME := Lib.hid hmem
   have HKX := Lib.hid hkx
   have HB1 := Lib.hid hb1
   have HX1 := Lib.hid hx1
   have HW1 := Lib.hid hW1
   clear hR hli hn hd hd2 hok htx hk17 hnmk hL hLk hmem hkx hb1 hx1 hW1
   go_enter Tryz.func20, Tryz.ntmps20
   go_wp2_with (go_at_call 55; go_must (refine (KIDS.out).mono ?_); rintro e' w2 ⟨vk, rfl, hOk, hbk⟩; obtain ⟨Ak, ck, hvk⟩ := open_len hOk; rw [List.length_reverse, List.length_map] at hvk; subst hvk; rw [HW1.out] at hbk; have hx2 := (hbk.block _ (blk_lt HX1.out)).trans HX1.out; have c0 : w2.cell? ⟨W.heap.size, 0, none⟩ = some (.int .i64 k) := blkc hx2 0 rfl; have HO := Lib.hid hOk; have HBK := Lib.hid hbk; have HX2 := Lib.hid hx2; clear hOk hbk hx2)
   go_loopw [9, 47] (fun v0 vi wr => ∃ (q : Nat) (o : ByteArray), q ≤ L.length ∧ vi = .int .i64 (q : Int) ∧ v0 = .string o ∧ o.data.toList ++ prK quoteL nmk (q == 0) (kids.drop q) = prK quoteL nmk true kids ∧ Below w2.heap.size w2 wr) (fun _ vi _ => L.length - (intOf vi).toNat)
   case atStart => exact ⟨0, ⟨#[]⟩, Nat.zero_le _, rfl, rfl, rfl, Below.refl _ _⟩
   case round =>
    obtain ⟨q, o, hq, rfl, rfl, ho, hB⟩ := hrel
    have hos : o.size ≤ 800000000000 := by
     have h1 := congrArg List.length ho
     rw [List.length_append] at h1
     have h3 : o.data.toList.length = o.size := by simp
     omega
    have c1 := cellBelow hB c0
    by_cases hlt : q < L.length
    ·have k9 : decide ((q : Int) < (L.length : Int)) = true := decide_eq_true (by omega)
     have k10 : decide (q < L.length) = true := decide_eq_true hlt
     have HLT := Lib.hid hlt
     obtain ⟨⟨r', hr'⟩, hx1, hx2, hx3⟩ := HME.out L[q] (List.getElem_mem hlt)
     have hkd : kids.drop q = L[q].2 :: kids.drop (q + 1) := by
      rw [← HK.out, ← List.map_drop, List.drop_eq_getElem_cons hlt, List.map_cons, List.map_drop]
      rfl
     obtain ⟨hto, htt⟩ := HKX.out _ hx3
     obtain ⟨ak, rfl, b0⟩ := open_at HO.out q (by simpa using hlt)
     have b1 := cellBelow hB b0
     have e0 : (L.map (·.1))[q]'(by simpa using hlt) = L[q].1 := by
      simp only [List.getElem_map]
      rfl
     rw [e0] at b1
     clear e0 b0
     obtain ⟨⟨kp, t⟩, hx⟩ : ∃ x, L[q] = x := ⟨_, rfl⟩
     rw [hx] at b1 hr' hx1 hx2 hx3 hkd hto htt
     dsimp only at b1 hr' hx1 hx2 hx3 hkd hto htt
     have htk : t.key.size ≤ 100000 := by
      cases t with
      | mk k key text kids =>
       rw [Tr.tx, Bool.and_eq_true, Bool.and_eq_true] at htt
       exact of_decide_eq_true htt.1.1
     have hpos := t.size_pos
     have hst : t.size ≤ sizes kids := by omega
     have hkl : kp < l.length := by omega
     have k11 : decide (kp < l.length) = true := decide_eq_true hkl
     have k12 : decide ((kp : Int) < (l.length : Int)) = true := decide_eq_true (by omega)
     obtain ⟨qb, hqb⟩ : ∃ qb : ByteArray, (⟨(quoteL t.key.data.toList).toArray⟩ : ByteArray) = qb := ⟨_, rfl⟩
     obtain ⟨pb, hpb⟩ : ∃ pb : ByteArray, (⟨(prT quoteL t).toArray⟩ : ByteArray) = pb := ⟨_, rfl⟩
     have QU := Lib.hid (quote8_any t.key (by omega))
     have hR3 := HR.out.keep (w1 := wr) (fun k hk => ((below_step (below_step HB1.out HBK.out) hB).block k (HR.out.own k hk).2))
     obtain ⟨_, e9, _, g1, _⟩ := node7_at hR3 kp hkl
     injection e9 with e9
     subst e9
     have hky : l[kp].f1 = t.key := by
      have h := (end_of t hr').2.1
      unfold keyAt at h
      rw [List.getElem?_eq_getElem hkl] at h
      exact h
     rw [hky] at g1
     have PR := Lib.hid (fun w (h : Below wr.heap.size wr w) => IH.out t nmk kp (i : Int) r' (by omega) hto htt (by omega) hr' w (HR.out.keep (fun k hk => ((below_step (below_step (below_step HB1.out HBK.out) hB) h).block k (HR.out.own k hk).2))))
     have hps := prT_le t htt
     have hps2 : t.size ≤ 400000 := by omega
     have hqs := quoteL_le t.key htk
     rw [hqb] at QU
     rw [hpb] at PR
     have hqd : qb.data.toList = quoteL t.key.data.toList := by rw [← hqb]
     have hpd : pb.data.toList = prT quoteL t := by rw [← hpb]
     have hqz : qb.size ≤ 600002 := by
      have h1 := congrArg List.length hqd
      have h3 : qb.data.toList.length = qb.size := by simp
      omega
     have hpz : pb.size ≤ 800000000000 := by
      have h1 := congrArg List.length hpd
      have h3 : pb.data.toList.length = pb.size := by simp
      omega
     have STEP := Lib.hid (show ∀ o' : ByteArray, o'.data.toList = o.data.toList ++ ((if (q == 0) = true then [] else [44]) ++ ((if nmk = true then quoteL t.key.data.toList ++ [58] else []) ++ prT quoteL t)) → o'.data.toList ++ prK quoteL nmk (q + 1 == 0) (kids.drop (q + 1)) = prK quoteL nmk true kids by
      intro o' h
      rw [h, ← ho, hkd, prK, show (q + 1 == 0) = false from rfl]
      simp only [List.append_assoc])
     have HB := Lib.hid hB
     clear hkd hto htt hr' hx1 hx2 hx3 hx hqb hpb hR3 hky hB ho htk hpos hst hps hps2 hqs
     by_cases hq0 : q = 0
     ·have k53 : decide ((0 : Int) < (q : Int)) = false := decide_eq_false (by omega)
      have k56 : ¬ 0 < q := by omega
      have k54 : (q == 0) = true := by simp [hq0]
      rw [k54] at STEP
      clear hq0
      cases nmk with
      | false =>
       go_wp2_with (go_at_call 20; go_must (refine (PR.out _ (Below.refl _ _)).mono ?_); rintro e' w4 ⟨rfl, hb4⟩; have B4 := Lib.hid (below_step HB.out hb4); clear hb4)
       all_goals first | (exfalso; omega) | skip
       go_roundw
       case rel => exact ⟨q + 1, _, HLT.out, by go_num, rfl, STEP.out _ (by simp [ByteArray.data_append, hpd]), B4.out⟩
       case measure => have := HLT.out; simp [intOf]; omega
      | true =>
       go_wp2_with (first | (go_at_call 16; go_must (refine (QU.out _).mono ?_); rintro e' w3 ⟨rfl, hb3⟩; have B3 := Lib.hid hb3; clear hb3) | (go_at_call 20; go_must (refine (PR.out _ B3.out).mono ?_); rintro e' w4 ⟨rfl, hb4⟩; have B4 := Lib.hid (below_step (below_step HB.out B3.out) hb4); clear hb4))
       all_goals first | (exfalso; omega) | skip
       go_roundw
       case rel => exact ⟨q + 1, _, HLT.out, by go_num, rfl, STEP.out _ (by simp [ByteArray.data_append, hpd, hqd]), B4.out⟩
       case measure => have := HLT.out; simp [intOf]; omega
     ·have k53 : decide ((0 : Int) < (q : Int)) = true := decide_eq_true (by omega)
      have k55 : decide (0 < q) = true := decide_eq_true (by omega)
      have k56 : 0 < q := by omega
      have k54 : (q == 0) = false := by simp [hq0]
      rw [k54] at STEP
      clear hq0
      cases nmk with
      | false =>
       go_wp2_with (go_at_call 20; go_must (refine (PR.out _ (Below.refl _ _)).mono ?_); rintro e' w4 ⟨rfl, hb4⟩; have B4 := Lib.hid (below_step HB.out hb4); clear hb4)
       all_goals first | (exfalso; omega) | skip
       go_roundw
       case rel => exact ⟨q + 1, _, HLT.out, by go_num, rfl, STEP.out _ (by simp [ByteArray.data_append, hpd]), B4.out⟩
       case measure => have := HLT.out; simp [intOf]; omega
      | true =>
       go_wp2_with (first | (go_at_call 16; go_must (refine (QU.out _).mono ?_); rintro e' w3 ⟨rfl, hb3⟩; have B3 := Lib.hid hb3; clear hb3) | (go_at_call 20; go_must (refine (PR.out _ B3.out).mono ?_); rintro e' w4 ⟨rfl, hb4⟩; have B4 := Lib.hid (below_step (below_step HB.out B3.out) hb4); clear hb4))
       all_goals first | (exfalso; omega) | skip
       go_roundw
       case rel => exact ⟨q + 1, _, HLT.out, by go_num, rfl, STEP.out _ (by simp [ByteArray.data_append, hpd, hqd]), B4.out⟩
       case measure => have := HLT.out; simp [intOf]; omega
    ·have k9 : decide ((q : Int) < (L.length : Int)) = false := decide_eq_false (by omega)
     have hkl : L.length = kids.length := by have := congrArg List.length HK.out; rwa [List.length_map] at this
     rw [List.drop_eq_nil_of_le (by omega), prK, List.append_nil] at ho
     have HO' := Lib.hid ho
     have B5 := Lib.hid (below_step (below_step HB1.out HBK.out) hB)
     have hk7 : opn k = (if nmk = true then [123] else [91]) ∧ cls k = (if nmk = true then [125] else [93]) := by
      unfold opn cls
      by_cases h7 : k = 7
      ·rw [if_pos h7, if_pos h7]; have : nmk = true := by rw [← k7]; simp [h7]
       rw [this]; exact ⟨rfl, rfl⟩
      ·rw [if_neg h7, if_neg h7]; have : nmk = false := by rw [← k7]; simp [h7]
       rw [this]; exact ⟨rfl, rfl⟩
     have HK7 := Lib.hid hk7
     clear ho hB hkl hk7
     cases nmk with
     | false =>
      go_wp2_with fail
      all_goals first | (exfalso; omega) | skip
      go_ret
      refine ⟨congrArg (fun z => Ending.returned (.string z)) (str_eq ?_), B5.out⟩
      rw [HK7.out.1, HK7.out.2]
      simp [ByteArray.data_append, HO'.out]
     | true =>
      go_wp2_with fail
      all_goals first | (exfalso; omega) | skip
      go_ret
      refine ⟨congrArg (fun z => Ending.returned (.string z)) (str_eq ?_), B5.out⟩
      rw [HK7.out.1, HK7.out.2]
      simp [ByteArray.data_append, HO'.out]
end Go.Proofs.YtfocognhcljhpaaGreatDoor
namespace Go.Proofs.YtfocognhcljhpaaGreatDoor
set_option linter.unusedVariables false
set_option linter.unusedSimpArgs false
open Go.RowKit Go.Proofs.YtfocognhcljhpaaGreatDoorW.PrintWords Go.Proofs.YtfocognhcljhpaaGreatDoorW.PrintMore Go.Proofs.YtfocognhcljhpaaGreatDoor.PPrintRows Go.Proofs.YtfocognhcljhpaaGreatDoor.Tree
theorem cashierref07_run_l0 (s : ByteArray) (hs : s.size ≤ 1000000000000) (a : Nat) (ha : a ≤ s.size + 3) : ∀ (k j : Nat), s.size < a + j + k → 0 < k → j ≤ s.size → PRef.cashierref07_run.l0 k s (a : Int) (j : Int) = some ((j + runL (s.data.toList.drop (a + j)) : Nat) : Int)
 | 0, j, _, h, _ => by omega
 | k + 1, j, h, _, hj => by
  rw [PRef.cashierref07_run.l0, w64 _ (by omega) (by omega)]
  by_cases hlt : a + j < s.size
  ·obtain ⟨c, h1, h2, h3⟩ := bt_nat s (a + j) hlt
   have e : (a : Int) + (j : Int) = ((a + j : Nat) : Int) := by omega
   rw [e, h1, if_pos (by omega), if_pos (by omega), h3, runL_cons, w64 _ (by omega) (by omega)]
   by_cases g1 : 48 ≤ c.toNat
   ·rw [if_pos (by omega)]
    by_cases g2 : c.toNat ≤ 57
    ·rw [if_pos (by omega), if_pos ⟨by rw [UInt8.le_iff_toNat_le]; exact g1, by rw [UInt8.le_iff_toNat_le]; exact g2⟩]
     have := cashierref07_run_l0 s hs a ha k (j + 1) (by omega) (by omega) (by omega)
     rw [show (j : Int) + 1 = ((j + 1 : Nat) : Int) by omega, this, ← Nat.add_assoc]
     congr 2
     omega
    ·rw [if_neg (by omega), if_neg (by rw [UInt8.le_iff_toNat_le, UInt8.le_iff_toNat_le]; rintro ⟨_, h⟩; exact g2 h)]
     simp
   ·rw [if_neg (by omega), if_neg (by rw [UInt8.le_iff_toNat_le, UInt8.le_iff_toNat_le]; rintro ⟨h, _⟩; exact g1 h)]
    simp
  ·rw [if_neg (by omega), List.drop_of_length_le (by simp; omega)]
   simp [runL]
theorem cashierref07_run_f (s : ByteArray) (hs : s.size ≤ 1000000000000) (a : Nat) (ha : a ≤ s.size + 3) (k : Nat) (hk : s.size < k) : PRef.cashierref07_run.f k s (a : Int) = some ((runL (s.data.toList.drop a) : Nat) : Int) := by
 unfold PRef.cashierref07_run.f
 have := cashierref07_run_l0 s hs a ha k 0 (by omega) (by omega) (by omega)
 simpa using this
theorem rnum_e2 (s : ByteArray) (hs : s.size ≤ 1000000000000) (a : Nat) (ha : a ≤ s.size) (k : Nat) (hk : s.size + 4 < k) : PRef.cashierref07_Numeral.j4 k s (a : Int) = some ((expL s.data.toList a : Nat) : Int) := by
  obtain ⟨k, rfl⟩ : ∃ k', k = k' + 3 := ⟨k - 3, by omega⟩
  have hlen : s.data.toList.length = s.size := by simp
  have fin : ∀ at_ : Nat, at_ ≤ s.size + 2 → (PRef.cashierref07_run.f (k) s (at_ : Int)).bind (fun t => if t = 0 then (some 0 : Option Int) else some (wrap64 ((at_ : Int) + t))) = some (((if runL (s.data.toList.drop at_) = 0 then 0 else at_ + runL (s.data.toList.drop at_)) : Nat) : Int) := by
    intro at_ hat
    rw [cashierref07_run_f s hs at_ (by omega) k (by omega), Option.bind_some]
    have h1 := run_sz s.data.toList at_
    rw [hlen] at h1
    by_cases h0 : runL (s.data.toList.drop at_) = 0
    · rw [if_pos (by omega), if_pos h0]; rfl
    · rw [if_neg (by omega), if_neg h0, w64 _ (by omega) (by omega)]
      congr 1
  unfold expL
  by_cases hlt : a < s.size
  · have e101 := bt_is s a hlt 101 (by omega)
    have e69 := bt_is s a hlt 69 (by omega)
    have fk : ∀ b : Bool, b = decide (s.data.toList[a]? = some 101 ∨ s.data.toList[a]? = some 69) → PRef.cashierref07_Numeral.j5 (k + 2) s (a : Int) b = some ((((if s.data.toList[a]? = some 101 ∨ s.data.toList[a]? = some 69 then (if runL (s.data.toList.drop (expAt s.data.toList (a + 1))) = 0 then 0 else expAt s.data.toList (a + 1) + runL (s.data.toList.drop (expAt s.data.toList (a + 1)))) else a) : Nat)) : Int) := by
      rintro b rfl
      rw [PRef.cashierref07_Numeral.j5]
      by_cases he : s.data.toList[a]? = some 101 ∨ s.data.toList[a]? = some 69
      · rw [if_pos (decide_eq_true he), if_pos he, w64 _ (by omega) (by omega)]
        have e1 : (a : Int) + 1 = ((a + 1 : Nat) : Int) := by omega
        rw [e1]
        by_cases hl2 : a + 1 < s.size
        · rw [if_pos (by omega), if_pos (by omega)]
          have e43 := bt_is s (a + 1) hl2 43 (by omega)
          have e45 := bt_is s (a + 1) hl2 45 (by omega)
          have fj : ∀ b : Bool, b = decide (s.data.toList[a + 1]? = some 43 ∨ s.data.toList[a + 1]? = some 45) → PRef.cashierref07_Numeral.j6 (k + 1) s ((a + 1 : Nat) : Int) b = some ((((if runL (s.data.toList.drop (expAt s.data.toList (a + 1))) = 0 then 0 else expAt s.data.toList (a + 1) + runL (s.data.toList.drop (expAt s.data.toList (a + 1))))) : Nat) : Int) := by
            rintro b rfl
            rw [PRef.cashierref07_Numeral.j6]
            unfold expAt
            by_cases hs2 : s.data.toList[a + 1]? = some 43 ∨ s.data.toList[a + 1]? = some 45
            · rw [if_pos (decide_eq_true hs2), if_pos hs2, w64 _ (by omega) (by omega)]
              have e2 : ((a + 1 : Nat) : Int) + 1 = ((a + 1 + 1 : Nat) : Int) := by omega
              rw [e2]
              exact fin (a + 1 + 1) (by omega)
            · rw [if_neg (by rw [decide_eq_false hs2]; simp), if_neg hs2]
              exact fin (a + 1) (by omega)
          by_cases h43 : bt s ((a + 1 : Nat) : Int) = 43
          · rw [if_pos h43]
            have h43' : (bt s ((a + 1 : Nat) : Int) == ((43 : Nat) : Int)) = true := by rw [beq_iff_eq]; exact h43
            rw [e43, decide_eq_true_eq] at h43'
            exact fj true (decide_eq_true (.inl h43')).symm
          · rw [if_neg h43]
            refine fj _ ?_
            have h43' : ¬ s.data.toList[a + 1]? = some 43 := fun h => h43 (by have : (bt s ((a + 1 : Nat) : Int) == ((43 : Nat) : Int)) = true := by rw [e43]; exact decide_eq_true h
                                                                              exact beq_iff_eq.1 this)
            show (bt s ((a + 1 : Nat) : Int) == ((45 : Nat) : Int)) = _
            rw [e45, Bool.eq_iff_iff, decide_eq_true_eq, decide_eq_true_eq]
            exact ⟨fun h => .inr h, fun h => h.resolve_left h43'⟩
        · rw [if_neg (by omega), PRef.cashierref07_Numeral.j6, if_neg (by simp)]
          have hn := at_none s (a + 1) (by omega)
          have e0 : expAt s.data.toList (a + 1) = a + 1 := by unfold expAt; rw [hn, if_neg (by simp)]
          rw [e0]
          exact fin (a + 1) (by omega)
      · rw [if_neg (by rw [decide_eq_false he]; simp), if_neg he]
    rw [PRef.cashierref07_Numeral.j4, if_pos (by omega), if_pos (by omega)]
    by_cases h101 : bt s (a : Int) = 101
    · rw [if_pos h101]
      have h' : (bt s (a : Int) == ((101 : Nat) : Int)) = true := by rw [beq_iff_eq]; exact h101
      rw [e101, decide_eq_true_eq] at h'
      exact fk true (decide_eq_true (.inl h')).symm
    · rw [if_neg h101]
      refine fk _ ?_
      have h' : ¬ s.data.toList[a]? = some 101 := fun h => h101 (by have : (bt s (a : Int) == ((101 : Nat) : Int)) = true := by rw [e101]; exact decide_eq_true h
                                                                    exact beq_iff_eq.1 this)
      show (bt s (a : Int) == ((69 : Nat) : Int)) = _
      rw [e69, Bool.eq_iff_iff, decide_eq_true_eq, decide_eq_true_eq]
      exact ⟨fun h => .inr h, fun h => h.resolve_left h'⟩
  · rw [PRef.cashierref07_Numeral.j4, if_neg (by omega), PRef.cashierref07_Numeral.j5, if_neg (by simp)]
    have hn := at_none s a (by omega)
    rw [hn, if_neg (by simp)]
theorem rnum_e1 (s : ByteArray) (hs : s.size ≤ 1000000000000) (z : Nat) (hz : z ≤ 1) (hzs : z ≤ s.size) (k : Nat) (hk : s.size + 10 < k) : PRef.cashierref07_Numeral.j1 k s (z : Int) = some (((if runL (s.data.toList.drop z) = 0 ∨ (1 < runL (s.data.toList.drop z) ∧ s.data.toList[z]? = some 48) then 0
  else if fracL s.data.toList (z + runL (s.data.toList.drop z)) = 0 then 0 else expL s.data.toList (fracL s.data.toList (z + runL (s.data.toList.drop z)))) : Nat) : Int) := by
 obtain ⟨k, rfl⟩ : ∃ k', k = k' + 3 := ⟨k - 3, by omega⟩
 have hlen : s.data.toList.length = s.size := by simp
 rw [PRef.cashierref07_Numeral.j1, cashierref07_run_f s hs z (by omega) (k + 2) (by omega), Option.bind_some]
 obtain ⟨t, ht⟩ : ∃ t, runL (s.data.toList.drop z) = t := ⟨_, rfl⟩
 have htl : z + t ≤ s.size := by
  have := runL_le (s.data.toList.drop z)
  rw [List.length_drop, hlen] at this
  omega
 rw [ht]
 have step : PRef.cashierref07_Numeral.j2 (k + 2) s (z : Int) (t : Int) false = some (((if fracL s.data.toList (z + t) = 0 then 0 else expL s.data.toList (fracL s.data.toList (z + t))) : Nat) : Int) ∨ t = 0 := by
  by_cases ht0 : t = 0
  ·exact .inr ht0
  left
  rw [PRef.cashierref07_Numeral.j2, if_neg (by simp), w64 _ (by omega) (by omega)]
  have e : (z : Int) + (t : Int) = ((z + t : Nat) : Int) := by omega
  rw [e]
  have nz : ¬ (z + t = 0) := by omega
  by_cases hlt : z + t < s.size
  ·rw [if_pos (by omega), if_pos (by omega)]
   have e46 := bt_is s (z + t) hlt 46 (by omega)
   rw [PRef.cashierref07_Numeral.j3]
   by_cases h46 : s.data.toList[z + t]? = some 46
   ·rw [if_pos (by show (bt s ((z + t : Nat) : Int) == ((46 : Nat) : Int)) = true; rw [e46]; exact decide_eq_true h46), w64 _ (by omega) (by omega)]
    have e2 : ((z + t : Nat) : Int) + 1 = ((z + t + 1 : Nat) : Int) := by omega
    rw [e2, cashierref07_run_f s hs (z + t + 1) (by omega) k (by omega), Option.bind_some]
    obtain ⟨u, hu⟩ : ∃ u, runL (s.data.toList.drop (z + t + 1)) = u := ⟨_, rfl⟩
    have hul : z + t + 1 + u ≤ s.size := by
     have := runL_le (s.data.toList.drop (z + t + 1))
     rw [List.length_drop, hlen] at this
     omega
    rw [hu]
    have hf : fracL s.data.toList (z + t) = if u = 0 then 0 else z + t + 1 + u := by unfold fracL; rw [if_pos h46, hu]
    rw [hf]
    by_cases hu0 : u = 0
    ·rw [if_pos (by omega), if_pos hu0, if_pos rfl]; rfl
    ·rw [if_neg (by omega), if_neg hu0, if_neg (by omega)]
     rw [w64 _ (by omega) (by omega), show ((z + t + 1 : Nat) : Int) + (u : Int) = ((z + t + 1 + u : Nat) : Int) by omega]
     exact rnum_e2 s hs (z + t + 1 + u) hul k (by omega)
   ·rw [if_neg (by show ¬ (bt s ((z + t : Nat) : Int) == ((46 : Nat) : Int)) = true; rw [e46]; exact fun h => h46 (of_decide_eq_true h)), (show fracL s.data.toList (z + t) = z + t by unfold fracL; rw [if_neg h46]), if_neg nz]
    exact rnum_e2 s hs (z + t) htl k (by omega)
  ·rw [if_neg (by omega), PRef.cashierref07_Numeral.j3, if_neg (by simp), (show fracL s.data.toList (z + t) = z + t by unfold fracL; rw [at_none s (z + t) (by omega), if_neg (by simp)]), if_neg nz]
   exact rnum_e2 s hs (z + t) htl k (by omega)
 by_cases ht0 : t = 0
 ·subst ht0
  rw [if_pos (show ((0 : Nat) : Int) = 0 from rfl), if_pos (.inl rfl), PRef.cashierref07_Numeral.j2, if_pos rfl]
  rfl
 have step := step.resolve_right ht0
 rw [if_neg (by omega)]
 by_cases ht1 : 1 < t
 ·have hzl : z < s.size := by omega
  rw [if_pos (by omega), if_pos (by omega), if_pos (by omega)]
  have e48 := bt_is s z hzl 48 (by omega)
  have : (bt s (z : Int) == 48) = decide (s.data.toList[z]? = some 48) := e48
  rw [this]
  by_cases h48 : s.data.toList[z]? = some 48
  ·rw [decide_eq_true h48, if_pos (.inr ⟨ht1, h48⟩), PRef.cashierref07_Numeral.j2, if_pos rfl]
   rfl
  ·rw [decide_eq_false h48, if_neg (by rintro (h | h); exact ht0 h; exact h48 h.2)]
   exact step
 ·rw [if_neg (by omega), if_neg (by rintro (h | h); exact ht0 h; exact ht1 h.1)]
  exact step
/-- json's numeral. -/
theorem ref_num (s : ByteArray) (hs : s.size ≤ 1000000000000) (k : Nat) (hk : s.size + 12 < k) : PRef.cashierref07_Numeral.f k s = some ((numL s.data.toList : Nat) : Int) := by
 obtain ⟨k, rfl⟩ : ∃ k', k = k' + 1 := ⟨k - 1, by omega⟩
 unfold PRef.cashierref07_Numeral.f numL signL
 by_cases h0 : 0 < s.size
 ·rw [if_pos (by omega), if_pos (by omega), PRef.cashierref07_Numeral.j0]
  have : (bt s 0 == 45) = decide (s.data.toList[0]? = some 45) := bt_is s 0 h0 45 (by omega)
  rw [this]
  by_cases h : s.data.toList[0]? = some 45
  ·rw [if_pos (decide_eq_true h), if_pos h]
   exact rnum_e1 s hs 1 (Nat.le_refl _) h0 k (by omega)
  ·rw [if_neg (by rw [decide_eq_false h]; simp), if_neg h]
   exact rnum_e1 s hs 0 (by omega) (Nat.zero_le _) k (by omega)
 ·have hsg : (if s.data.toList[0]? = some 45 then 1 else 0) = 0 := by rw [at_none s 0 (by omega), if_neg (by simp)]
  rw [if_neg (by omega), PRef.cashierref07_Numeral.j0, if_neg (by simp), hsg]
  exact rnum_e1 s hs 0 (by omega) (Nat.zero_le _) k (by omega)
theorem num7_any (s : ByteArray) (hs : s.size ≤ 1000000000000) (w : World) : Calls Tryz.prog 69 #[.string s] w fun e w' => e = .returned (.int .i64 ((numL s.data.toList : Nat) : Int)) ∧ Drawn0 w w' := PRef.cashierref07_Numeral.calls (s.size + 13) s _ w (ref_num s hs (s.size + 13) (by omega))
end Go.Proofs.YtfocognhcljhpaaGreatDoor
namespace Go.Proofs.YtfocognhcljhpaaGreatDoor
set_option linter.unusedVariables false
set_option linter.unusedSimpArgs false
open Go.RowKit Go.Shelf Go.Proofs.YtfocognhcljhpaaGreatDoorW.PrintWords Go.Proofs.YtfocognhcljhpaaGreatDoorW.PrintLast Go.Proofs.YtfocognhcljhpaaGreatDoorW.PrintMore Go.Proofs.YtfocognhcljhpaaGreatDoor.PPrintRows Go.Proofs.YtfocognhcljhpaaGreatDoor.Tree
/-- The first n nodes of a row of the document's, in memory. -/
def N7 (W : World) (A : Option Addr) (l : List Node) (n : Nat) : Prop := ∀ k (hk : k < l.length), k < n → ∃ ad, A = some ad ∧ W.cell? (ad.add (k * 5)) = some (.int .i64 l[k].f0) ∧
  W.cell? ⟨(ad.add (k * 5)).block, (ad.add (k * 5)).off + 1, none⟩ = some (.string l[k].f1) ∧ W.cell? ⟨(ad.add (k * 5)).block, (ad.add (k * 5)).off + 2, none⟩ = some (.string l[k].f2) ∧
  W.cell? ⟨(ad.add (k * 5)).block, (ad.add (k * 5)).off + 3, none⟩ = some (.int .i64 l[k].f3) ∧ W.cell? ⟨(ad.add (k * 5)).block, (ad.add (k * 5)).off + 4, none⟩ = some (.int .i64 l[k].f4)
theorem N7.of {W : World} {base n c : Nat} {A : Option Addr} {l : List Node} (h : Row7 W base (.slice A n c) l) (m : Nat) : N7 W A l m := fun k hk _ => node7_at h k hk
theorem N7.below {W W1 : World} {A : Option Addr} {l : List Node} {n : Nat} (h : N7 W A l n) (hb : Below W.heap.size W W1) : N7 W1 A l n := fun k hk hn => by
 obtain ⟨ad, e, h0, h1, h2, h3, h4⟩ := h k hk hn
 exact ⟨ad, e, cellBelow hb h0, cellBelow hb h1, cellBelow hb h2, cellBelow hb h3, cellBelow hb h4⟩
theorem N7.less {W : World} {A : Option Addr} {l : List Node} {n m : Nat} (h : N7 W A l n) (hm : m ≤ n) : N7 W A l m := fun k hk hn => h k hk (by omega)
set_option maxRecDepth 100000 in
set_option maxHeartbeats 4000000 in
theorem span7_leaf (A : Option Addr) (l : List Node) (k : Int) (key text : ByteArray) (nm : Bool) (i : Nat) (p : Int) (n cap : Nat) (hi : i < l.length) (hli : l[i] = ⟨k, key, text, p, ((i + 1 : Nat) : Int)⟩) (hin : i < n) (hn : n ≤ 400000) (hk : k = 1 ∨ k = 2 ∨ k = 3 ∨ k = 5) (hkey : nm = true ∨ key = ⟨#[]⟩) (htext : k = 5 ∨ text = ⟨#[]⟩) (W : World) (hN : N7 W A l n) :
  Calls Tryz.prog 30 #[.slice A n cap, .int .i64 (i : Int), .int .i64 p, .bool nm] W fun e w' => e = .returned (.int .i64 1) ∧ Below W.heap.size W w' := by
 obtain ⟨ad, rfl, d0, d1, d2, d3, d4⟩ := hN i hi hin
 rw [hli] at d0 d1 d2 d3 d4
 dsimp only at d0 d1 d2 d3 d4
 have k1 : decide (i < n) = true := decide_eq_true hin
 have k2 : decide ((i : Int) < (n : Int)) = true := decide_eq_true (by omega)
 have k3 : decide ((n : Int) ≤ (i : Int)) = false := decide_eq_false (by omega)
 have k4 : ¬ n ≤ i := by omega
 have k5 : decide (n ≤ i) = false := decide_eq_false (by omega)
 have HB := Lib.hid (below_alloc (Below.refl W.heap.size W) (.cells #[.int .i64 k, .string key, .string text, .int .i64 p, .int .i64 ((i + 1 : Nat) : Int)] 47))
 clear hN hli
 cases nm with
 | false =>
  have hke : key = ⟨#[]⟩ := by rcases hkey with h | h <;> first | exact h | cases h
  subst hke
  rcases hk with rfl | rfl | rfl | rfl
  case inr.inr.inr =>
   go_enter Tryz.func30, Tryz.ntmps30
   go_wp2_with fail
   go_quiet (fail)
   go_wp2_with fail
   go_ret
   exact ⟨rfl, below_step HB.out ⟨rfl, rfl, rfl, Nat.le_refl _, fun _ _ => rfl⟩⟩
  all_goals
   have hte : text = ⟨#[]⟩ := by rcases htext with h | h <;> first | exact h | cases h
   subst hte
   go_enter Tryz.func30, Tryz.ntmps30
   go_wp2_with fail
   go_quiet (fail)
   go_wp2_with fail
   go_ret
   exact ⟨rfl, below_step HB.out ⟨rfl, rfl, rfl, Nat.le_refl _, fun _ _ => rfl⟩⟩
 | true =>
  rcases hk with rfl | rfl | rfl | rfl
  case inr.inr.inr =>
   go_enter Tryz.func30, Tryz.ntmps30
   go_wp2_with fail
   go_quiet (fail)
   go_wp2_with fail
   go_ret
   exact ⟨rfl, below_step HB.out ⟨rfl, rfl, rfl, Nat.le_refl _, fun _ _ => rfl⟩⟩
  all_goals
   have hte : text = ⟨#[]⟩ := by rcases htext with h | h <;> first | exact h | cases h
   subst hte
   go_enter Tryz.func30, Tryz.ntmps30
   go_wp2_with fail
   go_quiet (fail)
   go_wp2_with fail
   go_ret
   exact ⟨rfl, below_step HB.out ⟨rfl, rfl, rfl, Nat.le_refl _, fun _ _ => rfl⟩⟩
end Go.Proofs.YtfocognhcljhpaaGreatDoor
namespace Go.Proofs.YtfocognhcljhpaaGreatDoor
set_option linter.unusedVariables false
set_option linter.unusedSimpArgs false
open Go.RowKit Go.Shelf Go.Proofs.YtfocognhcljhpaaGreatDoorW.PrintWords Go.Proofs.YtfocognhcljhpaaGreatDoorW.PrintLast Go.Proofs.YtfocognhcljhpaaGreatDoorW.PrintMore Go.Proofs.YtfocognhcljhpaaGreatDoor.PPrintRows Go.Proofs.YtfocognhcljhpaaGreatDoor.Tree
attribute [local go_sem] Oper.semAt_some
set_option maxRecDepth 100000 in
set_option maxHeartbeats 4000000 in
theorem span7_num (A : Option Addr) (l : List Node) (key text : ByteArray) (nm : Bool) (i : Nat) (p : Int) (n cap : Nat) (hi : i < l.length) (hli : l[i] = ⟨4, key, text, p, ((i + 1 : Nat) : Int)⟩) (hin : i < n) (hn : n ≤ 400000) (hkey : nm = true ∨ key = ⟨#[]⟩) (htext : isNumL text = true) (hts : text.size ≤ 100000) (W : World) (hN : N7 W A l n) :
  Calls Tryz.prog 30 #[.slice A n cap, .int .i64 (i : Int), .int .i64 p, .bool nm] W fun e w' => e = .returned (.int .i64 1) ∧ Below W.heap.size W w' := by
 obtain ⟨ad, rfl, d0, d1, d2, d3, d4⟩ := hN i hi hin
 rw [hli] at d0 d1 d2 d3 d4
 dsimp only at d0 d1 d2 d3 d4
 have hnum : 0 < text.size ∧ numL text.data.toList = text.size := by
  unfold isNumL at htext
  rw [Bool.and_eq_true] at htext
  exact ⟨of_decide_eq_true htext.1, by simpa using htext.2⟩
 have k1 : decide (i < n) = true := decide_eq_true hin
 have k2 : decide ((i : Int) < (n : Int)) = true := decide_eq_true (by omega)
 have k3 : decide ((n : Int) ≤ (i : Int)) = false := decide_eq_false (by omega)
 have k4 : ¬ n ≤ i := by omega
 have k5 : decide (n ≤ i) = false := decide_eq_false (by omega)
 have NUM := Lib.hid (num7_any text (by omega))
 rw [hnum.2] at NUM
 obtain ⟨W1, hW1⟩ : ∃ W1, W.alloc (.cells #[.int .i64 4, .string key, .string text, .int .i64 p, .int .i64 ((i : Int) + 1)] 47) = W1 := ⟨_, rfl⟩
 have hb1 : Below W.heap.size W W1 := by rw [← hW1]; exact below_alloc (Below.refl _ _) _
 have hx1 : W1.heap[W.heap.size]? = some (.cells #[.int .i64 4, .string key, .string text, .int .i64 p, .int .i64 ((i : Int) + 1)] 47 (0, 0)) := by rw [← hW1]; exact blk_new _ _
 have hne : (text.size == 0) = false := by rw [beq_eq_false_iff_ne]; omega
 have hne2 : ((text.size : Int) == 0) = false := by rw [beq_eq_false_iff_ne]; omega
 have hne3 : ¬ text.size = 0 := by omega
 have HB := Lib.hid hb1
 have HX := Lib.hid hx1
 have HW1 := Lib.hid hW1
 have hgood : ∀ w, Below W1.heap.size W1 w → w.cell? ⟨W.heap.size, 0, none⟩ = some (.int .i64 4) ∧ w.cell? ⟨W.heap.size, 2, none⟩ = some (.string text) ∧ w.cell? ⟨W.heap.size, 4, none⟩ = some (.int .i64 ((i : Int) + 1)) := fun w h => by
  have hx := (h.block _ (blk_lt hx1)).trans hx1
  exact ⟨blkc hx 0 rfl, blkc hx 2 rfl, blkc hx 4 rfl⟩
 have GOOD := Lib.hid hgood
 have hmo : Tryz.prog.follows .mixedOrders = true := by kernel_rfl
 clear hN hli hnum hb1 hx1 hW1 hgood
 refine (callsIn_wide (n := 5)).1 ?_
 refine callsIn_of_wp Tryz.func30 rfl trivial ?_ rfl
 simp only [Tryz.ntmps30, List.size_toArray, List.length_cons, List.length_nil, Nat.reduceAdd, Nat.reduceSub, Array.replicate_succ, Array.replicate_zero, List.push_toArray, List.append_toArray, List.nil_append, List.cons_append]
 cases nm with
 | false =>
  have hke : key = ⟨#[]⟩ := by rcases hkey with h | h <;> first | exact h | cases h
  subst hke
  gi_wp2
  rw [HW1.out]
  refine region_g (fun w => w.cell? ⟨W.heap.size, 0, none⟩ = some (.int .i64 4) ∧ w.cell? ⟨W.heap.size, 2, none⟩ = some (.string text) ∧ w.cell? ⟨W.heap.size, 4, none⟩ = some (.int .i64 ((i : Int) + 1))) (fun _ => true) hmo ?_
  have hg0 := GOOD.out W1.drew ⟨rfl, rfl, rfl, Nat.le_refl _, fun _ _ => rfl⟩
  refine takeQ 0 (.pointer (some ⟨W.heap.size, 0, none⟩)) hg0 rfl (by kernel_rfl) ⟨fun _ => by first | rfl | (go_simp; done), .inl ⟨by kernel_rfl, fun w' hw' => by obtain ⟨z0, z1, z2⟩ := hw'; go_simp⟩⟩ ?_
  simp only [Act.put, List.setIfInBounds_toArray, List.set_cons_succ, List.set_cons_zero]
  refine takeQ 1 (.int .i64 4) hg0 rfl (by kernel_rfl) ⟨fun _ => by first | rfl | (go_simp; done), .inl ⟨by kernel_rfl, fun w' hw' => by obtain ⟨z0, z1, z2⟩ := hw'; go_simp⟩⟩ ?_
  simp only [Act.put, List.setIfInBounds_toArray, List.set_cons_succ, List.set_cons_zero]
  refine takeQ 2 (.bool true) hg0 rfl (by kernel_rfl) ⟨fun _ => by first | rfl | (go_simp; done), .inl ⟨by kernel_rfl, fun w' hw' => by obtain ⟨z0, z1, z2⟩ := hw'; go_simp⟩⟩ ?_
  simp only [Act.put, List.setIfInBounds_toArray, List.set_cons_succ, List.set_cons_zero]
  refine takeQ 3 (.bool true) hg0 rfl (by kernel_rfl) ⟨fun _ => by first | rfl | (go_simp; done), .inl ⟨by kernel_rfl, fun w' hw' => by obtain ⟨z0, z1, z2⟩ := hw'; go_simp⟩⟩ ?_
  simp only [Act.put, List.setIfInBounds_toArray, List.set_cons_succ, List.set_cons_zero]
  refine takeQ 4 (.pointer (some ⟨W.heap.size, 2, none⟩)) hg0 rfl (by kernel_rfl) ⟨fun _ => by first | rfl | (go_simp; done), .inl ⟨by kernel_rfl, fun w' hw' => by obtain ⟨z0, z1, z2⟩ := hw'; go_simp⟩⟩ ?_
  simp only [Act.put, List.setIfInBounds_toArray, List.set_cons_succ, List.set_cons_zero]
  refine takeQ 5 (.string text) hg0 rfl (by kernel_rfl) ⟨fun _ => by first | rfl | (go_simp; done), .inl ⟨by kernel_rfl, fun w' hw' => by obtain ⟨z0, z1, z2⟩ := hw'; go_simp⟩⟩ ?_
  simp only [Act.put, List.setIfInBounds_toArray, List.set_cons_succ, List.set_cons_zero]
  refine takeQ 6 (.int .i64 (text.size : Int)) hg0 rfl (by kernel_rfl) ⟨fun _ => by first | rfl | (go_simp; done), .inl ⟨by kernel_rfl, fun w' hw' => by obtain ⟨z0, z1, z2⟩ := hw'; go_simp⟩⟩ ?_
  simp only [Act.put, List.setIfInBounds_toArray, List.set_cons_succ, List.set_cons_zero]
  refine takeQ 7 (.bool false) hg0 rfl (by kernel_rfl) ⟨fun _ => by first | rfl | (go_simp; done), .inl ⟨by kernel_rfl, fun w' hw' => by obtain ⟨z0, z1, z2⟩ := hw'; go_simp⟩⟩ ?_
  simp only [Act.put, List.setIfInBounds_toArray, List.set_cons_succ, List.set_cons_zero]
  refine takeQ 8 (.bool false) hg0 rfl (by kernel_rfl) ⟨fun _ => by first | rfl | (go_simp; done), .inl ⟨by kernel_rfl, fun w' hw' => by obtain ⟨z0, z1, z2⟩ := hw'; go_simp⟩⟩ ?_
  simp only [Act.put, List.setIfInBounds_toArray, List.set_cons_succ, List.set_cons_zero]
  refine takeQ 9 (.pointer (some ⟨W.heap.size, 2, none⟩)) hg0 rfl (by kernel_rfl) ⟨fun _ => by first | rfl | (go_simp; done), .inl ⟨by kernel_rfl, fun w' hw' => by obtain ⟨z0, z1, z2⟩ := hw'; go_simp⟩⟩ ?_
  simp only [Act.put, List.setIfInBounds_toArray, List.set_cons_succ, List.set_cons_zero]
  refine takeQ 12 (.pointer (some ⟨W.heap.size, 2, none⟩)) hg0 rfl (by kernel_rfl) ⟨fun _ => by first | rfl | (go_simp; done), .inl ⟨by kernel_rfl, fun w' hw' => by obtain ⟨z0, z1, z2⟩ := hw'; go_simp⟩⟩ ?_
  simp only [Act.put, List.setIfInBounds_toArray, List.set_cons_succ, List.set_cons_zero]
  refine takeQ 10 (.string text) hg0 rfl (by kernel_rfl) ⟨fun _ => by first | rfl | (go_simp; done), .inl ⟨by kernel_rfl, fun w' hw' => by obtain ⟨z0, z1, z2⟩ := hw'; go_simp⟩⟩ ?_
  simp only [Act.put, List.setIfInBounds_toArray, List.set_cons_succ, List.set_cons_zero]
  refine takeQ 13 (.string text) hg0 rfl (by kernel_rfl) ⟨fun _ => by first | rfl | (go_simp; done), .inl ⟨by kernel_rfl, fun w' hw' => by obtain ⟨z0, z1, z2⟩ := hw'; go_simp⟩⟩ ?_
  simp only [Act.put, List.setIfInBounds_toArray, List.set_cons_succ, List.set_cons_zero]
  refine takeQ 14 (.int .i64 (text.size : Int)) hg0 rfl (by kernel_rfl) ⟨fun _ => by first | rfl | (go_simp; done), .inl ⟨by kernel_rfl, fun w' hw' => by obtain ⟨z0, z1, z2⟩ := hw'; go_simp⟩⟩ ?_
  simp only [Act.put, List.setIfInBounds_toArray, List.set_cons_succ, List.set_cons_zero]
  refine takeW 11 rfl (by kernel_rfl) (by kernel_rfl) rfl ?_
  gi_wp2_with (refine ⟨trivial, ?_⟩; gi_at_call 69; go_must (refine ((callsIn_wide (n := 4)).2 (NUM.out _)).mono ?_); rintro e' w2 ⟨rfl, hd2⟩)
  have hd3 : Below W1.heap.size W1 w2 := ⟨hd2.below.os, hd2.below.tape, hd2.below.output, hd2.below.size, hd2.below.block⟩
  have hg1 := GOOD.out w2 hd3
  have HD3 := Lib.hid hd3
  clear hd2 hd3 hg0
  refine ⟨fun _ => hg1, ?_⟩
  refine takeQ 15 (.bool false) hg1 rfl (by kernel_rfl) ⟨fun _ => by first | rfl | (go_simp; done), .inl ⟨by kernel_rfl, fun w' hw' => by obtain ⟨z0, z1, z2⟩ := hw'; go_simp⟩⟩ ?_
  simp only [Act.put, List.setIfInBounds_toArray, List.set_cons_succ, List.set_cons_zero]
  refine takeQ 16 (.bool false) hg1 rfl (by kernel_rfl) ⟨fun _ => by first | rfl | (go_simp; done), .inl ⟨by kernel_rfl, fun w' hw' => by obtain ⟨z0, z1, z2⟩ := hw'; go_simp⟩⟩ ?_
  simp only [Act.put, List.setIfInBounds_toArray, List.set_cons_succ, List.set_cons_zero]
  refine takeQ 17 (.bool false) hg1 rfl (by kernel_rfl) ⟨fun _ => by first | rfl | (go_simp; done), .inl ⟨by kernel_rfl, fun w' hw' => by obtain ⟨z0, z1, z2⟩ := hw'; go_simp⟩⟩ ?_
  simp only [Act.put, List.setIfInBounds_toArray, List.set_cons_succ, List.set_cons_zero]
  refine doneG (by kernel_rfl) ?_
  obtain ⟨z0, z1, z2⟩ := hg1
  gi_wp2
  refine bodyPost_ret (results_tmp rfl _ _ _) rfl ?_
  exact ⟨rfl, below_step HB.out HD3.out⟩
 | true =>
  gi_wp2
  rw [HW1.out]
  refine region_g (fun w => w.cell? ⟨W.heap.size, 0, none⟩ = some (.int .i64 4) ∧ w.cell? ⟨W.heap.size, 2, none⟩ = some (.string text) ∧ w.cell? ⟨W.heap.size, 4, none⟩ = some (.int .i64 ((i : Int) + 1))) (fun _ => true) hmo ?_
  have hg0 := GOOD.out W1.drew ⟨rfl, rfl, rfl, Nat.le_refl _, fun _ _ => rfl⟩
  refine takeQ 0 (.pointer (some ⟨W.heap.size, 0, none⟩)) hg0 rfl (by kernel_rfl) ⟨fun _ => by first | rfl | (go_simp; done), .inl ⟨by kernel_rfl, fun w' hw' => by obtain ⟨z0, z1, z2⟩ := hw'; go_simp⟩⟩ ?_
  simp only [Act.put, List.setIfInBounds_toArray, List.set_cons_succ, List.set_cons_zero]
  refine takeQ 1 (.int .i64 4) hg0 rfl (by kernel_rfl) ⟨fun _ => by first | rfl | (go_simp; done), .inl ⟨by kernel_rfl, fun w' hw' => by obtain ⟨z0, z1, z2⟩ := hw'; go_simp⟩⟩ ?_
  simp only [Act.put, List.setIfInBounds_toArray, List.set_cons_succ, List.set_cons_zero]
  refine takeQ 2 (.bool true) hg0 rfl (by kernel_rfl) ⟨fun _ => by first | rfl | (go_simp; done), .inl ⟨by kernel_rfl, fun w' hw' => by obtain ⟨z0, z1, z2⟩ := hw'; go_simp⟩⟩ ?_
  simp only [Act.put, List.setIfInBounds_toArray, List.set_cons_succ, List.set_cons_zero]
  refine takeQ 3 (.bool true) hg0 rfl (by kernel_rfl) ⟨fun _ => by first | rfl | (go_simp; done), .inl ⟨by kernel_rfl, fun w' hw' => by obtain ⟨z0, z1, z2⟩ := hw'; go_simp⟩⟩ ?_
  simp only [Act.put, List.setIfInBounds_toArray, List.set_cons_succ, List.set_cons_zero]
  refine takeQ 4 (.pointer (some ⟨W.heap.size, 2, none⟩)) hg0 rfl (by kernel_rfl) ⟨fun _ => by first | rfl | (go_simp; done), .inl ⟨by kernel_rfl, fun w' hw' => by obtain ⟨z0, z1, z2⟩ := hw'; go_simp⟩⟩ ?_
  simp only [Act.put, List.setIfInBounds_toArray, List.set_cons_succ, List.set_cons_zero]
  refine takeQ 5 (.string text) hg0 rfl (by kernel_rfl) ⟨fun _ => by first | rfl | (go_simp; done), .inl ⟨by kernel_rfl, fun w' hw' => by obtain ⟨z0, z1, z2⟩ := hw'; go_simp⟩⟩ ?_
  simp only [Act.put, List.setIfInBounds_toArray, List.set_cons_succ, List.set_cons_zero]
  refine takeQ 6 (.int .i64 (text.size : Int)) hg0 rfl (by kernel_rfl) ⟨fun _ => by first | rfl | (go_simp; done), .inl ⟨by kernel_rfl, fun w' hw' => by obtain ⟨z0, z1, z2⟩ := hw'; go_simp⟩⟩ ?_
  simp only [Act.put, List.setIfInBounds_toArray, List.set_cons_succ, List.set_cons_zero]
  refine takeQ 7 (.bool false) hg0 rfl (by kernel_rfl) ⟨fun _ => by first | rfl | (go_simp; done), .inl ⟨by kernel_rfl, fun w' hw' => by obtain ⟨z0, z1, z2⟩ := hw'; go_simp⟩⟩ ?_
  simp only [Act.put, List.setIfInBounds_toArray, List.set_cons_succ, List.set_cons_zero]
  refine takeQ 8 (.bool false) hg0 rfl (by kernel_rfl) ⟨fun _ => by first | rfl | (go_simp; done), .inl ⟨by kernel_rfl, fun w' hw' => by obtain ⟨z0, z1, z2⟩ := hw'; go_simp⟩⟩ ?_
  simp only [Act.put, List.setIfInBounds_toArray, List.set_cons_succ, List.set_cons_zero]
  refine takeQ 9 (.pointer (some ⟨W.heap.size, 2, none⟩)) hg0 rfl (by kernel_rfl) ⟨fun _ => by first | rfl | (go_simp; done), .inl ⟨by kernel_rfl, fun w' hw' => by obtain ⟨z0, z1, z2⟩ := hw'; go_simp⟩⟩ ?_
  simp only [Act.put, List.setIfInBounds_toArray, List.set_cons_succ, List.set_cons_zero]
  refine takeQ 12 (.pointer (some ⟨W.heap.size, 2, none⟩)) hg0 rfl (by kernel_rfl) ⟨fun _ => by first | rfl | (go_simp; done), .inl ⟨by kernel_rfl, fun w' hw' => by obtain ⟨z0, z1, z2⟩ := hw'; go_simp⟩⟩ ?_
  simp only [Act.put, List.setIfInBounds_toArray, List.set_cons_succ, List.set_cons_zero]
  refine takeQ 10 (.string text) hg0 rfl (by kernel_rfl) ⟨fun _ => by first | rfl | (go_simp; done), .inl ⟨by kernel_rfl, fun w' hw' => by obtain ⟨z0, z1, z2⟩ := hw'; go_simp⟩⟩ ?_
  simp only [Act.put, List.setIfInBounds_toArray, List.set_cons_succ, List.set_cons_zero]
  refine takeQ 13 (.string text) hg0 rfl (by kernel_rfl) ⟨fun _ => by first | rfl | (go_simp; done), .inl ⟨by kernel_rfl, fun w' hw' => by obtain ⟨z0, z1, z2⟩ := hw'; go_simp⟩⟩ ?_
  simp only [Act.put, List.setIfInBounds_toArray, List.set_cons_succ, List.set_cons_zero]
  refine takeQ 14 (.int .i64 (text.size : Int)) hg0 rfl (by kernel_rfl) ⟨fun _ => by first | rfl | (go_simp; done), .inl ⟨by kernel_rfl, fun w' hw' => by obtain ⟨z0, z1, z2⟩ := hw'; go_simp⟩⟩ ?_
  simp only [Act.put, List.setIfInBounds_toArray, List.set_cons_succ, List.set_cons_zero]
  refine takeW 11 rfl (by kernel_rfl) (by kernel_rfl) rfl ?_
  gi_wp2_with (refine ⟨trivial, ?_⟩; gi_at_call 69; go_must (refine ((callsIn_wide (n := 4)).2 (NUM.out _)).mono ?_); rintro e' w2 ⟨rfl, hd2⟩)
  have hd3 : Below W1.heap.size W1 w2 := ⟨hd2.below.os, hd2.below.tape, hd2.below.output, hd2.below.size, hd2.below.block⟩
  have hg1 := GOOD.out w2 hd3
  have HD3 := Lib.hid hd3
  clear hd2 hd3 hg0
  refine ⟨fun _ => hg1, ?_⟩
  refine takeQ 15 (.bool false) hg1 rfl (by kernel_rfl) ⟨fun _ => by first | rfl | (go_simp; done), .inl ⟨by kernel_rfl, fun w' hw' => by obtain ⟨z0, z1, z2⟩ := hw'; go_simp⟩⟩ ?_
  simp only [Act.put, List.setIfInBounds_toArray, List.set_cons_succ, List.set_cons_zero]
  refine takeQ 16 (.bool false) hg1 rfl (by kernel_rfl) ⟨fun _ => by first | rfl | (go_simp; done), .inl ⟨by kernel_rfl, fun w' hw' => by obtain ⟨z0, z1, z2⟩ := hw'; go_simp⟩⟩ ?_
  simp only [Act.put, List.setIfInBounds_toArray, List.set_cons_succ, List.set_cons_zero]
  refine takeQ 17 (.bool false) hg1 rfl (by kernel_rfl) ⟨fun _ => by first | rfl | (go_simp; done), .inl ⟨by kernel_rfl, fun w' hw' => by obtain ⟨z0, z1, z2⟩ := hw'; go_simp⟩⟩ ?_
  simp only [Act.put, List.setIfInBounds_toArray, List.set_cons_succ, List.set_cons_zero]
  refine doneG (by kernel_rfl) ?_
  obtain ⟨z0, z1, z2⟩ := hg1
  gi_wp2
  refine bodyPost_ret (results_tmp rfl _ _ _) rfl ?_
  exact ⟨rfl, below_step HB.out HD3.out⟩
end Go.Proofs.YtfocognhcljhpaaGreatDoor
namespace Go.Proofs.YtfocognhcljhpaaGreatDoor
set_option linter.unusedVariables false
set_option linter.unusedSimpArgs false
open Go.RowKit Go.Shelf Go.Proofs.YtfocognhcljhpaaGreatDoorW.PrintWords Go.Proofs.YtfocognhcljhpaaGreatDoorW.PrintLast Go.Proofs.YtfocognhcljhpaaGreatDoorW.PrintMore Go.Proofs.YtfocognhcljhpaaGreatDoor.PPrintRows Go.Proofs.YtfocognhcljhpaaGreatDoor.Tree
set_option maxRecDepth 100000 in
set_option maxHeartbeats 4000000 in
theorem span7_at (A : Option Addr) (l : List Node) (hl : l.length ≤ 400000) : ∀ (m : Nat) (s : Tr) (nm : Bool) (i : Nat) (p : Int) (r : List Node) (n cap : Nat), s.size ≤ m → s.ok isNumL nm = true → s.tx (fun b => decide (b.size ≤ 100000)) = true → p < (i : Int) → l.drop i = (s.flat p i).map toN ++ r → i + s.size ≤ n → n ≤ l.length → n ≤ cap → ∀ W, N7 W A l n →
  Calls Tryz.prog 30 #[.slice A n cap, .int .i64 (i : Int), .int .i64 p, .bool nm] W fun e w' => e = .returned (.int .i64 (s.size : Int)) ∧ Below W.heap.size W w'
 | 0, s, nm, i, p, r, n, cap, hm, _, _, _, _, _, _, _ => by have := s.size_pos; omega
 | m + 1, .mk k key text kids, nm, i, p, r, n, cap, hm, hok, htx, hp, hd, hin, hnl, hnc => by
  intro W hN
  obtain ⟨hn, hd2⟩ := drop_flat hd
  obtain ⟨hi, hli⟩ := List.getElem?_eq_some_iff.1 hn
  rw [Tr.ok, Bool.and_eq_true, Bool.and_eq_true] at hok
  rw [Tr.tx, Bool.and_eq_true, Bool.and_eq_true] at htx
  have hokn := hok.1.1
  unfold okN at hokn
  rw [Bool.and_eq_true, Bool.and_eq_true] at hokn
  obtain ⟨⟨hk17, hkey⟩, htext⟩ := hokn
  have hk17 := of_decide_eq_true hk17
  have hkey2 : nm = true ∨ key = ⟨#[]⟩ := by
   rw [Bool.or_eq_true] at hkey
   rcases hkey with h | h
   ·exact .inl h
   ·exact .inr (ba_eq h)
  rw [Tr.size] at hm hin ⊢
  by_cases h6 : k < 6
  ·have hz : kids = [] := by
    have := hok.1.2
    rw [Bool.or_eq_true] at this
    rcases this with h3 | h3
    ·have := of_decide_eq_true h3; omega
    ·cases kids with
     | nil => rfl
     | cons => cases h3
   subst hz
   rw [sizes] at hli ⊢
   by_cases h4 : k = 4
   ·subst h4
    rw [if_pos rfl] at htext
    exact span7_num A l key text nm i p n cap hi hli (by omega) (by omega) hkey2 htext (of_decide_eq_true htx.1.2) W hN
   ·rw [if_neg h4, Bool.or_eq_true] at htext
    exact span7_leaf A l k key text nm i p n cap hi hli (by omega) (by omega) (by omega) hkey2 (by
     rcases htext with h | h
     ·exact .inl (of_decide_eq_true h)
     ·exact .inr (ba_eq h)) W hN
  ·have htx0 : text = ⟨#[]⟩ := by
    rw [if_neg (by omega), Bool.or_eq_true] at htext
    rcases htext with h | h
    ·have := of_decide_eq_true h; omega
    ·exact ba_eq h
   subst htx0
   have IH := Lib.hid (span7_at A l hl m)
   obtain ⟨nmk, hnmk⟩ : ∃ b, (k == 7) = b := ⟨_, rfl⟩
   have k7 := hnmk
   rw [hnmk] at hok
   obtain ⟨e, he⟩ : ∃ e, i + 1 + sizes kids = e := ⟨_, rfl⟩
   rw [he] at hli
   obtain ⟨ad, rfl, d0, d1, d2, d3, d4⟩ := hN i hi (by omega)
   rw [hli] at d0 d1 d2 d3 d4
   dsimp only at d0 d1 d2 d3 d4
   have k1 : decide (i < n) = true := decide_eq_true (by omega)
   have k2 : decide ((i : Int) < (n : Int)) = true := decide_eq_true (by omega)
   have k3 : decide ((n : Int) ≤ (i : Int)) = false := decide_eq_false (by omega)
   have k4 : ¬ n ≤ i := by omega
   have e1 : decide (k < 1) = false := decide_eq_false (by omega)
   have e2 : decide (7 < k) = false := decide_eq_false (by omega)
   have e3 : decide (k < 6) = false := decide_eq_false h6
   have e4 : (k == 4) = false := by rw [beq_eq_false_iff_ne]; omega
   have e5 : (k != 4) = true := by rw [bne_iff_ne]; omega
   have e6 : (k != 5) = true := by rw [bne_iff_ne]; omega
   have e7 : decide ((e : Int) ≤ (i : Int)) = false := decide_eq_false (by omega)
   have e8 : decide ((n : Int) < (e : Int)) = false := decide_eq_false (by omega)
   have e9 : ¬ e ≤ i := by omega
   have e10 : ¬ n < e := by omega
   have HNN := Lib.hid (hN.less (m := e) (by omega))
   have hkx : ∀ t ∈ kids, t.ok isNumL nmk = true ∧ t.tx (fun b => decide (b.size ≤ 100000)) = true := by
    have h1 := hok.2
    have h2 := htx.2
    rw [oks_all] at h1
    rw [txs_all] at h2
    exact fun t ht => ⟨List.all_eq_true.1 h1 t ht, List.all_eq_true.1 h2 t ht⟩
   have HKX := Lib.hid hkx
   have HD2 := Lib.hid hd2
   obtain ⟨W1, hW1⟩ : ∃ W1, W.alloc (.cells #[.int .i64 k, .string key, .string ⟨#[]⟩, .int .i64 p, .int .i64 (e : Int)] 47) = W1 := ⟨_, rfl⟩
   have hb1 : Below W.heap.size W W1 := by rw [← hW1]; exact below_alloc (Below.refl _ _) _
   have hx1 : W1.heap[W.heap.size]? = some (.cells #[.int .i64 k, .string key, .string ⟨#[]⟩, .int .i64 p, .int .i64 (e : Int)] 47 (0, 0)) := by rw [← hW1]; exact blk_new _ _
   have HB1 := Lib.hid hb1
   have HX1 := Lib.hid hx1
   have HW1 := Lib.hid hW1
   have hmo : Tryz.prog.follows .mixedOrders = true := by kernel_rfl
   have hsz : 1 + sizes kids = e - i := by omega
   rw [hsz]
   have he4 : e ≤ 400000 := by omega
   have HE := Lib.hid he
   clear hN hli hn hd hd2 hok htx htext hkey hkx hb1 hx1 hW1 hnmk hsz he
   cases nm with
   | false =>
    have hke : key = ⟨#[]⟩ := by rcases hkey2 with h | h <;> first | exact h | cases h
    subst hke
    clear hkey2
    go_enter Tryz.func30, Tryz.ntmps30
    go_wp2_with fail
    go_quiet (fail)
    go_wp2_with fail
    go_loopw [10] (fun v10 wr => ∃ (ts1 ts2 : List Tr) (at_ : Nat), kids = ts1 ++ ts2 ∧ at_ = i + 1 + sizes ts1 ∧ v10 = .int .i64 (at_ : Int) ∧ wr.heap[W.heap.size]? = some (.cells #[.int .i64 k, .string ⟨#[]⟩, .string ⟨#[]⟩, .int .i64 p, .int .i64 (e : Int)] 47 (0, 0)) ∧ Below W.heap.size W wr)
     (fun v10 _ => e - (intOf v10).toNat)
    case atStart => exact ⟨[], kids, i + 1, rfl, by rw [sizes], by go_num, by rw [HW1.out]; exact HX1.out, by rw [HW1.out]; exact below_step HB1.out ⟨rfl, rfl, rfl, Nat.le_refl _, fun _ _ => rfl⟩⟩
    case round =>
     obtain ⟨ts1, ts2, at_, hts, hat, rfl, hbx, hB⟩ := hrel
     have hE := HE.out
     have c0 : wr.cell? ⟨W.heap.size, 0, none⟩ = some (.int .i64 k) := blkc hbx 0 rfl
     have c4 : wr.cell? ⟨W.heap.size, 4, none⟩ = some (.int .i64 (e : Int)) := blkc hbx 4 rfl
     have hsa : sizes kids = sizes ts1 + sizes ts2 := by rw [hts, sizes_app]
     cases ts2 with
     | nil =>
      rw [sizes] at hsa
      have hae : at_ = e := by omega
      subst hae
      have k9 : decide ((at_ : Int) < (at_ : Int)) = false := decide_eq_false (by omega)
      have HB := Lib.hid hB
      have hge : i ≤ at_ := by omega
      clear hbx hB hts hat hsa hE
      go_wp2_with fail
      go_ret
      rw [show ((at_ - i : Nat) : Int) = (at_ : Int) - (i : Int) by omega]
      exact ⟨rfl, HB.out⟩
     | cons u us =>
      rw [sizes] at hsa
      have hpos := u.size_pos
      have hlt : at_ < e := by omega
      have k9 : decide ((at_ : Int) < (e : Int)) = true := decide_eq_true (by omega)
      have hdu : ∃ r', l.drop at_ = (u.flat (i : Int) at_).map toN ++ r' := by
       have h := HD2.out
       rw [hts, flats_app, List.map_append, List.append_assoc] at h
       refine ⟨(flats (i : Int) (at_ + u.size) us).map toN ++ r, ?_⟩
       rw [hat, ← List.drop_drop, h, List.drop_left' (by rw [List.length_map, flats_len]), flats, List.map_append, List.append_assoc]
      obtain ⟨r', hdu⟩ := hdu
      obtain ⟨ho, hx⟩ := HKX.out u (by rw [hts]; simp)
      have SP := Lib.hid (fun w (h : Below W.heap.size W w) => IH.out u nmk at_ (i : Int) r' e cap (by omega) ho hx (by omega) hdu (by omega) (by omega) (by omega) w (HNN.out.below h))
      have HB := Lib.hid hB
      have HBX := Lib.hid hbx
      have HTS := Lib.hid (And.intro hts (And.intro hat hsa))
      have HLT := Lib.hid hlt
      have g3 : decide (e ≤ cap) = true := decide_eq_true (by omega)
      have g4 : e ≤ cap := by omega
      have g5 : decide ((e : Int) ≤ (cap : Int)) = true := decide_eq_true (by omega)
      obtain ⟨us_, hus⟩ : ∃ z, u.size = z := ⟨_, rfl⟩
      rw [hus] at SP hpos
      have hne : ((us_ : Int) == 0) = false := by rw [beq_eq_false_iff_ne]; omega
      have hne2 : ¬ us_ = 0 := by omega
      have HUS := Lib.hid hus
      have hbd : at_ + us_ ≤ e := by omega
      clear hbx hB hts hat hsa hdu ho hx hus hE
      go_wp2_with fail
      refine (wpIn_wide (n := 5)).1 ?_
      refine region_g (fun w => w.cell? ⟨W.heap.size, 0, none⟩ = some (.int .i64 k) ∧ w.cell? ⟨W.heap.size, 4, none⟩ = some (.int .i64 (e : Int))) (fun _ => true) hmo ?_
      have hg0 : wr.drew.cell? ⟨W.heap.size, 0, none⟩ = some (.int .i64 k) ∧ wr.drew.cell? ⟨W.heap.size, 4, none⟩ = some (.int .i64 (e : Int)) := ⟨c0, c4⟩
      refine takeQ 0 (.slice (some ad) n cap) hg0 rfl (by kernel_rfl) ⟨fun _ => by first | rfl | (go_simp; done), .inl ⟨by kernel_rfl, fun w' hw' => by obtain ⟨z0, z1⟩ := hw'; go_simp⟩⟩ ?_
      simp only [Act.put, List.setIfInBounds_toArray, List.set_cons_succ, List.set_cons_zero]
      refine takeQ 1 (.pointer (some ⟨W.heap.size, 4, none⟩)) hg0 rfl (by kernel_rfl) ⟨fun _ => by first | rfl | (go_simp; done), .inl ⟨by kernel_rfl, fun w' hw' => by obtain ⟨z0, z1⟩ := hw'; go_simp⟩⟩ ?_
      simp only [Act.put, List.setIfInBounds_toArray, List.set_cons_succ, List.set_cons_zero]
      refine takeQ 2 (.int .i64 (e : Int)) hg0 rfl (by kernel_rfl) ⟨fun _ => by first | rfl | (go_simp; done), .inl ⟨by kernel_rfl, fun w' hw' => by obtain ⟨z0, z1⟩ := hw'; go_simp⟩⟩ ?_
      simp only [Act.put, List.setIfInBounds_toArray, List.set_cons_succ, List.set_cons_zero]
      refine takeQ 3 (.slice (some ad) e cap) hg0 rfl (by kernel_rfl) ⟨fun _ => by first | rfl | (go_simp; done), .inl ⟨by kernel_rfl, fun w' hw' => by obtain ⟨z0, z1⟩ := hw'; go_simp⟩⟩ ?_
      simp only [Act.put, List.setIfInBounds_toArray, List.set_cons_succ, List.set_cons_zero]
      refine takeQ 4 (.int .i64 (at_ : Int)) hg0 rfl (by kernel_rfl) ⟨fun _ => by first | rfl | (go_simp; done), .inl ⟨by kernel_rfl, fun w' hw' => by obtain ⟨z0, z1⟩ := hw'; go_simp⟩⟩ ?_
      simp only [Act.put, List.setIfInBounds_toArray, List.set_cons_succ, List.set_cons_zero]
      refine takeQ 5 (.int .i64 (i : Int)) hg0 rfl (by kernel_rfl) ⟨fun _ => by first | rfl | (go_simp; done), .inl ⟨by kernel_rfl, fun w' hw' => by obtain ⟨z0, z1⟩ := hw'; go_simp⟩⟩ ?_
      simp only [Act.put, List.setIfInBounds_toArray, List.set_cons_succ, List.set_cons_zero]
      refine takeQ 6 (.pointer (some ⟨W.heap.size, 0, none⟩)) hg0 rfl (by kernel_rfl) ⟨fun _ => by first | rfl | (go_simp; done), .inl ⟨by kernel_rfl, fun w' hw' => by obtain ⟨z0, z1⟩ := hw'; go_simp⟩⟩ ?_
      simp only [Act.put, List.setIfInBounds_toArray, List.set_cons_succ, List.set_cons_zero]
      refine takeQ 7 (.int .i64 k) hg0 rfl (by kernel_rfl) ⟨fun _ => by first | rfl | (go_simp; done), .inl ⟨by kernel_rfl, fun w' hw' => by obtain ⟨z0, z1⟩ := hw'; go_simp⟩⟩ ?_
      simp only [Act.put, List.setIfInBounds_toArray, List.set_cons_succ, List.set_cons_zero]
      refine takeQ 8 (.bool nmk) hg0 rfl (by kernel_rfl) ⟨fun _ => by first | rfl | (go_simp; done), .inl ⟨by kernel_rfl, fun w' hw' => by obtain ⟨z0, z1⟩ := hw'; go_simp⟩⟩ ?_
      simp only [Act.put, List.setIfInBounds_toArray, List.set_cons_succ, List.set_cons_zero]
      refine takeL 9 rfl (by kernel_rfl) ?_
      gi_wp2_with (refine ⟨trivial, ?_⟩; gi_at_call 30; go_must (refine ((callsIn_wide (n := 4)).2 (SP.out wr.drew (below_step HB.out ⟨rfl, rfl, rfl, Nat.le_refl _, fun _ _ => rfl⟩))).mono ?_); rintro e' w2 ⟨rfl, hb2⟩)
      have hb3 : Below wr.heap.size wr w2 := ⟨hb2.os, hb2.tape, hb2.output, hb2.size, hb2.block⟩
      have hx2 := (hb3.block _ (blk_lt HBX.out)).trans HBX.out
      have hg1 : w2.cell? ⟨W.heap.size, 0, none⟩ = some (.int .i64 k) ∧ w2.cell? ⟨W.heap.size, 4, none⟩ = some (.int .i64 (e : Int)) := ⟨blkc hx2 0 rfl, blkc hx2 4 rfl⟩
      have HB2 := Lib.hid (And.intro hx2 (below_step HB.out hb3))
      clear hb2 hb3 hx2 hg0
      refine ⟨fun _ => hg1, ?_⟩
      refine takeL 10 rfl (by kernel_rfl) ?_
      gi_wp2
      refine ⟨by first | exact hg1 | exact fun _ => hg1, doneG (by kernel_rfl) ?_⟩
      obtain ⟨z0, z1⟩ := hg1
      go_wp2_with fail
      go_roundw
      case rel =>
       obtain ⟨h1, h2, h3⟩ := HTS.out
       have hus := HUS.out
       exact ⟨ts1 ++ [u], us, at_ + us_, by rw [h1]; simp, by rw [sizes_app, sizes, sizes]; omega, by go_num, HB2.out.1, HB2.out.2⟩
      case measure => have := HLT.out; simp [intOf]; omega
   | true =>
    clear hkey2
    go_enter Tryz.func30, Tryz.ntmps30
    go_wp2_with fail
    go_quiet (fail)
    go_wp2_with fail
    go_loopw [10] (fun v10 wr => ∃ (ts1 ts2 : List Tr) (at_ : Nat), kids = ts1 ++ ts2 ∧ at_ = i + 1 + sizes ts1 ∧ v10 = .int .i64 (at_ : Int) ∧ wr.heap[W.heap.size]? = some (.cells #[.int .i64 k, .string key, .string ⟨#[]⟩, .int .i64 p, .int .i64 (e : Int)] 47 (0, 0)) ∧ Below W.heap.size W wr)
     (fun v10 _ => e - (intOf v10).toNat)
    case atStart => exact ⟨[], kids, i + 1, rfl, by rw [sizes], by go_num, by rw [HW1.out]; exact HX1.out, by rw [HW1.out]; exact below_step HB1.out ⟨rfl, rfl, rfl, Nat.le_refl _, fun _ _ => rfl⟩⟩
    case round =>
     obtain ⟨ts1, ts2, at_, hts, hat, rfl, hbx, hB⟩ := hrel
     have hE := HE.out
     have c0 : wr.cell? ⟨W.heap.size, 0, none⟩ = some (.int .i64 k) := blkc hbx 0 rfl
     have c4 : wr.cell? ⟨W.heap.size, 4, none⟩ = some (.int .i64 (e : Int)) := blkc hbx 4 rfl
     have hsa : sizes kids = sizes ts1 + sizes ts2 := by rw [hts, sizes_app]
     cases ts2 with
     | nil =>
      rw [sizes] at hsa
      have hae : at_ = e := by omega
      subst hae
      have k9 : decide ((at_ : Int) < (at_ : Int)) = false := decide_eq_false (by omega)
      have HB := Lib.hid hB
      have hge : i ≤ at_ := by omega
      clear hbx hB hts hat hsa hE
      go_wp2_with fail
      go_ret
      rw [show ((at_ - i : Nat) : Int) = (at_ : Int) - (i : Int) by omega]
      exact ⟨rfl, HB.out⟩
     | cons u us =>
      rw [sizes] at hsa
      have hpos := u.size_pos
      have hlt : at_ < e := by omega
      have k9 : decide ((at_ : Int) < (e : Int)) = true := decide_eq_true (by omega)
      have hdu : ∃ r', l.drop at_ = (u.flat (i : Int) at_).map toN ++ r' := by
       have h := HD2.out
       rw [hts, flats_app, List.map_append, List.append_assoc] at h
       refine ⟨(flats (i : Int) (at_ + u.size) us).map toN ++ r, ?_⟩
       rw [hat, ← List.drop_drop, h, List.drop_left' (by rw [List.length_map, flats_len]), flats, List.map_append, List.append_assoc]
      obtain ⟨r', hdu⟩ := hdu
      obtain ⟨ho, hx⟩ := HKX.out u (by rw [hts]; simp)
      have SP := Lib.hid (fun w (h : Below W.heap.size W w) => IH.out u nmk at_ (i : Int) r' e cap (by omega) ho hx (by omega) hdu (by omega) (by omega) (by omega) w (HNN.out.below h))
      have HB := Lib.hid hB
      have HBX := Lib.hid hbx
      have HTS := Lib.hid (And.intro hts (And.intro hat hsa))
      have HLT := Lib.hid hlt
      have g3 : decide (e ≤ cap) = true := decide_eq_true (by omega)
      have g4 : e ≤ cap := by omega
      have g5 : decide ((e : Int) ≤ (cap : Int)) = true := decide_eq_true (by omega)
      obtain ⟨us_, hus⟩ : ∃ z, u.size = z := ⟨_, rfl⟩
      rw [hus] at SP hpos
      have hne : ((us_ : Int) == 0) = false := by rw [beq_eq_false_iff_ne]; omega
      have hne2 : ¬ us_ = 0 := by omega
      have HUS := Lib.hid hus
      have hbd : at_ + us_ ≤ e := by omega
      clear hbx hB hts hat hsa hdu ho hx hus hE
      go_wp2_with fail
      refine (wpIn_wide (n := 5)).1 ?_
      refine region_g (fun w => w.cell? ⟨W.heap.size, 0, none⟩ = some (.int .i64 k) ∧ w.cell? ⟨W.heap.size, 4, none⟩ = some (.int .i64 (e : Int))) (fun _ => true) hmo ?_
      have hg0 : wr.drew.cell? ⟨W.heap.size, 0, none⟩ = some (.int .i64 k) ∧ wr.drew.cell? ⟨W.heap.size, 4, none⟩ = some (.int .i64 (e : Int)) := ⟨c0, c4⟩
      refine takeQ 0 (.slice (some ad) n cap) hg0 rfl (by kernel_rfl) ⟨fun _ => by first | rfl | (go_simp; done), .inl ⟨by kernel_rfl, fun w' hw' => by obtain ⟨z0, z1⟩ := hw'; go_simp⟩⟩ ?_
      simp only [Act.put, List.setIfInBounds_toArray, List.set_cons_succ, List.set_cons_zero]
      refine takeQ 1 (.pointer (some ⟨W.heap.size, 4, none⟩)) hg0 rfl (by kernel_rfl) ⟨fun _ => by first | rfl | (go_simp; done), .inl ⟨by kernel_rfl, fun w' hw' => by obtain ⟨z0, z1⟩ := hw'; go_simp⟩⟩ ?_
      simp only [Act.put, List.setIfInBounds_toArray, List.set_cons_succ, List.set_cons_zero]
      refine takeQ 2 (.int .i64 (e : Int)) hg0 rfl (by kernel_rfl) ⟨fun _ => by first | rfl | (go_simp; done), .inl ⟨by kernel_rfl, fun w' hw' => by obtain ⟨z0, z1⟩ := hw'; go_simp⟩⟩ ?_
      simp only [Act.put, List.setIfInBounds_toArray, List.set_cons_succ, List.set_cons_zero]
      refine takeQ 3 (.slice (some ad) e cap) hg0 rfl (by kernel_rfl) ⟨fun _ => by first | rfl | (go_simp; done), .inl ⟨by kernel_rfl, fun w' hw' => by obtain ⟨z0, z1⟩ := hw'; go_simp⟩⟩ ?_
      simp only [Act.put, List.setIfInBounds_toArray, List.set_cons_succ, List.set_cons_zero]
      refine takeQ 4 (.int .i64 (at_ : Int)) hg0 rfl (by kernel_rfl) ⟨fun _ => by first | rfl | (go_simp; done), .inl ⟨by kernel_rfl, fun w' hw' => by obtain ⟨z0, z1⟩ := hw'; go_simp⟩⟩ ?_
      simp only [Act.put, List.setIfInBounds_toArray, List.set_cons_succ, List.set_cons_zero]
      refine takeQ 5 (.int .i64 (i : Int)) hg0 rfl (by kernel_rfl) ⟨fun _ => by first | rfl | (go_simp; done), .inl ⟨by kernel_rfl, fun w' hw' => by obtain ⟨z0, z1⟩ := hw'; go_simp⟩⟩ ?_
      simp only [Act.put, List.setIfInBounds_toArray, List.set_cons_succ, List.set_cons_zero]
      refine takeQ 6 (.pointer (some ⟨W.heap.size, 0, none⟩)) hg0 rfl (by kernel_rfl) ⟨fun _ => by first | rfl | (go_simp; done), .inl ⟨by kernel_rfl, fun w' hw' => by obtain ⟨z0, z1⟩ := hw'; go_simp⟩⟩ ?_
      simp only [Act.put, List.setIfInBounds_toArray, List.set_cons_succ, List.set_cons_zero]
      refine takeQ 7 (.int .i64 k) hg0 rfl (by kernel_rfl) ⟨fun _ => by first | rfl | (go_simp; done), .inl ⟨by kernel_rfl, fun w' hw' => by obtain ⟨z0, z1⟩ := hw'; go_simp⟩⟩ ?_
      simp only [Act.put, List.setIfInBounds_toArray, List.set_cons_succ, List.set_cons_zero]
      refine takeQ 8 (.bool nmk) hg0 rfl (by kernel_rfl) ⟨fun _ => by first | rfl | (go_simp; done), .inl ⟨by kernel_rfl, fun w' hw' => by obtain ⟨z0, z1⟩ := hw'; go_simp⟩⟩ ?_
      simp only [Act.put, List.setIfInBounds_toArray, List.set_cons_succ, List.set_cons_zero]
      refine takeL 9 rfl (by kernel_rfl) ?_
      gi_wp2_with (refine ⟨trivial, ?_⟩; gi_at_call 30; go_must (refine ((callsIn_wide (n := 4)).2 (SP.out wr.drew (below_step HB.out ⟨rfl, rfl, rfl, Nat.le_refl _, fun _ _ => rfl⟩))).mono ?_); rintro e' w2 ⟨rfl, hb2⟩)
      have hb3 : Below wr.heap.size wr w2 := ⟨hb2.os, hb2.tape, hb2.output, hb2.size, hb2.block⟩
      have hx2 := (hb3.block _ (blk_lt HBX.out)).trans HBX.out
      have hg1 : w2.cell? ⟨W.heap.size, 0, none⟩ = some (.int .i64 k) ∧ w2.cell? ⟨W.heap.size, 4, none⟩ = some (.int .i64 (e : Int)) := ⟨blkc hx2 0 rfl, blkc hx2 4 rfl⟩
      have HB2 := Lib.hid (And.intro hx2 (below_step HB.out hb3))
      clear hb2 hb3 hx2 hg0
      refine ⟨fun _ => hg1, ?_⟩
      refine takeL 10 rfl (by kernel_rfl) ?_
      gi_wp2
      refine ⟨by first | exact hg1 | exact fun _ => hg1, doneG (by kernel_rfl) ?_⟩
      obtain ⟨z0, z1⟩ := hg1
      go_wp2_with fail
      go_roundw
      case rel =>
       obtain ⟨h1, h2, h3⟩ := HTS.out
       have hus := HUS.out
       exact ⟨ts1 ++ [u], us, at_ + us_, by rw [h1]; simp, by rw [sizes_app, sizes, sizes]; omega, by go_num, HB2.out.1, HB2.out.2⟩
      case measure => have := HLT.out; simp [intOf]; omega
end Go.Proofs.YtfocognhcljhpaaGreatDoor
namespace Go.Proofs.YtfocognhcljhpaaGreatDoor
set_option linter.unusedVariables false
set_option linter.unusedSimpArgs false
open Go.RowKit Go.Shelf Go.Proofs.YtfocognhcljhpaaGreatDoorW.PrintWords Go.Proofs.YtfocognhcljhpaaGreatDoorW.PrintLast Go.Proofs.YtfocognhcljhpaaGreatDoorW.PrintMore Go.Proofs.YtfocognhcljhpaaGreatDoor.PPrintRows Go.Proofs.YtfocognhcljhpaaGreatDoor.Tree
attribute [local go_sem] Oper.semAt_some
theorem there_no (A : Option Addr) (n c : Nat) (i : Int) (h : i < 0 ∨ (n : Int) ≤ i) (w : World) : Calls Tryz.prog 68 #[.slice A n c, .int .i64 i] w fun e w' => e = .returned (.bool false) ∧ w = w' := by
 by_cases h0 : 0 ≤ i
 ·have k0 : decide (0 ≤ i) = true := decide_eq_true h0
  have k1 : decide (i < (n : Int)) = false := decide_eq_false (by omega)
  go_enter Tryz.func68, Tryz.ntmps68
  go_wp2
  go_ret
  exact ⟨rfl, rfl⟩
 ·have k0 : decide (0 ≤ i) = false := decide_eq_false h0
  go_enter Tryz.func68, Tryz.ntmps68
  go_wp2
  go_ret
  exact ⟨rfl, rfl⟩
/-- Marks of ranges over functions that a frame has gone through: each its own, none shut. -/
def MarksAt (base : Nat) (rs : List Nat) (w : World) : Prop := rs.Nodup ∧ ∀ r ∈ rs, base ≤ r ∧ w.heap[r]? = some (.deferred (some []))
def marksD (rs : List Nat) : List Deferred := rs.map fun r => { target := .collected r, args := #[] }
def txtAt (l : List Node) (j : Nat) : ByteArray := match l[j]? with | some n => n.f2 | none => ⟨#[]⟩
def getV : Option Nat → Value
 | some j => .tuple #[.int .i64 (j : Int), .bool true]
 | none => .tuple #[.int .i64 0, .bool false]
/-- A member's text. -/
def textV (l : List Node) (o : Option Nat) : Value := match o with
 | some j => if kndAt l j = 5 then .tuple #[.string (txtAt l j), .bool true] else .tuple #[.string ⟨#[]⟩, .bool false]
 | none => .tuple #[.string ⟨#[]⟩, .bool false]
end Go.Proofs.YtfocognhcljhpaaGreatDoor
namespace Go.Proofs.YtfocognhcljhpaaGreatDoor
set_option linter.unusedVariables false
set_option linter.unusedSimpArgs false
open Go.RowKit Go.Shelf Go.Proofs.YtfocognhcljhpaaGreatDoorW.PrintWords Go.Proofs.YtfocognhcljhpaaGreatDoorW.PrintLast Go.Proofs.YtfocognhcljhpaaGreatDoorW.PrintMore Go.Proofs.YtfocognhcljhpaaGreatDoor.PPrintRows Go.Proofs.YtfocognhcljhpaaGreatDoor.Tree
theorem row_no (A : Option Addr) (n c : Nat) (i : Int) (h : i < 0 ∨ (n : Int) ≤ i) (w : World) : Calls Tryz.prog 29 #[.slice A n c, .int .i64 i] w fun e w' => e = .returned (.slice none 0 0) ∧ Below w.heap.size w w' := by
 have TH := Lib.hid (fun w => there_no A n c i h w)
 go_enter Tryz.func29, Tryz.ntmps29
 go_wp2_with (go_at_call 68; go_must (refine (TH.out _).mono ?_); rintro e' w1 ⟨rfl, rfl⟩)
 go_ret
 exact ⟨rfl, Below.refl _ _⟩
/-- A row of one node, of the call's own. -/
def oneCells (k : Int) (t : ByteArray) : Obj := .cells #[.int .i64 k, .string ⟨#[]⟩, .string t, .int .i64 (-1), .int .i64 1] 48
theorem string_any (s : ByteArray) (w : World) : Calls Tryz.prog 32 #[.string s] w fun e w' => e = .returned (.slice (some ⟨w.heap.size, 0, none⟩) 1 1) ∧ w' = w.alloc (oneCells 5 s) := by
 have ONE := Lib.hid (one_any 5 s w)
 go_enter Tryz.func32, Tryz.ntmps32
 go_wp2_with (go_at_call 70; go_must (refine (ONE.out).mono ?_); rintro e' w1 ⟨rfl, rfl⟩)
 go_ret
 exact ⟨rfl, rfl⟩
theorem number_any (s : ByteArray) (w : World) : Calls Tryz.prog 33 #[.string s] w fun e w' => e = .returned (.slice (some ⟨w.heap.size, 0, none⟩) 1 1) ∧ w' = w.alloc (oneCells 4 s) := by
 have ONE := Lib.hid (one_any 4 s w)
 go_enter Tryz.func33, Tryz.ntmps33
 go_wp2_with (go_at_call 70; go_must (refine (ONE.out).mono ?_); rintro e' w1 ⟨rfl, rfl⟩)
 go_ret
 exact ⟨rfl, rfl⟩
def wordV (k : Int) : Int := if k < 1 ∨ 3 < k then 1 else k
theorem word9_any (k : Int) (w : World) : Calls Tryz.prog 31 #[.int .i64 k] w fun e w' => e = .returned (.slice (some ⟨w.heap.size, 0, none⟩) 1 1) ∧ w' = w.alloc (oneCells (wordV k) ⟨#[]⟩) := by
 by_cases h1 : k < 1
 ·have k1 : decide (k < 1) = true := decide_eq_true h1
  have ONE := Lib.hid (one_any 1 ⟨#[]⟩ w)
  have hw : wordV k = 1 := by unfold wordV; rw [if_pos (.inl h1)]
  rw [hw]
  clear h1 hw
  go_enter Tryz.func31, Tryz.ntmps31
  go_wp2_with (go_at_call 70; go_must (refine (ONE.out).mono ?_); rintro e' w1 ⟨rfl, rfl⟩)
  go_ret
  exact ⟨rfl, rfl⟩
 ·have k1 : decide (k < 1) = false := decide_eq_false h1
  by_cases h3 : 3 < k
  ·have k3 : decide (3 < k) = true := decide_eq_true h3
   have ONE := Lib.hid (one_any 1 ⟨#[]⟩ w)
   have hw : wordV k = 1 := by unfold wordV; rw [if_pos (.inr h3)]
   rw [hw]
   clear h1 h3 hw
   go_enter Tryz.func31, Tryz.ntmps31
   go_wp2_with (go_at_call 70; go_must (refine (ONE.out).mono ?_); rintro e' w1 ⟨rfl, rfl⟩)
   go_ret
   exact ⟨rfl, rfl⟩
  ·have k3 : decide (3 < k) = false := decide_eq_false h3
   have ONE := Lib.hid (one_any k ⟨#[]⟩ w)
   have hw : wordV k = k := by unfold wordV; rw [if_neg (by omega)]
   rw [hw]
   clear h1 h3 hw
   go_enter Tryz.func31, Tryz.ntmps31
   go_wp2_with (go_at_call 70; go_must (refine (ONE.out).mono ?_); rintro e' w1 ⟨rfl, rfl⟩)
   go_ret
   exact ⟨rfl, rfl⟩
end Go.Proofs.YtfocognhcljhpaaGreatDoor
namespace Go.Proofs.YtfocognhcljhpaaGreatDoor
set_option linter.unusedVariables false
set_option linter.unusedSimpArgs false
open Go.RowKit Go.Shelf Go.Proofs.YtfocognhcljhpaaGreatDoorW.PrintWords Go.Proofs.YtfocognhcljhpaaGreatDoorW.PrintLast Go.Proofs.YtfocognhcljhpaaGreatDoorW.PrintMore Go.Proofs.YtfocognhcljhpaaGreatDoor.PPrintRows Go.Proofs.YtfocognhcljhpaaGreatDoor.Tree
theorem rowT_small (t : Tr) (hs : t.size ≤ 400000) : Small (rowT t) := by
 intro n hn
 obtain ⟨j, hj, rfl⟩ := List.getElem_of_mem hn
 have h := rowT_at t j hj
 rw [rowT_len] at h hj
 omega
theorem row_T (A : Option Addr) (cap : Nat) (l : List Node) (hl : l.length ≤ 400000) (hlc : l.length ≤ cap) (hsm : Small l) (i : Nat) (s : Tr) (p : Int) (r : List Node) (h : l.drop i = (s.flat p i).map toN ++ r) (W : World) (hC : Kd.C kN W A l.length l) :
  Calls Tryz.prog 29 #[.slice A l.length cap, .int .i64 (i : Int)] W fun e' w' => ∃ v, e' = .returned v ∧ RowAt w' W.heap.size v (rowT (root0 s)) ∧ Below W.heap.size W w' := by
 obtain ⟨e1, _, _, e4⟩ := end_of s h
 have hpos := s.size_pos
 have hi : i < l.length := by omega
 have he : l[i].f4 = ((i + s.size : Nat) : Int) := by
  unfold endAt at e1
  rw [List.getElem?_eq_getElem hi] at e1
  exact e1
 have := row_any A cap l hl hlc hsm i (i + s.size) hi he (by omega) (by omega) W hC
 rw [row_root s h] at this
 exact this
theorem print8_T (A : Option Addr) (cap base : Nat) (t : Tr) (hok : t.ok isNumL false = true) (htx : t.tx (fun b => decide (b.size ≤ 100000)) = true) (hs : t.size ≤ 400000) (W : World) (hR : Row7 W base (.slice A (rowT t).length cap) (rowT t)) :
  Calls Tryz.prog 20 #[.slice A (rowT t).length cap, .int .i64 0, .bool false] W fun e w' => e = .returned (.string ⟨(prT quoteL t).toArray⟩) ∧ Below W.heap.size W w' :=
 print8_at A cap base (rowT t) (by rw [rowT_len]; exact hs) t.size t false 0 (-1) [] (Nat.le_refl _) hok htx (by omega) (rowT_drop t) W hR
def keyQ (keys : List ByteArray) (q : Nat) : ByteArray := keys.getD q ⟨#[]⟩
/-- Rows with the names that they are laid by. -/
def msK (keys : List ByteArray) (ms : List Mb) : List Mb := ms.mapIdx fun q m => (keyQ keys q, m.2)
def moK (keys : List ByteArray) (mo : List (Option Tr)) : List (ByteArray × Option Tr) := mo.mapIdx fun q o => (keyQ keys q, o)
def mo0 (mo : List (Option Tr)) : List (ByteArray × Option Tr) := mo.map fun o => (⟨#[]⟩, o)
theorem moK_snoc (keys : List ByteArray) (mo : List (Option Tr)) (o : Option Tr) : moK keys (mo ++ [o]) = moK keys mo ++ [(keyQ keys mo.length, o)] := by
 unfold moK
 rw [List.mapIdx_append]
 simp
theorem mo0_snoc (mo : List (Option Tr)) (o : Option Tr) : mo0 (mo ++ [o]) = mo0 mo ++ [(⟨#[]⟩, o)] := by unfold mo0; simp
theorem msK_take (keys : List ByteArray) (ms : List Mb) (q : Nat) (h : q < ms.length) : (msK keys ms).take (q + 1) = (msK keys ms).take q ++ [(keyQ keys q, ms[q].2)] := by
 rw [List.take_succ_eq_append_getElem (by unfold msK; simpa using h)]
 congr 2
 unfold msK
 rw [List.getElem_mapIdx]
def cntO : List (Option Tr) → Nat
 | [] => 0
 | some _ :: os => cntO os + 1
 | none :: os => cntO os
theorem kidsO_cnt : ∀ ms : List (ByteArray × Option Tr), (kidsO ms).length = cntO (ms.map (·.2))
 | [] => rfl
 | (key, some t) :: ms => by rw [kidsO, List.length_cons, kidsO_cnt ms]; rfl
 | (key, none) :: ms => by rw [kidsO, kidsO_cnt ms]; rfl
theorem kids_len (keys : List ByteArray) (mo : List (Option Tr)) : (kidsO (moK keys mo)).length = (kidsO (mo0 mo)).length := by
 rw [kidsO_cnt, kidsO_cnt]
 congr 1
 unfold moK mo0
 apply List.ext_getElem?
 intro q
 rw [List.getElem?_map, List.getElem?_map, List.getElem?_mapIdx, List.getElem?_map]
 cases mo[q]? <;> rfl
theorem tx_more (t : Tr) (a b : Nat) (h : a ≤ b) (ht : t.tx (fun x => decide (x.size ≤ a)) = true) : t.tx (fun x => decide (x.size ≤ b)) = true := by
 rw [← flat_tx _ t (-1) 0, List.all_eq_true] at ht ⊢
 intro n hn
 have := ht n hn
 rw [Bool.and_eq_true] at this ⊢
 exact ⟨decide_eq_true (Nat.le_trans (of_decide_eq_true this.1) h), decide_eq_true (Nat.le_trans (of_decide_eq_true this.2) h)⟩
theorem kidsO_small : ∀ X : List (ByteArray × Option Tr), (∀ x ∈ X, x.1.size ≤ 100000 ∧ ∀ t, x.2 = some t → t.tx (fun b => decide (b.size ≤ 100000)) = true ∧ t.size ≤ 100) → txs (fun b => decide (b.size ≤ 100000)) (kidsO X) = true ∧ sizes (kidsO X) ≤ 100 * X.length
 | [], _ => by rw [kidsO, txs, sizes]; exact ⟨rfl, by simp⟩
 | (key, some t) :: X, h => by
  obtain ⟨h1, h2⟩ := kidsO_small X (fun x hx => h x (by simp [hx]))
  obtain ⟨h3, h4⟩ := h (key, some t) (by simp)
  obtain ⟨h5, h6⟩ := h4 t rfl
  rw [kidsO, txs, sizes, keyed_size, Bool.and_eq_true, List.length_cons]
  exact ⟨⟨keyed_tx _ key (decide_eq_true h3) t h5, h1⟩, by omega⟩
 | (key, none) :: X, h => by
  obtain ⟨h1, h2⟩ := kidsO_small X (fun x hx => h x (by simp [hx]))
  rw [kidsO, List.length_cons]
  exact ⟨h1, by omega⟩
/-- What is known of the rows that have been gone through. -/
def GoodRows (keys : List ByteArray) (ms : List Mb) (mo : List (Option Tr)) : Prop :=
 mo.length ≤ ms.length ∧ ∀ (j : Nat) m o, ms[j]? = some m → mo[j]? = some o → m.2.2 = optRow o ∧ (keyQ keys j).size ≤ 100 ∧ ∀ t, o = some t → TreeOk t ∧ t.size ≤ 100 ∧ t.tx (fun b => decide (b.size ≤ 200)) = true
theorem good_mo {keys : List ByteArray} {ms : List Mb} {mo : List (Option Tr)} (h : GoodRows keys ms mo) (h5 : ms.length ≤ 5) (X : List (ByteArray × Option Tr)) (hX : X = mo0 mo ∨ X = moK keys mo) : txs (fun b => decide (b.size ≤ 100000)) (kidsO X) = true ∧ sizes (kidsO X) ≤ 500 := by
 obtain ⟨hl, h⟩ := h
 have key : ∀ x ∈ X, x.1.size ≤ 100000 ∧ ∀ t, x.2 = some t → t.tx (fun b => decide (b.size ≤ 100000)) = true ∧ t.size ≤ 100 := by
  intro x hx
  obtain ⟨q, hq⟩ := List.mem_iff_getElem?.1 hx
  have hm : ∃ o, mo[q]? = some o ∧ x.2 = o ∧ (x.1 = ⟨#[]⟩ ∨ x.1 = keyQ keys q) := by
   rcases hX with rfl | rfl
   ·unfold mo0 at hq
    rw [List.getElem?_map] at hq
    cases ho : mo[q]? with
    | none => rw [ho] at hq; cases hq
    | some o => rw [ho] at hq; cases hq; exact ⟨o, rfl, rfl, .inl rfl⟩
   ·unfold moK at hq
    rw [List.getElem?_mapIdx] at hq
    cases ho : mo[q]? with
    | none => rw [ho] at hq; cases hq
    | some o => rw [ho] at hq; cases hq; exact ⟨o, rfl, rfl, .inr rfl⟩
  obtain ⟨o, ho, hx2, hx1⟩ := hm
  have hql : q < ms.length := Nat.lt_of_lt_of_le (List.getElem?_eq_some_iff.1 ho).1 hl
  obtain ⟨h1, h2, h3⟩ := h q ms[q] o (List.getElem?_eq_getElem hql) ho
  refine ⟨?_, fun t ht => ?_⟩
  ·rcases hx1 with e | e
   ·rw [e]; exact Nat.zero_le _
   ·rw [e]; omega
  ·obtain ⟨_, h5, h6⟩ := h3 t (by rw [← hx2]; exact ht)
   exact ⟨tx_more t 200 100000 (by omega) h6, h5⟩
 obtain ⟨h1, h2⟩ := kidsO_small X key
 have hlen : X.length = mo.length := by rcases hX with rfl | rfl <;> simp [mo0, moK]
 exact ⟨h1, by omega⟩
theorem good_snoc {keys : List ByteArray} {ms : List Mb} {mo : List (Option Tr)} (h : GoodRows keys ms mo) (m : Mb) (o : Option Tr) (hm : ms[mo.length]? = some m) (hr : m.2.2 = optRow o) (hk : (keyQ keys mo.length).size ≤ 100) (ht : ∀ t, o = some t → TreeOk t ∧ t.size ≤ 100 ∧ t.tx (fun b => decide (b.size ≤ 200)) = true) : GoodRows keys ms (mo ++ [o]) := by
 obtain ⟨hl, h⟩ := h
 have hlt := (List.getElem?_eq_some_iff.1 hm).1
 refine ⟨by simp; omega, fun j m' o' hm' ho' => ?_⟩
 rcases Nat.lt_trichotomy j mo.length with hj | hj | hj
 ·rw [List.getElem?_append_left hj] at ho'
  exact h j m' o' hm' ho'
 ·subst hj
  rw [hm] at hm'
  cases hm'
  rw [List.getElem?_append_right (Nat.le_refl _), Nat.sub_self] at ho'
  cases ho'
  exact ⟨hr, hk, ht⟩
 ·have := (List.getElem?_eq_some_iff.1 ho').1
  simp at this
  omega
mutual
/-- At each place of a tree's row there is a tree that is as sound. -/
theorem subk_at {l : List Node} (P : ByteArray → Bool) : ∀ (t : Tr) (nm : Bool) (p : Int) (a : Nat) (r : List Node), t.ok isNumL nm = true → t.tx P = true → l.drop a = (t.flat p a).map toN ++ r → p < (a : Int) → ∀ i, a ≤ i → i < a + t.size → ∃ (s : Tr) (nm' : Bool) (q : Int) (r' : List Node), l.drop i = (s.flat q i).map toN ++ r' ∧ q < (i : Int) ∧ i + s.size ≤ a + t.size ∧ s.ok isNumL nm' = true ∧ s.tx P = true
 | .mk k key text kids, nm, p, a, r, ho, ht, h, hp, i, h1, h2 => by
  by_cases e : i = a
  ·subst e
   exact ⟨_, nm, p, r, h, hp, Nat.le_refl _, ho, ht⟩
  ·obtain ⟨_, h3⟩ := drop_flat h
   rw [Tr.size] at h2 ⊢
   rw [Tr.ok, Bool.and_eq_true] at ho
   rw [Tr.tx, Bool.and_eq_true] at ht
   obtain ⟨s, nm', q, r', h4, h5, h6, h7⟩ := subks_at P kids (k == 7) (a : Int) (a + 1) r ho.2 ht.2 h3 (by omega) i (by omega) (by omega)
   exact ⟨s, nm', q, r', h4, h5, by omega, h7⟩
theorem subks_at {l : List Node} (P : ByteArray → Bool) : ∀ (ts : List Tr) (nm : Bool) (p : Int) (a : Nat) (r : List Node), oks isNumL nm ts = true → txs P ts = true → l.drop a = (flats p a ts).map toN ++ r → p < (a : Int) → ∀ i, a ≤ i → i < a + sizes ts → ∃ (s : Tr) (nm' : Bool) (q : Int) (r' : List Node), l.drop i = (s.flat q i).map toN ++ r' ∧ q < (i : Int) ∧ i + s.size ≤ a + sizes ts ∧ s.ok isNumL nm' = true ∧ s.tx P = true
 | [], nm, p, a, r, _, _, _, _, i, h1, h2 => by rw [sizes] at h2; omega
 | t :: ts, nm, p, a, r, ho, ht, h, hp, i, h1, h2 => by
  rw [flats, List.map_append, List.append_assoc] at h
  rw [oks, Bool.and_eq_true] at ho
  rw [txs, Bool.and_eq_true] at ht
  rw [sizes] at h2 ⊢
  by_cases e : i < a + t.size
  ·obtain ⟨s, nm', q, r', h4, h5, h6, h7⟩ := subk_at P t nm p a _ ho.1 ht.1 h hp i h1 e
   exact ⟨s, nm', q, r', h4, h5, by omega, h7⟩
  ·have h3 : l.drop (a + t.size) = (flats p (a + t.size) ts).map toN ++ r := by rw [← List.drop_drop, h, List.drop_left' (by rw [List.length_map, Tr.flat_len])]
   obtain ⟨s, nm', q, r', h4, h5, h6, h7⟩ := subks_at P ts nm p (a + t.size) r ho.2 ht.2 h3 (by omega) i (by omega) (by omega)
   exact ⟨s, nm', q, r', h4, h5, by omega, h7⟩
end
theorem root0_pr (Q : Bs → Bs) (t : Tr) : prT Q (root0 t) = prT Q t := by cases t; rw [root0, prT, prT]
theorem sumL_le : ∀ ms : List Mb, (∀ m ∈ ms, m.2.2.length ≤ 100) → sumL ms ≤ 100 * ms.length
 | [], _ => by simp [sumL]
 | m :: ms, h => by
  have h1 := sumL_le ms (fun x hx => h x (by simp [hx]))
  have h2 := h m (by simp)
  unfold sumL at h1 ⊢
  rw [List.map_cons, List.sum_cons, List.length_cons]
  omega
theorem msK_get (keys : List ByteArray) (ms : List Mb) (q : Nat) : (msK keys ms)[q]? = (ms[q]?).map fun m => (keyQ keys q, m.2) := by
 unfold msK
 rw [List.getElem?_mapIdx]
theorem msK_mem {keys : List ByteArray} {ms : List Mb} {x : Mb} (h : x ∈ msK keys ms) : ∃ m ∈ ms, x.2 = m.2 := by
 obtain ⟨q, hq⟩ := List.mem_iff_getElem?.1 h
 rw [msK_get] at hq
 cases hm : ms[q]? with
 | none => rw [hm] at hq; cases hq
 | some m => rw [hm] at hq; cases hq; exact ⟨m, List.mem_of_getElem? hm, rfl⟩
theorem msK_length (keys : List ByteArray) (ms : List Mb) : (msK keys ms).length = ms.length := by unfold msK; simp
theorem kidsO_ok (nm : Bool) : ∀ X : List (ByteArray × Option Tr), (∀ x ∈ X, (nm = true ∨ x.1 = ⟨#[]⟩) ∧ ∀ t, x.2 = some t → t.ok isNumL false = true) → oks isNumL nm (kidsO X) = true
 | [], _ => by rw [kidsO, oks]
 | (key, some t) :: X, h => by
  obtain ⟨h1, h2⟩ := h (key, some t) (by simp)
  rw [kidsO, oks, Bool.and_eq_true]
  exact ⟨keyed_ok false nm key t (h2 t rfl) h1, kidsO_ok nm X fun x hx => h x (by simp [hx])⟩
 | (key, none) :: X, h => by
  rw [kidsO]
  exact kidsO_ok nm X fun x hx => h x (by simp [hx])
/-- All rows have been gone through: what the two values laid of them are. -/
structure LaidOk (k : Int) (L : List Mb) (T : Tr) (o : ByteArray) : Prop where
 row : allV k L = rowT T
 sum : sumL L ≤ 500
 ok : T.ok isNumL false = true
 tx : T.tx (fun b => decide (b.size ≤ 100000)) = true
 size : T.size ≤ 501
 pr : prT quoteL T = opn k ++ o.data.toList ++ cls k
theorem laid_ok {keys : List ByteArray} {ms : List Mb} {mo : List (Option Tr)} (h : GoodRows keys ms mo) (h5 : ms.length ≤ 5) (hl : mo.length = ms.length) (h0 : ∀ m ∈ ms, m.1 = ⟨#[]⟩) (k : Int) (hk : k = 6 ∨ k = 7) (L : List Mb) (X : List (ByteArray × Option Tr)) (hLX : (k = 6 ∧ L = ms ∧ X = mo0 mo) ∨ (k = 7 ∧ L = msK keys ms ∧ X = moK keys mo)) (o : ByteArray) (ho : o.data.toList = prK quoteL (k == 7) true (kidsO X)) :
  LaidOk k L (.mk k ⟨#[]⟩ ⟨#[]⟩ (kidsO X)) o := by
 have hX : X = mo0 mo ∨ X = moK keys mo := by rcases hLX with ⟨_, _, e⟩ | ⟨_, _, e⟩ <;> simp [e]
 obtain ⟨g1, g2⟩ := good_mo h h5 X hX
 have hget : ∀ q : Nat, (ms[q]? = none ∧ mo[q]? = none) ∨ ∃ (m : Mb) (o : Option Tr), ms[q]? = some m ∧ mo[q]? = some o ∧ m.2.2 = optRow o ∧ ∀ t, o = some t → TreeOk t ∧ t.size ≤ 100 := by
  intro q
  rcases Nat.lt_or_ge q ms.length with hq | hq
  ·obtain ⟨a1, _, a3⟩ := h.2 q ms[q] mo[q] (List.getElem?_eq_getElem hq) (List.getElem?_eq_getElem (by omega))
   exact .inr ⟨_, _, List.getElem?_eq_getElem hq, List.getElem?_eq_getElem (by omega), a1, fun t ht => ⟨(a3 t ht).1, (a3 t ht).2.1⟩⟩
  ·exact .inl ⟨List.getElem?_eq_none hq, List.getElem?_eq_none (by omega)⟩
 have hrow : L.map prM = X.map fun m => (m.1, optRow m.2) := by
  apply List.ext_getElem?
  intro q
  rw [List.getElem?_map, List.getElem?_map]
  rcases hLX with ⟨_, rfl, rfl⟩ | ⟨_, rfl, rfl⟩
  ·unfold mo0
   rw [List.getElem?_map]
   rcases hget q with ⟨e1, e2⟩ | ⟨m, o', e1, e2, e3, _⟩
   ·rw [e1, e2]; rfl
   ·rw [e1, e2]
    show some (m.1, m.2.2) = some (_, optRow o')
    rw [e3, h0 m (List.mem_of_getElem? e1)]
  ·rw [msK_get]
   unfold moK
   rw [List.getElem?_mapIdx]
   rcases hget q with ⟨e1, e2⟩ | ⟨m, o', e1, e2, e3, _⟩
   ·rw [e1, e2]; rfl
   ·rw [e1, e2]
    show some (keyQ keys q, m.2.2) = some (keyQ keys q, optRow o')
    rw [e3]
 have hml : ∀ m ∈ ms, m.2.2.length ≤ 100 := by
  intro m hm
  obtain ⟨q, hq⟩ := List.mem_iff_getElem?.1 hm
  rcases hget q with ⟨e1, _⟩ | ⟨m', o', e1, e2, e3, e4⟩
  ·rw [hq] at e1; cases e1
  ·rw [hq] at e1
   cases e1
   rw [e3]
   cases o' with
   | none => simp [optRow]
   | some t => rw [optRow, rowT_len]; exact (e4 t rfl).2
 have hsum : sumL L ≤ 500 := by
  rcases hLX with ⟨_, rfl, _⟩ | ⟨_, rfl, _⟩
  ·have := sumL_le L hml; omega
  ·have h1 := sumL_le (msK keys ms) (fun x hx => by obtain ⟨m, hm, e⟩ := msK_mem hx; rw [e]; exact hml m hm)
   rw [msK_length] at h1
   omega
 have hoks : oks isNumL (k == 7) (kidsO X) = true := kidsO_ok _ X fun x hx => by
  obtain ⟨q, hq⟩ := List.mem_iff_getElem?.1 hx
  rcases hLX with ⟨rfl, _, rfl⟩ | ⟨rfl, _, rfl⟩
  ·unfold mo0 at hq
   rw [List.getElem?_map] at hq
   rcases hget q with ⟨e1, e2⟩ | ⟨m, o', e1, e2, e3, e4⟩
   ·rw [e2] at hq; cases hq
   ·rw [e2] at hq; cases hq; exact ⟨.inr rfl, fun t ht => (e4 t ht).1.ok⟩
  ·unfold moK at hq
   rw [List.getElem?_mapIdx] at hq
   rcases hget q with ⟨e1, e2⟩ | ⟨m, o', e1, e2, e3, e4⟩
   ·rw [e2] at hq; cases hq
   ·rw [e2] at hq; cases hq; exact ⟨.inl rfl, fun t ht => (e4 t ht).1.ok⟩
 refine ⟨allV_T k L X hrow, hsum, ?_, ?_, ?_, ?_⟩
 ·rw [Tr.ok, hoks]
  rcases hk with rfl | rfl <;> rfl
 ·rw [Tr.tx, g1]
  rfl
 ·rw [Tr.size]; omega
 ·rw [prT, if_pos (by omega), ho]
theorem kids_sizes : ∀ X Y : List (ByteArray × Option Tr), X.map (·.2) = Y.map (·.2) → sizes (kidsO X) = sizes (kidsO Y)
 | [], [], _ => rfl
 | [], _ :: _, h => by simp at h
 | _ :: _, [], h => by simp at h
 | (a, none) :: X, (b, o) :: Y, h => by
  rw [List.map_cons, List.map_cons] at h
  injection h with h1 h2
  dsimp only at h1
  subst h1
  rw [kidsO, kidsO]
  exact kids_sizes X Y h2
 | (a, some t) :: X, (b, o) :: Y, h => by
  rw [List.map_cons, List.map_cons] at h
  injection h with h1 h2
  dsimp only at h1
  subst h1
  rw [kidsO, kidsO, sizes, sizes, keyed_size, keyed_size, kids_sizes X Y h2]
theorem mo_sizes (keys : List ByteArray) (mo : List (Option Tr)) : sizes (kidsO (mo0 mo)) = sizes (kidsO (moK keys mo)) := kids_sizes _ _ (by
 unfold moK mo0
 apply List.ext_getElem?
 intro q
 rw [List.getElem?_map, List.getElem?_map, List.getElem?_map, List.getElem?_mapIdx]
 cases mo[q]? <;> rfl)
theorem small_good {keys : List ByteArray} {ms : List Mb} {mo : List (Option Tr)} (h : GoodRows keys ms mo) (hl : mo.length = ms.length) : ∀ m ∈ ms, Small m.2.2 := fun m hm => by
 obtain ⟨q, hq⟩ := List.mem_iff_getElem?.1 hm
 have hql := (List.getElem?_eq_some_iff.1 hq).1
 obtain ⟨a1, _, a3⟩ := h.2 q m mo[q] hq (List.getElem?_eq_getElem (by omega))
 rw [a1]
 cases ho : mo[q]'(by omega) with
 | none => intro n hn; cases hn
 | some t => exact rowT_small t (by have := (a3 t ho).2.1; omega)
theorem rown_of {w : World} {base : Nat} {v : Value} {l : List Node} {n : Nat} (h : RowAt w base v l) (hl : l.length = n) (hn : n ≤ 900000) : ∃ A c, v = .slice A n c ∧ n ≤ c ∧ Kd.C kN w A n l := by
 subst hl
 obtain ⟨A, c, rfl, hc⟩ := h.slice
 exact ⟨A, c, rfl, hc, h.C hn⟩
theorem to_n {n : Nat} (A : Option Addr) (c : Nat) {l : List Node} (hl : l.length = n) (hn : n ≤ 400000) (W : World) (hC : Kd.C kN W A n l) :
  Calls Tryz.prog 18 #[.slice A n c] W fun e w' => ∃ A8 c8, e = .returned (.slice A8 n c8) ∧ n ≤ c8 ∧ Row7 w' W.heap.size (.slice A8 n c8) l ∧ Below W.heap.size W w' := by
 subst hl
 refine (to_any A c l hn W hC).mono ?_
 rintro e w' ⟨v, rfl, hR, hb⟩
 obtain ⟨A8, c8, rfl, hc⟩ := hR.slice
 exact ⟨A8, c8, rfl, hc, hR, hb⟩
theorem print_n {n : Nat} {T : Tr} {l : List Node} {o : ByteArray} (hlt : rowT T = l) (hl : l.length = n) (hn : n ≤ 400000) (hok : T.ok isNumL false = true) (htx : T.tx (fun b => decide (b.size ≤ 100000)) = true) (ho : (⟨(prT quoteL T).toArray⟩ : ByteArray) = o) (A : Option Addr) (c base : Nat) (W : World) (hR : Row7 W base (.slice A n c) l) :
  Calls Tryz.prog 20 #[.slice A n c, .int .i64 0, .bool false] W fun e w' => e = .returned (.string o) ∧ Below W.heap.size W w' := by
 subst hl
 subst hlt
 rw [← ho]
 exact print8_T A c base T hok htx (by rw [rowT_len] at hn; exact hn) W hR
theorem span_n {n : Nat} {T : Tr} {l : List Node} (hlt : rowT T = l) (hl : l.length = n) (hn : n ≤ 400000) (hok : T.ok isNumL false = true) (htx : T.tx (fun b => decide (b.size ≤ 100000)) = true) (A : Option Addr) (c base : Nat) (hc : n ≤ c) (W : World) (hR : Row7 W base (.slice A n c) l) :
  Calls Tryz.prog 30 #[.slice A n c, .int .i64 0, .int .i64 (-1), .bool false] W fun e w' => e = .returned (.int .i64 (n : Int)) ∧ Below W.heap.size W w' := by
 subst hl
 subst hlt
 have h := span7_at A (rowT T) hn T.size T false 0 (-1) [] (rowT T).length c (Nat.le_refl _) hok htx (by omega) (rowT_drop T) (by rw [rowT_len]; omega) (Nat.le_refl _) hc W (N7.of hR _)
 rw [rowT_len] at h ⊢
 exact h
theorem mb_ok {W w : World} {m : Mb} (hb : Below W.heap.size W w) (hC : Kd.C kN W m.2.1.1 m.2.2.length m.2.2) (hc : m.2.2.length ≤ m.2.1.2) (hs : Small m.2.2) (hw : W.heap.size ≤ w.heap.size) : MbOk w.heap.size w m := by
 refine ⟨Kd.C_below hC hb, hc, hs, fun a ha hp => ?_⟩
 obtain ⟨ad, e, z0, _⟩ := node_at hC 0 hp
 rw [ha] at e
 cases e
 have h1 := World.block_lt_of_cell? W _ z0
 have hb : (a.add (0 * 5)).block = a.block := by unfold Addr.add; split <;> rfl
 omega
end Go.Proofs.YtfocognhcljhpaaGreatDoor
