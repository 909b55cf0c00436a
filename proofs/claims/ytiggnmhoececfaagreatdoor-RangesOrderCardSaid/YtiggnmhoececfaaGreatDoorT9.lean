/- Texts taken together: RefT, RefF, RefC, RTurn. -/
import Derived.Test.YtiggnmhoececfaaGreatDoorT6
import Derived.Test.YtiggnmhoececfaaGreatDoorT7
import Derived.Test.YtiggnmhoececfaaGreatDoorT8

namespace Go.Proofs.YtiggnmhoececfaaGreatDoor
set_option linter.unusedVariables false
set_option linter.unusedSimpArgs false
open Go.RowKit Go.Proofs.YtiggnmhoececfaaGreatDoorW.PrintWords Go.Proofs.YtiggnmhoececfaaGreatDoorW.PrintLast Go.Proofs.YtiggnmhoececfaaGreatDoorW.PrintMore
open PRef PRangesTurn

def toS (r : Rng) : S29 := ⟨r.f, r.t, r.n, r.lo, r.hi, r.m⟩

theorem rdS (L : List Rng) (i : Nat) (h : i < L.length) : rd_T29 (L.map toS) (i : Int) = toS L[i] := by
  unfold rd_T29
  rw [List.getD_eq_getElem?_getD, Int.toNat_natCast, List.getElem?_map, List.getElem?_eq_getElem h]
  rfl

theorem VR.num (r : Rng) (h : VR r) : isNum r.f.data.toList = true ∧ isNum r.t.data.toList = true ∧ r.f.size ≤ 19 ∧ r.t.size ≤ 19 ∧ r.f.size = r.t.size := by
  have h1 := h.f
  have h2 := h.t
  simp only [cardOk, Bool.and_eq_true, decide_eq_true_eq] at h1 h2
  exact ⟨h1.1.1, h2.1.1, h1.2, h2.2, h.s⟩

theorem ord_klt (a b : ByteArray) (h : a.size = b.size) : decide (ord3 a.data.toList b.data.toList < 0) = klt a b := by
  rw [ord3_lt, klt_is, decide_eq_false (by omega : ¬ a.size < b.size), decide_eq_true h]
  simp

theorem apart_f (x r : Rng) (hx : VR x) (hr : VR r) (k : Nat) (hk : 100 < k) :
    cashierref18_apart.f k x.f x.t x.n x.lo x.hi x.m r.f r.t r.n r.lo r.hi r.m = some (klt x.t r.f || klt r.t x.f) := by
  obtain ⟨a1, a2, a3, a4, a5⟩ := hx.num
  obtain ⟨b1, b2, b3, b4, b5⟩ := hr.num
  unfold cashierref18_apart.f
  by_cases hs : x.f.size = r.f.size
  · rw [if_pos (by omega), ref_cmp3 x.t r.f a2 b1 (by omega) k (by omega), ref_cmp3 r.t x.f b2 a1 (by omega) k (by omega)]
    simp only [Option.bind_some]
    rw [← ord_klt x.t r.f (by omega), ← ord_klt r.t x.f (by omega)]
    by_cases h1 : ord3 x.t.data.toList r.f.data.toList < 0
    · rw [if_pos h1, decide_eq_true h1]; rfl
    · rw [if_neg h1, decide_eq_false h1]; rfl
  · rw [if_neg (by omega)]
    rcases Nat.lt_or_ge x.f.size r.f.size with h | h
    · rw [(klt_cases x.t r.f).2 (.inl (by omega))]; rfl
    · rw [(klt_cases r.t x.f).2 (.inl (by omega)), Bool.or_true]

theorem before_f (r x : Rng) (hr : VR r) (hx : VR x) (k : Nat) (hk : 100 < k) :
    cashierref18_before.f k r.f r.t r.n r.lo r.hi r.m x.f x.t x.n x.lo x.hi x.m = some (klt r.f x.f) := by
  obtain ⟨a1, a2, a3, a4, a5⟩ := hx.num
  obtain ⟨b1, b2, b3, b4, b5⟩ := hr.num
  unfold cashierref18_before.f
  by_cases hs : r.f.size = x.f.size
  · rw [if_pos (by omega), ref_cmp3 r.f x.f b1 a1 (by omega) k (by omega)]
    simp only [Option.bind_some]
    rw [ord_klt r.f x.f hs]
  · rw [if_neg (by omega), klt_is, decide_eq_false hs]
    congr 1
    simp

/-- The list with a range laid in. -/
def insL : List Rng → Rng → List Rng
  | [], r => [r]
  | x :: l, r => if klt r.f x.f = true then r :: x :: l else x :: insL l r
def apartB (x r : Rng) : Bool := klt x.t r.f || klt r.t x.f

theorem add_l0 (L : List Rng) (hL : ∀ x ∈ L, VR x) (r : Rng) (hr : VR r) (hl : L.length ≤ 1000) : ∀ (k i : Nat) (out : List (S29)) (done : Bool), i ≤ L.length → L.length - i + 200 < k → out.length ≤ i + done.toNat →
    cashierref18_Add.l0 k out done (L.map toS) (L.length : Int) (i : Int) r.f r.t r.n r.lo r.hi r.m =
      some (if (L.drop i).all (fun x => apartB x r) = true then (out ++ (if done = true then L.drop i else insL (L.drop i) r).map toS, 0) else ([], 17)) := by
  intro k
  induction k with
  | zero => intro i out done h1 h2; omega
  | succ k ih =>
    intro i out done h1 h2 h3
    unfold cashierref18_Add.l0
    by_cases hi : i < L.length
    · have hx := hL L[i] (List.getElem_mem hi)
      rw [if_pos (by omega), if_pos (by omega), if_pos (by rw [List.length_map]; omega), rdS L i hi]
      have e1 : cashierref18_apart.f k (toS L[i]).f0 (toS L[i]).f1 (toS L[i]).f2 (toS L[i]).f3 (toS L[i]).f4 (toS L[i]).f5 r.f r.t r.n r.lo r.hi r.m = some (klt L[i].t r.f || klt r.t L[i].f) := apart_f L[i] r hx hr k (by omega)
      have e2 : cashierref18_before.f k r.f r.t r.n r.lo r.hi r.m (toS L[i]).f0 (toS L[i]).f1 (toS L[i]).f2 (toS L[i]).f3 (toS L[i]).f4 (toS L[i]).f5 = some (klt r.f L[i].f) := before_f r L[i] hr hx k (by omega)
      rw [e1, e2]
      simp only [Option.bind_some]
      have hd : L.drop i = L[i] :: L.drop (i + 1) := List.drop_eq_getElem_cons hi
      rw [hd, List.all_cons, show apartB L[i] r = (klt L[i].t r.f || klt r.t L[i].f) from rfl]
      have hw : wrap64 ((i : Int) + 1) = ((i + 1 : Nat) : Int) := by rw [wrap64_of (by omega) (by omega)]; omega
      have hlen : out.length < 1599289640401 := by have : done.toNat ≤ 1 := Bool.toNat_le done; omega
      cases hap : (klt L[i].t r.f || klt r.t L[i].f) with
      | false => rw [if_neg (by simp), Bool.false_and, if_neg (by simp)]
      | true =>
        rw [if_pos rfl, Bool.true_and]
        cases done with
        | true =>
          rw [if_pos rfl, if_pos hlen, hw, ih (i + 1) _ true (by omega) (by omega) (by simp at h3 ⊢; omega)]
          simp only [if_true]
          congr 2
          rw [List.append_assoc]
          rfl
        | false =>
          rw [if_neg (by simp)]
          cases hb : klt r.f L[i].f with
          | true =>
            rw [if_pos rfl, if_pos hlen]
            rw [if_pos (by simp at h3 ⊢; omega), hw, ih (i + 1) _ true (by omega) (by omega) (by simp at h3 ⊢; omega)]
            simp only [if_true, Bool.false_eq_true, if_false]
            rw [show insL (L[i] :: L.drop (i + 1)) r = r :: L[i] :: L.drop (i + 1) by rw [insL, if_pos hb]]
            congr 2
            rw [List.append_assoc, List.append_assoc]
            rfl
          | false =>
            rw [if_neg (by simp), if_pos hlen, hw, ih (i + 1) _ false (by omega) (by omega) (by simp at h3 ⊢; omega)]
            simp only [Bool.false_eq_true, if_false]
            rw [show insL (L[i] :: L.drop (i + 1)) r = L[i] :: insL (L.drop (i + 1)) r by rw [insL, if_neg (by rw [hb]; simp)]]
            congr 2
            rw [List.append_assoc]
            rfl
    · rw [if_neg (by omega), List.drop_eq_nil_of_le (by omega), List.all_nil, if_pos rfl]
      cases done with
      | true => rw [if_pos rfl, if_pos rfl]; simp
      | false => rw [if_neg (by simp), if_pos (by simp at h3; omega : out.length < 1599289640401), if_neg (by simp)]; rfl

theorem ins_pos (r : Rng) (hr : VR r) : ∀ L : List Rng, (∀ x ∈ L, VR x) → (∀ x ∈ L, apartB x r = true) → insL L r = L.take (posOf L r.f) ++ [r] ++ L.drop (posOf L r.f) ∨ ¬ TabOk L
  | [], _, _ => .inl rfl
  | x :: l, hv, ha => by
    by_cases ht : TabOk (x :: l)
    · refine .inl ?_
      have h1 := ha x List.mem_cons_self
      have hx := hv x List.mem_cons_self
      unfold apartB at h1
      unfold insL posOf
      by_cases h2 : klt x.t r.f = true
      · have h3 : klt r.f x.f = false := by
          refine klt_asymm (le_klt hx.o h2)
        rw [if_pos h2, h3, if_neg (by simp)]
        rcases ins_pos r hr l (fun y hy => hv y (List.mem_cons_of_mem _ hy)) (fun y hy => ha y (List.mem_cons_of_mem _ hy)) with h | h
        · rw [h]; simp
        · exact absurd ht.tail h
      · rw [if_neg h2]
        have h4 : klt r.t x.f = true := by
          rw [Bool.or_eq_true] at h1
          exact h1.resolve_left h2
        rw [if_pos (le_klt hr.o h4)]
        rfl
    · exact .inr ht

theorem ref_add (L : List Rng) (hL : TabOk L) (r : Rng) (hs : Small r) (hf : r.f.size ≤ 1000) (ht : r.t.size ≤ 1000) (hl : L.length ≤ 1000) :
    cashierref18_Add.f 8000 (L.map toS) r.f r.t r.n r.lo r.hi r.m = some ((if addE L r = 0 then addL L r else []).map toS, addE L r) := by
  unfold cashierref18_Add.f
  rw [ref_check18 _ _ _ _ _ _ hf ht hs.n hs.lo hs.hi]
  simp only [Option.bind_some, List.length_map]
  by_cases h0 : checkV r.f r.t r.n r.lo r.hi r.m = 0
  · rw [if_pos h0]
    have hr := VR.of_check r h0
    by_cases h64 : 64 ≤ L.length
    · have e : addE L r = 6 := by unfold addE; rw [if_pos h0, if_pos h64]
      rw [if_pos (by omega), e]
      rfl
    · rw [if_neg (by omega)]
      have := add_l0 L hL.1 r hr hl 8000 0 [] false (by omega) (by omega) (by simp)
      rw [show ((0 : Nat) : Int) = 0 from rfl, List.drop_zero] at this
      rw [this]
      have e : addE L r = if clash L r = true then 17 else 0 := by unfold addE; rw [if_pos h0, if_neg h64]
      have hcf := clash_free L r hL hr.o
      have hall : (L.all (fun x => apartB x r) = true) ↔ free L r := by
        unfold free apartB
        simp
      congr 1
      by_cases hfr : free L r
      · rw [if_pos (hall.2 hfr)]
        rw [hcf.2 hfr, if_neg (by simp)] at e
        rw [e, if_pos rfl, List.nil_append, if_neg (by simp)]
        rcases ins_pos r hr L hL.1 (fun x hx => List.all_eq_true.1 (hall.2 hfr) x hx) with h | h
        · rw [h]
          unfold addL
          rw [bs_pos L r.f hL]
        · exact absurd hL h
      · rw [if_neg (fun h => hfr (hall.1 h))]
        have : clash L r = true := by
          rw [← Bool.not_eq_false]
          exact fun h => hfr (hcf.1 h)
        rw [this, if_pos rfl] at e
        rw [e]
        rfl
  · have e : addE L r = checkV r.f r.t r.n r.lo r.hi r.m := by unfold addE; rw [if_neg h0]
    rw [if_neg h0, e, if_neg h0]
    rfl

/-! ### Drop -/
theorem sameF_is (x : Rng) (c : ByteArray) : sameF x c = true ↔ x.f = c := by
  unfold sameF
  rw [beq_iff_eq, ByteArray.toList_eq, ByteArray.toList_eq]
  exact ⟨bytes_ext, fun h => by rw [h]⟩

def remL (L : List Rng) (c : ByteArray) : List Rng := L.filter (fun x => !(sameF x c))

theorem drop_l0 (L : List Rng) (c : ByteArray) (hl : L.length ≤ 1000) : ∀ (k i : Nat) (out : List (S29)) (found : Bool), i ≤ L.length → L.length - i < k → out.length ≤ i →
    cashierref18_Drop.l0 k c out found (L.map toS) (L.length : Int) (i : Int) =
      some (if (found || (L.drop i).any (fun x => sameF x c)) = true then (out ++ (remL (L.drop i) c).map toS, 0) else ([], 16)) := by
  intro k
  induction k with
  | zero => intro i out found h1 h2; omega
  | succ k ih =>
    intro i out found h1 h2 h3
    unfold cashierref18_Drop.l0
    by_cases hi : i < L.length
    · rw [if_pos (by omega), if_pos (by omega), if_pos (by rw [List.length_map]; omega), rdS L i hi]
      have hd : L.drop i = L[i] :: L.drop (i + 1) := List.drop_eq_getElem_cons hi
      have hw : wrap64 ((i : Int) + 1) = ((i + 1 : Nat) : Int) := by rw [wrap64_of (by omega) (by omega)]; omega
      rw [hd, List.any_cons, hw]
      have hsm : ((toS L[i]).f0.toList = c.toList) ↔ sameF L[i] c = true := by unfold sameF; rw [beq_iff_eq]; rfl
      unfold remL
      rw [List.filter_cons]
      cases hsf : sameF L[i] c with
      | true =>
        rw [if_pos (hsm.2 hsf), ih (i + 1) _ true (by omega) (by omega) (by omega)]
        simp [remL]
      | false =>
        rw [if_neg (fun h => by have := hsm.1 h; rw [hsf] at this; cases this), if_pos (by omega), ih (i + 1) _ found (by omega) (by omega) (by simp; omega)]
        simp only [Bool.false_or, Bool.not_false, if_true, List.append_assoc, List.map_cons, remL]
        rfl
    · rw [if_neg (by omega), List.drop_eq_nil_of_le (by omega), List.any_nil, Bool.or_false]
      cases found with
      | true => rw [if_pos rfl, if_pos rfl]; simp [remL]
      | false => rw [if_neg (by simp), if_neg (by simp)]

theorem rem_none (c : ByteArray) : ∀ (L : List Rng) (k : Nat), L.any (fun x => sameF x c) = false → idxOf L c k = -1 ∧ remL L c = L
  | [], _, _ => ⟨rfl, rfl⟩
  | x :: l, k, h => by
    rw [List.any_cons, Bool.or_eq_false_iff] at h
    obtain ⟨h1, h2⟩ := rem_none c l (k + 1) h.2
    refine ⟨by unfold idxOf; rw [h.1, if_neg (by simp), h1], ?_⟩
    unfold remL at h2 ⊢
    rw [List.filter_cons, h.1, h2]
    simp

theorem rem_some (c : ByteArray) : ∀ (L : List Rng) (k : Nat), TabOk L → L.any (fun x => sameF x c) = true → ∃ i : Nat, idxOf L c k = ((k + i : Nat) : Int) ∧ i < L.length ∧ remL L c = L.take i ++ L.drop (i + 1)
  | [], _, _, h => by simp at h
  | x :: l, k, ht, h => by
    cases hs : sameF x c with
    | true =>
      refine ⟨0, by unfold idxOf; rw [hs, if_pos rfl]; rfl, by simp, ?_⟩
      have hx := (sameF_is x c).1 hs
      have : l.any (fun x => sameF x c) = false := by
        rw [List.any_eq_false]
        intro y hy h2
        have hy2 := (sameF_is y c).1 h2
        have h3 := (List.pairwise_cons.1 ht.2).1 y hy
        have h4 := le_klt (ht.1 x List.mem_cons_self).o h3
        rw [hx, hy2, klt_irrefl] at h4
        cases h4
      have h5 := (rem_none c l 0 this).2
      unfold remL at h5 ⊢
      rw [List.filter_cons, hs, h5]
      simp
    | false =>
      rw [List.any_cons, hs, Bool.false_or] at h
      obtain ⟨i, h1, h2, h3⟩ := rem_some c l (k + 1) ht.tail h
      refine ⟨i + 1, by unfold idxOf; rw [hs, if_neg (by simp), h1]; congr 1; omega, by simp; omega, ?_⟩
      unfold remL at h3 ⊢
      rw [List.filter_cons, hs, h3]
      simp

theorem rem_is (L : List Rng) (c : ByteArray) (hL : TabOk L) : dropE L c = (if L.any (fun x => sameF x c) = true then 0 else 16) ∧ dropL L c = (if L.any (fun x => sameF x c) = true then remL L c else []) := by
  cases h : L.any (fun x => sameF x c) with
  | true =>
    obtain ⟨i, h1, h2, h3⟩ := rem_some c L 0 hL h
    rw [Nat.zero_add] at h1
    unfold dropE dropL
    have p : (0 : Int) ≤ (i : Int) := by omega
    rw [h1, h3]
    simp only [if_pos p, if_true, true_and]
    rfl
  | false =>
    obtain ⟨h1, h2⟩ := rem_none c L 0 h
    unfold dropE dropL
    rw [h1]
    have p : ¬ (0 : Int) ≤ -1 := by omega
    simp only [if_neg p, Bool.false_eq_true, if_false, true_and]

theorem ref_drop (L : List Rng) (hL : TabOk L) (c : ByteArray) (hl : L.length ≤ 1000) :
    cashierref18_Drop.f 8000 (L.map toS) c = some ((dropL L c).map toS, dropE L c) := by
  unfold cashierref18_Drop.f
  have := drop_l0 L c hl 8000 0 [] false (by omega) (by omega) (by simp)
  rw [show ((0 : Nat) : Int) = 0 from rfl, List.drop_zero] at this
  rw [List.length_map, this, (rem_is L c hL).1, (rem_is L c hL).2]
  congr 1
  rw [Bool.false_or]
  split <;> simp

theorem TabOk.sub {l m : List Rng} (h : TabOk l) (hs : m.Sublist l) : TabOk m := ⟨fun x hx => h.1 x (hs.subset hx), h.2.sublist hs⟩
theorem dropL_ok (L : List Rng) (c : ByteArray) (hL : TabOk L) : TabOk (dropL L c) := by
  rw [(rem_is L c hL).2]
  split
  · exact hL.sub List.filter_sublist
  · exact TabOk.nil

theorem addE_free (L : List Rng) (r : Rng) (hL : TabOk L) (h : addE L r = 0) : VR r ∧ free L r ∧ L.length < 64 := by
  unfold addE at h
  by_cases h0 : checkV r.f r.t r.n r.lo r.hi r.m = 0
  · rw [if_pos h0] at h
    have hr := VR.of_check r h0
    by_cases h64 : 64 ≤ L.length
    · rw [if_pos h64] at h; cases h
    · rw [if_neg h64] at h
      refine ⟨hr, (clash_free L r hL hr.o).1 ?_, by omega⟩
      cases hc : clash L r with
      | false => rfl
      | true => rw [hc, if_pos rfl] at h; cases h
  · rw [if_neg h0] at h
    exact absurd h h0

theorem addL_good (L : List Rng) (r : Rng) (hL : TabOk L) (h : addE L r = 0) : TabOk (addL L r) ∧ (addL L r).length ≤ 64 := by
  obtain ⟨h1, h2, h3⟩ := addE_free L r hL h
  exact ⟨addL_ok L r hL h1 h2, by rw [addL_len]; omega⟩

theorem turnL_good (L : List Rng) (r : Rng) (hL : TabOk L) : TabOk (turnL L r) ∧ (turnL L r).length ≤ 64 := by
  unfold turnL
  split
  · split
    · exact addL_good _ r (dropL_ok L r.f hL) (by assumption)
    · exact ⟨TabOk.nil, by simp⟩
  · exact ⟨TabOk.nil, by simp⟩

theorem ref_turn (L : List Rng) (hL : TabOk L) (r : Rng) (hs : Small r) (hf : r.f.size ≤ 1000) (ht : r.t.size ≤ 1000) (hl : L.length ≤ 1000) :
    cashierref18_Turn.f 8000 (L.map toS) r.f r.t r.n r.lo r.hi r.m = some ((turnL L r).map toS, turnE L r) := by
  unfold cashierref18_Turn.f
  rw [ref_drop L hL r.f hl]
  simp only [Option.bind_some]
  unfold turnL turnE
  by_cases h0 : dropE L r.f = 0
  · rw [if_pos h0, ref_add (dropL L r.f) (dropL_ok L r.f hL) r hs hf ht (Nat.le_trans (dropL_len _ _) hl), if_pos h0, if_pos h0]
    rfl
  · rw [if_neg h0, if_neg h0, if_neg h0]
    rfl

end Go.Proofs.YtiggnmhoececfaaGreatDoor

namespace Go.Proofs.YtiggnmhoececfaaGreatDoor
set_option linter.unusedVariables false
set_option linter.unusedSimpArgs false
open Go.RowKit Go.Proofs.YtiggnmhoececfaaGreatDoorW.PrintWords Go.Proofs.YtiggnmhoececfaaGreatDoorW.PrintLast Go.Proofs.YtiggnmhoececfaaGreatDoorW.PrintMore
open PRef PRangesTurn

theorem ref_is2 (s : ByteArray) (hs : s.size ≤ 9223372036854775807) : ∀ k i : Nat, i ≤ s.size → s.size - i < k → cashierref03_Is.l0 k s i = some (isDig (s.data.toList.drop i) && decide ((s.size : Int) > 0)) := by
  intro k
  induction k with
  | zero => intro i hi hk; omega
  | succ k ih =>
    intro i hi hk
    unfold cashierref03_Is.l0
    have hsz : s.data.toList.length = s.size := by simp
    by_cases h : i < s.size
    · rw [if_pos (by omega), if_pos (by omega), bt_nat s i h, drop_at (by omega)]
      have h4 : (48 : UInt8).toNat = 48 := rfl
      have h5 : (57 : UInt8).toNat = 57 := rfl
      generalize s.data.toList[i]'(by omega) = c
      have hall : isDig (c :: s.data.toList.drop (i + 1)) = ((decide (48 ≤ c.toNat) && decide (c.toNat ≤ 57)) && isDig (s.data.toList.drop (i + 1))) := by
        simp only [isDig, List.all_cons, UInt8.le_iff_toNat_le, h4, h5]
      rw [hall]
      by_cases h1 : 48 ≤ c.toNat
      · by_cases h2 : c.toNat ≤ 57
        · rw [if_neg (by omega), if_neg (by omega), wrap64_of (by omega) (by omega), show ((i : Int) + 1) = ((i + 1 : Nat) : Int) by omega, ih (i + 1) (by omega) (by omega), decide_eq_true h1, decide_eq_true h2]
          rfl
        · rw [if_neg (by omega), if_pos (by omega), decide_eq_false h2, Bool.and_false]
          rfl
      · rw [if_pos (by omega), decide_eq_false h1]
        rfl
    · rw [if_neg (by omega), List.drop_eq_nil_of_le (by omega)]
      simp [isDig]

theorem ref_is_f2 (s : ByteArray) (hs : s.size ≤ 9223372036854775807) (k : Nat) (hk : s.size < k) : cashierref03_Is.f k s = some (isNum s.data.toList) := by
  unfold cashierref03_Is.f
  have := ref_is2 s hs k 0 (by omega) (by omega)
  rw [show ((0 : Nat) : Int) = 0 by rfl] at this
  rw [this]
  congr 1
  unfold isNum
  rw [List.drop_zero]
  congr 1
  have hsz : s.data.toList.length = s.size := by simp
  cases hl : s.data.toList with
  | nil => rw [hl] at hsz; simp at hsz; simp [← hsz]
  | cons a r => rw [hl] at hsz; simp at hsz; simp; omega

theorem ref_has2 (r : Rng) (hr : VR r) (c : ByteArray) (hc : c.size ≤ 9223372036854775807) (k : Nat) (hk : c.size + 200 < k) :
    cashierref18_Has.f k r.f r.t r.n r.lo r.hi r.m c = some (hasV r.f r.t c) := by
  obtain ⟨hf, ht, h1, h2, hft⟩ := hr.num
  unfold cashierref18_Has.f hasV
  rw [ref_is_f2 c (by omega) k (by omega)]
  simp only [Option.bind_some]
  cases hn : isNum c.data.toList with
  | false => rfl
  | true =>
    rw [if_pos rfl]
    by_cases hs : c.size = r.f.size
    · rw [if_pos (by omega), decide_eq_true hs, ref_cmp3 r.f c hf hn (by omega) k (by omega), ref_cmp3 c r.t hn ht (by omega) k (by omega)]
      simp only [Option.bind_some, Bool.true_and]
      rw [ByteArray.toList_eq, ByteArray.toList_eq, ByteArray.toList_eq, bl_eq, bl_eq, ← ord3_le, ← not_less, ← ord3_le]
      by_cases h : ord3 r.f.data.toList c.data.toList ≤ 0
      · rw [if_pos h, decide_eq_true h]; rfl
      · rw [if_neg h, decide_eq_false h]; rfl
    · rw [if_neg (by omega), decide_eq_false hs]
      rfl

def fIdx : List Rng → ByteArray → Nat → Int
  | [], _, _ => -1
  | x :: l, c, k => if hasV x.f x.t c = true then (k : Int) else fIdx l c (k + 1)

theorem find_l0 (L : List Rng) (hL : ∀ x ∈ L, VR x) (c : ByteArray) (hc : c.size ≤ 9223372036854775807) (hl : L.length ≤ 1000) : ∀ (k i : Nat), i ≤ L.length → L.length - i + c.size + 300 < k →
    cashierref18_Find.l0 k c (L.map toS) (L.length : Int) (i : Int) = some (fIdx (L.drop i) c i) := by
  intro k
  induction k with
  | zero => intro i h1 h2; omega
  | succ k ih =>
    intro i h1 h2
    unfold cashierref18_Find.l0
    by_cases hi : i < L.length
    · have hx := hL L[i] (List.getElem_mem hi)
      rw [if_pos (by omega), if_pos (by omega), if_pos (by rw [List.length_map]; omega), rdS L i hi]
      have e1 : cashierref18_Has.f k (toS L[i]).f0 (toS L[i]).f1 (toS L[i]).f2 (toS L[i]).f3 (toS L[i]).f4 (toS L[i]).f5 c = some (hasV L[i].f L[i].t c) := ref_has2 L[i] hx c hc k (by omega)
      have hw : wrap64 ((i : Int) + 1) = ((i + 1 : Nat) : Int) := by rw [wrap64_of (by omega) (by omega)]; omega
      rw [e1, hw, List.drop_eq_getElem_cons hi]
      simp only [Option.bind_some]
      unfold fIdx
      cases hh : hasV L[i].f L[i].t c with
      | true => rw [if_pos rfl, if_pos rfl]
      | false => rw [if_neg (by simp), if_neg (by simp), ih (i + 1) (by omega) (by omega)]
    · rw [if_neg (by omega), List.drop_eq_nil_of_le (by omega)]
      rfl

theorem ref_find (L : List Rng) (hL : TabOk L) (c : ByteArray) (hc : c.size ≤ 9223372036854775807) (hl : L.length ≤ 1000) :
    cashierref18_Find.f (c.size + 3000) (L.map toS) c = some (fIdx L c 0) := by
  unfold cashierref18_Find.f
  have := find_l0 L hL.1 c hc hl (c.size + 3000) 0 (by omega) (by omega)
  rw [show ((0 : Nat) : Int) = 0 from rfl, List.drop_zero] at this
  rw [List.length_map, this]

theorem has_klt (f t c : ByteArray) (hs : f.size = t.size) (h : hasV f t c = true) : klt c f = false ∧ klt t c = false := by
  unfold hasV at h
  simp only [Bool.and_eq_true, decide_eq_true_eq, Bool.not_eq_true'] at h
  obtain ⟨h1, h2, h3, h4⟩ := h
  rw [ByteArray.toList_eq, ByteArray.toList_eq, bl_eq] at h3
  rw [ByteArray.toList_eq, ByteArray.toList_eq, bl_eq, ← not_less] at h4
  rw [klt_is, klt_is, decide_eq_false (by omega : ¬ c.size < f.size), decide_eq_false (by omega : ¬ t.size < c.size), h3]
  simp only [Bool.not_eq_true'] at h4
  rw [h4]
  simp

theorem fIdx_none (c : ByteArray) : ∀ (l : List Rng) (k : Nat), (∀ x ∈ l, hasV x.f x.t c = false) → fIdx l c k = -1
  | [], _, _ => rfl
  | x :: l, k, h => by
    unfold fIdx
    rw [h x List.mem_cons_self, if_neg (by simp)]
    exact fIdx_none c l (k + 1) (fun y hy => h y (List.mem_cons_of_mem _ hy))

theorem fIdx_some (c : ByteArray) : ∀ (l : List Rng) (k i : Nat) (hi : i < l.length), (∀ j (hj : j < l.length), j < i → hasV l[j].f l[j].t c = false) → hasV l[i].f l[i].t c = true → fIdx l c k = ((k + i : Nat) : Int)
  | x :: l, k, 0, _, _, h => by
    unfold fIdx
    rw [if_pos (show hasV x.f x.t c = true from h)]
    rfl
  | x :: l, k, i + 1, hi, h0, h => by
    unfold fIdx
    rw [if_neg (by have := h0 0 (by simp) (by omega); simpa using this)]
    rw [fIdx_some c l (k + 1) i (by simpa using hi) (fun j hj hji => by have := h0 (j + 1) (by simpa using hj) (by omega); simpa using this) (by simpa using h)]
    congr 1
    omega

theorem has_ahead (L : List Rng) (hL : TabOk L) (c : ByteArray) (j : Nat) (hj : j < L.length) (h : j < posOf L c) : hasV L[j].f L[j].t c = false := by
  rw [← Bool.not_eq_true]
  intro hh
  have := (has_klt _ _ _ (hL.1 _ (List.getElem_mem hj)).s hh).2
  rw [pos_lt L c j hj h] at this
  cases this

theorem has_behind (L : List Rng) (hL : TabOk L) (c : ByteArray) (j : Nat) (hj : j < L.length) (h : posOf L c < j) : hasV L[j].f L[j].t c = false := by
  rw [← Bool.not_eq_true]
  intro hh
  have h1 := (has_klt _ _ _ (hL.1 _ (List.getElem_mem hj)).s hh).1
  have h2 := pos_ge L c hL (posOf L c) (by omega) (Nat.le_refl _)
  have h3 := List.pairwise_iff_getElem.1 hL.2 _ _ (by omega) hj h
  rw [le_klt h2 h3] at h1
  cases h1

theorem find_is (L : List Rng) (hL : TabOk L) (c : ByteArray) :
    (findB L c = true ∧ ∃ i, ∃ h : i < L.length, fIdx L c 0 = (i : Int) ∧ findR L c = L[i] ∧ hasV L[i].f L[i].t c = true) ∨ (findB L c = false ∧ fIdx L c 0 = -1 ∧ findR L c = noR ∧ ∀ x ∈ L, hasV x.f x.t c = false) := by
  have hb := bs_pos L c hL
  by_cases hp : posOf L c < L.length
  · have hB : findB L c = hasV L[posOf L c].f L[posOf L c].t c := by
      unfold findB bsHit
      simp only [hb]
      rw [dif_pos hp, dif_pos hp, place_is, if_neg (by rw [pos_ge L c hL _ hp (Nat.le_refl _)]; simp)]
      cases hh : hasV L[posOf L c].f L[posOf L c].t c with
      | false => rw [Bool.and_false]
      | true => rw [if_neg (by rw [(has_klt _ _ _ (hL.1 _ (List.getElem_mem hp)).s hh).1]; simp)]; rfl
    cases hh : hasV L[posOf L c].f L[posOf L c].t c with
    | true =>
      refine .inl ⟨by rw [hB, hh], posOf L c, hp, ?_, ?_, hh⟩
      · rw [fIdx_some c L 0 (posOf L c) hp (fun j hj hji => has_ahead L hL c j hj hji) hh, Nat.zero_add]
      · unfold findR
        simp only [hb]
        rw [dif_pos hp, if_pos (by rw [hB, hh])]
    | false =>
      have hall : ∀ x ∈ L, hasV x.f x.t c = false := by
        intro x hx
        obtain ⟨j, hj, rfl⟩ := List.getElem_of_mem hx
        rcases Nat.lt_trichotomy j (posOf L c) with h | h | h
        · exact has_ahead L hL c j hj h
        · subst h; exact hh
        · exact has_behind L hL c j hj h
      refine .inr ⟨by rw [hB, hh], fIdx_none c L 0 hall, ?_, hall⟩
      unfold findR
      simp only [hb]
      rw [dif_pos hp, if_neg (by rw [hB, hh]; simp)]
  · have hall : ∀ x ∈ L, hasV x.f x.t c = false := by
      intro x hx
      obtain ⟨j, hj, rfl⟩ := List.getElem_of_mem hx
      exact has_ahead L hL c j hj (by omega)
    refine .inr ⟨?_, fIdx_none c L 0 hall, ?_, hall⟩
    · unfold findB
      simp only [hb]
      rw [dif_neg hp]
    · unfold findR
      simp only [hb]
      rw [dif_neg hp]

end Go.Proofs.YtiggnmhoececfaaGreatDoor

namespace Go.Proofs.YtiggnmhoececfaaGreatDoor
set_option linter.unusedVariables false
set_option linter.unusedSimpArgs false
open Go.RowKit Go.Proofs.YtiggnmhoececfaaGreatDoorW.PrintWords Go.Proofs.YtiggnmhoececfaaGreatDoorW.PrintLast Go.Proofs.YtiggnmhoececfaaGreatDoorW.PrintMore
open PRef PRangesTurn

theorem tab_C {w : World} {A : Option Addr} {c : Nat} {L : List Rng} (h : Tab w (.slice A L.length c) L) (hl : L.length ≤ 1000) :
    Kd.C k29 w A (L.map toS).length (L.map toS) ∧ (L.map toS).length ≤ c := by
  rcases h with ⟨h1, h2⟩ | ⟨g, cap, h1, h2, h3, h4, h5⟩
  · subst h2
    simp only [List.length_nil, Value.slice.injEq] at h1
    obtain ⟨rfl, _, rfl⟩ := h1
    exact ⟨⟨rfl, by simp, fun h => absurd h (by simp)⟩, by simp⟩
  · simp only [Value.slice.injEq] at h1
    obtain ⟨rfl, _, rfl⟩ := h1
    refine ⟨⟨rfl, by simp; omega, fun _ => ⟨_, rfl, fun j p hj => ?_⟩⟩, by simpa using h2⟩
    rw [List.getElem?_map] at hj
    have hjl : j < L.length := by
      rcases Nat.lt_or_ge j L.length with h | h
      · exact h
      · rw [List.getElem?_eq_none h] at hj; cases hj
    rw [List.getElem?_eq_getElem hjl] at hj
    simp only [Option.map_some, Option.some.injEq] at hj
    subst hj
    refine ⟨_, rfl, k29_mk w _, fun i u hi => ?_⟩
    have hi6 : i < 6 := by
      rcases Nat.lt_or_ge i 6 with h | h
      · exact h
      · rw [List.getElem?_eq_none (by simpa using h)] at hi; cases hi
    rw [Lib.add_plain, Nat.zero_add]
    exact h5 (j * 6 + i) u ((rcells_at L j i hjl hi6).trans hi)

theorem R_tab {w : World} {base : Nat} {ok : Nat → Prop} {v : Value} {L : List Rng} (h : Kd.R k29 29 w base ok v (L.map toS)) : Tab w v L := by
  obtain ⟨inner, ho⟩ := Kd.R_own h
  obtain ⟨A, c, rfl, hc, hC⟩ := Kd.R_reads h
  have hlt := ho.lt
  rw [List.length_map] at *
  obtain ⟨_, ⟨h1, h0⟩ | ⟨g, cap, cur, h1, hb, hh, hcc, hm, hs, hx⟩⟩ := ho
  · refine .inl ⟨h1, List.length_eq_zero_iff.1 h0⟩
  · refine .inr ⟨g, cap, h1, hcc, hm, (hlt g (by rw [h1]; rfl)).2, fun j u hj => ?_⟩
    simp only [Value.slice.injEq] at h1
    obtain ⟨rfl, _, rfl⟩ := h1
    have hjl : j < L.length * 6 := by
      rcases Nat.lt_or_ge j (L.length * 6) with h | h
      · exact h
      · rw [List.getElem?_eq_none (by rw [rcells_len]; exact h)] at hj; cases hj
    have hq : j / 6 < L.length := by omega
    obtain ⟨ad, had, hcell⟩ := hC.2.2 (by omega)
    obtain rfl := (Option.some.inj had).symm
    obtain ⟨cs, _, hK, hcs⟩ := hcell (j / 6) (toS L[j / 6]) (by rw [List.getElem?_map, List.getElem?_eq_getElem hq]; rfl)
    obtain rfl := k29_open hK
    have e : j = j / 6 * 6 + j % 6 := by omega
    rw [e] at hj
    have := hcs (j % 6) u ((rcells_at L (j / 6) (j % 6) hq (by omega)).symm.trans hj)
    rw [Lib.add_plain, Nat.zero_add] at this
    rw [e]
    exact this

def RPost (E : Int) (l : List Rng) (w : World) (e : Ending) (w' : World) : Prop :=
  ∃ v', e = .returned (.tuple #[v', .int .i64 E]) ∧ Tab w' v' l ∧ Below w.heap.size w w' ∧ (∀ k, v'.ownBlock = some k → w.heap.size ≤ k)

theorem radd_any (v : Value) (L : List Rng) (r : Rng) (w : World) (hT : Tab w v L) (hL : TabOk L) (hs : Small r) (hf : r.f.size ≤ 1000) (ht : r.t.size ≤ 1000) (hl : L.length ≤ 1000) :
    Calls Tryz.prog 20 #[v, r.v] w (RPost (addE L r) (if addE L r = 0 then addL L r else []) w) := by
  obtain ⟨A, c, rfl⟩ := hT.slice
  obtain ⟨h1, h2⟩ := tab_C hT hl
  have := cashierref18_Add.calls 8000 A c (L.map toS) r.f r.t r.n r.lo r.hi r.m _ _ w h1 h2 (ref_add L hL r hs hf ht hl)
  rw [List.length_map] at this
  exact this.mono fun e w' ⟨v0, he, hR, hb⟩ => ⟨v0, he, R_tab hR, hb, Kd.R_base hR⟩

theorem rturn_any (v : Value) (L : List Rng) (r : Rng) (w : World) (hT : Tab w v L) (hL : TabOk L) (hs : Small r) (hf : r.f.size ≤ 1000) (ht : r.t.size ≤ 1000) (hl : L.length ≤ 1000) :
    Calls Tryz.prog 18 #[v, r.v] w (RPost (turnE L r) (turnL L r) w) := by
  obtain ⟨A, c, rfl⟩ := hT.slice
  obtain ⟨h1, h2⟩ := tab_C hT hl
  have := cashierref18_Turn.calls 8000 A c (L.map toS) r.f r.t r.n r.lo r.hi r.m _ _ w h1 h2 (ref_turn L hL r hs hf ht hl)
  rw [List.length_map] at this
  exact this.mono fun e w' ⟨v0, he, hR, hb⟩ => ⟨v0, he, R_tab hR, hb, Kd.R_base hR⟩

theorem rdrop_any (v : Value) (L : List Rng) (from_ : ByteArray) (w : World) (hT : Tab w v L) (hL : TabOk L) (hl : L.length ≤ 1000) :
    Calls Tryz.prog 16 #[v, .string from_] w (RPost (dropE L from_) (dropL L from_) w) := by
  obtain ⟨A, c, rfl⟩ := hT.slice
  obtain ⟨h1, h2⟩ := tab_C hT hl
  have := cashierref18_Drop.calls 8000 A c (L.map toS) from_ _ _ w h1 h2 (ref_drop L hL from_ hl)
  rw [List.length_map] at this
  exact this.mono fun e w' ⟨v0, he, hR, hb⟩ => ⟨v0, he, R_tab hR, hb, Kd.R_base hR⟩

theorem rfind_any (v : Value) (L : List Rng) (c : ByteArray) (w : World) (hT : Tab w v L) (hL : TabOk L) (hc : c.size ≤ 9223372036854775807) (hl : L.length ≤ 1000) :
    Calls Tryz.prog 23 #[v, .string c] w fun e w' => e = .returned (.int .i64 (fIdx L c 0)) ∧ Below w.heap.size w w' := by
  obtain ⟨A, cap, rfl⟩ := hT.slice
  obtain ⟨h1, h2⟩ := tab_C hT hl
  have := cashierref18_Find.calls (c.size + 3000) A cap (L.map toS) c _ w h1 h2 (ref_find L hL c hc hl)
  rw [List.length_map] at this
  exact this

end Go.Proofs.YtiggnmhoececfaaGreatDoor

namespace Go.Proofs.YtiggnmhoececfaaGreatDoor
set_option linter.unusedVariables false
set_option linter.unusedSimpArgs false
open Go.RowKit Go.Proofs.YtiggnmhoececfaaGreatDoorW.PrintWords Go.Proofs.YtiggnmhoececfaaGreatDoorW.PrintLast Go.Proofs.YtiggnmhoececfaaGreatDoorW.PrintMore

structure ActR where
  d : Int
  r : Rng

structure ActAt (W : World) (ad : Addr) (j : Nat) (x : ActR) : Prop where
  c0 : W.cell? (ad.add (j * 7)) = some (.int .i64 x.d)
  c1 : W.cell? ⟨(ad.add (j * 7)).block, (ad.add (j * 7)).off + 1, none⟩ = some (.string x.r.f)
  c2 : W.cell? ⟨(ad.add (j * 7)).block, (ad.add (j * 7)).off + 2, none⟩ = some (.string x.r.t)
  c3 : W.cell? ⟨(ad.add (j * 7)).block, (ad.add (j * 7)).off + 3, none⟩ = some (.string x.r.n)
  c4 : W.cell? ⟨(ad.add (j * 7)).block, (ad.add (j * 7)).off + 4, none⟩ = some (.string x.r.lo)
  c5 : W.cell? ⟨(ad.add (j * 7)).block, (ad.add (j * 7)).off + 5, none⟩ = some (.string x.r.hi)
  c6 : W.cell? ⟨(ad.add (j * 7)).block, (ad.add (j * 7)).off + 6, none⟩ = some (.int .i64 x.r.m)

theorem ActAt.below {w w1 : World} {ad : Addr} {j : Nat} {x : ActR} (h : ActAt w ad j x) (hb : Below w.heap.size w w1) : ActAt w1 ad j x :=
  ⟨cellBelow hb h.c0, cellBelow hb h.c1, cellBelow hb h.c2, cellBelow hb h.c3, cellBelow hb h.c4, cellBelow hb h.c5, cellBelow hb h.c6⟩

def ActsAt (W : World) (A : Option Addr) (l : List ActR) : Prop := ∀ j (h : j < l.length), ∃ ad, A = some ad ∧ ActAt W ad j l[j]
def StrsAt (W : World) (A : Option Addr) (l : List ByteArray) : Prop := ∀ j (h : j < l.length), ∃ ad, A = some ad ∧ W.cell? (ad.add j) = some (.string l[j]) ∧ l[j].size ≤ 9223372036854775807

/-- What holds between two rounds. -/
def TurnInv (w : World) (b5 : Nat) (v6 : Value) (wr : World) : Prop :=
  ∃ A c A' c' L, v6 = .slice A' (List.length L) c' ∧ wr.heap[b5]? = some (.cells #[.slice A L.length c] 36 (0, 0)) ∧ Tab wr (.slice A L.length c) L ∧ Tab wr (.slice A' L.length c') L ∧ TabOk L ∧ L.length ≤ 64 ∧ Below w.heap.size w wr

theorem light_ends (r : Rng) (h : lightV r.f r.t r.n r.lo r.hi = true) : r.f.size ≤ 1000 ∧ r.t.size ≤ 1000 := by
  simp only [lightV, Bool.and_eq_true, decide_eq_true_eq] at h
  exact ⟨by omega, by omega⟩

/-- What one turn leaves, of the table and of the document's list. -/
def Pack (pf rf : Nat) (A1 A2 : Option Addr) (c1 c2 : Nat) (L : List Rng) (arg : Value) (wr : World) : Prop :=
  ∃ E L2, List.length L2 ≤ 1000 ∧ (E = 0 → TabOk L2 ∧ L2.length ≤ 64) ∧
    (∀ W, Below wr.heap.size wr W → Calls Tryz.prog pf #[.agg #[.slice A1 L.length c1], arg] W (TabPost E L2 W)) ∧
    (∀ W, Below wr.heap.size wr W → Calls Tryz.prog rf #[.slice A2 L.length c2, arg] W (RPost E L2 W))

theorem pack_drop (A1 A2 : Option Addr) (c1 c2 : Nat) (L : List Rng) (r : Rng) (wr : World) (hG : Glob wr) (hT : Tab wr (.slice A1 L.length c1) L) (hU : Tab wr (.slice A2 L.length c2) L) (hL : TabOk L) (hs : Small r) (hf : r.f.size ≤ 1000) (ht : r.t.size ≤ 1000) (hl : L.length ≤ 64) :
    Pack 15 16 A1 A2 c1 c2 L (.string r.f) wr :=
  ⟨dropE L r.f, dropL L r.f, Nat.le_trans (dropL_len _ _) (by omega), fun _ => ⟨dropL_ok L _ hL, Nat.le_trans (dropL_len _ _) hl⟩,
    fun W hW => drop_any _ L r.f W (hT.below hW) (by omega), fun W hW => rdrop_any _ L r.f W (hU.below hW) hL (by omega)⟩

theorem pack_turn (A1 A2 : Option Addr) (c1 c2 : Nat) (L : List Rng) (r : Rng) (wr : World) (hG : Glob wr) (hT : Tab wr (.slice A1 L.length c1) L) (hU : Tab wr (.slice A2 L.length c2) L) (hL : TabOk L) (hs : Small r) (hf : r.f.size ≤ 1000) (ht : r.t.size ≤ 1000) (hl : L.length ≤ 64) :
    Pack 17 18 A1 A2 c1 c2 L (.agg #[.string r.f, .string r.t, .string r.n, .string r.lo, .string r.hi, .int .i64 r.m]) wr :=
  ⟨turnE L r, turnL L r, Nat.le_trans (turnL_good L r hL).2 (by omega), fun _ => turnL_good L r hL,
    fun W hW => turn_any _ L r W (hG.below hW) (hT.below hW) hs (by omega), fun W hW => rturn_any _ L r W (hU.below hW) hL hs hf ht (by omega)⟩

theorem pack_add (A1 A2 : Option Addr) (c1 c2 : Nat) (L : List Rng) (r : Rng) (wr : World) (hG : Glob wr) (hT : Tab wr (.slice A1 L.length c1) L) (hU : Tab wr (.slice A2 L.length c2) L) (hL : TabOk L) (hs : Small r) (hf : r.f.size ≤ 1000) (ht : r.t.size ≤ 1000) (hl : L.length ≤ 64) :
    Pack 19 20 A1 A2 c1 c2 L (.agg #[.string r.f, .string r.t, .string r.n, .string r.lo, .string r.hi, .int .i64 r.m]) wr :=
  ⟨addE L r, if addE L r = 0 then addL L r else [], by split <;> simp [addL_len] <;> omega, fun h => by rw [if_pos h]; exact addL_good L r hL h,
    fun W hW => add_any _ L r W (hG.below hW) (hT.below hW) hs (by omega), fun W hW => radd_any _ L r W (hU.below hW) hL hs hf ht (by omega)⟩

set_option maxHeartbeats 8000000 in
set_option maxRecDepth 100000 in
theorem rturn_law (A B : Option Addr) (c d : Nat) (acts : List ActR) (cards : List ByteArray) (w : World) (hG : Glob w) (hA : ActsAt w A acts) (hB : StrsAt w B cards) :
    Calls Tryz.prog 5 #[.slice A acts.length c, .slice B cards.length d] w fun e w' => e = .returned (.bool true) ∧ Below w.heap.size w w' := by
  have HW := Lib.hid (awake18_any w hG)
  have HA := Lib.hid hA
  have HB := Lib.hid hB
  clear hA hB
  go_enter Tryz.func5, Tryz.ntmps5
  rcases Nat.lt_or_ge 80 acts.length with h80 | h80
  · have k1 : decide ((acts.length : Int) > 80) = true := decide_eq_true (by omega)
    go_wp2_with (go_at_call 7; go_must (refine HW.out.mono ?_); rintro e w1 ⟨rfl, hb⟩)
    go_ret
    exact ⟨rfl, hb⟩
  rcases Nat.lt_or_ge 20 cards.length with h20 | h20
  · have k1 : decide ((acts.length : Int) > 80) = false := decide_eq_false (by omega)
    have k2 : decide ((cards.length : Int) > 20) = true := decide_eq_true (by omega)
    go_wp2_with (go_at_call 7; go_must (refine HW.out.mono ?_); rintro e w1 ⟨rfl, hb⟩)
    go_ret
    exact ⟨rfl, hb⟩
  have k1 : decide ((acts.length : Int) > 80) = false := decide_eq_false (by omega)
  have k2 : decide ((cards.length : Int) > 20) = false := decide_eq_false (by omega)
  go_wp2_with (go_at_call 7; go_must (refine HW.out.mono ?_); rintro e w1 ⟨rfl, hb⟩; have B0 := Lib.hid hb; clear hb)
  go_loopw [6, 30] (fun v6 vi wr => ∃ k : Nat, k ≤ acts.length ∧ vi = .int .i64 k ∧ TurnInv w w1.heap.size v6 wr) (fun _ vi _ => acts.length - (intOf vi).toNat)
  case atStart => exact ⟨0, Nat.zero_le _, rfl, none, 0, none, 0, [], rfl, blk_new _ _, .inl ⟨rfl, rfl⟩, .inl ⟨rfl, rfl⟩, TabOk.nil, by simp, below_alloc B0.out _⟩
  case round =>
    obtain ⟨k, hk, rfl, A1, c1, A2, c2, L, rfl, F5w, hT, hU, hOk, hl64, hBw⟩ := hrel
    have BW := Lib.hid hBw
    have HF5 := Lib.hid F5w
    have HT := Lib.hid hT
    have HU := Lib.hid hU
    have hOK := Lib.hid hOk
    clear F5w hT hU hOk hBw
    rcases Nat.lt_or_ge k acts.length with hlt | hge
    · have k9 : decide ((k : Int) < (acts.length : Int)) = true := decide_eq_true (by omega)
      obtain ⟨ad, rfl, ha0⟩ := HA.out k hlt
      have ha := ha0.below BW.out
      generalize acts[k] = x at ha ha0
      obtain ⟨dd, r⟩ := x
      obtain ⟨a0, a1, a2, a3, a4, a5, a6⟩ := ha
      dsimp only at a0 a1 a2 a3 a4 a5 a6
      have HL := Lib.hid (fun W => light_any r.f r.t r.n r.lo r.hi r.m W)
      clear ha0
      cases hli : lightV r.f r.t r.n r.lo r.hi with
      | false =>
        rw [hli] at HL
        clear hli
        go_wp2_with (go_at_call 8; go_must (refine (HL.out _).mono ?_); rintro e w2 ⟨rfl, hb⟩)
        go_ret
        exact ⟨rfl, below_step BW.out (below_step (below_alloc (Below.refl _ _) _) hb)⟩
      | true =>
        rw [hli] at HL
        have HS := Lib.hid (light_small r hli)
        obtain ⟨hf60, ht60⟩ := light_ends r hli
        clear hli
        have hz5w := blk_lt HF5.out
        have hz1 := B0.out.size
        have hGr : Glob wr := hG.below BW.out
        by_cases h1 : dd.tmod 3 = 1
        · have q0 : (dd.tmod 3 == 1) = true := by simpa using h1
          obtain ⟨E, L2, hL2, hE2, hP, hR⟩ := pack_drop A1 A2 c1 c2 L r wr hGr HT.out HU.out hOK.out HS.out hf60 ht60 hl64
          have HP := Lib.hid hP
          have HR := Lib.hid hR
          clear hP hR
          have e1 : (E != E) = false := by simp
          by_cases h0 : E = 0
          · have e2 : (E == 0) = true := by simpa using h0
            go_wp2_with (first | (go_at_call 8; go_must (refine (HL.out _).mono ?_); rintro e w2 ⟨rfl, hb⟩; have F8 := Lib.hid (blk_below (blk_new wr _) hb); have hz8 := blk_lt F8.out; have B := Lib.hid (below_step (below_alloc (Below.refl _ _) _) hb); have F5 := Lib.hid (blk_below HF5.out B.out); have hz5 := blk_lt F5.out; have F8_0 := blkc F8.out 0 rfl; have F8_1 := blkc F8.out 1 rfl; have F8_2 := blkc F8.out 2 rfl; have F8_3 := blkc F8.out 3 rfl; have F8_4 := blkc F8.out 4 rfl; have F8_5 := blkc F8.out 5 rfl; have F8_6 := blkc F8.out 6 rfl; have F5_0 := blkc F5.out 0 rfl; clear hb) | (go_at_call 15; ((with_reducible refine (HP.out _ (below_alloc B.out _)).mono ?_); rintro e w3 ⟨v3, rfl, hT3, hb, hfr⟩); obtain ⟨A3, c3, rfl⟩ := hT3.slice; have F9 := Lib.hid (blk_below (blk_new w2 _) hb); have hz9 := blk_lt F9.out; have F9_0 := blkc F9.out 0 rfl; have F9_f := blk_frozen F9.out 0; have HT3 := Lib.hid hT3; have HF3 := Lib.hid hfr; clear hT3 hfr; replace B := Lib.hid (below_step (below_alloc B.out _) hb); replace F5 := Lib.hid (blk_below (blk_alloc F5.out _) hb); replace F5_0 := blkc F5.out 0 rfl; replace F5_f := blk_frozen F5.out 0; replace F8 := Lib.hid (blk_below (blk_alloc F8.out _) hb); replace F8_0 := blkc F8.out 0 rfl; replace F8_1 := blkc F8.out 1 rfl; replace F8_2 := blkc F8.out 2 rfl; replace F8_3 := blkc F8.out 3 rfl; replace F8_4 := blkc F8.out 4 rfl; replace F8_5 := blkc F8.out 5 rfl; replace F8_6 := blkc F8.out 6 rfl; clear hb) | (go_at_call 16; ((with_reducible refine (HR.out _ (B.out.setCell (by dsimp only; omega) _)).mono ?_); rintro e w4 ⟨v4, rfl, hT4, hb, hfr⟩); obtain ⟨A4, c4, rfl⟩ := hT4.slice; replace F9 := Lib.hid (blk_below (blk_set F9.out 0 _) hb); replace F9_0 := blkc F9.out 0 rfl; replace F9_f := blk_frozen F9.out 0; replace F5 := Lib.hid (blk_below (blk_far F5.out (by dsimp only; omega) _) hb); replace F5_0 := blkc F5.out 0 rfl; replace F5_f := blk_frozen F5.out 0; replace HT3 := Lib.hid ((HT3.out.far (fun e => by have := HF3.out _ e; simp at this; omega) _).below hb); replace B := Lib.hid (below_step (B.out.setCell (by dsimp only; omega) _) hb); have HT4 := Lib.hid hT4; have HF4 := Lib.hid hfr; clear hT4 hfr hb) | (go_at_call 21; ((with_reducible refine (is_same A3 A4 c3 c4 L2 _ HT3.out HT4.out hL2).mono ?_); rintro e w5 ⟨rfl, hb⟩); replace B := Lib.hid (below_step B.out hb); replace F5 := Lib.hid (blk_below F5.out hb); replace F5_0 := blkc F5.out 0 rfl; replace F5_f := blk_frozen F5.out 0; replace F9 := Lib.hid (blk_below F9.out hb); replace F9_0 := blkc F9.out 0 rfl; replace HT3 := Lib.hid (HT3.out.below hb); replace HT4 := Lib.hid (HT4.out.below hb); clear hb) | (go_at_call 21; ((with_reducible refine (is_same A1 A2 c1 c2 L _ (HT.out.below B.out) (HU.out.below B.out) (by omega)).mono ?_); rintro e w6 ⟨rfl, hb⟩); replace B := Lib.hid (below_step B.out hb); replace F5 := Lib.hid (blk_below F5.out hb); replace F5_0 := blkc F5.out 0 rfl; replace F5_f := blk_frozen F5.out 0; replace F9 := Lib.hid (blk_below F9.out hb); replace F9_0 := blkc F9.out 0 rfl; replace HT3 := Lib.hid (HT3.out.below hb); replace HT4 := Lib.hid (HT4.out.below hb); clear hb))
            go_roundw
            case rel => exact ⟨k + 1, by omega, by go_num, A3, c3, A4, c4, L2, rfl, blk_set F5.out 0 _, HT3.out.far (fun e => by have := HF3.out _ e; simp at this; omega) _, HT4.out.far (fun e => by have := HF4.out _ e; simp at this; omega) _, (hE2 h0).1, (hE2 h0).2, (below_step BW.out B.out).setCell (by dsimp only; omega) _⟩
            case measure => simp [intOf]; omega
          · have e2 : (E == 0) = false := by simpa using h0
            go_wp2_with (first | (go_at_call 8; go_must (refine (HL.out _).mono ?_); rintro e w2 ⟨rfl, hb⟩; have F8 := Lib.hid (blk_below (blk_new wr _) hb); have hz8 := blk_lt F8.out; have B := Lib.hid (below_step (below_alloc (Below.refl _ _) _) hb); have F5 := Lib.hid (blk_below HF5.out B.out); have hz5 := blk_lt F5.out; have F8_0 := blkc F8.out 0 rfl; have F8_1 := blkc F8.out 1 rfl; have F8_2 := blkc F8.out 2 rfl; have F8_3 := blkc F8.out 3 rfl; have F8_4 := blkc F8.out 4 rfl; have F8_5 := blkc F8.out 5 rfl; have F8_6 := blkc F8.out 6 rfl; have F5_0 := blkc F5.out 0 rfl; clear hb) | (go_at_call 15; ((with_reducible refine (HP.out _ (below_alloc B.out _)).mono ?_); rintro e w3 ⟨v3, rfl, hT3, hb, hfr⟩); obtain ⟨A3, c3, rfl⟩ := hT3.slice; have F9 := Lib.hid (blk_below (blk_new w2 _) hb); have hz9 := blk_lt F9.out; have F9_0 := blkc F9.out 0 rfl; have F9_f := blk_frozen F9.out 0; have HT3 := Lib.hid hT3; have HF3 := Lib.hid hfr; clear hT3 hfr; replace B := Lib.hid (below_step (below_alloc B.out _) hb); replace F5 := Lib.hid (blk_below (blk_alloc F5.out _) hb); replace F5_0 := blkc F5.out 0 rfl; replace F5_f := blk_frozen F5.out 0; replace F8 := Lib.hid (blk_below (blk_alloc F8.out _) hb); replace F8_0 := blkc F8.out 0 rfl; replace F8_1 := blkc F8.out 1 rfl; replace F8_2 := blkc F8.out 2 rfl; replace F8_3 := blkc F8.out 3 rfl; replace F8_4 := blkc F8.out 4 rfl; replace F8_5 := blkc F8.out 5 rfl; replace F8_6 := blkc F8.out 6 rfl; clear hb) | (go_at_call 16; ((with_reducible refine (HR.out _ (B.out.setCell (by dsimp only; omega) _)).mono ?_); rintro e w4 ⟨v4, rfl, hT4, hb, hfr⟩); obtain ⟨A4, c4, rfl⟩ := hT4.slice; replace F9 := Lib.hid (blk_below (blk_set F9.out 0 _) hb); replace F9_0 := blkc F9.out 0 rfl; replace F9_f := blk_frozen F9.out 0; replace F5 := Lib.hid (blk_below (blk_far F5.out (by dsimp only; omega) _) hb); replace F5_0 := blkc F5.out 0 rfl; replace F5_f := blk_frozen F5.out 0; replace HT3 := Lib.hid ((HT3.out.far (fun e => by have := HF3.out _ e; simp at this; omega) _).below hb); replace B := Lib.hid (below_step (B.out.setCell (by dsimp only; omega) _) hb); have HT4 := Lib.hid hT4; have HF4 := Lib.hid hfr; clear hT4 hfr hb) | (go_at_call 21; ((with_reducible refine (is_same A3 A4 c3 c4 L2 _ HT3.out HT4.out hL2).mono ?_); rintro e w5 ⟨rfl, hb⟩); replace B := Lib.hid (below_step B.out hb); replace F5 := Lib.hid (blk_below F5.out hb); replace F5_0 := blkc F5.out 0 rfl; replace F5_f := blk_frozen F5.out 0; replace F9 := Lib.hid (blk_below F9.out hb); replace F9_0 := blkc F9.out 0 rfl; replace HT3 := Lib.hid (HT3.out.below hb); replace HT4 := Lib.hid (HT4.out.below hb); clear hb) | (go_at_call 21; ((with_reducible refine (is_same A1 A2 c1 c2 L _ (HT.out.below B.out) (HU.out.below B.out) (by omega)).mono ?_); rintro e w6 ⟨rfl, hb⟩); replace B := Lib.hid (below_step B.out hb); replace F5 := Lib.hid (blk_below F5.out hb); replace F5_0 := blkc F5.out 0 rfl; replace F5_f := blk_frozen F5.out 0; replace F9 := Lib.hid (blk_below F9.out hb); replace F9_0 := blkc F9.out 0 rfl; replace HT3 := Lib.hid (HT3.out.below hb); replace HT4 := Lib.hid (HT4.out.below hb); clear hb))
            go_roundw
            case rel => exact ⟨k + 1, by omega, by go_num, A1, c1, A2, c2, L, rfl, F5.out, HT.out.below B.out, HU.out.below B.out, hOK.out, hl64, below_step BW.out B.out⟩
            case measure => simp [intOf]; omega
        have m1 : ¬ dd.tmod 3 = 1 := h1
        by_cases h2 : dd.tmod 3 = -1
        · have q0 : (dd.tmod 3 == 1) = false := by (first | (simpa using m1) | (rw [h2]; decide))
          have q1 : (dd.tmod 3 == -1) = true := by simpa using h2
          obtain ⟨E, L2, hL2, hE2, hP, hR⟩ := pack_drop A1 A2 c1 c2 L r wr hGr HT.out HU.out hOK.out HS.out hf60 ht60 hl64
          have HP := Lib.hid hP
          have HR := Lib.hid hR
          clear hP hR
          have e1 : (E != E) = false := by simp
          by_cases h0 : E = 0
          · have e2 : (E == 0) = true := by simpa using h0
            go_wp2_with (first | (go_at_call 8; go_must (refine (HL.out _).mono ?_); rintro e w2 ⟨rfl, hb⟩; have F8 := Lib.hid (blk_below (blk_new wr _) hb); have hz8 := blk_lt F8.out; have B := Lib.hid (below_step (below_alloc (Below.refl _ _) _) hb); have F5 := Lib.hid (blk_below HF5.out B.out); have hz5 := blk_lt F5.out; have F8_0 := blkc F8.out 0 rfl; have F8_1 := blkc F8.out 1 rfl; have F8_2 := blkc F8.out 2 rfl; have F8_3 := blkc F8.out 3 rfl; have F8_4 := blkc F8.out 4 rfl; have F8_5 := blkc F8.out 5 rfl; have F8_6 := blkc F8.out 6 rfl; have F5_0 := blkc F5.out 0 rfl; clear hb) | (go_at_call 15; ((with_reducible refine (HP.out _ (below_alloc B.out _)).mono ?_); rintro e w3 ⟨v3, rfl, hT3, hb, hfr⟩); obtain ⟨A3, c3, rfl⟩ := hT3.slice; have F9 := Lib.hid (blk_below (blk_new w2 _) hb); have hz9 := blk_lt F9.out; have F9_0 := blkc F9.out 0 rfl; have F9_f := blk_frozen F9.out 0; have HT3 := Lib.hid hT3; have HF3 := Lib.hid hfr; clear hT3 hfr; replace B := Lib.hid (below_step (below_alloc B.out _) hb); replace F5 := Lib.hid (blk_below (blk_alloc F5.out _) hb); replace F5_0 := blkc F5.out 0 rfl; replace F5_f := blk_frozen F5.out 0; replace F8 := Lib.hid (blk_below (blk_alloc F8.out _) hb); replace F8_0 := blkc F8.out 0 rfl; replace F8_1 := blkc F8.out 1 rfl; replace F8_2 := blkc F8.out 2 rfl; replace F8_3 := blkc F8.out 3 rfl; replace F8_4 := blkc F8.out 4 rfl; replace F8_5 := blkc F8.out 5 rfl; replace F8_6 := blkc F8.out 6 rfl; clear hb) | (go_at_call 16; ((with_reducible refine (HR.out _ (B.out.setCell (by dsimp only; omega) _)).mono ?_); rintro e w4 ⟨v4, rfl, hT4, hb, hfr⟩); obtain ⟨A4, c4, rfl⟩ := hT4.slice; replace F9 := Lib.hid (blk_below (blk_set F9.out 0 _) hb); replace F9_0 := blkc F9.out 0 rfl; replace F9_f := blk_frozen F9.out 0; replace F5 := Lib.hid (blk_below (blk_far F5.out (by dsimp only; omega) _) hb); replace F5_0 := blkc F5.out 0 rfl; replace F5_f := blk_frozen F5.out 0; replace HT3 := Lib.hid ((HT3.out.far (fun e => by have := HF3.out _ e; simp at this; omega) _).below hb); replace B := Lib.hid (below_step (B.out.setCell (by dsimp only; omega) _) hb); have HT4 := Lib.hid hT4; have HF4 := Lib.hid hfr; clear hT4 hfr hb) | (go_at_call 21; ((with_reducible refine (is_same A3 A4 c3 c4 L2 _ HT3.out HT4.out hL2).mono ?_); rintro e w5 ⟨rfl, hb⟩); replace B := Lib.hid (below_step B.out hb); replace F5 := Lib.hid (blk_below F5.out hb); replace F5_0 := blkc F5.out 0 rfl; replace F5_f := blk_frozen F5.out 0; replace F9 := Lib.hid (blk_below F9.out hb); replace F9_0 := blkc F9.out 0 rfl; replace HT3 := Lib.hid (HT3.out.below hb); replace HT4 := Lib.hid (HT4.out.below hb); clear hb) | (go_at_call 21; ((with_reducible refine (is_same A1 A2 c1 c2 L _ (HT.out.below B.out) (HU.out.below B.out) (by omega)).mono ?_); rintro e w6 ⟨rfl, hb⟩); replace B := Lib.hid (below_step B.out hb); replace F5 := Lib.hid (blk_below F5.out hb); replace F5_0 := blkc F5.out 0 rfl; replace F5_f := blk_frozen F5.out 0; replace F9 := Lib.hid (blk_below F9.out hb); replace F9_0 := blkc F9.out 0 rfl; replace HT3 := Lib.hid (HT3.out.below hb); replace HT4 := Lib.hid (HT4.out.below hb); clear hb))
            go_roundw
            case rel => exact ⟨k + 1, by omega, by go_num, A3, c3, A4, c4, L2, rfl, blk_set F5.out 0 _, HT3.out.far (fun e => by have := HF3.out _ e; simp at this; omega) _, HT4.out.far (fun e => by have := HF4.out _ e; simp at this; omega) _, (hE2 h0).1, (hE2 h0).2, (below_step BW.out B.out).setCell (by dsimp only; omega) _⟩
            case measure => simp [intOf]; omega
          · have e2 : (E == 0) = false := by simpa using h0
            go_wp2_with (first | (go_at_call 8; go_must (refine (HL.out _).mono ?_); rintro e w2 ⟨rfl, hb⟩; have F8 := Lib.hid (blk_below (blk_new wr _) hb); have hz8 := blk_lt F8.out; have B := Lib.hid (below_step (below_alloc (Below.refl _ _) _) hb); have F5 := Lib.hid (blk_below HF5.out B.out); have hz5 := blk_lt F5.out; have F8_0 := blkc F8.out 0 rfl; have F8_1 := blkc F8.out 1 rfl; have F8_2 := blkc F8.out 2 rfl; have F8_3 := blkc F8.out 3 rfl; have F8_4 := blkc F8.out 4 rfl; have F8_5 := blkc F8.out 5 rfl; have F8_6 := blkc F8.out 6 rfl; have F5_0 := blkc F5.out 0 rfl; clear hb) | (go_at_call 15; ((with_reducible refine (HP.out _ (below_alloc B.out _)).mono ?_); rintro e w3 ⟨v3, rfl, hT3, hb, hfr⟩); obtain ⟨A3, c3, rfl⟩ := hT3.slice; have F9 := Lib.hid (blk_below (blk_new w2 _) hb); have hz9 := blk_lt F9.out; have F9_0 := blkc F9.out 0 rfl; have F9_f := blk_frozen F9.out 0; have HT3 := Lib.hid hT3; have HF3 := Lib.hid hfr; clear hT3 hfr; replace B := Lib.hid (below_step (below_alloc B.out _) hb); replace F5 := Lib.hid (blk_below (blk_alloc F5.out _) hb); replace F5_0 := blkc F5.out 0 rfl; replace F5_f := blk_frozen F5.out 0; replace F8 := Lib.hid (blk_below (blk_alloc F8.out _) hb); replace F8_0 := blkc F8.out 0 rfl; replace F8_1 := blkc F8.out 1 rfl; replace F8_2 := blkc F8.out 2 rfl; replace F8_3 := blkc F8.out 3 rfl; replace F8_4 := blkc F8.out 4 rfl; replace F8_5 := blkc F8.out 5 rfl; replace F8_6 := blkc F8.out 6 rfl; clear hb) | (go_at_call 16; ((with_reducible refine (HR.out _ (B.out.setCell (by dsimp only; omega) _)).mono ?_); rintro e w4 ⟨v4, rfl, hT4, hb, hfr⟩); obtain ⟨A4, c4, rfl⟩ := hT4.slice; replace F9 := Lib.hid (blk_below (blk_set F9.out 0 _) hb); replace F9_0 := blkc F9.out 0 rfl; replace F9_f := blk_frozen F9.out 0; replace F5 := Lib.hid (blk_below (blk_far F5.out (by dsimp only; omega) _) hb); replace F5_0 := blkc F5.out 0 rfl; replace F5_f := blk_frozen F5.out 0; replace HT3 := Lib.hid ((HT3.out.far (fun e => by have := HF3.out _ e; simp at this; omega) _).below hb); replace B := Lib.hid (below_step (B.out.setCell (by dsimp only; omega) _) hb); have HT4 := Lib.hid hT4; have HF4 := Lib.hid hfr; clear hT4 hfr hb) | (go_at_call 21; ((with_reducible refine (is_same A3 A4 c3 c4 L2 _ HT3.out HT4.out hL2).mono ?_); rintro e w5 ⟨rfl, hb⟩); replace B := Lib.hid (below_step B.out hb); replace F5 := Lib.hid (blk_below F5.out hb); replace F5_0 := blkc F5.out 0 rfl; replace F5_f := blk_frozen F5.out 0; replace F9 := Lib.hid (blk_below F9.out hb); replace F9_0 := blkc F9.out 0 rfl; replace HT3 := Lib.hid (HT3.out.below hb); replace HT4 := Lib.hid (HT4.out.below hb); clear hb) | (go_at_call 21; ((with_reducible refine (is_same A1 A2 c1 c2 L _ (HT.out.below B.out) (HU.out.below B.out) (by omega)).mono ?_); rintro e w6 ⟨rfl, hb⟩); replace B := Lib.hid (below_step B.out hb); replace F5 := Lib.hid (blk_below F5.out hb); replace F5_0 := blkc F5.out 0 rfl; replace F5_f := blk_frozen F5.out 0; replace F9 := Lib.hid (blk_below F9.out hb); replace F9_0 := blkc F9.out 0 rfl; replace HT3 := Lib.hid (HT3.out.below hb); replace HT4 := Lib.hid (HT4.out.below hb); clear hb))
            go_roundw
            case rel => exact ⟨k + 1, by omega, by go_num, A1, c1, A2, c2, L, rfl, F5.out, HT.out.below B.out, HU.out.below B.out, hOK.out, hl64, below_step BW.out B.out⟩
            case measure => simp [intOf]; omega
        have mn1 : ¬ dd.tmod 3 = -1 := h2
        by_cases h3 : dd.tmod 3 = 2
        · have q0 : (dd.tmod 3 == 1) = false := by (first | (simpa using m1) | (rw [h3]; decide))
          have q1 : (dd.tmod 3 == -1) = false := by (first | (simpa using mn1) | (rw [h3]; decide))
          have q2 : (dd.tmod 3 == 2) = true := by simpa using h3
          obtain ⟨E, L2, hL2, hE2, hP, hR⟩ := pack_turn A1 A2 c1 c2 L r wr hGr HT.out HU.out hOK.out HS.out hf60 ht60 hl64
          have HP := Lib.hid hP
          have HR := Lib.hid hR
          clear hP hR
          have e1 : (E != E) = false := by simp
          by_cases h0 : E = 0
          · have e2 : (E == 0) = true := by simpa using h0
            go_wp2_with (first | (go_at_call 8; go_must (refine (HL.out _).mono ?_); rintro e w2 ⟨rfl, hb⟩; have F8 := Lib.hid (blk_below (blk_new wr _) hb); have hz8 := blk_lt F8.out; have B := Lib.hid (below_step (below_alloc (Below.refl _ _) _) hb); have F5 := Lib.hid (blk_below HF5.out B.out); have hz5 := blk_lt F5.out; have F8_0 := blkc F8.out 0 rfl; have F8_1 := blkc F8.out 1 rfl; have F8_2 := blkc F8.out 2 rfl; have F8_3 := blkc F8.out 3 rfl; have F8_4 := blkc F8.out 4 rfl; have F8_5 := blkc F8.out 5 rfl; have F8_6 := blkc F8.out 6 rfl; have F5_0 := blkc F5.out 0 rfl; clear hb) | (go_at_call 17; ((with_reducible refine (HP.out _ (below_alloc B.out _)).mono ?_); rintro e w3 ⟨v3, rfl, hT3, hb, hfr⟩); obtain ⟨A3, c3, rfl⟩ := hT3.slice; have F9 := Lib.hid (blk_below (blk_new w2 _) hb); have hz9 := blk_lt F9.out; have F9_0 := blkc F9.out 0 rfl; have F9_f := blk_frozen F9.out 0; have HT3 := Lib.hid hT3; have HF3 := Lib.hid hfr; clear hT3 hfr; replace B := Lib.hid (below_step (below_alloc B.out _) hb); replace F5 := Lib.hid (blk_below (blk_alloc F5.out _) hb); replace F5_0 := blkc F5.out 0 rfl; replace F5_f := blk_frozen F5.out 0; replace F8 := Lib.hid (blk_below (blk_alloc F8.out _) hb); replace F8_0 := blkc F8.out 0 rfl; replace F8_1 := blkc F8.out 1 rfl; replace F8_2 := blkc F8.out 2 rfl; replace F8_3 := blkc F8.out 3 rfl; replace F8_4 := blkc F8.out 4 rfl; replace F8_5 := blkc F8.out 5 rfl; replace F8_6 := blkc F8.out 6 rfl; clear hb) | (go_at_call 18; ((with_reducible refine (HR.out _ (B.out.setCell (by dsimp only; omega) _)).mono ?_); rintro e w4 ⟨v4, rfl, hT4, hb, hfr⟩); obtain ⟨A4, c4, rfl⟩ := hT4.slice; replace F9 := Lib.hid (blk_below (blk_set F9.out 0 _) hb); replace F9_0 := blkc F9.out 0 rfl; replace F9_f := blk_frozen F9.out 0; replace F5 := Lib.hid (blk_below (blk_far F5.out (by dsimp only; omega) _) hb); replace F5_0 := blkc F5.out 0 rfl; replace F5_f := blk_frozen F5.out 0; replace HT3 := Lib.hid ((HT3.out.far (fun e => by have := HF3.out _ e; simp at this; omega) _).below hb); replace B := Lib.hid (below_step (B.out.setCell (by dsimp only; omega) _) hb); have HT4 := Lib.hid hT4; have HF4 := Lib.hid hfr; clear hT4 hfr hb) | (go_at_call 21; ((with_reducible refine (is_same A3 A4 c3 c4 L2 _ HT3.out HT4.out hL2).mono ?_); rintro e w5 ⟨rfl, hb⟩); replace B := Lib.hid (below_step B.out hb); replace F5 := Lib.hid (blk_below F5.out hb); replace F5_0 := blkc F5.out 0 rfl; replace F5_f := blk_frozen F5.out 0; replace F9 := Lib.hid (blk_below F9.out hb); replace F9_0 := blkc F9.out 0 rfl; replace HT3 := Lib.hid (HT3.out.below hb); replace HT4 := Lib.hid (HT4.out.below hb); clear hb) | (go_at_call 21; ((with_reducible refine (is_same A1 A2 c1 c2 L _ (HT.out.below B.out) (HU.out.below B.out) (by omega)).mono ?_); rintro e w6 ⟨rfl, hb⟩); replace B := Lib.hid (below_step B.out hb); replace F5 := Lib.hid (blk_below F5.out hb); replace F5_0 := blkc F5.out 0 rfl; replace F5_f := blk_frozen F5.out 0; replace F9 := Lib.hid (blk_below F9.out hb); replace F9_0 := blkc F9.out 0 rfl; replace HT3 := Lib.hid (HT3.out.below hb); replace HT4 := Lib.hid (HT4.out.below hb); clear hb))
            go_roundw
            case rel => exact ⟨k + 1, by omega, by go_num, A3, c3, A4, c4, L2, rfl, blk_set F5.out 0 _, HT3.out.far (fun e => by have := HF3.out _ e; simp at this; omega) _, HT4.out.far (fun e => by have := HF4.out _ e; simp at this; omega) _, (hE2 h0).1, (hE2 h0).2, (below_step BW.out B.out).setCell (by dsimp only; omega) _⟩
            case measure => simp [intOf]; omega
          · have e2 : (E == 0) = false := by simpa using h0
            go_wp2_with (first | (go_at_call 8; go_must (refine (HL.out _).mono ?_); rintro e w2 ⟨rfl, hb⟩; have F8 := Lib.hid (blk_below (blk_new wr _) hb); have hz8 := blk_lt F8.out; have B := Lib.hid (below_step (below_alloc (Below.refl _ _) _) hb); have F5 := Lib.hid (blk_below HF5.out B.out); have hz5 := blk_lt F5.out; have F8_0 := blkc F8.out 0 rfl; have F8_1 := blkc F8.out 1 rfl; have F8_2 := blkc F8.out 2 rfl; have F8_3 := blkc F8.out 3 rfl; have F8_4 := blkc F8.out 4 rfl; have F8_5 := blkc F8.out 5 rfl; have F8_6 := blkc F8.out 6 rfl; have F5_0 := blkc F5.out 0 rfl; clear hb) | (go_at_call 17; ((with_reducible refine (HP.out _ (below_alloc B.out _)).mono ?_); rintro e w3 ⟨v3, rfl, hT3, hb, hfr⟩); obtain ⟨A3, c3, rfl⟩ := hT3.slice; have F9 := Lib.hid (blk_below (blk_new w2 _) hb); have hz9 := blk_lt F9.out; have F9_0 := blkc F9.out 0 rfl; have F9_f := blk_frozen F9.out 0; have HT3 := Lib.hid hT3; have HF3 := Lib.hid hfr; clear hT3 hfr; replace B := Lib.hid (below_step (below_alloc B.out _) hb); replace F5 := Lib.hid (blk_below (blk_alloc F5.out _) hb); replace F5_0 := blkc F5.out 0 rfl; replace F5_f := blk_frozen F5.out 0; replace F8 := Lib.hid (blk_below (blk_alloc F8.out _) hb); replace F8_0 := blkc F8.out 0 rfl; replace F8_1 := blkc F8.out 1 rfl; replace F8_2 := blkc F8.out 2 rfl; replace F8_3 := blkc F8.out 3 rfl; replace F8_4 := blkc F8.out 4 rfl; replace F8_5 := blkc F8.out 5 rfl; replace F8_6 := blkc F8.out 6 rfl; clear hb) | (go_at_call 18; ((with_reducible refine (HR.out _ (B.out.setCell (by dsimp only; omega) _)).mono ?_); rintro e w4 ⟨v4, rfl, hT4, hb, hfr⟩); obtain ⟨A4, c4, rfl⟩ := hT4.slice; replace F9 := Lib.hid (blk_below (blk_set F9.out 0 _) hb); replace F9_0 := blkc F9.out 0 rfl; replace F9_f := blk_frozen F9.out 0; replace F5 := Lib.hid (blk_below (blk_far F5.out (by dsimp only; omega) _) hb); replace F5_0 := blkc F5.out 0 rfl; replace F5_f := blk_frozen F5.out 0; replace HT3 := Lib.hid ((HT3.out.far (fun e => by have := HF3.out _ e; simp at this; omega) _).below hb); replace B := Lib.hid (below_step (B.out.setCell (by dsimp only; omega) _) hb); have HT4 := Lib.hid hT4; have HF4 := Lib.hid hfr; clear hT4 hfr hb) | (go_at_call 21; ((with_reducible refine (is_same A3 A4 c3 c4 L2 _ HT3.out HT4.out hL2).mono ?_); rintro e w5 ⟨rfl, hb⟩); replace B := Lib.hid (below_step B.out hb); replace F5 := Lib.hid (blk_below F5.out hb); replace F5_0 := blkc F5.out 0 rfl; replace F5_f := blk_frozen F5.out 0; replace F9 := Lib.hid (blk_below F9.out hb); replace F9_0 := blkc F9.out 0 rfl; replace HT3 := Lib.hid (HT3.out.below hb); replace HT4 := Lib.hid (HT4.out.below hb); clear hb) | (go_at_call 21; ((with_reducible refine (is_same A1 A2 c1 c2 L _ (HT.out.below B.out) (HU.out.below B.out) (by omega)).mono ?_); rintro e w6 ⟨rfl, hb⟩); replace B := Lib.hid (below_step B.out hb); replace F5 := Lib.hid (blk_below F5.out hb); replace F5_0 := blkc F5.out 0 rfl; replace F5_f := blk_frozen F5.out 0; replace F9 := Lib.hid (blk_below F9.out hb); replace F9_0 := blkc F9.out 0 rfl; replace HT3 := Lib.hid (HT3.out.below hb); replace HT4 := Lib.hid (HT4.out.below hb); clear hb))
            go_roundw
            case rel => exact ⟨k + 1, by omega, by go_num, A1, c1, A2, c2, L, rfl, F5.out, HT.out.below B.out, HU.out.below B.out, hOK.out, hl64, below_step BW.out B.out⟩
            case measure => simp [intOf]; omega
        have m2 : ¬ dd.tmod 3 = 2 := h3
        by_cases h4 : dd.tmod 3 = -2
        · have q0 : (dd.tmod 3 == 1) = false := by (first | (simpa using m1) | (rw [h4]; decide))
          have q1 : (dd.tmod 3 == -1) = false := by (first | (simpa using mn1) | (rw [h4]; decide))
          have q2 : (dd.tmod 3 == 2) = false := by (first | (simpa using m2) | (rw [h4]; decide))
          have q3 : (dd.tmod 3 == -2) = true := by simpa using h4
          obtain ⟨E, L2, hL2, hE2, hP, hR⟩ := pack_turn A1 A2 c1 c2 L r wr hGr HT.out HU.out hOK.out HS.out hf60 ht60 hl64
          have HP := Lib.hid hP
          have HR := Lib.hid hR
          clear hP hR
          have e1 : (E != E) = false := by simp
          by_cases h0 : E = 0
          · have e2 : (E == 0) = true := by simpa using h0
            go_wp2_with (first | (go_at_call 8; go_must (refine (HL.out _).mono ?_); rintro e w2 ⟨rfl, hb⟩; have F8 := Lib.hid (blk_below (blk_new wr _) hb); have hz8 := blk_lt F8.out; have B := Lib.hid (below_step (below_alloc (Below.refl _ _) _) hb); have F5 := Lib.hid (blk_below HF5.out B.out); have hz5 := blk_lt F5.out; have F8_0 := blkc F8.out 0 rfl; have F8_1 := blkc F8.out 1 rfl; have F8_2 := blkc F8.out 2 rfl; have F8_3 := blkc F8.out 3 rfl; have F8_4 := blkc F8.out 4 rfl; have F8_5 := blkc F8.out 5 rfl; have F8_6 := blkc F8.out 6 rfl; have F5_0 := blkc F5.out 0 rfl; clear hb) | (go_at_call 17; ((with_reducible refine (HP.out _ (below_alloc B.out _)).mono ?_); rintro e w3 ⟨v3, rfl, hT3, hb, hfr⟩); obtain ⟨A3, c3, rfl⟩ := hT3.slice; have F9 := Lib.hid (blk_below (blk_new w2 _) hb); have hz9 := blk_lt F9.out; have F9_0 := blkc F9.out 0 rfl; have F9_f := blk_frozen F9.out 0; have HT3 := Lib.hid hT3; have HF3 := Lib.hid hfr; clear hT3 hfr; replace B := Lib.hid (below_step (below_alloc B.out _) hb); replace F5 := Lib.hid (blk_below (blk_alloc F5.out _) hb); replace F5_0 := blkc F5.out 0 rfl; replace F5_f := blk_frozen F5.out 0; replace F8 := Lib.hid (blk_below (blk_alloc F8.out _) hb); replace F8_0 := blkc F8.out 0 rfl; replace F8_1 := blkc F8.out 1 rfl; replace F8_2 := blkc F8.out 2 rfl; replace F8_3 := blkc F8.out 3 rfl; replace F8_4 := blkc F8.out 4 rfl; replace F8_5 := blkc F8.out 5 rfl; replace F8_6 := blkc F8.out 6 rfl; clear hb) | (go_at_call 18; ((with_reducible refine (HR.out _ (B.out.setCell (by dsimp only; omega) _)).mono ?_); rintro e w4 ⟨v4, rfl, hT4, hb, hfr⟩); obtain ⟨A4, c4, rfl⟩ := hT4.slice; replace F9 := Lib.hid (blk_below (blk_set F9.out 0 _) hb); replace F9_0 := blkc F9.out 0 rfl; replace F9_f := blk_frozen F9.out 0; replace F5 := Lib.hid (blk_below (blk_far F5.out (by dsimp only; omega) _) hb); replace F5_0 := blkc F5.out 0 rfl; replace F5_f := blk_frozen F5.out 0; replace HT3 := Lib.hid ((HT3.out.far (fun e => by have := HF3.out _ e; simp at this; omega) _).below hb); replace B := Lib.hid (below_step (B.out.setCell (by dsimp only; omega) _) hb); have HT4 := Lib.hid hT4; have HF4 := Lib.hid hfr; clear hT4 hfr hb) | (go_at_call 21; ((with_reducible refine (is_same A3 A4 c3 c4 L2 _ HT3.out HT4.out hL2).mono ?_); rintro e w5 ⟨rfl, hb⟩); replace B := Lib.hid (below_step B.out hb); replace F5 := Lib.hid (blk_below F5.out hb); replace F5_0 := blkc F5.out 0 rfl; replace F5_f := blk_frozen F5.out 0; replace F9 := Lib.hid (blk_below F9.out hb); replace F9_0 := blkc F9.out 0 rfl; replace HT3 := Lib.hid (HT3.out.below hb); replace HT4 := Lib.hid (HT4.out.below hb); clear hb) | (go_at_call 21; ((with_reducible refine (is_same A1 A2 c1 c2 L _ (HT.out.below B.out) (HU.out.below B.out) (by omega)).mono ?_); rintro e w6 ⟨rfl, hb⟩); replace B := Lib.hid (below_step B.out hb); replace F5 := Lib.hid (blk_below F5.out hb); replace F5_0 := blkc F5.out 0 rfl; replace F5_f := blk_frozen F5.out 0; replace F9 := Lib.hid (blk_below F9.out hb); replace F9_0 := blkc F9.out 0 rfl; replace HT3 := Lib.hid (HT3.out.below hb); replace HT4 := Lib.hid (HT4.out.below hb); clear hb))
            go_roundw
            case rel => exact ⟨k + 1, by omega, by go_num, A3, c3, A4, c4, L2, rfl, blk_set F5.out 0 _, HT3.out.far (fun e => by have := HF3.out _ e; simp at this; omega) _, HT4.out.far (fun e => by have := HF4.out _ e; simp at this; omega) _, (hE2 h0).1, (hE2 h0).2, (below_step BW.out B.out).setCell (by dsimp only; omega) _⟩
            case measure => simp [intOf]; omega
          · have e2 : (E == 0) = false := by simpa using h0
            go_wp2_with (first | (go_at_call 8; go_must (refine (HL.out _).mono ?_); rintro e w2 ⟨rfl, hb⟩; have F8 := Lib.hid (blk_below (blk_new wr _) hb); have hz8 := blk_lt F8.out; have B := Lib.hid (below_step (below_alloc (Below.refl _ _) _) hb); have F5 := Lib.hid (blk_below HF5.out B.out); have hz5 := blk_lt F5.out; have F8_0 := blkc F8.out 0 rfl; have F8_1 := blkc F8.out 1 rfl; have F8_2 := blkc F8.out 2 rfl; have F8_3 := blkc F8.out 3 rfl; have F8_4 := blkc F8.out 4 rfl; have F8_5 := blkc F8.out 5 rfl; have F8_6 := blkc F8.out 6 rfl; have F5_0 := blkc F5.out 0 rfl; clear hb) | (go_at_call 17; ((with_reducible refine (HP.out _ (below_alloc B.out _)).mono ?_); rintro e w3 ⟨v3, rfl, hT3, hb, hfr⟩); obtain ⟨A3, c3, rfl⟩ := hT3.slice; have F9 := Lib.hid (blk_below (blk_new w2 _) hb); have hz9 := blk_lt F9.out; have F9_0 := blkc F9.out 0 rfl; have F9_f := blk_frozen F9.out 0; have HT3 := Lib.hid hT3; have HF3 := Lib.hid hfr; clear hT3 hfr; replace B := Lib.hid (below_step (below_alloc B.out _) hb); replace F5 := Lib.hid (blk_below (blk_alloc F5.out _) hb); replace F5_0 := blkc F5.out 0 rfl; replace F5_f := blk_frozen F5.out 0; replace F8 := Lib.hid (blk_below (blk_alloc F8.out _) hb); replace F8_0 := blkc F8.out 0 rfl; replace F8_1 := blkc F8.out 1 rfl; replace F8_2 := blkc F8.out 2 rfl; replace F8_3 := blkc F8.out 3 rfl; replace F8_4 := blkc F8.out 4 rfl; replace F8_5 := blkc F8.out 5 rfl; replace F8_6 := blkc F8.out 6 rfl; clear hb) | (go_at_call 18; ((with_reducible refine (HR.out _ (B.out.setCell (by dsimp only; omega) _)).mono ?_); rintro e w4 ⟨v4, rfl, hT4, hb, hfr⟩); obtain ⟨A4, c4, rfl⟩ := hT4.slice; replace F9 := Lib.hid (blk_below (blk_set F9.out 0 _) hb); replace F9_0 := blkc F9.out 0 rfl; replace F9_f := blk_frozen F9.out 0; replace F5 := Lib.hid (blk_below (blk_far F5.out (by dsimp only; omega) _) hb); replace F5_0 := blkc F5.out 0 rfl; replace F5_f := blk_frozen F5.out 0; replace HT3 := Lib.hid ((HT3.out.far (fun e => by have := HF3.out _ e; simp at this; omega) _).below hb); replace B := Lib.hid (below_step (B.out.setCell (by dsimp only; omega) _) hb); have HT4 := Lib.hid hT4; have HF4 := Lib.hid hfr; clear hT4 hfr hb) | (go_at_call 21; ((with_reducible refine (is_same A3 A4 c3 c4 L2 _ HT3.out HT4.out hL2).mono ?_); rintro e w5 ⟨rfl, hb⟩); replace B := Lib.hid (below_step B.out hb); replace F5 := Lib.hid (blk_below F5.out hb); replace F5_0 := blkc F5.out 0 rfl; replace F5_f := blk_frozen F5.out 0; replace F9 := Lib.hid (blk_below F9.out hb); replace F9_0 := blkc F9.out 0 rfl; replace HT3 := Lib.hid (HT3.out.below hb); replace HT4 := Lib.hid (HT4.out.below hb); clear hb) | (go_at_call 21; ((with_reducible refine (is_same A1 A2 c1 c2 L _ (HT.out.below B.out) (HU.out.below B.out) (by omega)).mono ?_); rintro e w6 ⟨rfl, hb⟩); replace B := Lib.hid (below_step B.out hb); replace F5 := Lib.hid (blk_below F5.out hb); replace F5_0 := blkc F5.out 0 rfl; replace F5_f := blk_frozen F5.out 0; replace F9 := Lib.hid (blk_below F9.out hb); replace F9_0 := blkc F9.out 0 rfl; replace HT3 := Lib.hid (HT3.out.below hb); replace HT4 := Lib.hid (HT4.out.below hb); clear hb))
            go_roundw
            case rel => exact ⟨k + 1, by omega, by go_num, A1, c1, A2, c2, L, rfl, F5.out, HT.out.below B.out, HU.out.below B.out, hOK.out, hl64, below_step BW.out B.out⟩
            case measure => simp [intOf]; omega
        have mn2 : ¬ dd.tmod 3 = -2 := h4
        have q0 : (dd.tmod 3 == 1) = false := by (first | (simpa using m1) | (rw [h5]; decide))
        have q1 : (dd.tmod 3 == -1) = false := by (first | (simpa using mn1) | (rw [h5]; decide))
        have q2 : (dd.tmod 3 == 2) = false := by (first | (simpa using m2) | (rw [h5]; decide))
        have q3 : (dd.tmod 3 == -2) = false := by (first | (simpa using mn2) | (rw [h5]; decide))
        obtain ⟨E, L2, hL2, hE2, hP, hR⟩ := pack_add A1 A2 c1 c2 L r wr hGr HT.out HU.out hOK.out HS.out hf60 ht60 hl64
        have HP := Lib.hid hP
        have HR := Lib.hid hR
        clear hP hR
        have e1 : (E != E) = false := by simp
        by_cases h0 : E = 0
        · have e2 : (E == 0) = true := by simpa using h0
          go_wp2_with (first | (go_at_call 8; go_must (refine (HL.out _).mono ?_); rintro e w2 ⟨rfl, hb⟩; have F8 := Lib.hid (blk_below (blk_new wr _) hb); have hz8 := blk_lt F8.out; have B := Lib.hid (below_step (below_alloc (Below.refl _ _) _) hb); have F5 := Lib.hid (blk_below HF5.out B.out); have hz5 := blk_lt F5.out; have F8_0 := blkc F8.out 0 rfl; have F8_1 := blkc F8.out 1 rfl; have F8_2 := blkc F8.out 2 rfl; have F8_3 := blkc F8.out 3 rfl; have F8_4 := blkc F8.out 4 rfl; have F8_5 := blkc F8.out 5 rfl; have F8_6 := blkc F8.out 6 rfl; have F5_0 := blkc F5.out 0 rfl; clear hb) | (go_at_call 19; ((with_reducible refine (HP.out _ (below_alloc B.out _)).mono ?_); rintro e w3 ⟨v3, rfl, hT3, hb, hfr⟩); obtain ⟨A3, c3, rfl⟩ := hT3.slice; have F9 := Lib.hid (blk_below (blk_new w2 _) hb); have hz9 := blk_lt F9.out; have F9_0 := blkc F9.out 0 rfl; have F9_f := blk_frozen F9.out 0; have HT3 := Lib.hid hT3; have HF3 := Lib.hid hfr; clear hT3 hfr; replace B := Lib.hid (below_step (below_alloc B.out _) hb); replace F5 := Lib.hid (blk_below (blk_alloc F5.out _) hb); replace F5_0 := blkc F5.out 0 rfl; replace F5_f := blk_frozen F5.out 0; replace F8 := Lib.hid (blk_below (blk_alloc F8.out _) hb); replace F8_0 := blkc F8.out 0 rfl; replace F8_1 := blkc F8.out 1 rfl; replace F8_2 := blkc F8.out 2 rfl; replace F8_3 := blkc F8.out 3 rfl; replace F8_4 := blkc F8.out 4 rfl; replace F8_5 := blkc F8.out 5 rfl; replace F8_6 := blkc F8.out 6 rfl; clear hb) | (go_at_call 20; ((with_reducible refine (HR.out _ (B.out.setCell (by dsimp only; omega) _)).mono ?_); rintro e w4 ⟨v4, rfl, hT4, hb, hfr⟩); obtain ⟨A4, c4, rfl⟩ := hT4.slice; replace F9 := Lib.hid (blk_below (blk_set F9.out 0 _) hb); replace F9_0 := blkc F9.out 0 rfl; replace F9_f := blk_frozen F9.out 0; replace F5 := Lib.hid (blk_below (blk_far F5.out (by dsimp only; omega) _) hb); replace F5_0 := blkc F5.out 0 rfl; replace F5_f := blk_frozen F5.out 0; replace HT3 := Lib.hid ((HT3.out.far (fun e => by have := HF3.out _ e; simp at this; omega) _).below hb); replace B := Lib.hid (below_step (B.out.setCell (by dsimp only; omega) _) hb); have HT4 := Lib.hid hT4; have HF4 := Lib.hid hfr; clear hT4 hfr hb) | (go_at_call 21; ((with_reducible refine (is_same A3 A4 c3 c4 L2 _ HT3.out HT4.out hL2).mono ?_); rintro e w5 ⟨rfl, hb⟩); replace B := Lib.hid (below_step B.out hb); replace F5 := Lib.hid (blk_below F5.out hb); replace F5_0 := blkc F5.out 0 rfl; replace F5_f := blk_frozen F5.out 0; replace F9 := Lib.hid (blk_below F9.out hb); replace F9_0 := blkc F9.out 0 rfl; replace HT3 := Lib.hid (HT3.out.below hb); replace HT4 := Lib.hid (HT4.out.below hb); clear hb) | (go_at_call 21; ((with_reducible refine (is_same A1 A2 c1 c2 L _ (HT.out.below B.out) (HU.out.below B.out) (by omega)).mono ?_); rintro e w6 ⟨rfl, hb⟩); replace B := Lib.hid (below_step B.out hb); replace F5 := Lib.hid (blk_below F5.out hb); replace F5_0 := blkc F5.out 0 rfl; replace F5_f := blk_frozen F5.out 0; replace F9 := Lib.hid (blk_below F9.out hb); replace F9_0 := blkc F9.out 0 rfl; replace HT3 := Lib.hid (HT3.out.below hb); replace HT4 := Lib.hid (HT4.out.below hb); clear hb))
          go_roundw
          case rel => exact ⟨k + 1, by omega, by go_num, A3, c3, A4, c4, L2, rfl, blk_set F5.out 0 _, HT3.out.far (fun e => by have := HF3.out _ e; simp at this; omega) _, HT4.out.far (fun e => by have := HF4.out _ e; simp at this; omega) _, (hE2 h0).1, (hE2 h0).2, (below_step BW.out B.out).setCell (by dsimp only; omega) _⟩
          case measure => simp [intOf]; omega
        · have e2 : (E == 0) = false := by simpa using h0
          go_wp2_with (first | (go_at_call 8; go_must (refine (HL.out _).mono ?_); rintro e w2 ⟨rfl, hb⟩; have F8 := Lib.hid (blk_below (blk_new wr _) hb); have hz8 := blk_lt F8.out; have B := Lib.hid (below_step (below_alloc (Below.refl _ _) _) hb); have F5 := Lib.hid (blk_below HF5.out B.out); have hz5 := blk_lt F5.out; have F8_0 := blkc F8.out 0 rfl; have F8_1 := blkc F8.out 1 rfl; have F8_2 := blkc F8.out 2 rfl; have F8_3 := blkc F8.out 3 rfl; have F8_4 := blkc F8.out 4 rfl; have F8_5 := blkc F8.out 5 rfl; have F8_6 := blkc F8.out 6 rfl; have F5_0 := blkc F5.out 0 rfl; clear hb) | (go_at_call 19; ((with_reducible refine (HP.out _ (below_alloc B.out _)).mono ?_); rintro e w3 ⟨v3, rfl, hT3, hb, hfr⟩); obtain ⟨A3, c3, rfl⟩ := hT3.slice; have F9 := Lib.hid (blk_below (blk_new w2 _) hb); have hz9 := blk_lt F9.out; have F9_0 := blkc F9.out 0 rfl; have F9_f := blk_frozen F9.out 0; have HT3 := Lib.hid hT3; have HF3 := Lib.hid hfr; clear hT3 hfr; replace B := Lib.hid (below_step (below_alloc B.out _) hb); replace F5 := Lib.hid (blk_below (blk_alloc F5.out _) hb); replace F5_0 := blkc F5.out 0 rfl; replace F5_f := blk_frozen F5.out 0; replace F8 := Lib.hid (blk_below (blk_alloc F8.out _) hb); replace F8_0 := blkc F8.out 0 rfl; replace F8_1 := blkc F8.out 1 rfl; replace F8_2 := blkc F8.out 2 rfl; replace F8_3 := blkc F8.out 3 rfl; replace F8_4 := blkc F8.out 4 rfl; replace F8_5 := blkc F8.out 5 rfl; replace F8_6 := blkc F8.out 6 rfl; clear hb) | (go_at_call 20; ((with_reducible refine (HR.out _ (B.out.setCell (by dsimp only; omega) _)).mono ?_); rintro e w4 ⟨v4, rfl, hT4, hb, hfr⟩); obtain ⟨A4, c4, rfl⟩ := hT4.slice; replace F9 := Lib.hid (blk_below (blk_set F9.out 0 _) hb); replace F9_0 := blkc F9.out 0 rfl; replace F9_f := blk_frozen F9.out 0; replace F5 := Lib.hid (blk_below (blk_far F5.out (by dsimp only; omega) _) hb); replace F5_0 := blkc F5.out 0 rfl; replace F5_f := blk_frozen F5.out 0; replace HT3 := Lib.hid ((HT3.out.far (fun e => by have := HF3.out _ e; simp at this; omega) _).below hb); replace B := Lib.hid (below_step (B.out.setCell (by dsimp only; omega) _) hb); have HT4 := Lib.hid hT4; have HF4 := Lib.hid hfr; clear hT4 hfr hb) | (go_at_call 21; ((with_reducible refine (is_same A3 A4 c3 c4 L2 _ HT3.out HT4.out hL2).mono ?_); rintro e w5 ⟨rfl, hb⟩); replace B := Lib.hid (below_step B.out hb); replace F5 := Lib.hid (blk_below F5.out hb); replace F5_0 := blkc F5.out 0 rfl; replace F5_f := blk_frozen F5.out 0; replace F9 := Lib.hid (blk_below F9.out hb); replace F9_0 := blkc F9.out 0 rfl; replace HT3 := Lib.hid (HT3.out.below hb); replace HT4 := Lib.hid (HT4.out.below hb); clear hb) | (go_at_call 21; ((with_reducible refine (is_same A1 A2 c1 c2 L _ (HT.out.below B.out) (HU.out.below B.out) (by omega)).mono ?_); rintro e w6 ⟨rfl, hb⟩); replace B := Lib.hid (below_step B.out hb); replace F5 := Lib.hid (blk_below F5.out hb); replace F5_0 := blkc F5.out 0 rfl; replace F5_f := blk_frozen F5.out 0; replace F9 := Lib.hid (blk_below F9.out hb); replace F9_0 := blkc F9.out 0 rfl; replace HT3 := Lib.hid (HT3.out.below hb); replace HT4 := Lib.hid (HT4.out.below hb); clear hb))
          go_roundw
          case rel => exact ⟨k + 1, by omega, by go_num, A1, c1, A2, c2, L, rfl, F5.out, HT.out.below B.out, HU.out.below B.out, hOK.out, hl64, below_step BW.out B.out⟩
          case measure => simp [intOf]; omega
    · obtain rfl : k = acts.length := by omega
      have k9 : decide ((acts.length : Int) < (acts.length : Int)) = false := by simp
      obtain ⟨wo, rfl⟩ : ∃ wo : World, wo = wr := ⟨_, rfl⟩
      go_wp2_with fail
      go_loopw [113] (fun vi wq => ∃ j : Nat, j ≤ cards.length ∧ vi = .int .i64 j ∧ Below wo.heap.size wo wq) (fun vi _ => cards.length - (intOf vi).toNat)
      case atStart => exact ⟨0, Nat.zero_le _, rfl, Below.refl _ _⟩
      case round =>
        obtain ⟨j, hj, rfl, hBq⟩ := hrel
        have B := Lib.hid hBq
        have F5 := Lib.hid (blk_below HF5.out hBq)
        have F5_0 := blkc F5.out 0 rfl
        have hz5 := blk_lt F5.out
        have hz1 := B0.out.size
        clear hBq
        rcases Nat.lt_or_ge j cards.length with hlt | hge2
        · have kj : decide ((j : Int) < (cards.length : Int)) = true := decide_eq_true (by omega)
          obtain ⟨ad, rfl, hs0, hsz⟩ := HB.out j hlt
          have hs := cellBelow B.out (cellBelow BW.out hs0)
          generalize cards[j] = s at hs hsz hs0
          clear hs0
          have hfd := fun W (hW : Below wo.heap.size wo W) => find_any (.slice A1 L.length c1) L s W (HT.out.below hW) (by omega)
          have hrd := fun W (hW : Below wo.heap.size wo W) => rfind_any (.slice A2 L.length c2) L s W (HU.out.below hW) hOK.out hsz (by omega)
          rcases find_is L hOK.out s with ⟨e1, i, hi, e2, e3, _⟩ | ⟨e1, e2, e3, _⟩
          · rw [e1, e3] at hfd
            rw [e2] at hrd
            obtain ⟨gU, rfl, hRU⟩ : ∃ gU, A2 = some ⟨gU, 0, none⟩ ∧ RngAt wo gU i L[i] := by
              rcases HU.out with ⟨_, h2⟩ | ⟨g, cap, h1, _, _, h4, h5⟩
              · rw [h2] at hi; exact absurd hi (by simp)
              · exact ⟨g, by simp at h1; exact h1.1, Tab.rngs h5 _ hi⟩
            generalize L[i] = R at hfd hRU
            unfold Rng.v rangeV at hfd
            have HFd := Lib.hid hfd
            have HRd := Lib.hid hrd
            have HRA := Lib.hid hRU
            have hne : ∀ W, (binOp BinOp.neq 29 (.agg #[.string R.f, .string R.t, .string R.n, .string R.lo, .string R.hi, .int .i64 R.m]) (.agg #[.string R.f, .string R.t, .string R.n, .string R.lo, .string R.hi, .int .i64 R.m])).run Tryz.prog W = .ok (.bool false) W := fun W => by go_simp
            have ki : decide ((i : Int) ≥ 0) = true := decide_eq_true (by omega)
            have ki2 : decide ((i : Int) < (L.length : Int)) = true := decide_eq_true (by omega)
            clear hfd hrd hRU e1 e2 e3
            rcases Nat.lt_or_ge 60 s.size with h60 | h60
            · have k60 : decide ((s.size : Int) > 60) = true := decide_eq_true (by omega)
              go_wp2_with (first | (go_at_call 22; ((with_reducible refine (HFd.out _ B.out).mono ?_); rintro e w3 ⟨rfl, hb⟩); replace B := Lib.hid (below_step B.out hb); replace F5 := Lib.hid (blk_below F5.out hb); replace F5_0 := blkc F5.out 0 rfl; clear hb) | (go_at_call 23; ((with_reducible refine (HRd.out _ (below_alloc B.out _)).mono ?_); rintro e w4 ⟨rfl, hb⟩); have F15 := Lib.hid (blk_below (blk_new w3 _) hb); have F15_0 := blkc F15.out 0 rfl; have F15_1 := blkc F15.out 1 rfl; have F15_2 := blkc F15.out 2 rfl; have F15_3 := blkc F15.out 3 rfl; have F15_4 := blkc F15.out 4 rfl; have F15_5 := blkc F15.out 5 rfl; replace B := Lib.hid (below_step (below_alloc B.out _) hb); replace F5 := Lib.hid (blk_below (blk_alloc F5.out _) hb); replace F5_0 := blkc F5.out 0 rfl; clear hb; obtain ⟨u0, u1, u2, u3, u4, u5⟩ := HRA.out.below B.out))
              go_ret
              exact ⟨rfl, below_step BW.out B.out⟩
            · have k60 : decide ((s.size : Int) > 60) = false := decide_eq_false (by omega)
              go_wp2_with (first | (go_at_call 22; ((with_reducible refine (HFd.out _ B.out).mono ?_); rintro e w3 ⟨rfl, hb⟩); replace B := Lib.hid (below_step B.out hb); replace F5 := Lib.hid (blk_below F5.out hb); replace F5_0 := blkc F5.out 0 rfl; clear hb) | (go_at_call 23; ((with_reducible refine (HRd.out _ (below_alloc B.out _)).mono ?_); rintro e w4 ⟨rfl, hb⟩); have F15 := Lib.hid (blk_below (blk_new w3 _) hb); have F15_0 := blkc F15.out 0 rfl; have F15_1 := blkc F15.out 1 rfl; have F15_2 := blkc F15.out 2 rfl; have F15_3 := blkc F15.out 3 rfl; have F15_4 := blkc F15.out 4 rfl; have F15_5 := blkc F15.out 5 rfl; replace B := Lib.hid (below_step (below_alloc B.out _) hb); replace F5 := Lib.hid (blk_below (blk_alloc F5.out _) hb); replace F5_0 := blkc F5.out 0 rfl; clear hb; obtain ⟨u0, u1, u2, u3, u4, u5⟩ := HRA.out.below B.out))
              go_big_quiet (fail)
              go_wp2
              go_roundw
              case rel => exact ⟨j + 1, by omega, by go_num, pw_below_drewN B.out _⟩
              case measure => simp [intOf]; omega
          · rw [e1, e3] at hfd
            rw [e2] at hrd
            unfold noR Rng.v rangeV at hfd
            have HFd := Lib.hid hfd
            have HRd := Lib.hid hrd
            have hne : ∀ W, (binOp BinOp.neq 23 (.agg #[.string ⟨#[]⟩, .string ⟨#[]⟩, .string ⟨#[]⟩, .string ⟨#[]⟩, .string ⟨#[]⟩, .int .i64 0]) (.agg #[.string ⟨#[]⟩, .string ⟨#[]⟩, .string ⟨#[]⟩, .string ⟨#[]⟩, .string ⟨#[]⟩, .int .i64 0])).run Tryz.prog W = .ok (.bool false) W := fun W => by go_simp
            clear hfd hrd e1 e2 e3
            rcases Nat.lt_or_ge 60 s.size with h60 | h60
            · have k60 : decide ((s.size : Int) > 60) = true := decide_eq_true (by omega)
              go_wp2_with (first | (go_at_call 22; ((with_reducible refine (HFd.out _ B.out).mono ?_); rintro e w3 ⟨rfl, hb⟩); replace B := Lib.hid (below_step B.out hb); replace F5 := Lib.hid (blk_below F5.out hb); replace F5_0 := blkc F5.out 0 rfl; clear hb) | (go_at_call 23; ((with_reducible refine (HRd.out _ (below_alloc B.out _)).mono ?_); rintro e w4 ⟨rfl, hb⟩); have F15 := Lib.hid (blk_below (blk_new w3 _) hb); have F15_0 := blkc F15.out 0 rfl; have F15_1 := blkc F15.out 1 rfl; have F15_2 := blkc F15.out 2 rfl; have F15_3 := blkc F15.out 3 rfl; have F15_4 := blkc F15.out 4 rfl; have F15_5 := blkc F15.out 5 rfl; replace B := Lib.hid (below_step (below_alloc B.out _) hb); replace F5 := Lib.hid (blk_below (blk_alloc F5.out _) hb); replace F5_0 := blkc F5.out 0 rfl; clear hb))
              go_ret
              exact ⟨rfl, below_step BW.out B.out⟩
            · have k60 : decide ((s.size : Int) > 60) = false := decide_eq_false (by omega)
              go_wp2_with (first | (go_at_call 22; ((with_reducible refine (HFd.out _ B.out).mono ?_); rintro e w3 ⟨rfl, hb⟩); replace B := Lib.hid (below_step B.out hb); replace F5 := Lib.hid (blk_below F5.out hb); replace F5_0 := blkc F5.out 0 rfl; clear hb) | (go_at_call 23; ((with_reducible refine (HRd.out _ (below_alloc B.out _)).mono ?_); rintro e w4 ⟨rfl, hb⟩); have F15 := Lib.hid (blk_below (blk_new w3 _) hb); have F15_0 := blkc F15.out 0 rfl; have F15_1 := blkc F15.out 1 rfl; have F15_2 := blkc F15.out 2 rfl; have F15_3 := blkc F15.out 3 rfl; have F15_4 := blkc F15.out 4 rfl; have F15_5 := blkc F15.out 5 rfl; replace B := Lib.hid (below_step (below_alloc B.out _) hb); replace F5 := Lib.hid (blk_below (blk_alloc F5.out _) hb); replace F5_0 := blkc F5.out 0 rfl; clear hb))
              go_big_quiet (fail)
              go_wp2
              go_roundw
              case rel => exact ⟨j + 1, by omega, by go_num, pw_below_drewN B.out _⟩
              case measure => simp [intOf]; omega
        · obtain rfl : j = cards.length := by omega
          have kj : decide ((cards.length : Int) < (cards.length : Int)) = false := by simp
          go_wp2
          go_ret
          exact ⟨rfl, below_step BW.out B.out⟩

end Go.Proofs.YtiggnmhoececfaaGreatDoor
