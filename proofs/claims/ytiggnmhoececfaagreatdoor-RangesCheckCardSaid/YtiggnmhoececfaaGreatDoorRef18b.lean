/- The document's Has and Check are the program's. -/
import Derived.Test.YtiggnmhoececfaaGreatDoorRef18
namespace Go.Proofs.YtiggnmhoececfaaGreatDoor
set_option linter.unusedVariables false
set_option linter.unusedSimpArgs false
open Go.RowKit Go.Proofs.YtiggnmhoececfaaGreatDoorW.PrintWords Go.Proofs.YtiggnmhoececfaaGreatDoorW.PrintLast Go.Proofs.YtiggnmhoececfaaGreatDoorW.PrintMore
open PRef

theorem ord3_le (a b : Bytes) : decide (ord3 a b ≤ 0) = !(bl b a) := by
  unfold ord3
  cases h1 : bl a b with
  | true => rw [bl_asymm a b h1]; rfl
  | false => cases h2 : bl b a <;> rfl

theorem ord3_lt (a b : Bytes) : decide (ord3 a b < 0) = bl a b := by
  unfold ord3
  cases h1 : bl a b with
  | true => rfl
  | false => cases h2 : bl b a <;> rfl

theorem not_less (a b : Bytes) : (!(bl b a)) = (bl a b || a == b) := by
  cases h1 : bl a b with
  | true => rw [bl_asymm a b h1]; rfl
  | false =>
    cases h2 : bl b a with
    | true =>
      have : (a == b) = false := by
        rw [beq_eq_false_iff_ne]; rintro rfl; rw [h1] at h2; cases h2
      rw [this]; rfl
    | false => rw [bl_total a b h1 h2]; simp

theorem ref_has (f t n lo hi c : ByteArray) (m : Int) (hf : isNum f.data.toList = true) (ht : isNum t.data.toList = true) (hft : f.size = t.size) (h1 : f.size ≤ 1000) (hc : c.size ≤ 1000) :
    cashierref18_Has.f 8000 f t n lo hi m c = some (hasV f t c) := by
  unfold cashierref18_Has.f hasV
  rw [ref_is_f c (by omega) 8000 (by omega)]
  simp only [Option.bind_some]
  cases hn : isNum c.data.toList with
  | false => rfl
  | true =>
    rw [if_pos rfl]
    by_cases hs : c.size = f.size
    · rw [if_pos (by omega), decide_eq_true hs, ref_cmp3 f c hf hn (by omega) 8000 (by omega), ref_cmp3 c t hn ht (by omega) 8000 (by omega)]
      simp only [Option.bind_some, Bool.true_and]
      rw [ByteArray.toList_eq, ByteArray.toList_eq, ByteArray.toList_eq, bl_eq, bl_eq, ← ord3_le, ← not_less, ← ord3_le]
      by_cases h : ord3 f.data.toList c.data.toList ≤ 0
      · rw [if_pos h, decide_eq_true h]; rfl
      · rw [if_neg h, decide_eq_false h]; rfl
    · rw [if_neg (by omega), decide_eq_false hs]
      rfl

def tailV (wi : Bool) (m : Int) : Int := if wi = true then (if m < 1 then 11 else if 3 < m then 11 else 0) else 7

theorem ref_j3 (k : Nat) (b : Bool) (f t n lo hi : ByteArray) (m : Int) : cashierref18_Check.j3 (k + 1) b f t n lo hi m = some (tailV (!b) m) := by
  rw [cashierref18_Check.j3]
  unfold tailV
  cases b
  · rw [if_neg (by simp)]
    show _ = some (if m < 1 then (11 : Int) else if 3 < m then 11 else 0)
    by_cases h1 : m < 1
    · rw [if_pos h1, if_pos h1]
    · rw [if_neg h1, if_neg h1]
      by_cases h3 : 3 < m
      · rw [if_pos (by omega), if_pos h3]
      · rw [if_neg (by omega), if_neg h3]
  · rw [if_pos rfl, if_neg (by simp)]

abbrev okByte (c : UInt8) : Bool := decide (33 ≤ c.toNat) && decide (c.toNat ≤ 126)

theorem ref_tail (f t n lo hi : ByteArray) (m : Int) (hlo : lo.size ≤ 1000) (hhi : hi.size ≤ 1000) (k : Nat) (hk : 5001 ≤ k) (hk2 : k ≤ 900000) (i : Int) (hi0 : ¬ i < (n.size : Int)) :
    cashierref18_Check.l0 (k + 1) i f t n lo hi m = some (tailV (within lo.data.toList lo.data.toList hi.data.toList) m) := by
  rw [cashierref18_Check.l0, if_neg hi0, ref_parse lo hlo k (by omega) hk2, ref_parse hi hhi k (by omega) hk2]
  simp only [Option.bind_some]
  unfold within
  obtain ⟨k, rfl⟩ : ∃ k', k = k' + 1 := ⟨k - 1, by omega⟩
  cases ha : verOf lo.data.toList with
  | none => rw [if_neg (by rw [ref_no _ ha]; simp), ref_j3]; rfl
  | some a =>
    rw [if_pos (by rw [ref_yes _ a ha])]
    cases hb : verOf hi.data.toList with
    | none => rw [if_neg (by rw [ref_no _ hb]; simp), ref_j3]; rfl
    | some b =>
      rw [if_pos (by rw [ref_yes _ b hb]), ref_yes _ a ha, ref_yes _ b hb]
      simp only [nums3]
      rw [ref_cmp _ _ _ _ _ _ (k + 1) (by omega)]
      simp only [Option.bind_some]
      rw [ref_j3]
      congr 2
      have h0 : lexc (verList a) (verList a) = 0 := (lexc_zero _ _ rfl).2 rfl
      show (!decide (lexc (verList a) (verList b) > 0)) = (decide (0 ≤ lexc (verList a) (verList a)) && decide (lexc (verList a) (verList b) ≤ 0))
      rw [h0]
      generalize lexc (verList a) (verList b) = q
      by_cases hq : q ≤ 0
      · rw [decide_eq_true hq, decide_eq_false (by omega)]; rfl
      · rw [decide_eq_false hq, decide_eq_true (by omega)]; rfl

theorem ref_acs (f t n lo hi : ByteArray) (m : Int) (hn : n.size ≤ 1000) (hlo : lo.size ≤ 1000) (hhi : hi.size ≤ 1000) : ∀ k i : Nat, i ≤ n.size → n.size - i + 5002 < k → k ≤ 900000 →
    cashierref18_Check.l0 k i f t n lo hi m = some (if (n.data.toList.drop i).all okByte = true then tailV (within lo.data.toList lo.data.toList hi.data.toList) m else 2) := by
  intro k
  induction k with
  | zero => intro i h1 h2; omega
  | succ k ih =>
    intro i h1 h2 h3
    have hsz : n.data.toList.length = n.size := by simp
    by_cases h : i < n.size
    · rw [cashierref18_Check.l0, if_pos (by omega), if_pos (by omega), bt_nat n i h, drop_at (by omega)]
      generalize n.data.toList[i]'(by omega) = c
      rw [List.all_cons]
      by_cases c1 : 33 ≤ c.toNat
      · by_cases c2 : c.toNat ≤ 126
        · rw [if_neg (by omega), if_neg (by omega), wrap64_of (by omega) (by omega), show ((i : Int) + 1) = ((i + 1 : Nat) : Int) by omega, ih (i + 1) (by omega) (by omega) (by omega)]
          rw [show okByte c = true by simp [c1, c2], Bool.true_and]
        · rw [if_neg (by omega), if_pos (by omega), show okByte c = false by simp [c2], Bool.false_and, if_neg (by simp)]
      · rw [if_pos (by omega), show okByte c = false by simp [c1], Bool.false_and, if_neg (by simp)]
    · rw [ref_tail f t n lo hi m hlo hhi k (by omega) (by omega) i (by omega), List.drop_eq_nil_of_le (by omega)]
      rfl

theorem ref_j0 (f t n lo hi : ByteArray) (m : Int) : ∀ k, cashierref18_Check.j0 (k + 1) true f t n lo hi m = some 4 := fun k => by
  rw [cashierref18_Check.j0, if_pos rfl]

theorem ref_check18 (f t n lo hi : ByteArray) (m : Int) (hf : f.size ≤ 1000) (ht : t.size ≤ 1000) (hn : n.size ≤ 1000) (hlo : lo.size ≤ 1000) (hhi : hi.size ≤ 1000) :
    cashierref18_Check.f 8000 f t n lo hi m = some (checkV f t n lo hi m) := by
  unfold cashierref18_Check.f checkV cardOk
  rw [ref_is_f f (by omega) 8000 (by omega), ref_is_f t (by omega) 8000 (by omega)]
  simp only [Option.bind_some]
  cases h1 : isNum f.data.toList with
  | false => rw [if_neg (by simp), ref_j0]; rfl
  | true =>
    rw [if_pos rfl]
    cases h2 : isNum t.data.toList with
    | false =>
      rw [if_neg (by simp), ref_j0]
      unfold chk
      simp
    | true =>
      rw [if_pos rfl]
      by_cases h13 : f.size < 13
      · rw [if_pos (by omega), ref_j0]
        unfold chk
        rw [decide_eq_false (by omega : ¬ 13 ≤ f.size)]
        rfl
      · rw [if_neg (by omega)]
        by_cases h19 : 19 < f.size
        · rw [if_pos (by omega), ref_j0]
          unfold chk
          rw [decide_eq_false (by omega : ¬ f.size ≤ 19)]
          simp
        · rw [if_neg (by omega)]
          by_cases hft : f.size = t.size
          · rw [show ((t.size : Int) != (f.size : Int)) = false by simp [hft]]
            rw [cashierref18_Check.j0, if_neg (by simp), ref_cmp3 t f h2 h1 (by omega) _ (by omega)]
            simp only [Option.bind_some]
            unfold chk
            rw [decide_eq_true (by omega : 13 ≤ f.size), decide_eq_true (by omega : f.size ≤ 19), decide_eq_true (by omega : 13 ≤ t.size), decide_eq_true (by omega : t.size ≤ 19), decide_eq_true hft]
            rw [ByteArray.toList_eq, ByteArray.toList_eq, bl_eq, ← ord3_lt]
            simp only [Bool.and_self, if_true]
            by_cases hl : ord3 t.data.toList f.data.toList < 0
            · rw [if_pos hl, decide_eq_true hl]
              rfl
            · rw [if_neg hl, decide_eq_false hl]
              show _ = some (if namedOk n = true then tailV (within lo.data.toList lo.data.toList hi.data.toList) m else 2)
              unfold namedOk
              have hsz : n.data.toList.length = n.size := by simp
              by_cases n1 : n.size < 1
              · rw [if_pos (by omega), cashierref18_Check.j1, if_pos rfl]
                have : n.data.toList = [] := by apply List.eq_nil_of_length_eq_zero; omega
                rw [this]
                rfl
              · have hne : n.data.toList.isEmpty = false := by
                  cases hl : n.data.toList with
                  | nil => rw [hl] at hsz; simp at hsz; omega
                  | cons _ _ => rfl
                rw [if_neg (by omega), cashierref18_Check.j1, hne]
                by_cases n32 : n.size ≤ 32
                · rw [decide_eq_false (by omega : ¬ ((n.size : Int) > 32)), if_neg (by simp), decide_eq_true n32]
                  have := ref_acs f t n lo hi m hn hlo hhi 7998 0 (by omega) (by omega) (by omega)
                  rw [show ((0 : Nat) : Int) = 0 by rfl, List.drop_zero] at this
                  rw [this]
                  simp only [Bool.not_false, Bool.and_true, Bool.true_and]
                · rw [decide_eq_true (by omega : ((n.size : Int) > 32)), if_pos rfl, decide_eq_false n32]
                  simp
          · rw [show ((t.size : Int) != (f.size : Int)) = true by simp; omega, ref_j0]
            unfold chk
            rw [decide_eq_false hft]
            simp

end Go.Proofs.YtiggnmhoececfaaGreatDoor
