/- The document's comparison of numbers, and its Has and Check. -/
import Derived.Test.YtiggnmhoececfaaGreatDoorRanges2
import Derived.Test.YtiggnmhoececfaaGreatDoorPrintC
namespace Go.Proofs.YtiggnmhoececfaaGreatDoor
set_option linter.unusedVariables false
set_option linter.unusedSimpArgs false
open Go.RowKit Go.Proofs.YtiggnmhoececfaaGreatDoorW.PrintWords Go.Proofs.YtiggnmhoececfaaGreatDoorW.PrintLast Go.Proofs.YtiggnmhoececfaaGreatDoorW.PrintMore
open PRef

def strip : Bytes → Bytes
  | [] => []
  | c :: r => if c = 48 then strip r else c :: r
theorem strip_len (l : Bytes) : (strip l).length ≤ l.length := by
  induction l with
  | nil => exact Nat.le_refl _
  | cons c r ih => unfold strip; split <;> simp <;> omega

def ord3 (a b : Bytes) : Int := if bl a b = true then -1 else if bl b a = true then 1 else 0
def fin3 (a b : Bytes) : Int := if a.length < b.length then -1 else if a.length = b.length then ord3 a b else 1

theorem fin_strip : ∀ a b : Bytes, a.length = b.length → (∀ c, c ∈ a → 48 ≤ c.toNat) → (∀ c, c ∈ b → 48 ≤ c.toNat) → fin3 (strip a) (strip b) = ord3 a b
  | [], [], _, _, _ => rfl
  | [], _ :: _, h, _, _ => by simp at h
  | _ :: _, [], h, _, _ => by simp at h
  | x :: r, y :: s, h, ha, hb => by
    have hl : r.length = s.length := by simpa using h
    have ih := fin_strip r s hl (fun c hc => ha c (by simp [hc])) (fun c hc => hb c (by simp [hc]))
    have hx := ha x (by simp)
    have hy := hb y (by simp)
    have h48 : (48 : UInt8).toNat = 48 := rfl
    unfold strip
    by_cases x48 : x = 48
    · by_cases y48 : y = 48
      · rw [if_pos x48, if_pos y48, ih]
        subst x48 y48
        unfold ord3
        have e1 : ∀ r s : Bytes, bl (48 :: r) (48 :: s) = bl r s := fun r s => by
          show (if (48 : UInt8) < 48 then true else if (48 : UInt8) < 48 then false else bl r s) = _
          rw [if_neg (by decide), if_neg (by decide)]
        rw [e1, e1]
      · rw [if_pos x48, if_neg y48]
        have := strip_len r
        unfold fin3
        rw [if_pos (by simp; omega)]
        subst x48
        have hlt : (48 : UInt8) < y := by
          rw [UInt8.lt_iff_toNat_lt]
          have : y.toNat ≠ 48 := fun e => y48 (by rw [← UInt8.toNat_inj]; exact e)
          omega
        unfold ord3
        rw [show bl (48 :: r) (y :: s) = true by unfold bl; rw [if_pos hlt]]
        rfl
    · by_cases y48 : y = 48
      · rw [if_neg x48, if_pos y48]
        have := strip_len s
        unfold fin3
        rw [if_neg (by simp; omega), if_neg (by simp; omega)]
        subst y48
        have hlt : (48 : UInt8) < x := by
          rw [UInt8.lt_iff_toNat_lt]
          have : x.toNat ≠ 48 := fun e => x48 (by rw [← UInt8.toNat_inj]; exact e)
          omega
        have hge : ¬ x < (48 : UInt8) := by rw [UInt8.lt_iff_toNat_lt] at hlt ⊢; omega
        unfold ord3
        rw [show bl (x :: r) (48 :: s) = false by unfold bl; rw [if_neg hge, if_pos hlt], show bl (48 :: s) (x :: r) = true by unfold bl; rw [if_pos hlt]]
        rfl
      · rw [if_neg x48, if_neg y48]
        unfold fin3
        rw [if_neg (by simp; omega), if_pos (by simp; omega)]

theorem ext1 (y : ByteArray) (h : 0 < y.size) : (y.extract 1 y.size).data.toList = y.data.toList.drop 1 ∧ (y.extract 1 y.size).size = y.size - 1 := by
  have h1 : (y.extract 1 y.size).data.toList = y.data.toList.drop 1 := by
    rw [ByteArray.data_extract, Array.toList_extract, List.extract_eq_take_drop, List.take_of_length_le (by simp)]
  refine ⟨h1, ?_⟩
  have := congrArg List.length h1
  rw [Array.length_toList, List.length_drop, Array.length_toList] at this
  exact this

theorem cmp_fin (k : Nat) (x y : ByteArray) : cashierref03_Cmp.j3 (k + 1 + 1) x y = some (fin3 x.data.toList y.data.toList) := by
  have lx : x.data.toList.length = x.size := by simp
  have ly : y.data.toList.length = y.size := by simp
  rw [cashierref03_Cmp.j3]
  unfold fin3 ord3
  rw [lx, ly, ByteArray.toList_eq, ByteArray.toList_eq, bl_eq]
  by_cases h1 : x.size < y.size
  · rw [if_pos (by omega), if_pos h1, cashierref03_Cmp.j4, if_pos rfl]
  · rw [if_neg (by omega), if_neg h1]
    by_cases h2 : x.size = y.size
    · rw [if_pos (by omega), if_pos h2, cashierref03_Cmp.j4, ByteArray.toList_eq, ByteArray.toList_eq, bl_eq]
      by_cases h3 : bl x.data.toList y.data.toList = true
      · rw [if_pos h3, if_pos h3]
      · rw [if_neg h3, if_neg h3, if_neg (by omega)]
        by_cases h4 : bl y.data.toList x.data.toList = true
        · rw [if_pos h4, if_pos h4]
        · rw [if_neg h4, if_neg h4]
    · rw [if_neg (by omega), if_neg h2, cashierref03_Cmp.j4, if_neg (by simp), if_pos (by omega)]

theorem cmp_l1 (x : ByteArray) : ∀ (k : Nat) (y : ByteArray), y.size + 3 < k → cashierref03_Cmp.l1 k x y = some (fin3 x.data.toList (strip y.data.toList)) := by
  intro k
  induction k with
  | zero => intro y h; omega
  | succ k ih =>
    intro y h
    have ly : y.data.toList.length = y.size := by simp
    obtain ⟨k, rfl⟩ : ∃ k', k = k' + 1 + 1 := ⟨k - 2, by omega⟩
    unfold cashierref03_Cmp.l1
    by_cases h0 : 0 < y.size
    · obtain ⟨e1, e2⟩ := ext1 y h0
      rw [if_pos (by omega), if_pos (by omega), show (0 : Int) = ((0 : Nat) : Int) by rfl, bt_nat y 0 h0]
      have hd : y.data.toList = y.data.toList[0]'(by omega) :: y.data.toList.drop 1 := by
        have := drop_at (l := y.data.toList) (i := 0) (by omega)
        simpa using this
      generalize y.data.toList[0]'(by omega) = c at hd
      have hc48 : ((c.toNat : Int) = 48) ↔ c = 48 := by
        rw [← UInt8.toNat_inj]
        show _ ↔ c.toNat = 48
        omega
      by_cases h48 : c = 48
      · rw [if_pos (hc48.2 h48), if_pos (by omega), ih (y.extract 1 y.size) (by omega), e1]
        conv => rhs; rw [hd]
        rw [show strip (c :: y.data.toList.drop 1) = strip (y.data.toList.drop 1) by rw [strip, if_pos h48]]
      · rw [if_neg (fun e => h48 (hc48.1 e)), cmp_fin]
        congr 2
        rw [hd, strip, if_neg h48]
    · rw [if_neg (by omega), cmp_fin]
      have : y.data.toList = [] := by
        apply List.eq_nil_of_length_eq_zero; omega
      rw [this]
      rfl

theorem cmp_l0 (y : ByteArray) : ∀ (k : Nat) (x : ByteArray), x.size + y.size + 6 < k → cashierref03_Cmp.l0 k x y = some (fin3 (strip x.data.toList) (strip y.data.toList)) := by
  intro k
  induction k with
  | zero => intro x h; omega
  | succ k ih =>
    intro x h
    have lx : x.data.toList.length = x.size := by simp
    obtain ⟨k, rfl⟩ : ∃ k', k = k' + 1 := ⟨k - 1, by omega⟩
    unfold cashierref03_Cmp.l0
    by_cases h0 : 0 < x.size
    · obtain ⟨e1, e2⟩ := ext1 x h0
      rw [if_pos (by omega), if_pos (by omega), show (0 : Int) = ((0 : Nat) : Int) by rfl, bt_nat x 0 h0]
      have hd : x.data.toList = x.data.toList[0]'(by omega) :: x.data.toList.drop 1 := by
        have := drop_at (l := x.data.toList) (i := 0) (by omega)
        simpa using this
      generalize x.data.toList[0]'(by omega) = c at hd
      have hc48 : ((c.toNat : Int) = 48) ↔ c = 48 := by
        rw [← UInt8.toNat_inj]
        show _ ↔ c.toNat = 48
        omega
      by_cases h48 : c = 48
      · rw [if_pos (hc48.2 h48), if_pos (by omega), ih (x.extract 1 x.size) (by omega), e1]
        conv => rhs; rw [hd]
        rw [show strip (c :: x.data.toList.drop 1) = strip (x.data.toList.drop 1) by rw [strip, if_pos h48]]
      · rw [if_neg (fun e => h48 (hc48.1 e)), cashierref03_Cmp.j1, cmp_l1 x k y (by omega)]
        congr 2
        rw [hd, strip, if_neg h48]
    · rw [if_neg (by omega), cashierref03_Cmp.j1, cmp_l1 x k y (by omega)]
      have : x.data.toList = [] := by
        apply List.eq_nil_of_length_eq_zero; omega
      rw [this]
      rfl

/-- The document's Cmp, of digits in rows of one length. -/
theorem ref_cmp3 (x y : ByteArray) (hx : isNum x.data.toList = true) (hy : isNum y.data.toList = true) (hl : x.size = y.size) (k : Nat) (hk : x.size + y.size + 6 < k) : cashierref03_Cmp.f k x y = some (ord3 x.data.toList y.data.toList) := by
  have dig : ∀ l, isNum l = true → ∀ c, c ∈ l → 48 ≤ c.toNat := fun l hl c hc => by
    simp only [isNum, isDig, Bool.and_eq_true, List.all_eq_true] at hl
    have := (hl.1 c hc)
    simp only [Bool.and_eq_true, decide_eq_true_eq, UInt8.le_iff_toNat_le] at this
    exact this.1
  unfold cashierref03_Cmp.f
  rw [cmp_l0 y k x hk, fin_strip _ _ (by simpa using hl) (dig _ hx) (dig _ hy)]

end Go.Proofs.YtiggnmhoececfaaGreatDoor
