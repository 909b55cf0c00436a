/- Texts in order. -/
import Derived.Test.YtiggnmhoececfaaGreatDoorPlain
namespace Go.Proofs.YtiggnmhoececfaaGreatDoor
set_option linter.unusedVariables false
set_option linter.unusedSimpArgs false
open Go.RowKit

/-- bytes in order, spelled out -/
def bl : Bytes → Bytes → Bool
  | _, [] => false
  | [], _ :: _ => true
  | a :: r, b :: s => if a < b then true else if b < a then false else bl r s

theorem bl_eq : ∀ x y : Bytes, Op.bytesLess x y = bl x y
  | [], [] => by simp [Op.bytesLess, bl]
  | _ :: _, [] => by simp [Op.bytesLess, bl]
  | [], _ :: _ => by simp [Op.bytesLess, bl]
  | a :: x, b :: y => by
    rw [Op.bytesLess, bl_eq x y]
    show _ = (if a < b then true else if b < a then false else bl x y)
    by_cases h1 : a < b
    · simp [h1]
    · by_cases h2 : b < a
      · have h3 : a ≠ b := by rintro rfl; exact h1 h2
        simp [h1, h2, h3]
      · have h3 : a = b := by
          rw [← UInt8.toNat_inj]
          rw [UInt8.lt_iff_toNat_lt] at h1 h2
          omega
        subst h3
        simp [h1]

theorem bl_total : ∀ x y : Bytes, bl x y = false → bl y x = false → x = y := by
  intro x
  induction x with
  | nil => intro y h1 h2; cases y with
    | nil => rfl
    | cons b s => simp [bl] at h1
  | cons a r ih =>
    intro y h1 h2
    cases y with
    | nil => simp [bl] at h2
    | cons b s =>
      unfold bl at h1 h2
      by_cases h : a < b
      · rw [if_pos h] at h1; cases h1
      · by_cases h' : b < a
        · rw [if_pos h'] at h2; cases h2
        · rw [if_neg h, if_neg h'] at h1
          rw [if_neg h', if_neg h] at h2
          have hab : a = b := by
            rw [← UInt8.toNat_inj]
            rw [UInt8.lt_iff_toNat_lt] at h h'
            omega
          rw [hab, ih s h1 h2]

theorem bl_asymm : ∀ x y : Bytes, bl x y = true → bl y x = false := by
  intro x
  induction x with
  | nil => intro y h; cases y <;> rfl
  | cons a r ih =>
    intro y h1
    cases y with
    | nil => simp [bl] at h1
    | cons b s =>
      unfold bl at h1 ⊢
      by_cases h : a < b
      · have h' : ¬ b < a := by rw [UInt8.lt_iff_toNat_lt] at h ⊢; omega
        rw [if_neg h', if_pos h]
      · rw [if_neg h] at h1
        by_cases h' : b < a
        · rw [if_pos h'] at h1; cases h1
        · rw [if_neg h'] at h1
          rw [if_neg h', if_neg h]
          exact ih s h1

theorem bl_irrefl : ∀ x : Bytes, bl x x = false := by
  intro x
  induction x with
  | nil => rfl
  | cons a r ih => unfold bl; rw [if_neg (by rw [UInt8.lt_iff_toNat_lt]; omega), if_neg (by rw [UInt8.lt_iff_toNat_lt]; omega)]; exact ih

theorem less_flip {x y : Bytes} (h : Op.bytesLess y x = true) : Op.bytesLess x y = false ∧ (x == y) = false := by
  rw [bl_eq] at h ⊢
  refine ⟨bl_asymm y x h, ?_⟩
  rw [beq_eq_false_iff_ne]
  rintro rfl
  rw [bl_irrefl] at h
  cases h

theorem less_not {x y : Bytes} (h : Op.bytesLess y x = false) : (Op.bytesLess x y = true ∧ (x == y) = false) ∨ (Op.bytesLess x y = false ∧ (x == y) = true) := by
  cases h2 : Op.bytesLess x y with
  | true => exact .inl ⟨rfl, (by
      have := (less_flip (x := y) (y := x) h2).2
      rw [beq_eq_false_iff_ne] at this ⊢
      exact fun e => this e.symm)⟩
  | false =>
    rw [bl_eq] at h h2
    exact .inr ⟨rfl, by rw [bl_total x y h2 h]; exact beq_self_eq_true _⟩

end Go.Proofs.YtiggnmhoececfaaGreatDoor
