/- Plain laws of versions. -/
import Derived.Test.YtiggnmhoececfaaGreatDoorWithin
namespace Go.Proofs.YtiggnmhoececfaaGreatDoor
set_option linter.unusedVariables false
set_option linter.unusedSimpArgs false
open Go.RowKit

theorem digit_toNat (k : Nat) (h : k < 10) : (UInt8.ofNat (48 + k)).toNat = 48 + k := by
  simp; omega

theorem dec_dig (u : Nat) : ∀ c, c ∈ Lib.decDigits u → 48 ≤ c.toNat ∧ c.toNat ≤ 57 := by
  induction u using Nat.strongRecOn with
  | _ u ih =>
    intro c hc
    rw [Lib.decDigits] at hc
    split at hc
    · rename_i h
      obtain rfl : c = UInt8.ofNat (48 + u) := by simpa using hc
      rw [digit_toNat u h]; omega
    · rename_i h
      rcases List.mem_append.1 hc with hc | hc
      · exact ih (u / 10) (by omega) c hc
      · obtain rfl : c = UInt8.ofNat (48 + u % 10) := by simpa using hc
        rw [digit_toNat _ (by omega)]; omega

theorem dec_isDig (u : Nat) : isDig (Lib.decDigits u) = true := by
  unfold isDig
  rw [List.all_eq_true]
  intro c hc
  have := dec_dig u c hc
  simp only [Bool.and_eq_true, decide_eq_true_eq, UInt8.le_iff_toNat_le]
  exact this

theorem dec_ne (u : Nat) : Lib.decDigits u ≠ [] := by
  rw [Lib.decDigits]
  split <;> simp

theorem numOf_dec (u : Nat) : numOf (Lib.decDigits u) = u := by
  induction u using Nat.strongRecOn with
  | _ u ih =>
    rw [Lib.decDigits]
    split
    · rename_i h
      simp only [numOf, numFrom, List.foldl_cons, List.foldl_nil]
      rw [digit_toNat u h]; omega
    · rename_i h
      have := ih (u / 10) (by omega)
      simp only [numOf, numFrom] at this
      simp only [numOf, numFrom, List.foldl_append, this, List.foldl_cons, List.foldl_nil]
      rw [digit_toNat _ (by omega)]; omega

theorem dec_no_dot (u : Nat) : ∀ x, x ∈ Lib.decDigits u → x ≠ 46 := by
  rintro x hx rfl
  have := dec_dig u _ hx
  exact absurd this.1 (by decide)

theorem verText_eq (a b c : Nat) : verText a b c = Lib.decDigits a ++ 46 :: (Lib.decDigits b ++ 46 :: Lib.decDigits c) := by
  unfold verText
  rw [text0, text0, text0, Lib.join_cons]
  simp [Lib.joinTail]

theorem split_verText (a b c : Nat) : split1 46 (verText a b c) = [Lib.decDigits a, Lib.decDigits b, Lib.decDigits c] := by
  rw [verText_eq, split1_hit _ _ _ (dec_no_dot a), split1_hit _ _ _ (dec_no_dot b), split1_none _ _ (dec_no_dot c)]

theorem okPart_dec (u : Nat) (h : u < 65536) : okPart (Lib.decDigits u) = true := by
  unfold okPart isNum
  rw [numOf_dec, dec_isDig]
  have : (Lib.decDigits u).isEmpty = false := by
    cases hh : Lib.decDigits u with
    | nil => exact absurd hh (dec_ne u)
    | cons _ _ => rfl
  simp [this]; omega

theorem verOf_text (a b c : Nat) (ha : a < 65536) (hb : b < 65536) (hc : c < 65536) : verOf (verText a b c) = some ⟨(a, b, c), ha, hb, hc⟩ := by
  unfold verOf
  rw [split_verText]
  simp only [okPart_dec a ha, okPart_dec b hb, okPart_dec c hc, and_self, dif_pos]
  simp only [numOf_dec]

theorem verText_le62 (a b c : Nat) (ha : a < 65536) (hb : b < 65536) (hc : c < 65536) : (verText a b c).length ≤ 62 := by
  rw [verText_eq]
  have h1 := dec_len a (by omega)
  have h2 := dec_len b (by omega)
  have h3 := dec_len c (by omega)
  simp; omega

theorem lexc_flip : ∀ l r : List Nat, l.length = r.length → lexc r l = - lexc l r
  | [], [], _ => rfl
  | [], _ :: _, h => by simp at h
  | _ :: _, [], h => by simp at h
  | x :: l, y :: r, h => by
    have ih := lexc_flip l r (by simpa using h)
    simp only [lexc]
    split <;> split <;> (try split) <;> first | omega | rfl | exact ih

theorem lexc_zero : ∀ l r : List Nat, l.length = r.length → (lexc l r = 0 ↔ l = r)
  | [], [], _ => by simp [lexc]
  | [], _ :: _, h => by simp at h
  | _ :: _, [], h => by simp at h
  | x :: l, y :: r, h => by
    have ih := lexc_zero l r (by simpa using h)
    simp only [lexc, List.cons.injEq]
    split
    · constructor
      · intro h; omega
      · rintro ⟨h, _⟩; omega
    · split
      · constructor
        · intro h; omega
        · rintro ⟨h, _⟩; omega
      · rw [ih]
        constructor
        · intro h; exact ⟨by omega, h⟩
        · exact fun h => h.2

theorem lexc_trans : ∀ l r s : List Nat, l.length = r.length → r.length = s.length → lexc l r ≤ 0 → lexc r s ≤ 0 → lexc l s ≤ 0
  | [], [], [], _, _, _, _ => by simp [lexc]
  | [], _ :: _, _, h, _, _, _ => by simp at h
  | _ :: _, [], _, h, _, _, _ => by simp at h
  | [], [], _ :: _, _, h, _, _ => by simp at h
  | _ :: _, _ :: _, [], _, h, _, _ => by simp at h
  | x :: l, y :: r, z :: s, h, h', h1, h2 => by
    have ih := lexc_trans l r s (by simpa using h) (by simpa using h')
    simp only [lexc] at h1 h2 ⊢
    by_cases a : x < z
    · rw [if_pos a]; omega
    · rw [if_neg a]
      by_cases b : x < y
      · exfalso
        rw [if_pos b] at h1
        by_cases c : y < z
        · omega
        · rw [if_neg c] at h2
          rw [if_pos (show z < y by omega)] at h2
          omega
      · rw [if_neg b] at h1
        by_cases c : y < x
        · rw [if_pos c] at h1; omega
        · rw [if_neg c] at h1
          by_cases d : y < z
          · omega
          · rw [if_neg d] at h2
            by_cases e : z < y
            · rw [if_pos e] at h2; omega
            · rw [if_neg e] at h2
              rw [if_neg (show ¬ z < x by omega)]
              exact ih h1 h2

end Go.Proofs.YtiggnmhoececfaaGreatDoor
