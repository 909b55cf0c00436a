/- Plain words on bytes and digits, with no program in sight. -/
import Derived.WalkKit
import Derived.Lib.ItoaNum
import Derived.Lib.ParseIntB
import Derived.Lib.SplitLaws
import Derived.Lib.IndexBytes
namespace Go.Proofs.YtiggnmhoececfaaGreatDoor
set_option linter.unusedVariables false
set_option linter.unusedSimpArgs false
open Go.RowKit

abbrev Bytes := List UInt8

theorem ret_int {k : IntKind} {a b : Int} (h : a = b) : Ending.returned (.int k a) = .returned (.int k b) := by rw [h]
theorem ret_bool {a b : Bool} (h : a = b) : Ending.returned (.bool a) = .returned (.bool b) := by rw [h]
theorem ret_str {a b : ByteArray} (h : a = b) : Ending.returned (.string a) = .returned (.string b) := by rw [h]
theorem ret_val {a b : Value} (h : a = b) : Ending.returned a = .returned b := by rw [h]

/-- Are all of them decimal digits? -/
def isDig (l : Bytes) : Bool := l.all (fun c => 48 ≤ c && c ≤ 57)
/-- digits.Is -/
def isNum (l : Bytes) : Bool := isDig l && !l.isEmpty

theorem width_pos (s : ByteArray) (pos : Nat) (h : pos < s.size) : 1 ≤ (Utf8.decode s pos).2 := by
  by_cases ha : (s[pos]'h).toNat < 128
  · rw [decode_ascii s pos h ha]
    exact Nat.le_refl _
  · exact (decode_high s pos h (by omega)).2

theorem take_snoc (s : ByteArray) (k : Nat) (h : k < s.size) : s.data.toList.take (k + 1) = s.data.toList.take k ++ [s[k]] := by
  rw [List.take_succ_eq_append_getElem (by simpa using h)]; rfl

theorem isDig_next (s : ByteArray) (pos : Nat) (h : pos < s.size) (h1 : 48 ≤ ((Utf8.decode s pos).1 : Int)) (h2 : ((Utf8.decode s pos).1 : Int) ≤ 57) (hd : isDig (s.data.toList.take pos) = true) :
    (Utf8.decode s pos).2 = 1 ∧ isDig (s.data.toList.take (pos + 1)) = true := by
  by_cases ha : (s[pos]'h).toNat < 128
  · rw [decode_ascii s pos h ha] at h1 h2 ⊢
    refine ⟨rfl, ?_⟩
    rw [take_snoc s pos h]
    unfold isDig at hd ⊢
    rw [List.all_append, hd]
    simp [UInt8.le_iff_toNat_le] at h1 h2 ⊢
    omega
  · have := (decode_high s pos h (by omega)).1
    omega

theorem isDig_no (s : ByteArray) (pos : Nat) (h : pos < s.size) (h1 : ((Utf8.decode s pos).1 : Int) < 48 ∨ 57 < ((Utf8.decode s pos).1 : Int)) : isDig s.data.toList = false := by
  unfold isDig
  rw [List.all_eq_false]
  refine ⟨s[pos], by exact Array.getElem_mem_toList _, ?_⟩
  by_cases ha : (s[pos]'h).toNat < 128
  · rw [decode_ascii s pos h ha] at h1
    simp [UInt8.le_iff_toNat_le] at h1 ⊢
    omega
  · simp [UInt8.le_iff_toNat_le]
    omega

theorem below_iter (w : World) (s : ByteArray) (p : Nat) : Below w.heap.size w (w.iter s p) := (Below.refl _ _).alloc (Nat.le_refl _) _

/-- What a row of digits spells, behind what came ahead of it. -/
def numFrom (acc : Nat) (l : Bytes) : Nat := l.foldl (fun n c => n * 10 + (c.toNat - 48)) acc
def numOf (l : Bytes) : Nat := numFrom 0 l

theorem numFrom_ge (l : Bytes) : ∀ acc, acc ≤ numFrom acc l := by
  induction l with
  | nil => intro acc; exact Nat.le_refl _
  | cons c r ih =>
    intro acc
    have := ih (acc * 10 + (c.toNat - 48))
    simp only [numFrom, List.foldl_cons] at this ⊢
    omega

theorem parse_dig (l : Bytes) : ∀ acc, isDig l = true → acc ≤ 18446744073709551615 →
    Lib.parseUintM 18446744073709551615 acc l = if numFrom acc l ≤ 18446744073709551615 then .ok (numFrom acc l) else .range := by
  induction l with
  | nil => intro acc _ ha; simp [Lib.parseUintM, numFrom, ha]
  | cons c r ih =>
    intro acc hd ha
    simp only [isDig, List.all_cons, Bool.and_eq_true, decide_eq_true_eq, UInt8.le_iff_toNat_le] at hd
    obtain ⟨⟨h1, h2⟩, hr⟩ := hd
    have h1' : 48 ≤ c.toNat := h1
    have h2' : c.toNat ≤ 57 := h2
    have hg := numFrom_ge r (acc * 10 + (c.toNat - 48))
    have e : numFrom acc (c :: r) = numFrom (acc * 10 + (c.toNat - 48)) r := rfl
    rw [e, Lib.parseUintM, if_pos ⟨h1', h2'⟩]
    split
    · rw [if_neg (by omega)]
    · split
      · rw [if_neg (by omega)]
      · exact ih _ hr (by omega)

theorem parse64 (l : Bytes) (h : isNum l = true) : Lib.parseUintB 64 l = if numOf l ≤ 18446744073709551615 then .ok (numOf l) else .range := by
  simp only [isNum, Bool.and_eq_true] at h
  unfold Lib.parseUintB
  rw [if_neg (by intro e; subst e; simp at h)]
  exact parse_dig l 0 h.1 (by omega)

/-- digits.Text: at least so many digits. -/
def textL (n : Nat) (width : Int) : Bytes := List.replicate (Max.max (Min.min (Max.max width 0) 40 - (Lib.decDigits n).length) 0).toNat 48 ++ Lib.decDigits n

/-- A text cut at each of one byte. -/
def split1 (c : UInt8) : Bytes → List Bytes
  | [] => [[]]
  | x :: r => if x = c then [] :: split1 c r else match split1 c r with
    | [] => [[x]]
    | h :: t => (x :: h) :: t

theorem split1_ne (c : UInt8) (l : Bytes) : split1 c l ≠ [] := by
  cases l with
  | nil => simp [split1]
  | cons x r =>
    unfold split1
    split
    · simp
    · split <;> simp

theorem split1_none (c : UInt8) (l : Bytes) (h : ∀ x, x ∈ l → x ≠ c) : split1 c l = [l] := by
  induction l with
  | nil => rfl
  | cons x r ih =>
    rw [split1, if_neg (h x (by simp)), ih (fun y hy => h y (by simp [hy]))]

theorem split1_hit (c : UInt8) (l r : Bytes) (h : ∀ x, x ∈ l → x ≠ c) : split1 c (l ++ c :: r) = l :: split1 c r := by
  induction l with
  | nil => simp [split1]
  | cons x l ih =>
    rw [List.cons_append, split1, if_neg (h x (by simp)), ih (fun y hy => h y (by simp [hy]))]

theorem split1_len (c : UInt8) (l : Bytes) : ∀ x, x ∈ split1 c l → x.length ≤ l.length := by
  induction l with
  | nil => intro x hx; simp [split1] at hx; simp [hx]
  | cons y r ih =>
    intro x hx
    unfold split1 at hx
    split at hx
    · rcases List.mem_cons.1 hx with rfl | hx
      · simp
      · have := ih x hx; simp; omega
    · split at hx
      · simp at hx; simp [hx]
      · rename_i h t e
        rcases List.mem_cons.1 hx with rfl | hx
        · have := ih h (by rw [e]; simp); simp; exact this
        · have := ih x (by rw [e]; simp [hx]); simp; omega

theorem splitB_one (c : UInt8) : ∀ (k : Nat) (s : ByteArray), Lib.countB s ⟨#[c]⟩ = k → (Lib.splitB ⟨#[c]⟩ 0 k s).map (fun x => x.data.toList) = split1 c s.data.toList := by
  intro k
  induction k with
  | zero =>
    intro s hk
    rcases Lib.indexB_cases s ⟨#[c]⟩ with hix | ⟨i, hix, hroom⟩
    · rw [Lib.splitB_zero]
      have h1 : Lib.indexByte s.data.toList c = -1 := by rw [← Lib.index_one]; exact hix
      have h2 := Lib.indexByte_none h1
      rw [split1_none c _ (fun x hx e => by
        obtain ⟨n, hn, e2⟩ := List.getElem_of_mem hx
        exact h2 n (by rw [List.getElem?_eq_getElem hn, e2, e]))]
      rfl
    · have := Lib.countB_hit s ⟨#[c]⟩ i (Nat.le_refl 1) hix
      omega
  | succ k ih =>
    intro s hk
    rcases Lib.indexB_cases s ⟨#[c]⟩ with hix | ⟨i, hix, hroom⟩
    · have := Lib.countB_miss s ⟨#[c]⟩ hix
      omega
    · have h1 : Lib.indexByte s.data.toList c = i := by rw [← Lib.index_one]; exact hix
      obtain ⟨h2, h3⟩ := Lib.indexByte_some h1
      have h4 := Lib.countB_hit s ⟨#[c]⟩ i (Nat.le_refl 1) hix
      rw [Lib.splitB_hit _ _ _ _ i hix, List.map_cons, ih _ (by omega)]
      have e1 : (s.extract 0 (i + 0)).data.toList = s.data.toList.take i := by rw [Lib.extract_data]; simp
      have e2 : (s.extract (i + (⟨#[c]⟩ : ByteArray).size) s.size).data.toList = s.data.toList.drop (i + 1) := by
        rw [Lib.extract_data, List.take_of_length_le (by rw [List.length_drop]; simp)]
        rfl
      rw [e1, e2]
      have hlt : i < s.data.toList.length := (List.getElem?_eq_some_iff.1 h2).1
      have e3 : s.data.toList = s.data.toList.take i ++ c :: s.data.toList.drop (i + 1) := by
        have := List.getElem?_eq_some_iff.1 h2
        obtain ⟨h5, h6⟩ := this
        conv => lhs; rw [← List.take_append_drop i s.data.toList, List.drop_eq_getElem_cons h5, h6]
      conv => rhs; rw [e3]
      rw [split1_hit]
      intro x hx e
      obtain ⟨n, hn, e4⟩ := List.getElem_of_mem hx
      rw [List.length_take] at hn
      refine h3 n (by omega) ?_
      rw [List.getElem_take] at e4
      rw [List.getElem?_eq_getElem (by omega), e4, e]

end Go.Proofs.YtiggnmhoececfaaGreatDoor
