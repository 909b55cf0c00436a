/- Texts taken together: Plain, Shelf, Base, Row, RowRange, RowN, Ins, Digits, Range, Luhn, Card, PrintA, Awake03, Version, Within, Version2, Law17, Less, PrintE, Ranges. -/
import Derived.WalkKit
import Derived.Lib.ItoaNum
import Derived.Lib.ParseIntB
import Derived.Lib.SplitLaws
import Derived.Lib.IndexBytes
import Derived.Shelf.Lays
import Derived.Shelf.LaysM
import Derived.Shelf.Pu.Lays
import Derived.Shelf.Pu.ParseUintPublic10
import Derived.Shelf.Small.Strs
import Derived.Shelf.Strconv.Itoa1
import Derived.Shelf.Strconv.Itoa2
import Derived.Shelf.Strings.BuilderX
import Derived.Shelf.Strings.OnBuilder
import Derived.Shelf.Strings.Repeat
import Derived.Shelf.Strings.Split
import Derived.Test.YtiggnmhoececfaaGreatDoorProg
import Derived.Test.YtiggnmhoececfaaGreatDoorWWords
import Derived.WalkSmall
import Derived.WalkLawsBesides
import Derived.WalkSpells
import Derived.Test.YtiggnmhoececfaaGreatDoorCards
import Derived.Test.YtiggnmhoececfaaGreatDoorTie
import Derived.ProofKit
import Derived.OpenShut
import Derived.ShutString
import Derived.Below
import Derived.SizedLaws
import Derived.LaidMore
import Derived.Deep.DeepWitnessRowRef
import Derived.Lib.LaidU8
import Derived.LaidLaws
import Derived.LaidSub
import Derived.Shelf.Vars
import Derived.Lib.SmallJoins
import Derived.Laws.CopyOwn
import Derived.Lib.AppendZerosOnto
import Derived.Lib.Overlaps
import Derived.Laws.Externs
import Derived.Laws.AppendOwn
import Derived.Shelf.Spec.SlicesInsert
import Derived.Lib.ItoaMem
import Derived.RangeFuncNested
import Derived.RangeFuncBound
import Derived.RangeFuncCalls
import Derived.RangeFuncLeaves
import Derived.Shelf.Abstract
import Derived.Shelf.RegionOpen
import Derived.OwnWalkIn
import Derived.TacticsInMore
import Derived.LoopNIn
import Derived.LoopIn
import Derived.Test.YtiggnmhoececfaaGreatDoorPRangesTurnx0
import Derived.Maps.AppendAt
import Derived.Deep.QuietTactic
import Derived.BigQuiet
import Derived.Deep.RegionHeld3
import Derived.Lib.QuietBelow
import Derived.Laws.Cover1

namespace Go.Proofs.YtiggnmhoececfaaGreatDoor
set_option linter.unusedVariables false
set_option linter.unusedSimpArgs false
open Go.RowKit

abbrev Bytes := List UInt8

theorem ret_int {k : IntKind} {a b : Int} (h : a = b) : Ending.returned (.int k a) = .returned (.int k b) := by rw [h]
theorem ret_bool {a b : Bool} (h : a = b) : Ending.returned (.bool a) = .returned (.bool b) := by rw [h]
theorem ret_str {a b : ByteArray} (h : a = b) : Ending.returned (.string a) = .returned (.string b) := by rw [h]
theorem ret_val {a b : Value} (h : a = b) : Ending.returned a = .returned b := by rw [h]

/-- Are all of them decimal digits? -/
def isDig (l : Bytes) : Bool := l.all (fun c => 48 ≤ c && c ≤ 57)
/-- digits.Is -/
def isNum (l : Bytes) : Bool := isDig l && !l.isEmpty

theorem width_pos (s : ByteArray) (pos : Nat) (h : pos < s.size) : 1 ≤ (Utf8.decode s pos).2 := by
  by_cases ha : (s[pos]'h).toNat < 128
  · rw [decode_ascii s pos h ha]
    exact Nat.le_refl _
  · exact (decode_high s pos h (by omega)).2

theorem take_snoc (s : ByteArray) (k : Nat) (h : k < s.size) : s.data.toList.take (k + 1) = s.data.toList.take k ++ [s[k]] := by
  rw [List.take_succ_eq_append_getElem (by simpa using h)]; rfl

theorem isDig_next (s : ByteArray) (pos : Nat) (h : pos < s.size) (h1 : 48 ≤ ((Utf8.decode s pos).1 : Int)) (h2 : ((Utf8.decode s pos).1 : Int) ≤ 57) (hd : isDig (s.data.toList.take pos) = true) :
    (Utf8.decode s pos).2 = 1 ∧ isDig (s.data.toList.take (pos + 1)) = true := by
  by_cases ha : (s[pos]'h).toNat < 128
  · rw [decode_ascii s pos h ha] at h1 h2 ⊢
    refine ⟨rfl, ?_⟩
    rw [take_snoc s pos h]
    unfold isDig at hd ⊢
    rw [List.all_append, hd]
    simp [UInt8.le_iff_toNat_le] at h1 h2 ⊢
    omega
  · have := (decode_high s pos h (by omega)).1
    omega

theorem isDig_no (s : ByteArray) (pos : Nat) (h : pos < s.size) (h1 : ((Utf8.decode s pos).1 : Int) < 48 ∨ 57 < ((Utf8.decode s pos).1 : Int)) : isDig s.data.toList = false := by
  unfold isDig
  rw [List.all_eq_false]
  refine ⟨s[pos], by exact Array.getElem_mem_toList _, ?_⟩
  by_cases ha : (s[pos]'h).toNat < 128
  · rw [decode_ascii s pos h ha] at h1
    simp [UInt8.le_iff_toNat_le] at h1 ⊢
    omega
  · simp [UInt8.le_iff_toNat_le]
    omega

theorem below_iter (w : World) (s : ByteArray) (p : Nat) : Below w.heap.size w (w.iter s p) := (Below.refl _ _).alloc (Nat.le_refl _) _

/-- What a row of digits spells, behind what came ahead of it. -/
def numFrom (acc : Nat) (l : Bytes) : Nat := l.foldl (fun n c => n * 10 + (c.toNat - 48)) acc
def numOf (l : Bytes) : Nat := numFrom 0 l

theorem numFrom_ge (l : Bytes) : ∀ acc, acc ≤ numFrom acc l := by
  induction l with
  | nil => intro acc; exact Nat.le_refl _
  | cons c r ih =>
    intro acc
    have := ih (acc * 10 + (c.toNat - 48))
    simp only [numFrom, List.foldl_cons] at this ⊢
    omega

theorem parse_dig (l : Bytes) : ∀ acc, isDig l = true → acc ≤ 18446744073709551615 →
    Lib.parseUintM 18446744073709551615 acc l = if numFrom acc l ≤ 18446744073709551615 then .ok (numFrom acc l) else .range := by
  induction l with
  | nil => intro acc _ ha; simp [Lib.parseUintM, numFrom, ha]
  | cons c r ih =>
    intro acc hd ha
    simp only [isDig, List.all_cons, Bool.and_eq_true, decide_eq_true_eq, UInt8.le_iff_toNat_le] at hd
    obtain ⟨⟨h1, h2⟩, hr⟩ := hd
    have h1' : 48 ≤ c.toNat := h1
    have h2' : c.toNat ≤ 57 := h2
    have hg := numFrom_ge r (acc * 10 + (c.toNat - 48))
    have e : numFrom acc (c :: r) = numFrom (acc * 10 + (c.toNat - 48)) r := rfl
    rw [e, Lib.parseUintM, if_pos ⟨h1', h2'⟩]
    split
    · rw [if_neg (by omega)]
    · split
      · rw [if_neg (by omega)]
      · exact ih _ hr (by omega)

theorem parse64 (l : Bytes) (h : isNum l = true) : Lib.parseUintB 64 l = if numOf l ≤ 18446744073709551615 then .ok (numOf l) else .range := by
  simp only [isNum, Bool.and_eq_true] at h
  unfold Lib.parseUintB
  rw [if_neg (by intro e; subst e; simp at h)]
  exact parse_dig l 0 h.1 (by omega)

/-- digits.Text: at least so many digits. -/
def textL (n : Nat) (width : Int) : Bytes := List.replicate (Max.max (Min.min (Max.max width 0) 40 - (Lib.decDigits n).length) 0).toNat 48 ++ Lib.decDigits n

/-- A text cut at each of one byte. -/
def split1 (c : UInt8) : Bytes → List Bytes
  | [] => [[]]
  | x :: r => if x = c then [] :: split1 c r else match split1 c r with
    | [] => [[x]]
    | h :: t => (x :: h) :: t

theorem split1_ne (c : UInt8) (l : Bytes) : split1 c l ≠ [] := by
  cases l with
  | nil => simp [split1]
  | cons x r =>
    unfold split1
    split
    · simp
    · split <;> simp

theorem split1_none (c : UInt8) (l : Bytes) (h : ∀ x, x ∈ l → x ≠ c) : split1 c l = [l] := by
  induction l with
  | nil => rfl
  | cons x r ih =>
    rw [split1, if_neg (h x (by simp)), ih (fun y hy => h y (by simp [hy]))]

theorem split1_hit (c : UInt8) (l r : Bytes) (h : ∀ x, x ∈ l → x ≠ c) : split1 c (l ++ c :: r) = l :: split1 c r := by
  induction l with
  | nil => simp [split1]
  | cons x l ih =>
    rw [List.cons_append, split1, if_neg (h x (by simp)), ih (fun y hy => h y (by simp [hy]))]

theorem split1_len (c : UInt8) (l : Bytes) : ∀ x, x ∈ split1 c l → x.length ≤ l.length := by
  induction l with
  | nil => intro x hx; simp [split1] at hx; simp [hx]
  | cons y r ih =>
    intro x hx
    unfold split1 at hx
    split at hx
    · rcases List.mem_cons.1 hx with rfl | hx
      · simp
      · have := ih x hx; simp; omega
    · split at hx
      · simp at hx; simp [hx]
      · rename_i h t e
        rcases List.mem_cons.1 hx with rfl | hx
        · have := ih h (by rw [e]; simp); simp; exact this
        · have := ih x (by rw [e]; simp [hx]); simp; omega

theorem splitB_one (c : UInt8) : ∀ (k : Nat) (s : ByteArray), Lib.countB s ⟨#[c]⟩ = k → (Lib.splitB ⟨#[c]⟩ 0 k s).map (fun x => x.data.toList) = split1 c s.data.toList := by
  intro k
  induction k with
  | zero =>
    intro s hk
    rcases Lib.indexB_cases s ⟨#[c]⟩ with hix | ⟨i, hix, hroom⟩
    · rw [Lib.splitB_zero]
      have h1 : Lib.indexByte s.data.toList c = -1 := by rw [← Lib.index_one]; exact hix
      have h2 := Lib.indexByte_none h1
      rw [split1_none c _ (fun x hx e => by
        obtain ⟨n, hn, e2⟩ := List.getElem_of_mem hx
        exact h2 n (by rw [List.getElem?_eq_getElem hn, e2, e]))]
      rfl
    · have := Lib.countB_hit s ⟨#[c]⟩ i (Nat.le_refl 1) hix
      omega
  | succ k ih =>
    intro s hk
    rcases Lib.indexB_cases s ⟨#[c]⟩ with hix | ⟨i, hix, hroom⟩
    · have := Lib.countB_miss s ⟨#[c]⟩ hix
      omega
    · have h1 : Lib.indexByte s.data.toList c = i := by rw [← Lib.index_one]; exact hix
      obtain ⟨h2, h3⟩ := Lib.indexByte_some h1
      have h4 := Lib.countB_hit s ⟨#[c]⟩ i (Nat.le_refl 1) hix
      rw [Lib.splitB_hit _ _ _ _ i hix, List.map_cons, ih _ (by omega)]
      have e1 : (s.extract 0 (i + 0)).data.toList = s.data.toList.take i := by rw [Lib.extract_data]; simp
      have e2 : (s.extract (i + (⟨#[c]⟩ : ByteArray).size) s.size).data.toList = s.data.toList.drop (i + 1) := by
        rw [Lib.extract_data, List.take_of_length_le (by rw [List.length_drop]; simp)]
        rfl
      rw [e1, e2]
      have hlt : i < s.data.toList.length := (List.getElem?_eq_some_iff.1 h2).1
      have e3 : s.data.toList = s.data.toList.take i ++ c :: s.data.toList.drop (i + 1) := by
        have := List.getElem?_eq_some_iff.1 h2
        obtain ⟨h5, h6⟩ := this
        conv => lhs; rw [← List.take_append_drop i s.data.toList, List.drop_eq_getElem_cons h5, h6]
      conv => rhs; rw [e3]
      rw [split1_hit]
      intro x hx e
      obtain ⟨n, hn, e4⟩ := List.getElem_of_mem hx
      rw [List.length_take] at hn
      refine h3 n (by omega) ?_
      rw [List.getElem_take] at e4
      rw [List.getElem?_eq_getElem (by omega), e4, e]

end Go.Proofs.YtiggnmhoececfaaGreatDoor

namespace Go.Proofs
open Go.Shelf
def Tryz.lays156_ren : Go.Shelf.Ren := ⟨fun | 156 => 76 | 165 => 85 | 166 => 86 | 169 => 87 | 240 => 99 | 241 => 100 | 276 => 120 | 277 => 121 | n => n, fun | 31 => 41 | 9 => 9 | 3 => 3 | 4 => 4 | 0 => 0 | 20 => 20 | 72 => 124 | 76 => 126 | 70 => 122 | 37 => 98 | 75 => 116 | 127 => 133 | 164 => 158 | 5 => 5 | 80 => 104 | n => n, fun | n => n⟩
theorem Tryz.lays156 : Go.Proofs.Lays.n156 Tryz.prog Tryz.lays156_ren := {
  mixed := by kernel_rfl
  f156 := Tryz.func76.trans (congrArg some (by kernel_rfl))
  f165 := Tryz.func85.trans (congrArg some (by kernel_rfl))
  f166 := Tryz.func86.trans (congrArg some (by kernel_rfl))
  f169 := Tryz.func87.trans (congrArg some (by kernel_rfl))
  f240 := Tryz.func99.trans (congrArg some (by kernel_rfl))
  f241 := Tryz.func100.trans (congrArg some (by kernel_rfl))
  f276 := Tryz.func120.trans (congrArg some (by kernel_rfl))
  f277 := Tryz.func121.trans (congrArg some (by kernel_rfl))
  t0 := Tryz.underlying0
  a0 := Tryz.isAgg0
  z0 := Tryz.sizeOf0
  v0 := Tryz.zeroValue0
  t3 := Tryz.underlying3
  a3 := Tryz.isAgg3
  z3 := Tryz.sizeOf3
  v3 := Tryz.zeroValue3
  t4 := Tryz.underlying4
  a4 := Tryz.isAgg4
  z4 := Tryz.sizeOf4
  v4 := Tryz.zeroValue4
  t9 := Tryz.underlying9
  a9 := Tryz.isAgg9
  z9 := Tryz.sizeOf9
  v9 := Tryz.zeroValue9
  t20 := Tryz.underlying20
  a20 := Tryz.isAgg20
  z20 := Tryz.sizeOf20
  v20 := Tryz.zeroValue20
  t31 := Tryz.underlying41
  a31 := Tryz.isAgg41
  z31 := Tryz.sizeOf41
  v31 := Tryz.zeroValue41
  t37 := Tryz.underlying98
  a37 := Tryz.isAgg98
  z37 := Tryz.sizeOf98
  v37 := Tryz.zeroValue98
  t70 := Tryz.underlying122
  a70 := Tryz.isAgg122
  z70 := Tryz.sizeOf122
  v70 := Tryz.zeroValue122
  t72 := Tryz.underlying124
  a72 := Tryz.isAgg124
  z72 := Tryz.sizeOf124
  v72 := Tryz.zeroValue124
  t75 := Tryz.underlying116
  a75 := Tryz.isAgg116
  z75 := Tryz.sizeOf116
  v75 := Tryz.zeroValue116
  t76 := Tryz.underlying126
  a76 := Tryz.isAgg126
  z76 := Tryz.sizeOf126
  v76 := Tryz.zeroValue126
  t127 := Tryz.underlying133
  a127 := Tryz.isAgg133
  z127 := Tryz.sizeOf133
  v127 := Tryz.zeroValue133
  t164 := Tryz.underlying158
  a164 := Tryz.isAgg158
  z164 := Tryz.sizeOf158
  v164 := Tryz.zeroValue158 }
theorem Tryz.Builder_Extra_156 : Builder.Extra Tryz.prog Tryz.lays156_ren := {
  sizeBuilder := by kernel_rfl
  liesBuilder := by kernel_rfl
  t5 := Tryz.underlying5
  a5 := Tryz.isAgg5
  z5 := Tryz.sizeOf5
  v5 := Tryz.zeroValue5
  infoByte := by kernel_rfl
  cellsByte := by kernel_rfl
  sizeByte := by kernel_rfl
  neB5 := by decide }
open Go.RowKit in
/-- No element: the empty string; the world is as it was. (Whatever the slice's address and capacity: a nil slice too.) (LAID: no walk: one application.) -/
theorem Tryz.strings_Join_none (a : Option Addr) (c : Nat) (sep : ByteArray) (w : World) :
    Calls Tryz.prog 76 #[.slice a 0 c, .string sep] w fun e w' => e = .returned (.string ⟨#[]⟩) ∧ w' = w := Any.strings_Join_none Tryz.lays156 Tryz.Builder_Extra_156 a c sep w
open Go.RowKit in
/-- strings.Join: "Join concatenates the elements of its first argument to create a single string. The separator string sep is placed between elements in the resulting string.": HOWEVER MANY ELEMENTS. Below the heap's end the world is as it was. (LAID: no walk: one application.) -/
theorem Tryz.strings_Join (bk o c : Nat) (xs : List ByteArray) (sep : ByteArray) (w : World) (hcells : ∀ (j : Nat) x, xs[j]? = some x → w.cell? ⟨bk, o + j, none⟩ = some (.string x)) (hbk : bk < w.heap.size) (hN : xs.length ≤ 140737488355328) (hcap : xs.length ≤ c) (hlen : (Lib.join (xs.map (·.data.toList)) sep.data.toList).length ≤ 140737488355328) :
    Calls Tryz.prog 76 #[.slice (some ⟨bk, o, none⟩) xs.length c, .string sep] w fun e w' => e = .returned (.string ⟨(Lib.join (xs.map (·.data.toList)) sep.data.toList).toArray⟩) ∧ Below w.heap.size w w' := Any.strings_Join Tryz.lays156 Tryz.Builder_Extra_156 bk o c xs sep w hcells hbk hN hcap hlen
def Tryz.lays106_ren : Go.Shelf.Ren := ⟨fun | 106 => 36 | 213 => 54 | 265 => 64 | n => n, fun | 9 => 9 | 3 => 3 | n => n, fun | n => n⟩
theorem Tryz.lays106 : Go.Proofs.Lays.n106 Tryz.prog Tryz.lays106_ren := {
  mixed := by kernel_rfl
  f106 := Tryz.func36.trans (congrArg some (by kernel_rfl))
  f213 := Tryz.func54.trans (congrArg some (by kernel_rfl))
  f265 := Tryz.func64.trans (congrArg some (by kernel_rfl))
  t3 := Tryz.underlying3
  a3 := Tryz.isAgg3
  z3 := Tryz.sizeOf3
  v3 := Tryz.zeroValue3
  t9 := Tryz.underlying9
  a9 := Tryz.isAgg9
  z9 := Tryz.sizeOf9
  v9 := Tryz.zeroValue9 }
open Go.RowKit in
/-- strings.Compare: "Compare returns an integer comparing two strings lexicographically. The result will be 0 if a == b, -1 if a < b, and +1 if a > b.": IT RETURNS 'Lib.compareBytes a b'; the world is as it was. (LAID: no walk: one application.) -/
theorem Tryz.strings_Compare (a b : ByteArray) (w : World) :
    Calls Tryz.prog 36 #[.string a, .string b] w fun e w' => e = .returned (.int .i64 (Lib.compareBytes a.data.toList b.data.toList)) ∧ w' = w := Any.strings_Compare Tryz.lays106 a b w
def Tryz.lays283_ren : Go.Shelf.Ren := ⟨fun | 283 => 113 | n => n, fun | 3 => 3 | 9 => 9 | 4 => 4 | n => n, fun | n => n⟩
theorem Tryz.lays283 : Go.Proofs.Lays.n283 Tryz.prog Tryz.lays283_ren := {
  mixed := by kernel_rfl
  f283 := Tryz.func113.trans (congrArg some (by kernel_rfl))
  t3 := Tryz.underlying3
  a3 := Tryz.isAgg3
  z3 := Tryz.sizeOf3
  v3 := Tryz.zeroValue3
  t4 := Tryz.underlying4
  a4 := Tryz.isAgg4
  z4 := Tryz.sizeOf4
  v4 := Tryz.zeroValue4
  t9 := Tryz.underlying9
  a9 := Tryz.isAgg9
  z9 := Tryz.sizeOf9
  v9 := Tryz.zeroValue9 }
open Go.Lib in
/-- internal/strconv.small: "small returns the string for an i with 0 <= i < nSmalls.": i's decimal numeral. The world is as it was. (LAID: no walk: one application.) -/
theorem Tryz.internal_strconv_small (i : Nat) (h : i < 100) (w : World) :
    Calls Tryz.prog 113 #[.int .i64 i] w fun e w' => e = .returned (.string ⟨(Lib.decDigits i).toArray⟩) ∧ w' = w := Any.internal_strconv_small Tryz.lays283 i h w
def Tryz.laysM284_ren : Go.Shelf.Ren := ⟨fun | 284 => 114 | 129 => 132 | 317 => 131 | 318 => 133 | n => n, fun | 53 => 83 | 3 => 3 | 212 => 167 | 0 => 0 | 4 => 4 | 46 => 99 | 5 => 5 | 9 => 9 | n => n, fun | 17 => 3 | n => n⟩
theorem Tryz.laysM284 : Go.Proofs.LaysM.n284 Tryz.prog Tryz.laysM284_ren := {
  mixed := by kernel_rfl
  f129 := Tryz.func132.trans (congrArg some (by kernel_rfl))
  f284 := Tryz.func114.trans (congrArg some (by kernel_rfl))
  f317 := Tryz.func131.trans (congrArg some (by kernel_rfl))
  f318 := Tryz.func133.trans (congrArg some (by kernel_rfl))
  t0 := Tryz.underlying0
  a0 := Tryz.isAgg0
  z0 := Tryz.sizeOf0
  v0 := Tryz.zeroValue0
  t3 := Tryz.underlying3
  a3 := Tryz.isAgg3
  z3 := Tryz.sizeOf3
  v3 := Tryz.zeroValue3
  t4 := Tryz.underlying4
  a4 := Tryz.isAgg4
  z4 := Tryz.sizeOf4
  v4 := Tryz.zeroValue4
  t5 := Tryz.underlying5
  a5 := Tryz.isAgg5
  z5 := Tryz.sizeOf5
  v5 := Tryz.zeroValue5
  t9 := Tryz.underlying9
  a9 := Tryz.isAgg9
  z9 := Tryz.sizeOf9
  v9 := Tryz.zeroValue9
  t46 := Tryz.underlying99
  a46 := Tryz.isAgg99
  z46 := Tryz.sizeOf99
  v46 := Tryz.zeroValue99
  t53 := Tryz.underlying83
  a53 := Tryz.isAgg83
  z53 := Tryz.sizeOf83
  v53 := Tryz.zeroValue83
  t212 := Tryz.underlying167
  a212 := Tryz.isAgg167
  z212 := Tryz.sizeOf167
  v212 := Tryz.zeroValue167
  g17 := by kernel_rfl
  i0 := by kernel_rfl
  i3 := by kernel_rfl
  i4 := by kernel_rfl
  i5 := by kernel_rfl
  i9 := by kernel_rfl
  i46 := by kernel_rfl
  i53 := by kernel_rfl
  i212 := by kernel_rfl
  m17 := by kernel_rfl }
open Go.Lib in
/-- internal/strconv.numDigits, at a d that is not 0: THE NUMBER OF d's DECIMAL DIGITS. The world is as it was. (LAID: no walk: one application.) -/
theorem Tryz.internal_strconv_numDigits (u : Nat) (h1 : 1 ≤ u) (h2 : u < 18446744073709551616) (w : World) (htab : Lib.TabIs Tryz.prog w "internal/strconv.uint64pow10" .u64 Lib.pow10Tab) :
    Calls Tryz.prog 114 #[.int .u64 u] w fun e w' => e = .returned (.int .i64 (Lib.nDigits u)) ∧ w' = w := Any.internal_strconv_numDigits Tryz.laysM284 u h1 h2 w htab
def Tryz.lays285_ren : Go.Shelf.Ren := ⟨fun | 285 => 115 | n => n, fun | 37 => 98 | 53 => 83 | 3 => 3 | 4 => 4 | 51 => 153 | 9 => 9 | 5 => 5 | 0 => 0 | n => n, fun | n => n⟩
theorem Tryz.lays285 : Go.Proofs.Lays.n285 Tryz.prog Tryz.lays285_ren := {
  mixed := by kernel_rfl
  f285 := Tryz.func115.trans (congrArg some (by kernel_rfl))
  t0 := Tryz.underlying0
  a0 := Tryz.isAgg0
  z0 := Tryz.sizeOf0
  v0 := Tryz.zeroValue0
  t3 := Tryz.underlying3
  a3 := Tryz.isAgg3
  z3 := Tryz.sizeOf3
  v3 := Tryz.zeroValue3
  t4 := Tryz.underlying4
  a4 := Tryz.isAgg4
  z4 := Tryz.sizeOf4
  v4 := Tryz.zeroValue4
  t5 := Tryz.underlying5
  a5 := Tryz.isAgg5
  z5 := Tryz.sizeOf5
  v5 := Tryz.zeroValue5
  t9 := Tryz.underlying9
  a9 := Tryz.isAgg9
  z9 := Tryz.sizeOf9
  v9 := Tryz.zeroValue9
  t37 := Tryz.underlying98
  a37 := Tryz.isAgg98
  z37 := Tryz.sizeOf98
  v37 := Tryz.zeroValue98
  t51 := Tryz.underlying153
  a51 := Tryz.isAgg153
  z51 := Tryz.sizeOf153
  v51 := Tryz.zeroValue153
  t53 := Tryz.underlying83
  a53 := Tryz.isAgg83
  z53 := Tryz.sizeOf83
  v53 := Tryz.zeroValue83 }
open Go.RowKit Go.Sort Go.Lib in
/-- internal/strconv.formatBase10: "formatBase10 formats the decimal representation of u into a. The caller is responsible for ensuring that a is big enough to hold u. If a is too big, leading zeros will be filled in as needed.": THE ROW HOLDS u's DIGITS ('FmtInv .. 0 ..': every place t holds 'dg u (len - 1 - t)'); all else is as it was but for the count of draws. (LAID: no walk: one application.) -/
theorem Tryz.internal_strconv_formatBase10 (blk off cap : Nat) (u : Nat) (d : Array UInt8) (w : World) (hH : Holds (fun (b : UInt8) => Value.int .u8 (b.toNat : Int)) w blk off d) (hu : u < 10 ^ d.size) (hu64 : u < 18446744073709551616) (hsz : d.size < 4611686018427387904) :
    Calls Tryz.prog 115 #[.slice (some ⟨blk, off, none⟩) d.size cap, .int .u64 u] w fun e w' =>
      e = .returned (.tuple #[]) ∧ ∃ (n v' : Nat) (dk : Array UInt8), w' = (putRow (fun (b : UInt8) => Value.int .u8 (b.toNat : Int)) w blk off dk).drewN n ∧ FmtInv d.size u 0 v' dk := Any.internal_strconv_formatBase10 Tryz.lays285 blk off cap u d w hH hu hu64 hsz
def Tryz.laysPu14_ren : Go.Shelf.Ren := ⟨fun | 14 => 80 | 16 => 93 | 17 => 94 | 19 => 107 | 20 => 108 | 21 => 109 | 22 => 110 | 23 => 111 | 24 => 112 | 25 => 128 | 27 => 130 | 26 => 129 | 28 => 138 | 29 => 141 | 30 => 113 | 31 => 114 | 32 => 115 | 33 => 116 | 35 => 132 | 34 => 131 | 36 => 133 | 37 => 134 | 38 => 135 | 39 => 139 | 40 => 140 | n => n, fun | 9 => 9 | 3 => 3 | 22 => 83 | 24 => 116 | 25 => 117 | 4 => 4 | 34 => 142 | 5 => 5 | 36 => 99 | 37 => 98 | 0 => 0 | 39 => 144 | 21 => 21 | 44 => 164 | 47 => 133 | 50 => 177 | 48 => 175 | 2 => 2 | 52 => 148 | 55 => 151 | 59 => 167 | 60 => 153 | 20 => 20 | 61 => 168 | 65 => 180 | 66 => 181 | 67 => 104 | n => n, fun | 0 => 1 | 1 => 2 | 2 => 3 | 3 => 6 | 4 => 7 | n => n⟩
theorem Tryz.laysPu14 : Go.Proofs.LaysPu.n14 Tryz.prog Tryz.laysPu14_ren := {
  mixed := by kernel_rfl
  f14 := Tryz.func80.trans (congrArg some (by kernel_rfl))
  f16 := Tryz.func93.trans (congrArg some (by kernel_rfl))
  f17 := Tryz.func94.trans (congrArg some (by kernel_rfl))
  f19 := Tryz.func107.trans (congrArg some (by kernel_rfl))
  f20 := Tryz.func108.trans (congrArg some (by kernel_rfl))
  f21 := Tryz.func109.trans (congrArg some (by kernel_rfl))
  f22 := Tryz.func110.trans (congrArg some (by kernel_rfl))
  f23 := Tryz.func111.trans (congrArg some (by kernel_rfl))
  f24 := Tryz.func112.trans (congrArg some (by kernel_rfl))
  f25 := Tryz.func128.trans (congrArg some (by kernel_rfl))
  f26 := Tryz.func129.trans (congrArg some (by kernel_rfl))
  f27 := Tryz.func130.trans (congrArg some (by kernel_rfl))
  f28 := Tryz.func138.trans (congrArg some (by kernel_rfl))
  f29 := Tryz.func141.trans (congrArg some (by kernel_rfl))
  f30 := Tryz.func113.trans (congrArg some (by kernel_rfl))
  f31 := Tryz.func114.trans (congrArg some (by kernel_rfl))
  f32 := Tryz.func115.trans (congrArg some (by kernel_rfl))
  f33 := Tryz.func116.trans (congrArg some (by kernel_rfl))
  f34 := Tryz.func131.trans (congrArg some (by kernel_rfl))
  f35 := Tryz.func132.trans (congrArg some (by kernel_rfl))
  f36 := Tryz.func133.trans (congrArg some (by kernel_rfl))
  f37 := Tryz.func134.trans (congrArg some (by kernel_rfl))
  f38 := Tryz.func135.trans (congrArg some (by kernel_rfl))
  f39 := Tryz.func139.trans (congrArg some (by kernel_rfl))
  f40 := Tryz.func140.trans (congrArg some (by kernel_rfl))
  t0 := Tryz.underlying0
  a0 := Tryz.isAgg0
  z0 := Tryz.sizeOf0
  v0 := Tryz.zeroValue0
  i0 := by kernel_rfl
  t2 := Tryz.underlying2
  a2 := Tryz.isAgg2
  z2 := Tryz.sizeOf2
  v2 := Tryz.zeroValue2
  i2 := by kernel_rfl
  t3 := Tryz.underlying3
  a3 := Tryz.isAgg3
  z3 := Tryz.sizeOf3
  v3 := Tryz.zeroValue3
  i3 := by kernel_rfl
  t4 := Tryz.underlying4
  a4 := Tryz.isAgg4
  z4 := Tryz.sizeOf4
  v4 := Tryz.zeroValue4
  i4 := by kernel_rfl
  t5 := Tryz.underlying5
  a5 := Tryz.isAgg5
  z5 := Tryz.sizeOf5
  v5 := Tryz.zeroValue5
  i5 := by kernel_rfl
  t9 := Tryz.underlying9
  a9 := Tryz.isAgg9
  z9 := Tryz.sizeOf9
  v9 := Tryz.zeroValue9
  i9 := by kernel_rfl
  t20 := Tryz.underlying20
  a20 := Tryz.isAgg20
  z20 := Tryz.sizeOf20
  v20 := Tryz.zeroValue20
  i20 := by kernel_rfl
  t21 := Tryz.underlying21
  a21 := Tryz.isAgg21
  z21 := Tryz.sizeOf21
  v21 := Tryz.zeroValue21
  i21 := by kernel_rfl
  t22 := Tryz.underlying83
  a22 := Tryz.isAgg83
  z22 := Tryz.sizeOf83
  v22 := Tryz.zeroValue83
  i22 := by kernel_rfl
  t24 := Tryz.underlying116
  a24 := Tryz.isAgg116
  z24 := Tryz.sizeOf116
  v24 := Tryz.zeroValue116
  i24 := by kernel_rfl
  t25 := Tryz.underlying117
  a25 := Tryz.isAgg117
  z25 := Tryz.sizeOf117
  v25 := Tryz.zeroValue117
  i25 := by kernel_rfl
  t34 := Tryz.underlying142
  a34 := Tryz.isAgg142
  z34 := Tryz.sizeOf142
  v34 := Tryz.zeroValue142
  i34 := by kernel_rfl
  c34 := by kernel_rfl
  t36 := Tryz.underlying99
  a36 := Tryz.isAgg99
  z36 := Tryz.sizeOf99
  v36 := Tryz.zeroValue99
  i36 := by kernel_rfl
  t37 := Tryz.underlying98
  a37 := Tryz.isAgg98
  z37 := Tryz.sizeOf98
  v37 := Tryz.zeroValue98
  i37 := by kernel_rfl
  t39 := Tryz.underlying144
  a39 := Tryz.isAgg144
  z39 := Tryz.sizeOf144
  v39 := Tryz.zeroValue144
  i39 := by kernel_rfl
  t44 := Tryz.underlying164
  a44 := Tryz.isAgg164
  z44 := Tryz.sizeOf164
  v44 := Tryz.zeroValue164
  i44 := by kernel_rfl
  t47 := Tryz.underlying133
  a47 := Tryz.isAgg133
  z47 := Tryz.sizeOf133
  v47 := Tryz.zeroValue133
  i47 := by kernel_rfl
  t48 := Tryz.underlying175
  a48 := Tryz.isAgg175
  z48 := Tryz.sizeOf175
  v48 := Tryz.zeroValue175
  i48 := by kernel_rfl
  t50 := Tryz.underlying177
  a50 := Tryz.isAgg177
  z50 := Tryz.sizeOf177
  v50 := Tryz.zeroValue177
  i50 := by kernel_rfl
  t52 := Tryz.underlying148
  a52 := Tryz.isAgg148
  z52 := Tryz.sizeOf148
  v52 := Tryz.zeroValue148
  i52 := by kernel_rfl
  t55 := Tryz.underlying151
  a55 := Tryz.isAgg151
  z55 := Tryz.sizeOf151
  v55 := Tryz.zeroValue151
  i55 := by kernel_rfl
  t59 := Tryz.underlying167
  a59 := Tryz.isAgg167
  z59 := Tryz.sizeOf167
  v59 := Tryz.zeroValue167
  i59 := by kernel_rfl
  t60 := Tryz.underlying153
  a60 := Tryz.isAgg153
  z60 := Tryz.sizeOf153
  v60 := Tryz.zeroValue153
  i60 := by kernel_rfl
  t61 := Tryz.underlying168
  a61 := Tryz.isAgg168
  z61 := Tryz.sizeOf168
  t65 := Tryz.underlying180
  a65 := Tryz.isAgg180
  z65 := Tryz.sizeOf180
  v65 := Tryz.zeroValue180
  i65 := by kernel_rfl
  t66 := Tryz.underlying181
  a66 := Tryz.isAgg181
  z66 := Tryz.sizeOf181
  v66 := Tryz.zeroValue181
  i66 := by kernel_rfl
  t67 := Tryz.underlying104
  a67 := Tryz.isAgg104
  z67 := Tryz.sizeOf104
  v67 := Tryz.zeroValue104
  i67 := by kernel_rfl
  g0 := by kernel_rfl
  m0 := by kernel_rfl
  g1 := by kernel_rfl
  m1 := by kernel_rfl
  g2 := by kernel_rfl
  m2 := by kernel_rfl
  g3 := by kernel_rfl
  m3 := by kernel_rfl
  g4 := by kernel_rfl
  m4 := by kernel_rfl }
open Go.RowKit in
/-- strconv.ParseUint(s, 10, 64), AT EVERY STRING THAT SPELLS A uint64 ('Lib.parseUintB 64 s.data.toList = .ok u'): u, AND NO ERROR. (LAID: no walk: one application.) -/
theorem Tryz.strconv_ParseUint_10_at64_ok (s : ByteArray) (hmax : s.size ≤ 9223372036854775806) (u : Nat) (h : Lib.parseUintB 64 s.data.toList = .ok u) (w : World) :
    Calls Tryz.prog 80 #[.string s, .int .i64 10, .int .i64 64] w fun e w' => e = .returned (.tuple #[.int .u64 u, .nilIface]) ∧ (w' = w ∨ w' = Lib.bytesWorld w 5 s) := Any.strconv_ParseUint_10_at64_ok Tryz.laysPu14 s hmax u h w
open Go.RowKit in
/-- strconv.ParseUint(s, 10, 64), AT EVERY NUMERAL THAT NO uint64 HOLDS: THE GREATEST uint64, AND AN ERROR THAT IS NOT nil: a *NumError in a new block N: {Func: "ParseUint", Num: s's bytes, Err: what the variable ErrRange holds}. Of what was there nothing has turned. (LAID: no walk: one application.) -/
theorem Tryz.strconv_ParseUint_10_at64_range (s : ByteArray) (hlim : s.size ≤ 281474976710656) (h : Lib.parseUintB 64 s.data.toList = .range) (ev : Value) (w : World) (hv : w.cell? ⟨2, 0, none⟩ = some ev) (hev : ev = .nilIface ∨ ∃ te pe, ev = .iface te pe) :
    Calls Tryz.prog 80 #[.string s, .int .i64 10, .int .i64 64] w fun e w' => ∃ N, e = .returned (.tuple #[.int .u64 18446744073709551615, .iface 144 (.pointer (some ⟨N, 0, none⟩))]) ∧ w.heap.size ≤ N ∧ w'.heap[N]? = some (.cells #[.string ⟨#[80, 97, 114, 115, 101, 85, 105, 110, 116]⟩, .string s, ev] 164 (0, 0)) ∧ Below w.heap.size w w' := Any.strconv_ParseUint_10_at64_range Tryz.laysPu14 s hlim h ev w hv hev
def Tryz.lays146_ren : Go.Shelf.Ren := ⟨fun | 146 => 70 | 221 => 79 | 268 => 90 | 138 => 91 | 143 => 92 | 195 => 103 | 197 => 104 | 218 => 105 | 219 => 106 | 260 => 123 | 217 => 124 | 225 => 125 | 224 => 126 | 267 => 127 | 266 => 136 | 314 => 137 | n => n, fun | 9 => 9 | 31 => 41 | 3 => 3 | 4 => 4 | 0 => 0 | 105 => 139 | 21 => 21 | 5 => 5 | 46 => 99 | 119 => 170 | 139 => 173 | 138 => 172 | 146 => 154 | 51 => 153 | n => n, fun | 1 => 0 | 3 => 4 | 4 => 5 | n => n⟩
theorem Tryz.lays146 : Go.Proofs.Lays.n146 Tryz.prog Tryz.lays146_ren := {
  mixed := by kernel_rfl
  f138 := Tryz.func91.trans (congrArg some (by kernel_rfl))
  f143 := Tryz.func92.trans (congrArg some (by kernel_rfl))
  f146 := Tryz.func70.trans (congrArg some (by kernel_rfl))
  f195 := Tryz.func103.trans (congrArg some (by kernel_rfl))
  f197 := Tryz.func104.trans (congrArg some (by kernel_rfl))
  f217 := Tryz.func124.trans (congrArg some (by kernel_rfl))
  f218 := Tryz.func105.trans (congrArg some (by kernel_rfl))
  f219 := Tryz.func106.trans (congrArg some (by kernel_rfl))
  f221 := Tryz.func79.trans (congrArg some (by kernel_rfl))
  f224 := Tryz.func126.trans (congrArg some (by kernel_rfl))
  f225 := Tryz.func125.trans (congrArg some (by kernel_rfl))
  f260 := Tryz.func123.trans (congrArg some (by kernel_rfl))
  f266 := Tryz.func136.trans (congrArg some (by kernel_rfl))
  f267 := Tryz.func127.trans (congrArg some (by kernel_rfl))
  f268 := Tryz.func90.trans (congrArg some (by kernel_rfl))
  f314 := Tryz.func137.trans (congrArg some (by kernel_rfl))
  t0 := Tryz.underlying0
  a0 := Tryz.isAgg0
  z0 := Tryz.sizeOf0
  v0 := Tryz.zeroValue0
  t3 := Tryz.underlying3
  a3 := Tryz.isAgg3
  z3 := Tryz.sizeOf3
  v3 := Tryz.zeroValue3
  t4 := Tryz.underlying4
  a4 := Tryz.isAgg4
  z4 := Tryz.sizeOf4
  v4 := Tryz.zeroValue4
  t5 := Tryz.underlying5
  a5 := Tryz.isAgg5
  z5 := Tryz.sizeOf5
  v5 := Tryz.zeroValue5
  t9 := Tryz.underlying9
  a9 := Tryz.isAgg9
  z9 := Tryz.sizeOf9
  v9 := Tryz.zeroValue9
  t21 := Tryz.underlying21
  a21 := Tryz.isAgg21
  z21 := Tryz.sizeOf21
  v21 := Tryz.zeroValue21
  t31 := Tryz.underlying41
  a31 := Tryz.isAgg41
  z31 := Tryz.sizeOf41
  v31 := Tryz.zeroValue41
  t46 := Tryz.underlying99
  a46 := Tryz.isAgg99
  z46 := Tryz.sizeOf99
  v46 := Tryz.zeroValue99
  t51 := Tryz.underlying153
  a51 := Tryz.isAgg153
  z51 := Tryz.sizeOf153
  v51 := Tryz.zeroValue153
  t105 := Tryz.underlying139
  a105 := Tryz.isAgg139
  z105 := Tryz.sizeOf139
  v105 := Tryz.zeroValue139
  t119 := Tryz.underlying170
  a119 := Tryz.isAgg170
  z119 := Tryz.sizeOf170
  t138 := Tryz.underlying172
  a138 := Tryz.isAgg172
  z138 := Tryz.sizeOf172
  v138 := Tryz.zeroValue172
  t139 := Tryz.underlying173
  a139 := Tryz.isAgg173
  z139 := Tryz.sizeOf173
  v139 := Tryz.zeroValue173
  t146 := Tryz.underlying154
  a146 := Tryz.isAgg154
  z146 := Tryz.sizeOf154
  v146 := Tryz.zeroValue154
  g1 := by kernel_rfl
  g3 := by kernel_rfl
  g4 := by kernel_rfl }
open Go.RowKit Go.Lib in
/-- strings.Split. (LAID: no walk: one application.) -/
theorem Tryz.strings_Split (s sep : ByteArray) (m : Int) (w : World) (hs : s.size < 4294967281) (hm : w.cell? ⟨0, 0, none⟩ = some (.int .i64 m)) (h1 : 1 ≤ sep.size) :
    Calls Tryz.prog 70 #[.string s, .string sep] w fun e w' =>
      e = .returned (.slice (some ⟨w.heap.size, 0, none⟩) (Lib.countB s sep + 1) (Lib.countB s sep + 1)) ∧ w' = w.alloc (.cells ((Lib.splitB sep 0 (Lib.countB s sep) s).map Value.string).toArray 9) := Any.strings_Split Tryz.lays146 (by kernel_rfl) s sep m w hs hm h1
def Tryz.lays105_ren : Go.Shelf.Ren := ⟨fun | 105 => 82 | 212 => 96 | 99 => 97 | 165 => 85 | 166 => 86 | 170 => 98 | 169 => 87 | 263 => 117 | 264 => 118 | 206 => 119 | 240 => 99 | 241 => 100 | 276 => 120 | 277 => 121 | n => n, fun | 9 => 9 | 3 => 3 | 4 => 4 | 20 => 20 | 0 => 0 | 46 => 99 | 109 => 130 | 5 => 5 | 72 => 124 | 76 => 126 | 51 => 153 | 146 => 154 | 53 => 83 | 148 => 156 | 70 => 122 | 37 => 98 | 75 => 116 | 127 => 133 | 164 => 158 | 80 => 104 | n => n, fun | n => n⟩
theorem Tryz.lays105 : Go.Proofs.Lays.n105 Tryz.prog Tryz.lays105_ren := {
  mixed := by kernel_rfl
  f99 := Tryz.func97.trans (congrArg some (by kernel_rfl))
  f105 := Tryz.func82.trans (congrArg some (by kernel_rfl))
  f165 := Tryz.func85.trans (congrArg some (by kernel_rfl))
  f166 := Tryz.func86.trans (congrArg some (by kernel_rfl))
  f169 := Tryz.func87.trans (congrArg some (by kernel_rfl))
  f170 := Tryz.func98.trans (congrArg some (by kernel_rfl))
  f206 := Tryz.func119.trans (congrArg some (by kernel_rfl))
  f212 := Tryz.func96.trans (congrArg some (by kernel_rfl))
  f240 := Tryz.func99.trans (congrArg some (by kernel_rfl))
  f241 := Tryz.func100.trans (congrArg some (by kernel_rfl))
  f263 := Tryz.func117.trans (congrArg some (by kernel_rfl))
  f264 := Tryz.func118.trans (congrArg some (by kernel_rfl))
  f276 := Tryz.func120.trans (congrArg some (by kernel_rfl))
  f277 := Tryz.func121.trans (congrArg some (by kernel_rfl))
  t0 := Tryz.underlying0
  a0 := Tryz.isAgg0
  z0 := Tryz.sizeOf0
  v0 := Tryz.zeroValue0
  t3 := Tryz.underlying3
  a3 := Tryz.isAgg3
  z3 := Tryz.sizeOf3
  v3 := Tryz.zeroValue3
  t4 := Tryz.underlying4
  a4 := Tryz.isAgg4
  z4 := Tryz.sizeOf4
  v4 := Tryz.zeroValue4
  t5 := Tryz.underlying5
  a5 := Tryz.isAgg5
  z5 := Tryz.sizeOf5
  v5 := Tryz.zeroValue5
  t9 := Tryz.underlying9
  a9 := Tryz.isAgg9
  z9 := Tryz.sizeOf9
  v9 := Tryz.zeroValue9
  t20 := Tryz.underlying20
  a20 := Tryz.isAgg20
  z20 := Tryz.sizeOf20
  v20 := Tryz.zeroValue20
  t37 := Tryz.underlying98
  a37 := Tryz.isAgg98
  z37 := Tryz.sizeOf98
  v37 := Tryz.zeroValue98
  t46 := Tryz.underlying99
  a46 := Tryz.isAgg99
  z46 := Tryz.sizeOf99
  v46 := Tryz.zeroValue99
  t51 := Tryz.underlying153
  a51 := Tryz.isAgg153
  z51 := Tryz.sizeOf153
  v51 := Tryz.zeroValue153
  t53 := Tryz.underlying83
  a53 := Tryz.isAgg83
  z53 := Tryz.sizeOf83
  v53 := Tryz.zeroValue83
  t70 := Tryz.underlying122
  a70 := Tryz.isAgg122
  z70 := Tryz.sizeOf122
  v70 := Tryz.zeroValue122
  t72 := Tryz.underlying124
  a72 := Tryz.isAgg124
  z72 := Tryz.sizeOf124
  v72 := Tryz.zeroValue124
  t75 := Tryz.underlying116
  a75 := Tryz.isAgg116
  z75 := Tryz.sizeOf116
  v75 := Tryz.zeroValue116
  t76 := Tryz.underlying126
  a76 := Tryz.isAgg126
  z76 := Tryz.sizeOf126
  v76 := Tryz.zeroValue126
  t109 := Tryz.underlying130
  a109 := Tryz.isAgg130
  z109 := Tryz.sizeOf130
  v109 := Tryz.zeroValue130
  t127 := Tryz.underlying133
  a127 := Tryz.isAgg133
  z127 := Tryz.sizeOf133
  v127 := Tryz.zeroValue133
  t146 := Tryz.underlying154
  a146 := Tryz.isAgg154
  z146 := Tryz.sizeOf154
  v146 := Tryz.zeroValue154
  t148 := Tryz.underlying156
  a148 := Tryz.isAgg156
  z148 := Tryz.sizeOf156
  v148 := Tryz.zeroValue156
  t164 := Tryz.underlying158
  a164 := Tryz.isAgg158
  z164 := Tryz.sizeOf158
  v164 := Tryz.zeroValue158 }
theorem Tryz.Builder_Extra_105 : Builder.Extra Tryz.prog Tryz.lays105_ren := {
  sizeBuilder := by kernel_rfl
  liesBuilder := by kernel_rfl
  t5 := Tryz.underlying5
  a5 := Tryz.isAgg5
  z5 := Tryz.sizeOf5
  v5 := Tryz.zeroValue5
  infoByte := by kernel_rfl
  cellsByte := by kernel_rfl
  sizeByte := by kernel_rfl
  neB5 := by decide }
open Go.RowKit Go.Lib in
/-- **strings.Repeat: count ≥ 0, the result within one allocation: count copies of s.** (LAID: no walk: one application.) -/
theorem Tryz.strings_Repeat (s : ByteArray) (c : Nat) (w : World) (hc : c ≤ 9223372036854775807) (hlen : s.size * c ≤ 140737488355328) :
    Calls Tryz.prog 82 #[.string s, .int .i64 c] w fun e w' => e = .returned (.string ⟨(Lib.repeatL s.data.toList c).toArray⟩) ∧ Below w.heap.size w w' := Any.strings_Repeat Tryz.lays105 Tryz.Builder_Extra_105 s c w hc hlen
end Go.Proofs

namespace Go.Proofs.YtiggnmhoececfaaGreatDoor
set_option linter.unusedVariables false
set_option linter.unusedSimpArgs false
open Go.RowKit

theorem Lib.add_plain (b off i : Nat) : (⟨b, off, none⟩ : Addr).add i = ⟨b, off + i, none⟩ := by unfold Addr.add; split <;> simp_all

theorem cellBelow {w w1 : World} (h : Below w.heap.size w w1) {a : Addr} {v : Value} (hc : w.cell? a = some v) : w1.cell? a = some v := (h.cell (World.block_lt_of_cell? w a hc)).trans hc

/-- The library's package-level variables, as they are laid. -/
structure Glob (w : World) : Prop where
  tab10 : Lib.TabIs Tryz.prog w "internal/strconv.uint64pow10" .u64 Lib.pow10Tab
  max : ∃ m, w.cell? ⟨0, 0, none⟩ = some (.int .i64 m)
  synt : ∃ te pe, w.cell? ⟨1, 0, none⟩ = some (.iface te pe)
  rng : ∃ te pe, w.cell? ⟨2, 0, none⟩ = some (.iface te pe)
  big : 8 ≤ w.heap.size

theorem tabBelow {w w1 : World} (h : Below w.heap.size w w1) (hs : 8 ≤ w.heap.size) (ht : Lib.TabIs Tryz.prog w "internal/strconv.uint64pow10" .u64 Lib.pow10Tab) : Lib.TabIs Tryz.prog w1 "internal/strconv.uint64pow10" .u64 Lib.pow10Tab := by
  have hg : Tryz.prog.globalNamed "internal/strconv.uint64pow10" = some 3 := by kernel_rfl
  unfold Lib.TabIs at ht ⊢
  exact var?_below h hg (by omega) ht

theorem Glob.below {w w1 : World} (g : Glob w) (h : Below w.heap.size w w1) : Glob w1 :=
  ⟨tabBelow h g.big g.tab10, g.max.imp fun _ hm => cellBelow h hm, let ⟨a, b, hc⟩ := g.synt; ⟨a, b, cellBelow h hc⟩, let ⟨a, b, hc⟩ := g.rng; ⟨a, b, cellBelow h hc⟩, Nat.le_trans g.big h.size⟩

open Go.Proofs.YtiggnmhoececfaaGreatDoorW.PrintWords

theorem below_step {w w1 w2 : World} (h : Below w.heap.size w w1) (k : Below w1.heap.size w1 w2) : Below w.heap.size w w2 := h.trans (k.mono h.size)

theorem below_or_bytes {w W W2 : World} {e : TypeId} {s : ByteArray} (h : Below w.heap.size w W) (k : W2 = W ∨ W2 = Lib.bytesWorld W e s) : Below w.heap.size w W2 := by
  rcases k with rfl | rfl
  · exact h
  · exact bytes_below h h.size _ _

/-- Texts in a row of memory. -/
def strs (l : List Bytes) : List Value := l.map fun x => Value.string ⟨x.toArray⟩
theorem strs_length (l : List Bytes) : (strs l).length = l.length := by simp [strs]

/-- A slice of texts that is read: its cells hold them. -/
def ReadsStrs (w : World) (A : Option Addr) (xs : List Bytes) : Prop := xs ≠ [] → ∃ b o, A = some ⟨b, o, none⟩ ∧ b < w.heap.size ∧ ∀ j x, xs[j]? = some x → w.cell? ⟨b, o + j, none⟩ = some (.string ⟨x.toArray⟩)

theorem ReadsStrs.below {w w1 : World} {A : Option Addr} {xs : List Bytes} (h : ReadsStrs w A xs) (hb : Below w.heap.size w w1) : ReadsStrs w1 A xs := fun h0 =>
  let ⟨b, o, e, hlt, hc⟩ := h h0; ⟨b, o, e, Nat.lt_of_lt_of_le hlt hb.size, fun j x hx => cellBelow hb (hc j x hx)⟩

theorem own_strs {w : World} {base : Nat} {e : TypeId} {v : Value} {n : Nat} {xs : List Bytes} (h : w.ownsRow base e 1 v n (strs xs)) :
    ∃ A c, v = .slice A n c ∧ n = xs.length ∧ n ≤ c ∧ ReadsStrs w A xs := by
  have hn : n = xs.length := by have := h.1; rw [strs_length] at this; omega
  have hlt := h.lt
  have hcl := fun g hg => h.cells (g := g) hg
  obtain ⟨hl, ⟨rfl, h0⟩ | ⟨g, cap, cur, rfl, hb, hh, hc, hm, hs, hx⟩⟩ := h
  · exact ⟨none, 0, by rw [h0], hn, by omega, fun hne => absurd (List.length_eq_zero_iff.1 (by omega)) hne⟩
  · refine ⟨_, cap, rfl, hn, hc, fun _ => ⟨g, 0, rfl, (hlt g rfl).2, fun j x hj => ?_⟩⟩
    have := hcl g rfl j (.string ⟨x.toArray⟩) (by simp [strs, hj])
    rw [Lib.add_plain] at this
    exact this

/-- strings.Join -/
theorem join_any (A : Option Addr) (c : Nat) (xs : List Bytes) (sep : Bytes) (w : World) (hr : ReadsStrs w A xs) (hc : xs.length ≤ c) (hN : xs.length ≤ 140737488355328) (hlen : (Lib.join xs sep).length ≤ 140737488355328) :
    Calls Tryz.prog 76 #[.slice A xs.length c, .string ⟨sep.toArray⟩] w fun e w' => e = .returned (.string ⟨(Lib.join xs sep).toArray⟩) ∧ Below w.heap.size w w' := by
  by_cases h0 : xs = []
  · subst h0
    exact (Tryz.strings_Join_none A c ⟨sep.toArray⟩ w).mono fun e w' ⟨he, hw⟩ => by rw [hw]; exact ⟨by rw [he]; rfl, Below.refl _ _⟩
  · obtain ⟨b, o, rfl, hlt, hcell⟩ := hr h0
    have e1 : (xs.map fun x => (⟨x.toArray⟩ : ByteArray)).map (fun s => s.data.toList) = xs := by
      rw [List.map_map]
      conv => rhs; rw [← List.map_id xs]
      apply List.map_congr_left
      intro x _
      rfl
    have := Tryz.strings_Join b o c (xs.map fun x => ⟨x.toArray⟩) ⟨sep.toArray⟩ w (fun j x hj => by
      rw [List.getElem?_map, Option.map_eq_some_iff] at hj
      obtain ⟨y, hy, rfl⟩ := hj
      exact hcell j y hy) hlt (by rw [List.length_map]; exact hN) (by rw [List.length_map]; exact hc) (by rw [e1]; exact hlen)
    rw [e1, List.length_map] at this
    exact this

/-- The cells of block b, from its first on. -/
def CellsAt (w : World) (b : Nat) (l : List Value) : Prop := b < w.heap.size ∧ ∀ j u, l[j]? = some u → w.cell? ⟨b, j, none⟩ = some u
theorem CellsAt.get {w : World} {b : Nat} {l : List Value} (h : CellsAt w b l) {j : Nat} {u : Value} (hj : l[j]? = some u) : w.cell? ⟨b, j, none⟩ = some u := h.2 j u hj
theorem CellsAt.below {w w1 : World} {b : Nat} {l : List Value} (h : CellsAt w b l) (hb : Below w.heap.size w w1) : CellsAt w1 b l := ⟨Nat.lt_of_lt_of_le h.1 hb.size, fun j u hj => cellBelow hb (h.2 j u hj)⟩
theorem CellsAt.setCell {w : World} {b : Nat} {l : List Value} (h : CellsAt w b l) {p : Addr} (hp : p.block ≠ b) (v : Value) : CellsAt (w.setCell p v) b l :=
  ⟨by simpa [World.setCell] using h.1, fun j u hj => by rw [World.cell?_setCell_other _ _ _ _ (by intro e; subst e; exact hp rfl)]; exact h.2 j u hj⟩
theorem CellsAt.new (w : World) (l : List Value) (T : TypeId) : CellsAt (w.alloc (.cells l.toArray T)) w.heap.size l :=
  ⟨by simp, fun j u hj => by rw [World.cell?_alloc_new]; simpa using hj⟩

theorem CellsAt.new' {w : World} {l : List Value} {T : TypeId} {n : Nat} (h : n = w.heap.size) : CellsAt (w.alloc (.cells l.toArray T)) n l := by subst h; exact CellsAt.new _ _ _

theorem ReadsStrs.of_cells {w : World} {b : Nat} {xs : List Bytes} (h : CellsAt w b (strs xs)) : ReadsStrs w (some ⟨b, 0, none⟩) xs := fun _ => ⟨b, 0, rfl, h.1, fun j x hj => by rw [Nat.zero_add]; exact h.get (by simp [strs, hj])⟩

/-- strings.Split, at one byte -/
theorem split_any (s : ByteArray) (c : UInt8) (w : World) (hs : s.size < 4294967281) (hG : Glob w) :
    Calls Tryz.prog 70 #[.string s, .string ⟨#[c]⟩] w fun e w' => e = .returned (.slice (some ⟨w.heap.size, 0, none⟩) (split1 c s.data.toList).length (split1 c s.data.toList).length) ∧ w' = w.alloc (.cells (strs (split1 c s.data.toList)).toArray 9) := by
  obtain ⟨m, hm⟩ := hG.max
  refine (Tryz.strings_Split s ⟨#[c]⟩ m w hs hm (Nat.le_refl 1)).mono ?_
  rintro e w' ⟨rfl, rfl⟩
  have e1 := splitB_one c _ s rfl
  have e2 : (split1 c s.data.toList).length = Lib.countB s ⟨#[c]⟩ + 1 := by
    rw [← e1, List.length_map, Lib.splitB_all ⟨#[c]⟩ (Nat.le_refl 1) 0 _ s rfl]
  refine ⟨by rw [e2], ?_⟩
  rw [← e1, strs, List.map_map]
  rfl

/-- New blocks, one behind the other. -/
def allocs (w : World) (os : List Obj) : World := os.foldl World.alloc w
theorem allocs_size (w : World) (os : List Obj) : (allocs w os).heap.size = w.heap.size + os.length := by
  induction os generalizing w with
  | nil => rfl
  | cons o os ih => show (allocs (w.alloc o) os).heap.size = _; rw [ih]; simp; omega
theorem allocs_below (w : World) (os : List Obj) : Below w.heap.size w (allocs w os) := by
  induction os generalizing w with
  | nil => exact Below.refl _ _
  | cons o os ih => exact below_step (below_alloc (Below.refl _ _) o) (ih _)
theorem allocs_get (w : World) (os : List Obj) (i : Nat) (o : Obj) (h : os[i]? = some o) : (allocs w os).heap[w.heap.size + i]? = some o := by
  induction os generalizing w i with
  | nil => simp at h
  | cons o' os ih =>
    cases i with
    | zero =>
      simp at h
      subst h
      exact ((allocs_below (w.alloc o') os).block w.heap.size (by simp)).trans (blk_new w o')
    | succ i =>
      have := ih (w.alloc o') i (by simpa using h)
      rw [World.size_alloc] at this
      show (allocs (w.alloc o') os).heap[w.heap.size + (i + 1)]? = _
      rw [show w.heap.size + (i + 1) = w.heap.size + 1 + i by omega]
      exact this

theorem blk3 {w : World} {b : Nat} {x y z : Value} {T : TypeId} (h : w.heap[b]? = some (.cells #[x, y, z] T (0, 0))) :
    w.cell? ⟨b, 0, none⟩ = some x ∧ w.cell? ⟨b, 1, none⟩ = some y ∧ w.cell? ⟨b, 2, none⟩ = some z ∧ w.frozen? ⟨b, 0, none⟩ = false ∧ w.frozen? ⟨b, 1, none⟩ = false ∧ w.frozen? ⟨b, 2, none⟩ = false :=
  ⟨blk_cell h 0, blk_cell h 1, blk_cell h 2, blk_frozen h 0, blk_frozen h 1, blk_frozen h 2⟩

end Go.Proofs.YtiggnmhoececfaaGreatDoor

namespace Go.Proofs.YtiggnmhoececfaaGreatDoor
set_option linter.unusedVariables false
set_option linter.unusedSimpArgs false
open Go.ChangeShapes Go.WideShapes Go.ChangeAt Go.RowKit
open Go.ChangeMaps (open_string shut_string)

theorem own : ownKnob Tryz.prog.godebug = none := by kernel_rfl
theorem laidOut : laidOutB Tryz.prog = true := by kernel_rfl

def laidL : List (String × DataW Unit) := Rows.rangesCheckRow.laid

def litsOf : DataW Unit → Array Value
  | .agg ds => (ds.map fun
    | .lit (.int k n) => Value.int k n
    | _ => .nilIface).toArray
  | _ => #[]

/-- The door's own heap, and Go's own table of first bytes. -/
noncomputable def rowWorld (os : Os) : World :=
  { World.doorLaid Tryz.prog 72 os with heap := (World.doorLaid Tryz.prog 72 os).heap.modify 4 fun
      | .cells _ t frozen => .cells (litsOf Go.Pinned.utf8First) t frozen
      | o => o }

set_option maxRecDepth 100000 in
theorem row_met (os : Os) (args : Array Value) : laidMetH Tryz.prog laidL ((rowWorld os).forCall (fun _ _ => 0) ⟨#[], args, []⟩).memory :=
  laidMetH_of_parts3 (fuel := 8) (laidMet_of_run' 8 (by kernel_rfl) (by kernel_rfl)) (by kernel_rfl) (by kernel_rfl)

theorem reads_of {W : World} (h : laidMetH Tryz.prog laidL W) {n : String} {d : DataW Unit} (hm : (n, d) ∈ laidL) : Lib.VarReads Tryz.prog W n d := by
  rw [MakeChecks.laidMetH_plain _ _ _ (by kernel_rfl)] at h
  exact Lib.laidMet.reads h hm

theorem sent_of {W : World} {n : String} {name : String} {d : DataW Unit} {g : Nat} (hg : Tryz.prog.globalNamed n = some g) (ht : (Tryz.prog.globals[g]?).map (·.type) = some 116)
    (h : Lib.VarReads Tryz.prog W n (.iface name d)) : ∃ te pe, W.cell? ⟨g, 0, none⟩ = some (.iface te pe) := by
  obtain ⟨g', t, cs, fuel, p, hg', ht', hv, hd⟩ := h
  obtain rfl := Option.some.inj (hg.symm.trans hg')
  obtain rfl := Option.some.inj (ht.symm.trans ht')
  obtain ⟨_, u, v, hcs, _, _⟩ := iface_of_trod Tryz.underlying116 hd
  have h0 := World.var?_cell hg hv 0
  rw [Array.eq_one_of_toList hcs] at h0
  exact ⟨u, v, by simpa using h0⟩

theorem glob_of {W : World} (h : laidMetH Tryz.prog laidL W) (hs : W.ShapedOpen Tryz.prog) : Glob W := by
  refine ⟨?_, ?_, ?_, ?_, ?_⟩
  · obtain ⟨g', t, cs, fuel, p, hg', ht', hv, hd⟩ := reads_of h (n := "internal/strconv.uint64pow10") (d := Rows.laid_internal_strconv_uint64pow10) (by unfold laidL Rows.rangesCheckRow; simp)
    rw [show (Rows.laid_internal_strconv_uint64pow10 : DataW Unit) = Lib.tabData .u64 Lib.pow10Tab by rfl] at hd
    obtain rfl := Option.some.inj ((show Tryz.prog.globalNamed "internal/strconv.uint64pow10" = some 3 by kernel_rfl).symm.trans hg')
    obtain rfl := Option.some.inj ((show (Tryz.prog.globals[3]?).map (·.type) = some 167 by kernel_rfl).symm.trans ht')
    unfold Lib.TabIs
    rw [hv, ← Lib.cells_of_tab Tryz.underlying167 Tryz.underlying83 (by kernel_rfl) (by kernel_rfl) hd]
  · exact cell_of_shapedOpen_int (zero := #[.int .i64 0]) (t := 3) hs (of_decide_eq_true (by kernel_rfl)) (by kernel_rfl) rfl (by kernel_rfl) (by kernel_rfl) Tryz.underlying3
  · exact sent_of (by kernel_rfl) (by kernel_rfl) (reads_of h (n := "strconv.ErrSyntax") (d := Rows.laid_strconv_ErrSyntax) (by unfold laidL Rows.rangesCheckRow; simp))
  · exact sent_of (by kernel_rfl) (by kernel_rfl) (reads_of h (n := "strconv.ErrRange") (d := Rows.laid_strconv_ErrRange) (by unfold laidL Rows.rangesCheckRow; simp))
  · obtain ⟨o, _, hh, _⟩ := hs.2 Tryz.prog.globals.size (Nat.le_refl _) (of_decide_eq_true (by kernel_rfl))
    have h8 : 7 ≤ Tryz.prog.globals.size := of_decide_eq_true (by kernel_rfl)
    have := (Array.getElem?_eq_some_iff.1 hh).1
    omega

end Go.Proofs.YtiggnmhoececfaaGreatDoor

namespace Go.Proofs.YtiggnmhoececfaaGreatDoor
set_option linter.unusedVariables false
set_option linter.unusedSimpArgs false
open Go.ChangeShapes Go.WideShapes Go.ChangeAt Go.RowKit

theorem list6 {α : Type} {l : List α} (h : l.length = 6) : ∃ a b c d e f, l = [a, b, c, d, e, f] := by
  match l, h with
  | [a, b, c, d, e, f], _ => exact ⟨a, b, c, d, e, f, rfl⟩

set_option maxRecDepth 100000 in
/-- A range is five texts and a number. -/
theorem open_range {H : Type} {enc : TypeId × Value → H} {W : World} {base : Nat} {sp : Nat → Bool} {held : Bool} {v : Value} {d : DataW H} {p : List MemPlace}
    (hv : Value.okWide Tryz.prog W .any base 23 v) (h : DataW.Trod enc Tryz.prog W 0 sp held 23 v d p) :
    ∃ (f t n lo hi : ByteArray) (m : Int), v = .agg #[.string f, .string t, .string n, .string lo, .string hi, .int .i64 m] := by
  obtain ⟨cs, rfl, hsz⟩ := okWide_struct Tryz.underlying23 hv
  have c6 : Tryz.prog.cellsOf 23 = 6 := by kernel_rfl
  have cS : Tryz.prog.cellsOf 9 = 1 := by kernel_rfl
  have cI : Tryz.prog.cellsOf 3 = 1 := by kernel_rfl
  rw [c6] at hsz
  obtain ⟨x0, x1, x2, x3, x4, x5, rfl⟩ : ∃ x0 x1 x2 x3 x4 x5, cs = #[x0, x1, x2, x3, x4, x5] := by
    obtain ⟨l⟩ := cs
    obtain ⟨x0, x1, x2, x3, x4, x5, rfl⟩ := list6 (show l.length = 6 from hsz)
    exact ⟨x0, x1, x2, x3, x4, x5, rfl⟩
  obtain ⟨fuel, hf⟩ := h
  obtain ⟨xs, k, _, _, _, hn, hel⟩ := DataW.trod_struct Tryz.underlying23 hf
  obtain ⟨y0, y1, y2, y3, y4, y5, rfl⟩ := list6 (show xs.length = 6 from hn)
  have g0 : DataW.trod enc Tryz.prog W 0 sp held k 9 (([x0, x1, x2, x3, x4, x5].drop 0).take (Tryz.prog.cellsOf 9)) = some y0 := hel 0 _ rfl
  have g1 : DataW.trod enc Tryz.prog W 0 sp held k 9 (([x0, x1, x2, x3, x4, x5].drop 1).take (Tryz.prog.cellsOf 9)) = some y1 := hel 1 _ rfl
  have g2 : DataW.trod enc Tryz.prog W 0 sp held k 9 (([x0, x1, x2, x3, x4, x5].drop 2).take (Tryz.prog.cellsOf 9)) = some y2 := hel 2 _ rfl
  have g3 : DataW.trod enc Tryz.prog W 0 sp held k 9 (([x0, x1, x2, x3, x4, x5].drop 3).take (Tryz.prog.cellsOf 9)) = some y3 := hel 3 _ rfl
  have g4 : DataW.trod enc Tryz.prog W 0 sp held k 9 (([x0, x1, x2, x3, x4, x5].drop 4).take (Tryz.prog.cellsOf 9)) = some y4 := hel 4 _ rfl
  have g5 : DataW.trod enc Tryz.prog W 0 sp held k 3 (([x0, x1, x2, x3, x4, x5].drop 5).take (Tryz.prog.cellsOf 3)) = some y5 := hel 5 _ rfl
  obtain ⟨s0, e0, _⟩ := DataW.trod_string Tryz.underlying9 (show DataW.trod enc Tryz.prog W 0 sp held k 9 [x0] = some y0 by rw [cS] at g0; exact g0)
  obtain ⟨s1, e1, _⟩ := DataW.trod_string Tryz.underlying9 (show DataW.trod enc Tryz.prog W 0 sp held k 9 [x1] = some y1 by rw [cS] at g1; exact g1)
  obtain ⟨s2, e2, _⟩ := DataW.trod_string Tryz.underlying9 (show DataW.trod enc Tryz.prog W 0 sp held k 9 [x2] = some y2 by rw [cS] at g2; exact g2)
  obtain ⟨s3, e3, _⟩ := DataW.trod_string Tryz.underlying9 (show DataW.trod enc Tryz.prog W 0 sp held k 9 [x3] = some y3 by rw [cS] at g3; exact g3)
  obtain ⟨s4, e4, _⟩ := DataW.trod_string Tryz.underlying9 (show DataW.trod enc Tryz.prog W 0 sp held k 9 [x4] = some y4 by rw [cS] at g4; exact g4)
  obtain ⟨m, e5, _⟩ := DataW.trod_int Tryz.underlying3 (show DataW.trod enc Tryz.prog W 0 sp held k 3 [x5] = some y5 by rw [cI] at g5; exact g5)
  simp only [List.cons.injEq, and_true] at e0 e1 e2 e3 e4 e5
  subst e0 e1 e2 e3 e4 e5
  exact ⟨s0, s1, s2, s3, s4, m, rfl⟩

end Go.Proofs.YtiggnmhoececfaaGreatDoor

namespace Go.Proofs.YtiggnmhoececfaaGreatDoor
set_option linter.unusedVariables false
set_option linter.unusedSimpArgs false
open Go.RowKit

theorem run_copy_rowN {P : Program} (w : World) (dT sT ty elem : TypeId) (size g o dLen dCap : Nat) (a : Addr) (sLen sCap : Nat) (cur : Array Value) (t : TypeId) (cs : List Value)
    (hu : P.underlying dT = some (.slice elem)) (hs : (P.info? elem).map (·.size) = some size)
    (hg : w.heap[g]? = some (.cells cur t (0, 0))) (hn : cs.length = Nat.min sLen dLen * size)
    (hsrc : ∀ j v, cs[j]? = some v → w.cell? (a.add j) = some v) (hfit : o + cs.length ≤ cur.size) (h1 : ∀ v ∈ cs, v.oneCell' = true) :
    (Builtin.copy_ #[dT, sT] ty #[.slice (some ⟨g, o, none⟩) dLen dCap, .slice (some a) sLen sCap]).run P w =
      .ok (goInt (Nat.min sLen dLen)) (w.setRow g (splice cur.toList o cs).toArray) := by
  have hl := run_loadCells_list (P := P) w a cs hsrc
  have hst := run_storeCells_at P g o t cs 0 cur w hg (by simpa using hfit) h1
  unfold splice
  cases hq : P.info? elem with
  | none => simp [hq] at hs
  | some i =>
    have hi : i.size = size := by simpa [hq] using hs
    simp [Builtin.copy_, run_underlying hu, Builtin.lenOf, Builtin.firstCells, sizeOf, typeInfo, hq, hi, ← hn, hl, hst]

theorem grownBy_setRow (w : World) (g : Nat) (cs : Array Value) : w.grownBy (w.setRow g cs) (some g) :=
  ⟨rfl, rfl, rfl, by simp [World.setRow], fun k _ hk => setRow_other w g k cs (fun e => hk (by rw [e]))⟩
theorem grownBy_trans {a b c : World} {r : Option Nat} (h : a.grownBy b r) (k : b.grownBy c r) : a.grownBy c r :=
  ⟨k.os.trans h.os, k.tape.trans h.tape, k.output.trans h.output, Nat.le_trans h.size k.size, fun j hj hr => (k.block j (Nat.lt_of_lt_of_le hj h.size) hr).trans (h.block j hj hr)⟩
theorem grownBy_drew (a : World) (r : Option Nat) : a.grownBy a.drew r := ⟨rfl, rfl, rfl, Nat.le_refl _, fun _ _ _ => rfl⟩

/-- A row that the call made may be put in another's place. -/
theorem grownBy_fresh {a b c : World} {r : Option Nat} {g : Nat} (h : a.grownBy b r) (hg : a.heap.size ≤ g) (k : b.grownBy c (some g)) : a.grownBy c r :=
  ⟨k.os.trans h.os, k.tape.trans h.tape, k.output.trans h.output, Nat.le_trans h.size k.size, fun j hj hr => (k.block j (Nat.lt_of_lt_of_le hj h.size) (fun e => by cases e; omega)).trans (h.block j hj hr)⟩

theorem splice_len {α : Type} (L : List α) (o : Nat) (cs : List α) (h : o + cs.length ≤ L.length) : (splice L o cs).length = L.length := length_splice L o cs h

theorem splice_at {α : Type} (L : List α) (o : Nat) (cs : List α) (j : Nat) (h : o + cs.length ≤ L.length) :
    (splice L o cs)[j]? = if j < o then L[j]? else if j < o + cs.length then cs[j - o]? else L[j]? := by
  unfold splice
  have hto : (L.take o).length = o := by rw [List.length_take]; omega
  by_cases a : j < o
  · rw [if_pos a, List.getElem?_append_left (by omega), List.getElem?_take_of_lt a]
  · rw [if_neg a, List.getElem?_append_right (by omega), hto]
    by_cases b : j < o + cs.length
    · rw [if_pos b, List.getElem?_append_left (by omega)]
    · rw [if_neg b, List.getElem?_append_right (by omega), List.getElem?_drop]
      congr 1
      omega

/-- What Insert leaves, told by places. -/
theorem ins_list {α : Type} (L : List α) (o k m : Nat) (mid vs : List α) (hm : vs.length = k) (hmid : mid = (L.take m).drop o) (hom : o ≤ m) (hfit : m + k ≤ L.length) :
    (splice (splice L (o + k) mid) o vs).take (m + k) = (L.take m).take o ++ vs ++ (L.take m).drop o := by
  have hml : mid.length = m - o := by rw [hmid, List.length_drop, List.length_take]; omega
  apply List.ext_getElem?
  intro j
  have h1 : o + k + mid.length ≤ L.length := by omega
  have h2 : o + vs.length ≤ (splice L (o + k) mid).length := by rw [splice_len _ _ _ h1]; omega
  rw [List.getElem?_take]
  have hto : ((L.take m).take o).length = o := by rw [List.length_take, List.length_take]; omega
  by_cases hj : j < m + k
  · rw [if_pos hj, splice_at _ _ _ _ h2, splice_at _ _ _ _ h1, List.append_assoc]
    by_cases a : j < o
    · rw [if_pos a, if_pos (by omega), List.getElem?_append_left (by omega), List.getElem?_take_of_lt a, List.getElem?_take_of_lt (by omega)]
    · rw [if_neg a, List.getElem?_append_right (by omega), hto]
      by_cases b : j < o + vs.length
      · rw [if_pos b, List.getElem?_append_left (by omega)]
      · rw [if_neg b, if_neg (by omega), if_pos (by omega), List.getElem?_append_right (by omega), hmid]
        congr 1
        omega
  · rw [if_neg hj, List.getElem?_eq_none (by simp only [List.length_append, List.length_drop, List.length_take]; omega)]

theorem ins_list2 {α : Type} (L A vs mid : List α) (o : Nat) (hA : L.take o = A) (ho : o ≤ L.length) (hfit : o + vs.length + mid.length ≤ L.length) :
    (splice (splice L o vs) (o + vs.length) mid).take (o + vs.length + mid.length) = A ++ vs ++ mid := by
  have hAl : A.length = o := by rw [← hA, List.length_take]; omega
  have h1 : o + vs.length ≤ L.length := by omega
  have h2 : o + vs.length + mid.length ≤ (splice L o vs).length := by rw [splice_len _ _ _ h1]; omega
  apply List.ext_getElem?
  intro j
  rw [List.getElem?_take]
  by_cases hj : j < o + vs.length + mid.length
  · rw [if_pos hj, splice_at _ _ _ _ h2, splice_at _ _ _ _ h1]
    by_cases a : j < o
    · rw [if_pos (by omega), if_pos a, List.append_assoc, List.getElem?_append_left (by omega), ← hA, List.getElem?_take_of_lt a]
    · by_cases b : j < o + vs.length
      · rw [if_pos b, if_neg a, if_pos b, List.append_assoc, List.getElem?_append_right (by omega), List.getElem?_append_left (by omega), hAl]
      · rw [if_neg b, if_pos hj, List.getElem?_append_right (by rw [List.length_append]; omega), List.length_append, hAl]
  · rw [if_neg hj, List.getElem?_eq_none (by simp only [List.length_append]; omega)]

open Go.Proofs.YtiggnmhoececfaaGreatDoorW.PrintWords in
theorem blkc {w : World} {g : Nat} {t : TypeId} {cs : Array Value} {v : Value} (h : w.heap[g]? = some (.cells cs t (0, 0))) (j : Nat) (hj : cs[j]? = some v) : w.cell? ⟨g, j, none⟩ = some v := (blk_cell h j).trans hj

end Go.Proofs.YtiggnmhoececfaaGreatDoor

namespace Go.Proofs.YtiggnmhoececfaaGreatDoor
set_option linter.unusedVariables false
set_option linter.unusedSimpArgs false
open Go.RowKit Go.Lib

theorem info_range : (Tryz.prog.info? 23).map (fun i => (i.zero, i.size, i.bytes)) = some (some (.agg #[.string ⟨#[]⟩, .string ⟨#[]⟩, .string ⟨#[]⟩, .string ⟨#[]⟩, .string ⟨#[]⟩, .int .i64 0]), 6, 88) := by kernel_rfl
theorem size_range : (Tryz.prog.info? 23).map (·.size) = some 6 := by kernel_rfl
theorem sizeOf_range : ∀ w, (Go.sizeOf 23).run Tryz.prog w = .ok 6 w := fun w => by kernel_rfl

theorem nmin_r {a b : Nat} (h : b ≤ a) : Nat.min a b = b := Nat.min_eq_right h
theorem nmin_l {a b : Nat} (h : a ≤ b) : Nat.min a b = a := Nat.min_eq_left h

def InsPost (base : Nat) (v : Value) (n : Nat) (ys : List Value) (w : World) (e : Ending) (w' : World) : Prop :=
  ∃ v', e = .returned v' ∧ w'.ownsRow base 23 6 v' (n + 1) ys ∧ w.grownBy w' v.ownBlock ∧ v' ≠ .slice none 0 0

set_option maxHeartbeats 4000000 in
set_option maxRecDepth 100000 in
theorem ins_end {base : Nat} (v : Value) (n : Nat) (xs vs : List Value) (vb : Nat) (w : World) (hown : w.ownsRow base 23 6 v n xs) (hn : n ≤ 1000)
    (hvl : vs.length = 6) (hv : ∀ j u, vs[j]? = some u → w.cell? ⟨vb, j, none⟩ = some u) (h1v : ∀ u ∈ vs, u.oneCell' = true) (hb : base ≤ w.heap.size) :
    Calls Tryz.prog 43 #[v, .int .i64 n, .slice (some ⟨vb, 0, none⟩) 1 1] w (InsPost base v n (xs ++ vs) w) := by
  obtain ⟨i0, hi, hz0, hz1, hz2⟩ := info_parts info_range
  have key : ∀ A c, v = .slice A n c → Calls Tryz.prog 43 #[.slice A n c, .int .i64 n, .slice (some ⟨vb, 0, none⟩) 1 1] w (InsPost base v n (xs ++ vs) w) := by
    intro A c hvA
    have HO := Lib.hid hown
    rw [hvA] at HO
    have HV := Lib.hid hv
    have H1 := Lib.hid h1v
    have HVA := Lib.hid hvA
    clear hown hv h1v hvA
    go_enter Tryz.func43, Tryz.ntmps43
    go_wp2_with (at_builtin; refine wpList_append_own _ rfl _ _ 34 rfl base 23 i0 _ 6 88 Tryz.underlying34 hi hz0 hz1 hz2 rfl (by decide) _ _ _ rfl HO.out ⟨vb, 0, none⟩ 1 1 vs rfl hvl (fun j u hj => by rw [Addr.add_lit, Nat.zero_add]; exact HV.out j u hj) H1.out (by unfold maxLen; omega) (by omega) hb ?_)
    all_goals (intro v' w1 hown hgrow hnn; go_wp2; go_ret; exact ⟨v', rfl, hown, by rw [HVA.out]; cases A <;> exact hgrow, hnn⟩)
  obtain ⟨_, ⟨rfl, rfl⟩ | ⟨g, cap, cur, rfl, _⟩⟩ := id hown
  · exact key _ _ rfl
  · exact key _ _ rfl

theorem overlaps_apart (w : World) (vb g i lb cb : Nat) (cur : Array Value) (T : TypeId) (vs : List Value) (Tv : TypeId) (hne : vb ≠ g) (hG : w.heap[g]? = some (.cells cur T (0, 0))) (hc : cur.size ≠ 0) (hV : w.heap[vb]? = some (.cells vs.toArray Tv (0, 0))) :
    (callFunc 57 #[.slice (some ⟨vb, 0, none⟩) 1 1, .slice (some ⟨g, i, none⟩) lb cb]).run Tryz.prog w = .ok (.value (.bool false)) w := by
  rw [run_callFunc_extern Tryz.func57 (by kernel_rfl) (by kernel_rfl) (by kernel_rfl) (e := Extern.SlicesOverlaps.overlaps #[34, 34] #[4]) (by kernel_rfl),
    Lib.run_overlaps_apart w 34 4 23 Tryz.underlying34 6 sizeOf_range ⟨vb, 0, none⟩ ⟨g, i, none⟩ 1 1 lb cb hne Tv T vs.toArray.size cur.size (by simp [World.shape?, hV]) (by simp [World.shape?, hG]) hc (by simp [World.frozen?, hV]) (by simp [World.frozen?, hV])]
  rfl

set_option maxHeartbeats 4000000 in
set_option maxRecDepth 100000 in
theorem ins_shift {base : Nat} (g n i cap : Nat) (cur : Array Value) (vs : List Value) (vb : Nat) (Tv : TypeId) (w : World) (hbg : base ≤ g)
    (hG : w.heap[g]? = some (.cells cur 23 (0, 0))) (hc : cur.size = cap * 6) (hcap : cap ≤ maxLen) (h1c : ∀ u ∈ cur.toList.take (n * 6), u.oneCell' = true) (hi : i < n) (hroom : n < cap) (hn : n ≤ 1000)
    (hvl : vs.length = 6) (hV : w.heap[vb]? = some (.cells vs.toArray Tv (0, 0))) (hvb : vb ≠ g) (h1v : ∀ u ∈ vs, u.oneCell' = true) :
    Calls Tryz.prog 43 #[.slice (some ⟨g, 0, none⟩) n cap, .int .i64 i, .slice (some ⟨vb, 0, none⟩) 1 1] w
      (InsPost base (.slice (some ⟨g, 0, none⟩) n cap) n ((cur.toList.take (n * 6)).take (i * 6) ++ vs ++ (cur.toList.take (n * 6)).drop (i * 6)) w) := by
  unfold maxLen at hcap
  have hz2 : ¬ ((i : Int) = (n : Int)) := by omega
  have hov := fun lb cb => overlaps_apart w vb g ((i + 1) * 6) lb cb cur _ vs Tv hvb hG (by omega) hV
  obtain ⟨mid, hmid⟩ : ∃ mid, mid = (cur.toList.take (n * 6)).drop (i * 6) := ⟨_, rfl⟩
  have hml : mid.length = (n - i) * 6 := by rw [hmid, List.length_drop, List.length_take, Array.length_toList]; omega
  have hmc : ∀ j u, mid[j]? = some u → w.cell? ⟨g, i * 6 + j, none⟩ = some u := fun j u hj => by
    rw [hmid, List.getElem?_drop, List.getElem?_take] at hj
    split at hj
    · rw [cell_of_row w g (i * 6 + j) cur _ (0, 0) hG]; simpa using hj
    · cases hj
  obtain ⟨W1, hW1⟩ : ∃ W1, W1 = w.drew.setRow g (splice cur.toList (i * 6 + 6) mid).toArray := ⟨_, rfl⟩
  have hcp1 : ∀ ty dc sc, (Builtin.copy_ #[34, 34] ty #[.slice (some ⟨g, (i + 1) * 6, none⟩) (n - i) dc, .slice (some ⟨g, i * 6, none⟩) (n + 1 - i) sc]).run Tryz.prog w.drew = .ok (goInt (n - i : Nat)) W1 := fun ty dc sc => by
    rw [hW1, show (i + 1) * 6 = i * 6 + 6 by omega]
    have := run_copy_rowN (P := Tryz.prog) w.drew 34 34 ty _ 6 g (i * 6 + 6) (n - i) dc ⟨g, i * 6, none⟩ (n + 1 - i) sc cur _ mid Tryz.underlying34 size_range hG (by rw [hml, nmin_r (by omega)])
      (fun j u hj => by rw [Addr.add_lit]; exact hmc j u hj) (by rw [hml]; omega) (fun u hu => h1c u (List.mem_of_mem_drop (hmid ▸ hu)))
    rw [show Nat.min (n + 1 - i) (n - i) = n - i by rw [nmin_r (by omega)]] at this
    exact this
  have hG1 : W1.heap[g]? = some (.cells (splice cur.toList (i * 6 + 6) mid).toArray 23 (0, 0)) := by rw [hW1]; exact setRow_heap _ _ _ _ _ _ hG
  have hV1 : W1.heap[vb]? = some (.cells vs.toArray Tv (0, 0)) := by rw [hW1, setRow_other _ _ _ _ hvb]; exact hV
  have hl1 : (splice cur.toList (i * 6 + 6) mid).length = cap * 6 := by rw [splice_len cur.toList (i * 6 + 6) mid (by have := hml; have e : cur.toList.length = cur.size := Array.length_toList; omega), Array.length_toList, hc]
  have hcp2 : ∀ ty dc, (Builtin.copy_ #[34, 34] ty #[.slice (some ⟨g, i * 6, none⟩) (n + 1 - i) dc, .slice (some ⟨vb, 0, none⟩) 1 1]).run Tryz.prog W1 = .ok (goInt (1 : Nat)) (W1.setRow g (splice (splice cur.toList (i * 6 + 6) mid) (i * 6) vs).toArray) := fun ty dc => by
    have := run_copy_rowN (P := Tryz.prog) W1 34 34 ty _ 6 g (i * 6) (n + 1 - i) dc ⟨vb, 0, none⟩ 1 1 _ _ vs Tryz.underlying34 size_range hG1 (by rw [hvl, nmin_l (by omega)])
      (fun j u hj => by rw [Addr.add_lit, Nat.zero_add, cell_of_row W1 vb j _ _ (0, 0) hV1]; simpa using hj) (by simp only [List.size_toArray]; omega) h1v
    rw [show Nat.min 1 (n + 1 - i) = 1 by rw [nmin_l (by omega)]] at this
    exact this
  have hpost : (W1.setRow g (splice (splice cur.toList (i * 6 + 6) mid) (i * 6) vs).toArray).ownsRow base 23 6 (.slice (some ⟨g, 0, none⟩) (n + 1) cap) (n + 1) ((cur.toList.take (n * 6)).take (i * 6) ++ vs ++ (cur.toList.take (n * 6)).drop (i * 6)) := by
    refine ⟨?_, .inr ⟨g, cap, _, rfl, hbg, setRow_heap _ _ _ _ _ _ hG1, by omega, by unfold maxLen; omega, ?_, ?_⟩⟩
    · simp only [List.length_append, List.length_take, List.length_drop, Array.length_toList]; omega
    · rw [List.size_toArray, splice_len _ _ _ (by omega), hl1]
    · rw [show (n + 1) * 6 = n * 6 + 6 by omega]
      exact ins_list cur.toList (i * 6) 6 (n * 6) mid vs hvl hmid (by omega) (by rw [Array.length_toList]; omega)
  have hgr : w.grownBy (W1.setRow g (splice (splice cur.toList (i * 6 + 6) mid) (i * 6) vs).toArray) (some g) := by
    rw [hW1]
    exact grownBy_trans (grownBy_drew w _) (grownBy_trans (grownBy_setRow _ _ _) (grownBy_setRow _ _ _))
  have HP := Lib.hid hpost
  have HR := Lib.hid hgr
  have HW1 := Lib.hid hW1
  have hw1 : IntKind.i64.wrap ((i : Int) + 1) = (i : Int) + 1 := by rw [IntKind.wrap_i64]; omega
  have hb1 : (0 : Int) ≤ (i : Int) + 1 := by omega
  have hin : i ≤ n := by omega
  have htn : ((i : Int) + 1).toNat = i + 1 := by omega
  have hb2 : ¬ (cap = i + 1) := by omega
  have hb3 : (i : Int) ≤ (n : Int) + 1 := by omega
  have hb4 : ¬ (cap = i) := by omega
  clear hpost hgr hW1 hl1 hG1 hV1 hmc hml hmid h1c h1v hvl hV hG hc
  go_enter Tryz.func43, Tryz.ntmps43
  go_wp2_with (simp only [hov])
  go_region_law (refine step_copy_runI rfl _ _ 34 34 rfl (.slice (some ⟨g, (i + 1) * 6, none⟩) (n - i) (cap - (i + 1))) (.slice (some ⟨g, i * 6, none⟩) (n + 1 - i) (cap - i)) (by simp [Act.eval, Act.put]) (by simp [Act.eval, Act.put]) (hcp1 3 (cap - (i + 1)) (cap - i)) ?_)
  go_wp2_with (at_builtin; refine wpList_copy_runI _ rfl _ _ 34 34 rfl _ _ rfl rfl (hcp2 _ _) ?_)
  go_ret
  exact ⟨_, rfl, HP.out, HR.out, by simp⟩

set_option maxHeartbeats 4000000 in
set_option maxRecDepth 100000 in
theorem ins_grow {base : Nat} (g n i cap : Nat) (xs vs : List Value) (vb : Nat) (Tv : TypeId) (w : World) (hb : base ≤ w.heap.size) (hxl : xs.length = n * 6)
    (hx : ∀ j u, xs[j]? = some u → w.cell? ⟨g, j, none⟩ = some u) (h1x : ∀ u ∈ xs, u.oneCell' = true) (hg : g < w.heap.size) (hi : i < n) (hnc : n ≤ cap) (hroom : cap < n + 1) (hn : n ≤ 1000)
    (hvl : vs.length = 6) (hV : w.heap[vb]? = some (.cells vs.toArray Tv (0, 0))) (h1v : ∀ u ∈ vs, u.oneCell' = true) :
    Calls Tryz.prog 43 #[.slice (some ⟨g, 0, none⟩) n cap, .int .i64 i, .slice (some ⟨vb, 0, none⟩) 1 1] w
      (InsPost base (.slice (some ⟨g, 0, none⟩) n cap) n (xs.take (i * 6) ++ vs ++ xs.drop (i * 6)) w) := by
  obtain ⟨i0, hi0, hz0, hz1, hz2⟩ := info_parts info_range
  obtain ⟨z, hz⟩ : ∃ z, z = Value.agg #[.string ⟨#[]⟩, .string ⟨#[]⟩, .string ⟨#[]⟩, .string ⟨#[]⟩, .string ⟨#[]⟩, .int .i64 0] := ⟨_, rfl⟩
  have hzc : z.cells.size = 6 := by rw [hz]; rfl
  rw [← hz] at hz0
  have hvw : vb < w.heap.size := (Array.getElem?_eq_some_iff.1 hV).1
  have hold : (Builtin.firstCells i0.size i (.slice (some ⟨g, 0, none⟩) i cap)).run Tryz.prog w.drew = .ok (xs.take (i * 6)).toArray w.drew := by
    rw [hz1]
    exact run_firstCells_some w.drew 6 i ⟨g, 0, none⟩ i cap (xs.take (i * 6)) (by rw [List.length_take]; omega) (fun j v hj => by
      rw [Addr.add_lit, Nat.zero_add]
      rw [List.getElem?_take] at hj
      split at hj
      · exact hx j v hj
      · cases hj)
  obtain ⟨G, hG⟩ : ∃ G, G = grownCap w (n + 1) cap 23 := ⟨_, rfl⟩
  obtain ⟨ROW, hROW⟩ : ∃ ROW : Array Value, ROW = (xs.take (i * 6)).toArray ++ Builtin.zeroCells z.cells (n + 1 - i) ++ Builtin.zeroCells z.cells (G - (n + 1)) := ⟨_, rfl⟩
  have hrz : ∀ ty, (Builtin.append_ #[34, 3] ty #[.slice (some ⟨g, 0, none⟩) i cap, .int .i64 ((n : Int) + 1 - (i : Int))]).run Tryz.prog w =
      .ok (.slice (some ⟨w.heap.size, 0, none⟩) (n + 1) G) (w.drew.alloc (.cells ROW 23)) := fun ty => by
    have h := Lib.run_append_grow_zeros w 34 3 ty 23 i0 _ .i64 .i64 Tryz.underlying34 Tryz.underlying3 hi0 hz0 (some ⟨g, 0, none⟩) i cap (xs.take (i * 6)) hold (n + 1 - i) (by omega) (by omega) (by omega) (by omega) (by rw [hz2]; omega)
      (by rw [hz2, show i + (n + 1 - i) = n + 1 by omega]; exact growslice_fits hroom (by omega))
    rw [show i + (n + 1 - i) = n + 1 by omega, ← hG, ← hROW] at h
    rw [show (n : Int) + 1 - (i : Int) = ((n + 1 - i : Nat) : Int) by omega]
    exact h
  have hGn : n + 1 ≤ G := by rw [hG]; exact grownCap_ge w _ _ _
  have hG63 : G ≤ 9223372036854775807 := by
    have := grownCap_le_maxLen w (n + 1) cap 23 (by unfold maxLen; omega)
    rw [← hG] at this
    unfold maxLen at this
    omega
  have hxt : (xs.take (i * 6)).length = i * 6 := by rw [List.length_take]; omega
  have hRs : ROW.size = G * 6 := by
    rw [hROW]
    simp only [Array.size_append, size_zeroCells, hzc, List.size_toArray, hxt]
    omega
  have hRt : ROW.toList.take (i * 6) = xs.take (i * 6) := by
    rw [hROW]
    simp only [Array.toList_append, List.append_assoc]
    rw [List.take_append_of_le_length (by omega), List.take_of_length_le (by omega)]
  obtain ⟨W1, hW1⟩ : ∃ W1, W1 = w.drew.alloc (.cells ROW 23) := ⟨_, rfl⟩
  rw [← hW1] at hrz
  have hG1 : W1.heap[w.heap.size]? = some (.cells ROW 23 (0, 0)) := by rw [hW1]; exact heap_alloc_new w.drew _
  have hgr1 : w.grownBy W1 none := by rw [hW1]; exact grownBy_trans (grownBy_drew w _) (World.grownBy_alloc _ _ _)
  have hV1 : W1.heap[vb]? = some (.cells vs.toArray Tv (0, 0)) := (hgr1.block vb hvw (by simp)).trans hV
  have hxd : (xs.drop (i * 6)).length = (n - i) * 6 := by rw [List.length_drop]; omega
  have hRl : ROW.toList.length = G * 6 := by rw [Array.length_toList, hRs]
  have hl1 : (splice ROW.toList (i * 6) vs).length = G * 6 := by rw [splice_len ROW.toList (i * 6) vs (by omega), hRl]
  obtain ⟨W2, hW2⟩ : ∃ W2, W2 = W1.setRow w.heap.size (splice ROW.toList (i * 6) vs).toArray := ⟨_, rfl⟩
  have hcp1 : ∀ ty dc, (Builtin.copy_ #[34, 34] ty #[.slice (some ⟨w.heap.size, i * 6, none⟩) (n + 1 - i) dc, .slice (some ⟨vb, 0, none⟩) 1 1]).run Tryz.prog W1 = .ok (goInt (1 : Nat)) W2 := fun ty dc => by
    have := run_copy_rowN (P := Tryz.prog) W1 34 34 ty _ 6 w.heap.size (i * 6) (n + 1 - i) dc ⟨vb, 0, none⟩ 1 1 _ _ vs Tryz.underlying34 size_range hG1 (by rw [hvl, nmin_l (by omega)])
      (fun j u hj => by rw [Addr.add_lit, Nat.zero_add, cell_of_row W1 vb j _ _ (0, 0) hV1]; simpa using hj) (by omega) h1v
    rw [nmin_l (by omega)] at this
    rw [hW2]
    exact this
  have hG2 : W2.heap[w.heap.size]? = some (.cells (splice ROW.toList (i * 6) vs).toArray 23 (0, 0)) := by rw [hW2]; exact setRow_heap _ _ _ _ _ _ hG1
  have hx2 : ∀ j u, (xs.drop (i * 6))[j]? = some u → W2.cell? ⟨g, i * 6 + j, none⟩ = some u := fun j u hj => by
    rw [List.getElem?_drop] at hj
    have h := hx _ u hj
    have e2 : W2.heap[g]? = w.heap[g]? := by
      rw [hW2, setRow_other _ _ _ _ (by omega)]
      exact hgr1.block g hg (by simp)
    exact (World.cell?_of_block (a := ⟨g, i * 6 + j, none⟩) e2).trans h
  obtain ⟨W3, hW3⟩ : ∃ W3, W3 = W2.drew.setRow w.heap.size (splice (splice ROW.toList (i * 6) vs) (i * 6 + 6) (xs.drop (i * 6))).toArray := ⟨_, rfl⟩
  have hcp2 : ∀ ty dc sc, (Builtin.copy_ #[34, 34] ty #[.slice (some ⟨w.heap.size, (i + 1) * 6, none⟩) (n - i) dc, .slice (some ⟨g, i * 6, none⟩) (n - i) sc]).run Tryz.prog W2.drew = .ok (goInt (n - i : Nat)) W3 := fun ty dc sc => by
    have := run_copy_rowN (P := Tryz.prog) W2.drew 34 34 ty _ 6 w.heap.size (i * 6 + 6) (n - i) dc ⟨g, i * 6, none⟩ (n - i) sc _ _ (xs.drop (i * 6)) Tryz.underlying34 size_range hG2 (by rw [hxd, nmin_r (by omega)])
      (fun j u hj => by rw [Addr.add_lit]; exact hx2 j u hj) (by rw [List.size_toArray]; omega) (fun u hu => h1x u (List.mem_of_mem_drop hu))
    rw [nmin_r (by omega)] at this
    rw [hW3, show (i + 1) * 6 = i * 6 + 6 by omega]
    exact this
  have hpost : W3.ownsRow base 23 6 (.slice (some ⟨w.heap.size, 0, none⟩) (n + 1) G) (n + 1) (xs.take (i * 6) ++ vs ++ xs.drop (i * 6)) := by
    refine ⟨?_, .inr ⟨w.heap.size, G, _, rfl, hb, by rw [hW3]; exact setRow_heap _ _ _ _ _ _ hG2, hGn, by unfold maxLen; omega, ?_, ?_⟩⟩
    · simp only [List.length_append]; omega
    · rw [List.size_toArray, splice_len _ _ _ (by omega), hl1]
    · have h := ins_list2 ROW.toList (xs.take (i * 6)) vs (xs.drop (i * 6)) (i * 6) hRt (by omega) (by omega)
      rw [hvl, hxd, show i * 6 + 6 + (n - i) * 6 = (n + 1) * 6 by omega] at h
      exact h
  have hgr : w.grownBy W3 (some g) := by
    rw [hW3]
    refine grownBy_fresh ?_ (Nat.le_refl _) (grownBy_setRow _ _ _)
    refine grownBy_trans ?_ (grownBy_drew _ _)
    rw [hW2]
    refine grownBy_fresh ?_ (Nat.le_refl _) (grownBy_setRow _ _ _)
    rw [hW1]
    exact grownBy_trans (grownBy_drew w _) (World.grownBy_alloc _ _ _)
  have HP := Lib.hid hpost
  have HR := Lib.hid hgr
  have hz2' : ¬ ((i : Int) = (n : Int)) := by omega
  have hz3 : (cap : Int) < (n : Int) + 1 := by omega
  have hw1 : IntKind.i64.wrap ((i : Int) + 1) = (i : Int) + 1 := by rw [IntKind.wrap_i64]; omega
  have hb1 : (0 : Int) ≤ (i : Int) + 1 := by omega
  have hin : i ≤ n := by omega
  have htn : ((i : Int) + 1).toNat = i + 1 := by omega
  have hGi : ¬ (G = i) := by omega
  have hGim : ¬ (G = i + 1) := by omega
  have hci : ¬ (cap = i) := by omega
  have hb3 : (i : Int) ≤ (n : Int) + 1 := by omega
  clear hpost hgr hW3 hW2 hW1 hx2 hG2 hG1 hV1 hV hx h1x h1v hl1 hRl hxd hRt hRs hxt hROW hG hold hgr1 hxl hvl hz hz0 hzc hi0 hz1 hz2
  go_enter Tryz.func43, Tryz.ntmps43
  go_wp2_with (first
    | (at_builtin; refine Lib.wpList_append_run _ rfl _ _ _ _ rfl _ _ rfl rfl _ _ (hrz _) ?_)
    | (at_builtin; refine wpList_copy_runI _ rfl _ _ 34 34 rfl _ _ rfl rfl (hcp1 _ _) ?_))
  go_region_law (refine step_copy_runI rfl _ _ 34 34 rfl (.slice (some ⟨w.heap.size, (i + 1) * 6, none⟩) (n - i) (G - (i + 1))) (.slice (some ⟨g, i * 6, none⟩) (n - i) (cap - i)) (by simp [Act.eval, Act.put]) (by simp [Act.eval, Act.put]) (hcp2 3 (G - (i + 1)) (cap - i)) ?_)
  go_wp2
  go_ret
  exact ⟨_, rfl, HP.out, HR.out, by simp⟩

/-- slices.Insert of one element into a slice of the call's own. -/
theorem ins_any {base : Nat} (v : Value) (n i : Nat) (xs vs : List Value) (vb : Nat) (Tv : TypeId) (w : World) (hb : base ≤ w.heap.size)
    (hown : w.ownsRow base 23 6 v n xs) (h1x : ∀ u ∈ xs, u.oneCell' = true) (hi : i ≤ n) (hn : n ≤ 1000)
    (hvl : vs.length = 6) (hV : w.heap[vb]? = some (.cells vs.toArray Tv (0, 0))) (hvb : v.ownBlock ≠ some vb) (h1v : ∀ u ∈ vs, u.oneCell' = true) :
    Calls Tryz.prog 43 #[v, .int .i64 i, .slice (some ⟨vb, 0, none⟩) 1 1] w (InsPost base v n (xs.take (i * 6) ++ vs ++ xs.drop (i * 6)) w) := by
  have hv : ∀ j u, vs[j]? = some u → w.cell? ⟨vb, j, none⟩ = some u := fun j u hj => by rw [cell_of_row w vb j _ _ (0, 0) hV]; simpa using hj
  rcases Nat.lt_or_ge i n with h | h
  · have hlt := hown.lt
    have hcl := fun g hg => hown.cells (g := g) hg
    obtain ⟨hxl, ⟨rfl, h0⟩ | ⟨g, cap, cur, rfl, hbg, hG, hnc, hm, hcs, hx⟩⟩ := id hown
    · omega
    · by_cases hroom : n < cap
      · have := ins_shift (base := base) g n i cap cur vs vb Tv w hbg hG hcs hm (by rw [hx]; exact h1x) h hroom hn hvl hV (fun e => hvb (by rw [e]; rfl)) h1v
        rw [hx] at this
        exact this
      · exact ins_grow g n i cap xs vs vb Tv w hb hxl (fun j u hj => by have := hcl g rfl j u hj; rwa [Lib.add_plain, Nat.zero_add] at this) h1x (hlt g rfl).2 h hnc (by omega) hn hvl hV h1v
  · obtain rfl : i = n := by omega
    have hxl := hown.1
    rw [List.take_of_length_le (by omega), List.drop_of_length_le (by omega), List.append_nil]
    exact ins_end v i xs vs vb w hown hn hvl hv h1v hb

end Go.Proofs.YtiggnmhoececfaaGreatDoor

namespace Go.Proofs.YtiggnmhoececfaaGreatDoor
set_option linter.unusedVariables false
set_option linter.unusedSimpArgs false
open Go.RowKit

set_option maxRecDepth 1000000 in
/-- digits.Is -/
theorem is_any (s : ByteArray) (w : World) :
    Calls Tryz.prog 37 #[.string s] w fun e w' => e = .returned (.bool (isNum s.data.toList)) ∧ Below w.heap.size w w' := by
  go_enter Tryz.func37, Tryz.ntmps37
  go_wp2
  go_loopw [] (fun w' => ∃ (pos : Nat), w' = w.iter s pos ∧ pos ≤ s.size ∧ isDig (s.data.toList.take pos) = true) (fun w' => s.size - w'.iterPos w.heap.size)
  case atStart => exact ⟨0, rfl, by omega, rfl⟩
  case round =>
    obtain ⟨pos, rfl, hle, hd⟩ := hrel
    by_cases hp : pos < s.size
    · have hnx : ∀ ty, (Instr.next (.pointer (some ⟨w.heap.size, 0, none⟩)) true ty).run Tryz.prog (w.iter s pos) = _ := fun ty => run_next_any w s pos ty hp
      have hwd := width_pos s pos hp
      go_wp2
      · go_ret
        exact ⟨by unfold isNum; rw [isDig_no s pos hp ‹_›]; rfl, below_iter _ _ _⟩
      · obtain ⟨h1, h2⟩ : 48 ≤ ((Utf8.decode s pos).1 : Int) ∧ ((Utf8.decode s pos).1 : Int) ≤ 57 := ‹_›
        obtain ⟨e, hd'⟩ := isDig_next s pos hp h1 h2 hd
        exact ⟨⟨pos + 1, by rw [e], by omega, hd'⟩, by simp; omega⟩
      · go_ret
        exact ⟨by unfold isNum; rw [isDig_no s pos hp (.inl ‹_›)]; rfl, below_iter _ _ _⟩
    · have hnx : ∀ ty, (Instr.next (.pointer (some ⟨w.heap.size, 0, none⟩)) true ty).run Tryz.prog (w.iter s pos) = _ := fun ty => run_next_end w s pos ty hp
      go_wp2
      go_ret
      obtain rfl : pos = s.size := by omega
      rw [List.take_of_length_le (by simp)] at hd
      exact ⟨by unfold isNum; rw [hd]; simp [Lib.toList_data], below_iter _ _ _⟩

/-- digits.Number: what a text tells of a number. -/
def number (l : Bytes) : Nat × Int := if isNum l then (if numOf l ≤ 18446744073709551615 then (numOf l, 0) else (0, 7)) else (0, 4)

set_option maxRecDepth 1000000 in
set_option maxHeartbeats 400000 in
theorem number_any (s : ByteArray) (w : World) (hs : s.size ≤ 140737488351232) (hG : Glob w) :
    Calls Tryz.prog 71 #[.string s] w fun e w' => e = .returned (.tuple #[.int .u64 (number s.data.toList).1, .int .i64 (number s.data.toList).2]) ∧ Below w.heap.size w w' := by
  cases h : isNum s.data.toList with
  | false =>
    have h1 := is_any s w
    rw [h] at h1
    have e : number s.data.toList = (0, 4) := by unfold number; rw [h]; rfl
    rw [e]
    have H1 := Lib.hid h1; clear h1 h e
    go_enter Tryz.func71, Tryz.ntmps71
    go_wp2_with (go_at_call 37; refine H1.out.mono ?_; rintro e w' ⟨rfl, hb⟩)
    go_ret2
    exact ⟨rfl, hb⟩
  | true =>
    have h1 := is_any s w
    rw [h] at h1
    have hp := parse64 _ h
    by_cases hle : numOf s.data.toList ≤ 18446744073709551615
    · rw [if_pos hle] at hp
      have e : number s.data.toList = (numOf s.data.toList, 0) := by unfold number; rw [h, if_pos hle]; rfl
      rw [e]
      have HP := Lib.hid hp
      have H1 := Lib.hid h1; clear h1 h e hp
      go_enter Tryz.func71, Tryz.ntmps71
      go_wp2_with (first | (go_at_call 37; refine H1.out.mono ?_; rintro e w' ⟨rfl, hb⟩) | (go_at_call 80; refine (Tryz.strconv_ParseUint_10_at64_ok s (by omega) _ HP.out _).mono ?_; rintro e w2 ⟨rfl, hw⟩))
      go_ret2
      exact ⟨rfl, below_or_bytes hb hw⟩
    · rw [if_neg hle] at hp
      have e : number s.data.toList = (0, 7) := by unfold number; rw [h, if_neg hle]; rfl
      rw [e]
      have HP := Lib.hid hp
      have H1 := Lib.hid h1; clear h1 h e hp
      obtain ⟨te, pe, hr⟩ := hG.rng
      go_enter Tryz.func71, Tryz.ntmps71
      go_wp2_with (first | (go_at_call 37; refine H1.out.mono ?_; rintro e w' ⟨rfl, hb⟩) | (go_at_call 80; refine (Tryz.strconv_ParseUint_10_at64_range s (by omega) HP.out (.iface te pe) _ (cellBelow hb hr) (.inr ⟨_, _, rfl⟩)).mono ?_; rintro e w2 ⟨N, rfl, hN, hc, hb2⟩; have hb3 := below_step hb hb2))
      go_ret2
      exact ⟨rfl, hb3⟩

theorem fmt_small (i : Nat) (hi : i < 100) (w : World) :
    Calls Tryz.prog 95 #[.int .u64 i, .int .i64 10] w fun e w' => e = .returned (.string ⟨(Lib.decDigits i).toArray⟩) ∧ Below w.heap.size w w' := by
  go_enter Tryz.func95, Tryz.ntmps95
  go_wp2_with (go_at_call 113; refine (Tryz.internal_strconv_small i hi _).mono ?_; rintro e w' ⟨rfl, rfl⟩)
  go_ret
  exact ⟨rfl, Below.refl _ _⟩

open Go.Sort Go.Lib in
theorem holds_zero0 (w : World) (T : TypeId) (nd : Nat) (hs : nd ≤ 24) : Holds (fun (b : UInt8) => Value.int .u8 (b.toNat : Int)) (w.alloc (.cells zeros24 T)) w.heap.size 0 (Array.replicate nd (0 : UInt8)) := fun j hj => by
  have hj' : j < nd := by simpa using hj
  refine ⟨?_, World.frozen?_alloc_new _ _ _ _⟩
  rw [World.cell?_alloc_new, zeros24_at _ (by omega), getElem!_pos _ j hj]
  simp

theorem below_grow (w : World) (k : Nat) (os : Array Obj) : Below w.heap.size w (Sort.grow (w.drewN k) os) :=
  ⟨rfl, rfl, rfl, by simp [Sort.grow], fun i hi => by simp only [Sort.grow]; exact Array.getElem?_append_left hi⟩

open Go.Sort Go.Lib in
set_option maxHeartbeats 6400000 in
set_option maxRecDepth 100000 in
theorem fmt_big (u : Nat) (hu : 100 ≤ u) (hu64 : u < 18446744073709551616) (w : World) (hG : Glob w) :
    Calls Tryz.prog 95 #[.int .u64 u, .int .i64 10] w fun e w' => e = .returned (.string ⟨(Lib.decDigits u).toArray⟩) ∧ Below w.heap.size w w' := by
  have htab := hG.tab10
  have hu1 : 1 ≤ u := by omega
  have hnd20 : Lib.nDigits u ≤ 20 := by have := Lib.numDigits_eq u hu1 hu64; split at this <;> omega
  have hb3 : Lib.nDigits u ≤ 24 := by omega
  have hsl1 : ∀ W, (Instr.sliceAt 148 (.pointer (some ⟨w.heap.size, 0, none⟩)) none (some (.int .i64 (Lib.nDigits u : Int))) none).run Tryz.prog W = .ok (.slice (some ⟨w.heap.size, 0, none⟩) (Lib.nDigits u) 24) W := fun W => by
    have hal : Tryz.prog.arrayLen 148 = 24 := by simp [Program.arrayLen, Tryz.underlying148]
    rw [run_sliceAt_array_h W 148 ⟨w.heap.size, 0, none⟩ (by simp [Program.arrayLen, Program.elem, Tryz.underlying148]) .i64 (Lib.nDigits u : Int) (by omega) (by rw [hal]; omega)]
    go_simp
  have hH0 := holds_zero0 w 148 (Lib.nDigits u) (by omega)
  have hfmt := Tryz.internal_strconv_formatBase10 w.heap.size 0 24 u (Array.replicate (Lib.nDigits u) 0) (w.alloc (.cells Lib.zeros24 148)) hH0 (by rw [Array.size_replicate]; exact Lib.lt_pow_nDigits u) hu64 (by rw [Array.size_replicate]; omega)
  rw [Array.size_replicate] at hfmt
  have HH0 := Lib.hid hH0
  have HFM := Lib.hid hfmt
  clear hH0 hfmt
  have h100 : ¬ u < 100 := by omega
  go_enter Tryz.func95, Tryz.ntmps95
  go_wp2_with (first
    | (go_at_call 114; refine (Tryz.internal_strconv_numDigits u hu1 hu64 _ (Lib.tabIs_alloc htab _)).mono ?_; rintro e w' ⟨rfl, rfl⟩))
  go_at_call 115
  refine HFM.out.mono ?_
  rintro e w' ⟨rfl, k, v', dk, rfl, hF⟩
  have hcv : (convert 98 9 (.slice (some ⟨w.heap.size, 0, none⟩) (Lib.nDigits u) 24)).run Tryz.prog ((putRow (fun (b : UInt8) => Value.int .u8 (b.toNat : Int)) (w.alloc (.cells Lib.zeros24 148)) w.heap.size 0 dk).drewN k) = .ok (.string ⟨(Lib.decDigits u).toArray⟩) ((putRow (fun (b : UInt8) => Value.int .u8 (b.toNat : Int)) (w.alloc (.cells Lib.zeros24 148)) w.heap.size 0 dk).drewN k) := by
    have h := run_convert_bytes_back (P := Tryz.prog) ((putRow (fun (b : UInt8) => Value.int .u8 (b.toNat : Int)) (w.alloc (.cells Lib.zeros24 148)) w.heap.size 0 dk).drewN k) 98 9 5 ⟨w.heap.size, 0, none⟩ 24 (Lib.decDigits u) Tryz.underlying98 Tryz.underlying5 Tryz.underlying9 (fun j hj => by
      rw [Lib.row_is_numeral hF j hj, Lib.add_plain, World.cell?_drewN]
      exact cell?_putRow (fun (b : UInt8) => Value.int .u8 (b.toNat : Int)) _ w.heap.size 0 _ dk HH0.out (by rw [hF.size, Array.size_replicate]) j (by rw [hF.size]; rw [Lib.decDigits_length] at hj; exact hj))
    rw [Lib.decDigits_length] at h
    exact h
  go_wp2
  go_ret
  have e1 : ∃ os, (putRow (fun (b : UInt8) => Value.int .u8 (b.toNat : Int)) (w.alloc (.cells Lib.zeros24 148)) w.heap.size 0 dk).drewN k = grow (w.drewN k) os := by
    rw [alloc_eq_grow]
    obtain ⟨os', _, e⟩ := putRow_grow_new (fun (b : UInt8) => Value.int .u8 (b.toNat : Int)) w #[.cells Lib.zeros24 148] w.heap.size 0 dk (Nat.le_refl _)
    exact ⟨os', by rw [e]; rfl⟩
  obtain ⟨os, eo⟩ := e1
  exact ⟨rfl, by rw [eo]; exact below_grow _ _ _⟩

theorem fmt_any (u : Nat) (hu64 : u < 18446744073709551616) (w : World) (hG : Glob w) :
    Calls Tryz.prog 81 #[.int .u64 u, .int .i64 10] w fun e w' => e = .returned (.string ⟨(Lib.decDigits u).toArray⟩) ∧ Below w.heap.size w w' := by
  have h : Calls Tryz.prog 95 #[.int .u64 u, .int .i64 10] w fun e w' => e = .returned (.string ⟨(Lib.decDigits u).toArray⟩) ∧ Below w.heap.size w w' := by
    by_cases hu : u < 100
    · exact fmt_small u hu w
    · exact fmt_big u (by omega) hu64 w hG
  have H := Lib.hid h; clear h
  go_enter Tryz.func81, Tryz.ntmps81
  go_wp2_with (go_at_call 95; refine H.out.mono ?_; rintro e w' ⟨rfl, hb⟩)
  go_ret
  exact ⟨rfl, hb⟩

theorem dec_len (u : Nat) (hu64 : u < 18446744073709551616) : (Lib.decDigits u).length ≤ 20 := by
  rw [Lib.decDigits_length]
  by_cases h1 : 1 ≤ u
  · have := Lib.numDigits_eq u h1 hu64; split at this <;> omega
  · obtain rfl : u = 0 := by omega
    simp [Lib.nDigits_small]

set_option maxHeartbeats 800000 in
/-- digits.Text -/
theorem text_any (u : Nat) (wd : Int) (hu64 : u < 18446744073709551616) (h1 : -9223372036854775808 ≤ wd) (h2 : wd ≤ 9223372036854775807) (w : World) (hG : Glob w) :
    Calls Tryz.prog 72 #[.int .u64 u, .int .i64 wd] w fun e w' => e = .returned (.string ⟨(textL u wd).toArray⟩) ∧ Below w.heap.size w w' := by
  have hl := dec_len u hu64
  have hf := fmt_any u hu64 w hG
  have hr := fun c W => Tryz.strings_Repeat ⟨#[48]⟩ c W
  have HF := Lib.hid hf; clear hf
  have HR := Lib.hid hr; clear hr
  go_enter Tryz.func72, Tryz.ntmps72
  go_wp2_with (go_at_call 81; refine HF.out.mono ?_; rintro e w' ⟨rfl, hb⟩)
  obtain ⟨c, hc⟩ : ∃ c : Nat, max (min (max wd 0) 40 - ((Lib.decDigits u).length : Int)) 0 = c := ⟨(max (min (max wd 0) 40 - ((Lib.decDigits u).length : Int)) 0).toNat, by omega⟩
  have hc40 : c ≤ 40 := by omega
  have et : textL u wd = Lib.repeatL [48] c ++ Lib.decDigits u := by
    unfold textL
    rw [hc]
    congr 1
    rw [Int.toNat_natCast]
    clear hc hc40
    induction c with
    | zero => rfl
    | succ c ih => rw [List.replicate_succ, ih]; rfl
  have HT := Lib.hid et
  rw [hc]
  clear hc et
  refine (HR.out c _ (by omega) (by show 1 * c ≤ _; omega)).mono ?_
  rintro e w2 ⟨rfl, hb2⟩
  have hb3 := below_step hb hb2
  have hs : (⟨(Lib.repeatL [48] c).toArray⟩ : ByteArray).size + (⟨(Lib.decDigits u).toArray⟩ : ByteArray).size ≤ 9223372036854775807 := by
    show (Lib.repeatL [48] c).toArray.size + (Lib.decDigits u).toArray.size ≤ _
    simp [Lib.repeatL_length]
    omega
  go_wp2
  go_ret
  exact ⟨ret_str (by rw [HT.out, ByteArray.mk_append_mk]), hb3⟩
end Go.Proofs.YtiggnmhoececfaaGreatDoor

namespace Go.Proofs.YtiggnmhoececfaaGreatDoor
set_option linter.unusedVariables false
set_option linter.unusedSimpArgs false
open Go.RowKit

/-- What an iterator over a list does: J between two rounds, Jx where a round has said 'no more'; Kp is kept by a round; Mv is what the iterator does by itself. -/
def SeqM {α : Type} (n : Nat) (P : Program) (g : Nat) (lb : Array Value) (encs : α → Array Value) (Kp Mv : World → World → Prop) (S Sp : List α → Prop) (N : Nat) (w : World) : Prop :=
  ∀ (l : Nat) (J Jx : List α → World → Prop) (W : World), Below w.heap.size w W → (∀ s A B, J s A → Mv A B → J s B) → (∀ s A B, Jx s A → Mv A B → Jx s B) →
    (∀ pre x W1, J pre W1 → pre.length < N → YieldAt Fence.wide (n - 1) P l (encs x) W1 fun e W' =>
      (e = .returned (.bool true) ∧ J (pre ++ [x]) W' ∧ Kp W1 W') ∨ (e = .returned (.bool false) ∧ Jx (pre ++ [x]) W')) →
    J [] W →
    CallsIn Fence.wide n P g (#[.func (.yield l) #[] #[]] ++ lb) W fun e W' => (∃ v, e = .returned v) ∧ ((∃ xs, S xs ∧ J xs W') ∨ (∃ pre, Sp pre ∧ Jx pre W'))

/-- How a round's body may be left. -/
def roundM {α : Type} (B : Nat) (Kp : World → World → Prop) (I : List α → World → Prop) (Ix : Code → List α → World → Prop) (xs : List α) (W : World) : Exit → Act → World → Prop
  | .normal, _, W' => KeepsFrom B W W' ∧ Kp W W' ∧ I xs W'
  | .ret, _, W' => KeepsFrom B W W' ∧ Ix .ret xs W'
  | .exit id, _, W' => KeepsFrom B W W' ∧ Ix (.exit id) xs W'
  | .goto t, _, W' => KeepsFrom B W W' ∧ Ix (.goto t) xs W'
  | .panic _, _, _ => False
  | .outgrown, _, _ => False

variable {P : Program}

theorem range_m {α : Type} {n : Nat} {g : Operand} {ps : Array Tmp} {assign body : Code} {Q : Exit → Act → World → Prop} {a : Act} {w : World}
    (h1 : 1 ≤ n) {gf : Nat} {lb : Array Value} (hg : a.eval g = .func (.func gf) #[] lb) (eg : ∀ args w, (callFunc gf args).run P w = .ok (.enter gf args) w)
    {encs : α → Array Value} {Kp Mv : World → World → Prop} {S Sp : List α → Prop} {N : Nat} {w0 : World} (hseq : SeqM (n - 1) P gf lb encs Kp Mv S Sp N w0) (hb0 : Below w0.heap.size w0 w)
    (hKt : ∀ {A B C : World}, Kp A B → Kp B C → Kp A C) (hKb : ∀ (W : World) (l : Nat) (o o' : Obj), w.heap.size ≤ l → W.heap[l]? = some o → o.isCells = false → o.isWalk = false → Kp W (W.putObj l o'))
    (hMv : ∀ (A B : World), Mv A B → ∀ (k : Nat) (o : Obj), w.heap.size ≤ k → A.heap[k]? = some o → o.isCells = false → o.isWalk = false → B.heap[k]? = some o)
    (hps : ∀ x, (encs x).size = ps.size)
    (I : List α → World → Prop) (Ix : Code → List α → World → Prop) (hI : OwnFrom w.heap.size I) (hIx : ∀ c, OwnFrom w.heap.size (Ix c)) (hIm : ∀ s A B, I s A → Mv A B → I s B) (hIxm : ∀ c s A B, Ix c s A → Mv A B → Ix c s B) (h0 : I [] w)
    (Ax : α → Act → World → Prop) (hAx : ∀ x a', OwnFrom w.heap.size (fun (_ : Unit) W => Ax x a' W))
    (hassign : ∀ (l : Nat) (pre : List α) (x : α) (W : World) (K : Act → World → Prop), I pre W → (∀ a' W', KeepsFrom w.heap.size W W' → Kp W W' → I pre W' → Ax x a' W' → K a' W') →
      assign.wpIn (Fence.wide.inRound l) (n - 1 - 1) P (Exit.then K (fun _ _ _ => False)) { tmps := (ps.zip (encs x)).foldl (fun t (p, v) => t.setIfInBounds p v) a.tmps, defers := [] } W)
    (hbody : ∀ (l : Nat) (pre : List α) (x : α) (a' : Act) (W : World), w.heap.size ≤ l → (∃ r, W.heap[l]? = some (.loop r)) → I pre W → Ax x a' W → pre.length < N → body.wpIn (Fence.wide.inRound l) (n - 1 - 1) P (roundM w.heap.size Kp I Ix (pre ++ [x]) W) a' W)
    (hdone : ∀ (D : Nat) (xs : List α) (W : World), w.heap.size ≤ D → S xs → I xs W → W.heap[D]? = some (.deferred (some [])) → Q .normal { a with defers := { target := .collected D, args := #[] } :: a.defers } W)
    (hstop : ∀ (D : Nat) (c : Code) (pre : List α) (W : World), w.heap.size ≤ D → Sp pre → Ix c pre W → W.heap[D]? = some (.deferred (some [])) → c.wpIn Fence.wide n P Q { a with defers := { target := .collected D, args := #[] } :: a.defers } W) :
    (Code.rangeFunc g ps assign body).wpIn Fence.wide n P Q a w := by
  refine wpIn_rangeFunc ?_
  intro fn hfn
  show ∃ l mark w₁ d w₁' f args w₂, (Instr.enterLoop fn a.tmps ps assign body none).run P w = .ok (l, mark) w₁ ∧ _
  obtain ⟨rec, hrec⟩ : ∃ rec : LoopState → Option Code → Loop, rec = fun st pe => { state := st, pending := pe, fn, tmps := a.tmps, params := ps, assign, body, defers := w.heap.size } := ⟨_, rfl⟩
  obtain ⟨W1, hW1⟩ : ∃ W1, (w.alloc (.deferred (some []))).alloc (.loop (rec .ready none)) = W1 := ⟨_, rfl⟩
  have hL1 : W1.heap[w.heap.size + 1]? = some (.loop (rec .ready none)) := by
    rw [← hW1]; have := World.alloc_heap_new (w.alloc (.deferred (some []))) (.loop (rec .ready none)); rwa [World.size_alloc] at this
  have hK1 : W1.heap[w.heap.size]? = some (.deferred (some [])) := by
    rw [← hW1]; exact (Below.heap_alloc _ _ _ (by simp)).trans (World.alloc_heap_new w _)
  have hI1 : I [] W1 := by rw [← hW1]; exact hI.alloc _ (hI.alloc _ h0)
  have hb1 : Below w0.heap.size w0 W1 := by
    rw [← hW1]; exact hb0.trans ((((Below.refl _ w).alloc (Nat.le_refl _) _).alloc (by simp) _).mono hb0.size)
  refine ⟨w.heap.size + 1, [{ target := .collected w.heap.size, args := #[] }], W1, { target := .fn (.func gf) lb, args := #[.func (.yield (w.heap.size + 1)) #[] #[]] }, W1, gf,
    #[.func (.yield (w.heap.size + 1)) #[] #[]] ++ lb, W1, ?_, ?_, fun _ _ => trivial, ?_, fun _ => h1, ?_⟩
  · rw [← hW1, hrec]; exact run_enterLoop_outer _ _ _ _ _
  · simp only [resolve, hg]
    simp [go_sem]
  · simp [invoke, go_sem, eg]
  · refine (hseq (w.heap.size + 1)
      (fun pre W => I pre W ∧ W.heap[w.heap.size + 1]? = some (.loop (rec .ready none)) ∧ W.heap[w.heap.size]? = some (.deferred (some [])))
      (fun pre W => ∃ c, Ix c pre W ∧ W.heap[w.heap.size + 1]? = some (.loop (rec .done (some c))) ∧ W.heap[w.heap.size]? = some (.deferred (some [])))
      W1 hb1
      (fun s A B hs hm => ⟨hIm s A B hs.1 hm, hMv A B hm _ _ (by omega) hs.2.1 rfl rfl, hMv A B hm _ _ (Nat.le_refl _) hs.2.2 rfl rfl⟩)
      (fun s A B hs hm => by
        obtain ⟨c, hc, hl, hk⟩ := hs
        exact ⟨c, hIxm c s A B hc hm, hMv A B hm _ _ (by omega) hl rfl rfl, hMv A B hm _ _ (Nat.le_refl _) hk rfl rfl⟩)
      ?_ ⟨hI1, hL1, hK1⟩).mono ?_
    · rintro pre x W ⟨hi, hl, hk⟩ hlen
      have hy := run_yield (P := P) (args := encs x) hl (by rw [hrec]; exact hps x)
      rw [hrec] at hy
      refine ⟨fn, _, assign, body, hy, roundIn_of_wpIn hfn (hassign _ pre x W _ hi ?_)⟩
      clear hy
      intro a' W2 hkf hkp hi2 hax
      have hl2 := hkf.same _ _ (by omega) hl rfl
      have hk2 := hkf.same _ _ (Nat.le_refl _) hk rfl
      refine ⟨_, run_beginRound hl2 (by rw [hrec]), ?_⟩
      have hl3 : (W2.putObj (w.heap.size + 1) (.loop { rec .ready none with state := .busy })).heap[w.heap.size + 1]? = some (.loop { rec .ready none with state := .busy }) := World.putObj_heap_same (Array.getElem?_eq_some_iff.1 hl2).1
      have hk3 : (W2.putObj (w.heap.size + 1) (.loop { rec .ready none with state := .busy })).heap[w.heap.size]? = some (.deferred (some [])) := (World.putObj_heap_other (by omega)).trans hk2
      have hkp3 : Kp W (W2.putObj (w.heap.size + 1) (.loop { rec .ready none with state := .busy })) := hKt hkp (hKb _ _ _ _ (by omega) hl2 rfl rfl)
      refine wpIn_mono (hbody _ pre x a' _ (by omega) ⟨_, hl3⟩ (hI.putObj _ hi2 (by omega) hl2 rfl) ((hAx x a').putObj (s := ()) _ hax (by omega) hl2 rfl) hlen) ?_
      have fin : ∀ (jump : Option Code) (W3 : World), KeepsFrom w.heap.size (W2.putObj (w.heap.size + 1) (.loop { rec .ready none with state := .busy })) W3 →
          (Instr.endRound (w.heap.size + 1) jump).run P W3 = .ok (.bool jump.isNone) (W3.putObj (w.heap.size + 1) (.loop (rec (if jump.isNone then .ready else .done) jump))) ∧
          W3.heap[w.heap.size + 1]? = some (.loop { rec .ready none with state := .busy }) ∧
          (W3.putObj (w.heap.size + 1) (.loop (rec (if jump.isNone then .ready else .done) jump))).heap[w.heap.size + 1]? = some (.loop (rec (if jump.isNone then .ready else .done) jump)) ∧
          (W3.putObj (w.heap.size + 1) (.loop (rec (if jump.isNone then .ready else .done) jump))).heap[w.heap.size]? = some (.deferred (some [])) := fun jump W3 hkw => by
        have hlw := hkw.same _ _ (by omega) hl3 rfl
        have := run_endRound (P := P) jump hlw
        rw [hrec] at this ⊢
        exact ⟨this, by rw [hrec] at hlw; exact hlw, World.putObj_heap_same (Array.getElem?_eq_some_iff.1 hlw).1, (World.putObj_heap_other (by omega)).trans (hkw.same _ _ (Nat.le_refl _) hk3 rfl)⟩
      rintro e a3 W3 hp
      cases e with
      | normal =>
        obtain ⟨hkw, hkpw, hiw⟩ := hp
        obtain ⟨hr, hlw, hl4, hk4⟩ := fin none W3 hkw
        exact ⟨_, _, hr, .inl ⟨rfl, ⟨hI.putObj _ hiw (by omega) hlw rfl, hl4, hk4⟩, hKt (hKt hkp3 hkpw) (hKb _ _ _ _ (by omega) hlw rfl rfl)⟩⟩
      | ret =>
        obtain ⟨hkw, hiw⟩ := hp
        obtain ⟨hr, hlw, hl4, hk4⟩ := fin (some .ret) W3 hkw
        exact ⟨_, _, hr, .inr ⟨rfl, .ret, (hIx _).putObj _ hiw (by omega) hlw rfl, hl4, hk4⟩⟩
      | exit id =>
        obtain ⟨hkw, hiw⟩ := hp
        obtain ⟨hr, hlw, hl4, hk4⟩ := fin (some (.exit id)) W3 hkw
        exact ⟨_, _, hr, .inr ⟨rfl, .exit id, (hIx _).putObj _ hiw (by omega) hlw rfl, hl4, hk4⟩⟩
      | goto t =>
        obtain ⟨hkw, hiw⟩ := hp
        obtain ⟨hr, hlw, hl4, hk4⟩ := fin (some (.goto t)) W3 hkw
        exact ⟨_, _, hr, .inr ⟨rfl, .goto t, (hIx _).putObj _ hiw (by omega) hlw rfl, hl4, hk4⟩⟩
      | panic ch => exact hp.elim
      | outgrown => exact hp.elim
    · rintro e W2 ⟨⟨v, rfl⟩, (⟨xs, hS, hi, hl, hk⟩ | ⟨pre, hSp, c, hi, hl, hk⟩)⟩
      · exact ⟨none, _, by have := run_endLoop (P := P) hl (by rw [hrec]; simp); rw [hrec] at this; exact this, hdone _ xs _ (Nat.le_refl _) hS (hI.putObj _ hi (by omega) hl rfl) ((World.putObj_heap_other (by omega)).trans hk)⟩
      · exact ⟨some c, _, by have := run_endLoop (P := P) hl (by rw [hrec]; simp); rw [hrec] at this; exact this, hstop _ c pre _ (Nat.le_refl _) hSp ((hIx c).putObj _ hi (by omega) hl rfl) ((World.putObj_heap_other (by omega)).trans hk)⟩

end Go.Proofs.YtiggnmhoececfaaGreatDoor

namespace Go.Proofs.YtiggnmhoececfaaGreatDoor
set_option linter.unusedVariables false
set_option linter.unusedSimpArgs false
open Go.RowKit Go.Shelf Go.Proofs.YtiggnmhoececfaaGreatDoorW.PrintWords
attribute [local go_sem] Oper.semAt_some

abbrev Wt := { n : Nat // n ≤ 9 }
def wtEnc (x : Wt) : Array Value := #[.int .i64 (x.1 : Nat)]
def wv (n : Nat) (dbl : Bool) : Nat := if 10 ≤ (if dbl then n * 2 else n) then (if dbl then n * 2 else n) - 9 else (if dbl then n * 2 else n)
theorem wv_le (n : Nat) (dbl : Bool) (h : n ≤ 9) : wv n dbl ≤ 9 := by unfold wv; cases dbl <;> simp <;> split <;> omega
/-- The weight of the digit that stands k from the end. -/
def wtAt (l : Bytes) (dbl : Bool) (k : Nat) : Nat := wv ((l.getD (l.length - 1 - k) 48).toNat - 48) (if k % 2 = 0 then dbl else !dbl)
def wts (l : Bytes) (dbl : Bool) : List Nat := (List.range l.length).map (wtAt l dbl)

theorem dig_at {l : Bytes} (h : isDig l = true) (i : Nat) (hi : i < l.length) : 48 ≤ (l[i]).toNat ∧ (l[i]).toNat ≤ 57 := by
  unfold isDig at h
  rw [List.all_eq_true] at h
  have := h l[i] (List.getElem_mem hi)
  simp only [Bool.and_eq_true, decide_eq_true_eq, UInt8.le_iff_toNat_le] at this
  exact this

def wMv (Db : Nat) (A B : World) : Prop := Below A.heap.size A B ∨ ∃ v, B = A.setCell ⟨Db, 0, none⟩ v
def wKp (Sb Db : Nat) (A B : World) : Prop := B.heap[Sb]? = A.heap[Sb]? ∧ B.heap[Db]? = A.heap[Db]?

set_option maxRecDepth 100000 in
set_option maxHeartbeats 2000000 in
theorem weights1_in (l Sb Db : Nat) (hne : Sb ≠ Db) (s : ByteArray) (dbl : Bool) (hs : s.size ≤ 1000000) (hd : isDig s.data.toList = true) (J Jx : List Wt → World → Prop)
    (hY : ∀ pre x W, J pre W → pre.length < s.size → YieldAt Fence.wide 8 Tryz.prog l (wtEnc x) W fun e W' =>
      (e = .returned (.bool true) ∧ J (pre ++ [x]) W' ∧ wKp Sb Db W W') ∨ (e = .returned (.bool false) ∧ Jx (pre ++ [x]) W'))
    (hJ : ∀ pre (A B : World), J pre A → wMv Db A B → J pre B)
    (W : World) (hS : W.heap[Sb]? = some (.cells #[.string s] 9 (0, 0))) (hD : W.heap[Db]? = some (.cells #[.bool dbl] 4 (0, 0))) (h0 : J [] W) :
    CallsIn Fence.wide 9 Tryz.prog 122 #[.func (.yield l) #[] #[], .pointer (some ⟨Sb, 0, none⟩), .pointer (some ⟨Db, 0, none⟩)] W fun e W' => (∃ v, e = .returned v) ∧
      ((∃ ys : List Wt, ys.map (·.1) = wts s.data.toList dbl ∧ J ys W') ∨ (∃ pre : List Wt, Jx pre W')) := by
  have hsz : s.data.toList.length = s.size := by simp
  refine callsIn_of_wp Tryz.func122 rfl trivial ?_ rfl
  simp only [Tryz.ntmps122, List.size_toArray, List.length_cons, List.length_nil, Nat.reduceAdd, Nat.reduceSub, Array.replicate_succ, Array.replicate_zero, List.push_toArray, List.append_toArray, List.nil_append, List.cons_append]
  have hc0 := blk_cell hS 0
  gi_wp2
  gi_loopw [4] (fun i wr => ∃ (k : Nat) (ys : List Wt), k ≤ s.size ∧ i = .int .i64 ((s.size : Int) - 1 - k) ∧ ys.length = k ∧ ys.map (·.1) = (wts s.data.toList dbl).take k ∧ J ys wr ∧ wr.heap[Sb]? = some (.cells #[.string s] 9 (0, 0)) ∧ wr.heap[Db]? = some (.cells #[.bool (if k % 2 = 0 then dbl else !dbl)] 4 (0, 0)))
    (fun i _ => (intOf i + 1).toNat)
  case atStart => exact ⟨0, [], by omega, by simp, rfl, rfl, h0, hS, hD⟩
  case round =>
    obtain ⟨k, ys, hk, rfl, hyl, hys, hJs, hS', hD'⟩ := hrel
    by_cases hlt : k < s.size
    · obtain ⟨m, hm⟩ : ∃ m : Nat, (s.size : Int) - 1 - k = m := ⟨s.size - 1 - k, by omega⟩
      have hml : m < s.size := by omega
      have hmk : m = s.data.toList.length - 1 - k := by rw [hsz]; omega
      have hdg := dig_at hd m (by rw [hsz]; exact hml)
      have hwt : wtAt s.data.toList dbl k = wv (s[m].toNat - 48) (if k % 2 = 0 then dbl else !dbl) := by
        unfold wtAt
        rw [← hmk, List.getD_eq_getElem?_getD, List.getElem?_eq_getElem (by rw [hsz]; exact hml)]
        rfl
      have hdg' : 48 ≤ s[m].toNat ∧ s[m].toNat ≤ 57 := hdg
      obtain ⟨c, hc⟩ : ∃ c, s[m].toNat = c := ⟨_, rfl⟩
      rw [hc] at hwt hdg'
      obtain ⟨b, hb⟩ : ∃ b, (if k % 2 = 0 then dbl else !dbl) = b := ⟨_, rfl⟩
      rw [hb] at hwt hD'
      have hnext : (if (k + 1) % 2 = 0 then dbl else !dbl) = !b := by rw [← hb]; by_cases p : k % 2 = 0 <;> simp [p] <;> omega
      rw [hm]
      have hS0 := blk_cell hS' 0
      have hD0 := blk_cell hD' 0
      have hDf := blk_frozen hD' 0
      have hcI : ((s[m].toNat : Nat) : Int) = (c : Int) := by rw [hc]
      have HN := Lib.hid hnext
      have HW := Lib.hid hwt
      have HY := Lib.hid hys
      have HM := Lib.hid hm
      clear hnext hwt hys hm hc hb hdg hmk hS hD hd hsz
      obtain ⟨hc1, hc2⟩ := hdg'
      cases b with
      | true =>
        by_cases h10 : 10 ≤ (c - 48) * 2
        · have h10' : decide ((10 : Int) ≤ ((c : Int) - 48) * 2) = true := by simp; omega
          obtain ⟨x, hx⟩ : ∃ x : Nat, ((c : Int) - 48) * 2 - 9 = (x : Int) := ⟨(((c : Int) - 48) * 2 - 9).toNat, by omega⟩
          have hxv : wv (c - 48) true = x := by simp only [wv, if_true]; rw [if_pos h10]; omega
          have hx9 : x ≤ 9 := by omega
          have hxt : (ys ++ [(⟨x, hx9⟩ : Wt)]).map (·.1) = (wts s.data.toList dbl).take (k + 1) := by
            rw [List.map_append, HY.out, List.take_succ_eq_append_getElem (by simp [wts]; exact hlt)]
            congr 1
            simp [wts, HW.out, hxv]
          obtain ⟨fn, tmps, assign, body, hy, hR⟩ := hY ys ⟨x, hx9⟩ wr hJs (by omega)
          dsimp only [wtEnc] at hy
          have HXT := Lib.hid hxt
          clear hxt hxv
          gi_wp2
          refine hR.mono ?_
          rintro e W3 (⟨rfl, hJ3, hk3⟩ | ⟨rfl, hJx3⟩)
          · have hD3 := hk3.2.trans hD'
            have hS3 := hk3.1.trans hS'
            have hD4 := blk_cell hD3 0
            have hD5 := blk_frozen hD3 0
            gi_wp2
            go_roundw
            case rel =>
              refine ⟨k + 1, ys ++ [⟨x, hx9⟩], by omega, ?_, by simp [hyl], HXT.out, hJ _ _ _ hJ3 (.inr ⟨_, rfl⟩), blk_far hS3 hne _, ?_⟩
              · rw [show (m : Int) - 1 = (s.size : Int) - 1 - ((k + 1 : Nat) : Int) by have := HM.out; omega]
              · rw [HN.out]; exact blk_set hD3 0 _
            case measure => simp [intOf]
          · gi_wp2
            refine bodyPost_ret (results_none rfl _ _ _) rfl ?_
            exact ⟨⟨_, rfl⟩, .inr ⟨_, hJx3⟩⟩
        · have h10' : decide ((10 : Int) ≤ ((c : Int) - 48) * 2) = false := by simp; omega
          obtain ⟨x, hx⟩ : ∃ x : Nat, ((c : Int) - 48) * 2 = (x : Int) := ⟨(((c : Int) - 48) * 2).toNat, by omega⟩
          have hxv : wv (c - 48) true = x := by simp only [wv, if_true]; rw [if_neg h10]; omega
          have hx9 : x ≤ 9 := by omega
          have hxt : (ys ++ [(⟨x, hx9⟩ : Wt)]).map (·.1) = (wts s.data.toList dbl).take (k + 1) := by
            rw [List.map_append, HY.out, List.take_succ_eq_append_getElem (by simp [wts]; exact hlt)]
            congr 1
            simp [wts, HW.out, hxv]
          obtain ⟨fn, tmps, assign, body, hy, hR⟩ := hY ys ⟨x, hx9⟩ wr hJs (by omega)
          dsimp only [wtEnc] at hy
          have HXT := Lib.hid hxt
          clear hxt hxv
          gi_wp2
          refine hR.mono ?_
          rintro e W3 (⟨rfl, hJ3, hk3⟩ | ⟨rfl, hJx3⟩)
          · have hD3 := hk3.2.trans hD'
            have hS3 := hk3.1.trans hS'
            have hD4 := blk_cell hD3 0
            have hD5 := blk_frozen hD3 0
            gi_wp2
            go_roundw
            case rel =>
              refine ⟨k + 1, ys ++ [⟨x, hx9⟩], by omega, ?_, by simp [hyl], HXT.out, hJ _ _ _ hJ3 (.inr ⟨_, rfl⟩), blk_far hS3 hne _, ?_⟩
              · rw [show (m : Int) - 1 = (s.size : Int) - 1 - ((k + 1 : Nat) : Int) by have := HM.out; omega]
              · rw [HN.out]; exact blk_set hD3 0 _
            case measure => simp [intOf]
          · gi_wp2
            refine bodyPost_ret (results_none rfl _ _ _) rfl ?_
            exact ⟨⟨_, rfl⟩, .inr ⟨_, hJx3⟩⟩
      | false =>
        have h10' : decide ((10 : Int) ≤ ((c : Int) - 48)) = false := by simp; omega
        obtain ⟨x, hx⟩ : ∃ x : Nat, (c : Int) - 48 = (x : Int) := ⟨((c : Int) - 48).toNat, by omega⟩
        have hxv : wv (c - 48) false = x := by simp only [wv, Bool.false_eq_true, if_false]; rw [if_neg (by omega)]; omega
        have hx9 : x ≤ 9 := by omega
        have hxt : (ys ++ [(⟨x, hx9⟩ : Wt)]).map (·.1) = (wts s.data.toList dbl).take (k + 1) := by
          rw [List.map_append, HY.out, List.take_succ_eq_append_getElem (by simp [wts]; exact hlt)]
          congr 1
          simp [wts, HW.out, hxv]
        obtain ⟨fn, tmps, assign, body, hy, hR⟩ := hY ys ⟨x, hx9⟩ wr hJs (by omega)
        dsimp only [wtEnc] at hy
        have HXT := Lib.hid hxt
        clear hxt hxv
        gi_wp2
        refine hR.mono ?_
        rintro e W3 (⟨rfl, hJ3, hk3⟩ | ⟨rfl, hJx3⟩)
        · have hD3 := hk3.2.trans hD'
          have hS3 := hk3.1.trans hS'
          have hD4 := blk_cell hD3 0
          have hD5 := blk_frozen hD3 0
          gi_wp2
          go_roundw
          case rel =>
            refine ⟨k + 1, ys ++ [⟨x, hx9⟩], by omega, ?_, by simp [hyl], HXT.out, hJ _ _ _ hJ3 (.inr ⟨_, rfl⟩), blk_far hS3 hne _, ?_⟩
            · rw [show (m : Int) - 1 = (s.size : Int) - 1 - ((k + 1 : Nat) : Int) by have := HM.out; omega]
            · rw [HN.out]; exact blk_set hD3 0 _
          case measure => simp [intOf]
        · gi_wp2
          refine bodyPost_ret (results_none rfl _ _ _) rfl ?_
          exact ⟨⟨_, rfl⟩, .inr ⟨_, hJx3⟩⟩
    · obtain rfl : k = s.size := by omega
      have hys' : ys.map (·.1) = wts s.data.toList dbl := by rw [hys, List.take_of_length_le (by simp [wts])]
      have HY := Lib.hid hys'
      clear hys hys' hsz hD' hS' hS hD hc0
      have hneg : ¬ (0 : Int) ≤ (s.size : Int) - 1 - (s.size : Int) := by omega
      gi_wp2
      go_end0
      exact ⟨⟨_, rfl⟩, .inl ⟨_, HY.out, hJs⟩⟩

theorem seq_weights (Sb Db : Nat) (hne : Sb ≠ Db) (s : ByteArray) (dbl : Bool) (hs : s.size ≤ 1000000) (hd : isDig s.data.toList = true) (w0 : World) (hS : w0.heap[Sb]? = some (.cells #[.string s] 9 (0, 0))) (hD : w0.heap[Db]? = some (.cells #[.bool dbl] 4 (0, 0))) :
    SeqM 9 Tryz.prog 122 #[.pointer (some ⟨Sb, 0, none⟩), .pointer (some ⟨Db, 0, none⟩)] wtEnc (wKp Sb Db) (wMv Db) (fun ys => ys.map (·.1) = wts s.data.toList dbl) (fun _ => True) s.size w0 := by
  intro l J Jx W hW hJ _ hY h0
  refine (weights1_in l Sb Db hne s dbl hs hd J Jx hY hJ W ((hW.block Sb (blk_lt hS)).trans hS) ((hW.block Db (blk_lt hD)).trans hD) h0).mono ?_
  rintro e W' ⟨hv, ⟨ys, h1, h2⟩ | ⟨pre, h1⟩⟩
  · exact ⟨hv, .inl ⟨ys, h1, h2⟩⟩
  · exact ⟨hv, .inr ⟨pre, trivial, h1⟩⟩

theorem sum_le (l : List Wt) : (l.map (·.1)).sum ≤ 9 * l.length := by
  induction l with
  | nil => simp
  | cons x l ih => have := x.2; simp only [List.map_cons, List.sum_cons, List.length_cons]; omega

theorem ownFrom_blk' {β : Type} (B k : Nat) (f : β → Array Value) (T : TypeId) : OwnFrom B (fun s W => W.heap[k]? = some (.cells (f s) T (0, 0))) := fun s A C row hs hg hr =>
  (hg.block k (blk_lt hs) (fun e => by obtain ⟨_, o, ho, hc⟩ := hr k e.symm; rw [hs] at ho; cases ho; cases hc)).trans hs

set_option maxRecDepth 100000 in
set_option maxHeartbeats 2000000 in
/-- digits.sum, of a text's weights -/
theorem sum_weights (Sb Db : Nat) (hne : Sb ≠ Db) (s : ByteArray) (dbl : Bool) (hs : s.size ≤ 1000000) (hd : isDig s.data.toList = true) (w : World) (hS : w.heap[Sb]? = some (.cells #[.string s] 9 (0, 0))) (hD : w.heap[Db]? = some (.cells #[.bool dbl] 4 (0, 0))) (n₀ : Nat) (hn₀ : n₀ ≤ Db) (hn1 : n₀ ≤ w.heap.size) :
    Calls Tryz.prog 101 #[.func (.func 122) #[] #[.pointer (some ⟨Sb, 0, none⟩), .pointer (some ⟨Db, 0, none⟩)]] w fun e w' => e = .returned (.int .i64 ((wts s.data.toList dbl).sum : Nat)) ∧ Below n₀ w w' := by
  refine (callsIn_wide (n := 10)).1 ?_
  refine callsIn_of_wp_marks Tryz.func101 rfl trivial ?_ rfl
  simp only [Tryz.ntmps101, List.size_toArray, List.length_cons, List.length_nil, Nat.reduceAdd, Nat.reduceSub, Array.replicate_succ, Array.replicate_zero, List.push_toArray, List.append_toArray, List.nil_append, List.cons_append]
  gi_wp2
  have hDl := blk_lt hD
  have hSl := blk_lt hS
  have hseq := seq_weights Sb Db hne s dbl hs hd (w.alloc (.cells #[.int .i64 0] 3)) (blk_alloc hS _) (blk_alloc hD _)
  refine range_m (by omega) (gf := 122) (lb := #[.pointer (some ⟨Sb, 0, none⟩), .pointer (some ⟨Db, 0, none⟩)]) rfl (enters_of Tryz.func122 (by kernel_rfl) rfl)
    hseq (Below.refl _ _) (fun h k => ⟨k.1.trans h.1, k.2.trans h.2⟩) (fun W l o o' hl ho _ _ => by rw [World.size_alloc] at hl; exact ⟨World.putObj_heap_other (by omega), World.putObj_heap_other (by omega)⟩)
    (fun A B h k o hk ho hc _ => by
      rcases h with h | ⟨v, rfl⟩
      · exact (h.block k (Array.getElem?_eq_some_iff.1 ho).1).trans ho
      · rw [World.size_alloc] at hk
        exact (Below.heap_setCell _ _ _ _ (by show k ≠ Db; omega)).trans ho)
    (fun _ => rfl)
    (fun pre W => W.heap[w.heap.size]? = some (.cells #[.int .i64 ((pre.map (·.1)).sum : Nat)] 3 (0, 0)) ∧ Below n₀ w W ∧ (w.alloc (.cells #[.int .i64 0] 3)).heap.size ≤ W.heap.size)
    (fun _ _ _ => False)
    (OwnFrom.and (ownFrom_blk' _ _ _ _) (OwnFrom.and (ownFrom_below hn1 (by rw [World.size_alloc]; omega)) (fun s A B row hs hg hr => Nat.le_trans hs hg.size)))
    (fun _ _ _ _ _ hs _ _ => hs)
    (fun s A B hs h => by
      obtain ⟨i1, i2, i3⟩ := hs
      rcases h with h | ⟨v, rfl⟩
      · exact ⟨blk_below i1 h, i2.trans (h.mono (Nat.le_trans hn1 i2.size)), Nat.le_trans i3 h.size⟩
      · exact ⟨blk_far i1 (by show w.heap.size ≠ Db; omega) _, i2.setCell (p := ⟨Db, 0, none⟩) hn₀ _, by simpa [World.setCell] using i3⟩)
    (fun _ _ _ _ hs _ => hs)
    ⟨blk_new _ _, (Below.refl n₀ w).alloc hn1 _, Nat.le_refl _⟩
    (fun x a' W => a' = { tmps := #[.func (.func 122) #[] #[.pointer (some ⟨Sb, 0, none⟩), .pointer (some ⟨Db, 0, none⟩)], undef, .int .i64 0, .pointer (some ⟨w.heap.size, 0, none⟩), .int .i64 (x.1 : Nat), .func (.func 122) #[] #[.pointer (some ⟨Sb, 0, none⟩), .pointer (some ⟨Db, 0, none⟩)], .int .i64 (x.1 : Nat), undef, undef, undef, undef], defers := [] })
    (fun x a' s A B row hs hg hr => hs)
    ?assign ?body ?done ?stop
  case assign =>
    rintro l pre x W K hI hK
    rw [show wtEnc x = #[.int .i64 (x.1 : Nat)] from rfl]
    gi_wp2
    exact hK _ _ (KeepsFrom.refl _ _) ⟨rfl, rfl⟩ hI rfl
  case body =>
    rintro l pre x a' W hl ⟨r, hr⟩ ⟨i1, i2, i3⟩ rfl hlt
    have hsum := sum_le pre
    have hx := x.2
    obtain ⟨t, ht⟩ : ∃ t, (pre.map (·.1)).sum = t := ⟨_, rfl⟩
    rw [ht] at i1 hsum
    have c1 := blk_cell i1 0
    have f1 := blk_frozen i1 0
    have HT := Lib.hid ht
    have hts : t + x.1 ≤ 10000000 := by omega
    clear ht hr hseq
    gi_wp2
    rw [World.size_alloc] at i3
    refine ⟨((KeepsOthers.setCell _ _ _).from _), ⟨Below.heap_setCell _ _ _ _ (by show Sb ≠ w.heap.size; omega), Below.heap_setCell _ _ _ _ (by show Db ≠ w.heap.size; omega)⟩, ?_, i2.setCell (p := ⟨w.heap.size, 0, none⟩) hn1 _, by rw [World.size_alloc]; simpa [World.setCell] using i3⟩
    have := blk_set i1 0 (.int .i64 ((t : Int) + (x.1 : Nat)))
    rw [List.map_append, List.sum_append, HT.out]
    simpa using this
  case done =>
    rintro D ys W hD hys ⟨i1, i2, i3⟩ hK
    rw [hys] at i1
    have c1 := blk_cell i1 0
    clear hys i1 hseq
    gi_wp2
    refine ⟨by simp, .inl ⟨_, _, rfl, run_takeDeferred hK, ?_⟩⟩
    refine ⟨_, results_tmp rfl _ _ _, rfl, ?_⟩
    rw [World.size_alloc] at hD
    exact i2.trans (belowK_b (w := w) hn1 W D _ _ (by omega) hK rfl rfl)
  case stop =>
    rintro D c pre W _ _ h _
    exact h.elim

end Go.Proofs.YtiggnmhoececfaaGreatDoor

namespace Go.Proofs.YtiggnmhoececfaaGreatDoor
set_option linter.unusedVariables false
set_option linter.unusedSimpArgs false
open Go.RowKit Go.Proofs.YtiggnmhoececfaaGreatDoorW.PrintWords

def luhn (l : Bytes) : Bool := isNum l && ((wts l false).sum % 10 == 0)

theorem weights_any (s : ByteArray) (dbl : Bool) (w : World) :
    Calls Tryz.prog 102 #[.string s, .bool dbl] w fun e w' => e = .returned (.func (.func 122) #[] #[.pointer (some ⟨w.heap.size, 0, none⟩), .pointer (some ⟨w.heap.size + 1, 0, none⟩)]) ∧ w' = allocs w [.cells #[.string s] 9, .cells #[.bool dbl] 4] := by
  go_enter Tryz.func102, Tryz.ntmps102
  go_wp2
  go_ret
  exact ⟨rfl, rfl⟩

set_option maxHeartbeats 800000 in
/-- digits.Luhn -/
theorem luhn_any (s : ByteArray) (hs : s.size ≤ 1000000) (w : World) :
    Calls Tryz.prog 88 #[.string s] w fun e w' => e = .returned (.bool (luhn s.data.toList)) ∧ Below w.heap.size w w' := by
  have h1 := is_any s w
  cases h : isNum s.data.toList with
  | false =>
    have hv : luhn s.data.toList = false := by unfold luhn; rw [h]; rfl
    rw [hv]; rw [h] at h1
    have H1 := Lib.hid h1
    clear h1 h hv
    go_enter Tryz.func88, Tryz.ntmps88
    go_wp2_with (go_at_call 37; go_must (refine H1.out.mono ?_); rintro e w1 ⟨rfl, hb⟩)
    go_ret
    exact ⟨rfl, hb⟩
  | true =>
    have hd : isDig s.data.toList = true := by unfold isNum at h; simp only [Bool.and_eq_true] at h; exact h.1
    have hv : luhn s.data.toList = ((wts s.data.toList false).sum % 10 == 0) := by unfold luhn; rw [h]; rfl
    have hle : (wts s.data.toList false).sum ≤ 10000000 := by
      have hw : ∀ (l : List Nat), (∀ x, x ∈ l → x ≤ 9) → l.sum ≤ 9 * l.length := by
        intro l
        induction l with
        | nil => simp
        | cons x l ih =>
          intro hx
          have := ih (fun y hy => hx y (by simp [hy]))
          have := hx x (by simp)
          simp only [List.sum_cons, List.length_cons]; omega
      have := hw (wts s.data.toList false) (by
        intro x hx
        simp only [wts, List.mem_map, List.mem_range] at hx
        obtain ⟨k, hk, rfl⟩ := hx
        unfold wtAt
        refine wv_le _ _ ?_
        have hg := dig_at hd (s.data.toList.length - 1 - k) (by omega)
        rw [List.getD_eq_getElem?_getD, List.getElem?_eq_getElem (by omega)]
        simp only [Option.getD_some]
        omega)
      have h2 : (wts s.data.toList false).length = s.size := by simp [wts]
      omega
    rw [h] at h1
    have hsum := fun (w1 : World) (hb : Below w.heap.size w w1) => sum_weights w1.heap.size (w1.heap.size + 1) (by omega) s false hs hd (allocs w1 [.cells #[.string s] 9, .cells #[.bool false] 4]) (allocs_get w1 _ 0 _ rfl) (allocs_get w1 _ 1 _ rfl) w1.heap.size (by omega) (by rw [allocs_size]; omega)
    obtain ⟨t, ht⟩ : ∃ t, (wts s.data.toList false).sum = t := ⟨_, rfl⟩
    rw [ht] at hle hv hsum
    have hmod : (IntKind.i64.wrap ((t : Int).tmod 10)) = ((t % 10 : Nat) : Int) := by
      rw [Int.tmod_eq_emod_of_nonneg (by omega)]; simp [IntKind.wrap, IntKind.bits, IntKind.signed]; omega
    have H1 := Lib.hid h1
    have HV := Lib.hid hv
    have HS := Lib.hid hsum
    clear h1 hv hsum h hd ht
    go_enter Tryz.func88, Tryz.ntmps88
    go_wp2_with (first
      | (go_at_call 37; go_must (refine H1.out.mono ?_); rintro e w1 ⟨rfl, hb⟩)
      | (go_at_call 102; go_must (refine (weights_any _ _ _).mono ?_); rintro e w2 ⟨rfl, rfl⟩)
      | (go_at_call 101; go_must (refine (HS.out w1 hb).mono ?_); rintro e w3 ⟨rfl, hb3⟩; have hb4 := below_step hb ((allocs_below w1 _).trans hb3)))
    go_ret
    refine ⟨ret_bool ?_, hb4⟩
    rw [HV.out]
    rw [Bool.eq_iff_iff, beq_iff_eq, beq_iff_eq]; omega

/-- digits.Card: what is wrong with a card's number. -/
def cardE (l : Bytes) : Int := if isNum l = false then 4 else if l.length < 13 then 3 else if 19 < l.length then 5 else if luhn l = false then 25 else 0

set_option maxHeartbeats 800000 in
/-- digits.Card -/
theorem card_any (s : ByteArray) (hs : s.size ≤ 1000000) (w : World) :
    Calls Tryz.prog 77 #[.string s] w fun e w' => e = .returned (.int .i64 (cardE s.data.toList)) ∧ Below w.heap.size w w' := by
  have hsz : s.data.toList.length = s.size := by simp
  have h1 := is_any s w
  have h2 := fun w1 => luhn_any s hs w1
  cases h : isNum s.data.toList with
  | false =>
    have hv : cardE s.data.toList = 4 := by unfold cardE; rw [if_pos h]
    rw [hv]; rw [h] at h1
    have H1 := Lib.hid h1
    clear h1 h hv h2 hsz
    go_enter Tryz.func77, Tryz.ntmps77
    go_wp2_with (go_at_call 37; go_must (refine H1.out.mono ?_); rintro e w1 ⟨rfl, hb⟩)
    go_ret
    exact ⟨rfl, hb⟩
  | true =>
    rw [h] at h1
    by_cases h13 : s.size < 13
    · have hv : cardE s.data.toList = 3 := by unfold cardE; rw [if_neg (by rw [h]; decide), if_pos (by omega)]
      rw [hv]
      have H1 := Lib.hid h1
      clear h1 h hv h2 hsz
      have h13' : decide ((s.size : Int) < 13) = true := by simp; omega
      go_enter Tryz.func77, Tryz.ntmps77
      go_wp2_with (go_at_call 37; go_must (refine H1.out.mono ?_); rintro e w1 ⟨rfl, hb⟩)
      go_ret
      exact ⟨rfl, hb⟩
    · have h13' : decide ((s.size : Int) < 13) = false := by simp; omega
      by_cases h19 : 19 < s.size
      · have hv : cardE s.data.toList = 5 := by unfold cardE; rw [if_neg (by rw [h]; decide), if_neg (by omega), if_pos (by omega)]
        rw [hv]
        have H1 := Lib.hid h1
        clear h1 h hv h2 hsz
        have h19' : decide ((19 : Int) < (s.size : Int)) = true := by simp; omega
        go_enter Tryz.func77, Tryz.ntmps77
        go_wp2_with (go_at_call 37; go_must (refine H1.out.mono ?_); rintro e w1 ⟨rfl, hb⟩)
        go_ret
        exact ⟨rfl, hb⟩
      · have h19' : decide ((19 : Int) < (s.size : Int)) = false := by simp; omega
        cases hl : luhn s.data.toList with
        | false =>
          have hv : cardE s.data.toList = 25 := by unfold cardE; rw [if_neg (by rw [h]; decide), if_neg (by omega), if_neg (by omega), if_pos hl]
          rw [hv]; rw [hl] at h2
          have H1 := Lib.hid h1
          have H2 := Lib.hid h2
          clear h1 h hv h2 hsz hl
          go_enter Tryz.func77, Tryz.ntmps77
          go_wp2_with (first | (go_at_call 37; go_must (refine H1.out.mono ?_); rintro e w1 ⟨rfl, hb⟩) | (go_at_call 88; go_must (refine (H2.out _).mono ?_); rintro e w2 ⟨rfl, hb2⟩; have hb3 := below_step hb hb2))
          go_ret
          exact ⟨rfl, hb3⟩
        | true =>
          have hv : cardE s.data.toList = 0 := by unfold cardE; rw [if_neg (by rw [h]; decide), if_neg (by omega), if_neg (by omega), if_neg (by rw [hl]; decide)]
          rw [hv]; rw [hl] at h2
          have H1 := Lib.hid h1
          have H2 := Lib.hid h2
          clear h1 h hv h2 hsz hl
          go_enter Tryz.func77, Tryz.ntmps77
          go_wp2_with (first | (go_at_call 37; go_must (refine H1.out.mono ?_); rintro e w1 ⟨rfl, hb⟩) | (go_at_call 88; go_must (refine (H2.out _).mono ?_); rintro e w2 ⟨rfl, hb2⟩; have hb3 := below_step hb hb2))
          go_ret
          exact ⟨rfl, hb3⟩

end Go.Proofs.YtiggnmhoececfaaGreatDoor

namespace Go.Proofs.YtiggnmhoececfaaGreatDoor.PRef
open Go.Proofs.YtiggnmhoececfaaGreatDoor.PRangesTurn
open Go.RowKit Go.Proofs.YtiggnmhoececfaaGreatDoorW.PrintWords Go.Proofs.YtiggnmhoececfaaGreatDoorW.PrintLast Go.Proofs.YtiggnmhoececfaaGreatDoorW.PrintMore
attribute [local go_sem] max2_int min2_int max_two min_two max_three min_three max_four min_four   -- for this text's walks alone
set_option linter.unusedVariables false
set_option linter.unusedSimpArgs false

/-! ### digits_leap: function 89 -/
def digits_leap.f (a0 : Int) : Option (Bool) := if (Int.tmod a0 4) = 0 then (if (Int.tmod a0 100) = 0 then (some ((Int.tmod a0 400) == 0)) else (some true)) else (some false)
set_option maxHeartbeats 8000000 in
set_option maxRecDepth 100000 in
theorem digits_leap.calls (a0 : Int) (r : Bool) (w : World) (h : digits_leap.f a0 = some r) :
    Calls Tryz.prog 89 #[.int .i64 a0] w fun e w' => e = .returned (.bool r) ∧ Drawn0 w w' := by
  have H : (if (Int.tmod a0 4) = 0 then (if (Int.tmod a0 100) = 0 then (some ((Int.tmod a0 400) == 0)) else (some true)) else (some false)) = some r := h
  clear h
  by_cases c2 : (Int.tmod a0 4) = 0
  · rw [if_pos c2] at H
    have c2b0 : ((Int.tmod a0 4) == 0) = true := beq_iff_eq.mpr c2
    have c2b1 : ((Int.tmod a0 4) != 0) = false := bne_eq_false_iff_eq.mpr c2
    clear c2
    by_cases c3 : (Int.tmod a0 100) = 0
    · rw [if_pos c3] at H
      have c3b0 : ((Int.tmod a0 100) == 0) = true := beq_iff_eq.mpr c3
      have c3b1 : ((Int.tmod a0 100) != 0) = false := bne_eq_false_iff_eq.mpr c3
      clear c3
      obtain rfl := Option.some.inj H
      go_enter Tryz.func89, Tryz.ntmps89
      go_wp2
      go_ret
      exact ⟨by first | rfl | (simp; done) | (simp [*]; done), by repeat (first | exact Drawn0.refl _ | apply Drawn0.step)⟩
    · rw [if_neg c3] at H
      have c3b0 : ((Int.tmod a0 100) == 0) = false := beq_eq_false_iff_ne.mpr c3
      have c3b1 : ((Int.tmod a0 100) != 0) = true := bne_iff_ne.mpr c3
      obtain rfl := Option.some.inj H
      go_enter Tryz.func89, Tryz.ntmps89
      go_wp2
      go_ret
      exact ⟨by first | rfl | (simp; done) | (simp [*]; done), by repeat (first | exact Drawn0.refl _ | apply Drawn0.step)⟩
  · rw [if_neg c2] at H
    have c2b0 : ((Int.tmod a0 4) == 0) = false := beq_eq_false_iff_ne.mpr c2
    have c2b1 : ((Int.tmod a0 4) != 0) = true := bne_iff_ne.mpr c2
    obtain rfl := Option.some.inj H
    go_enter Tryz.func89, Tryz.ntmps89
    go_wp2
    go_ret
    exact ⟨by first | rfl | (simp; done) | (simp [*]; done), by repeat (first | exact Drawn0.refl _ | apply Drawn0.step)⟩


/-! ### digits_Days: function 78 -/
mutual
def digits_Days.j0 : Nat → Int → Int → Bool → Option (Int)
  | 0, _, _, _ => none
  | k + 1, x0, x1, x10 => if x10 = true then (some 0) else (if x1 = 1 then (digits_Days.j1 k x0 x1 (x1 == 1)) else (if x1 = 3 then (digits_Days.j1 k x0 x1 (x1 == 3)) else (if x1 = 5 then (digits_Days.j1 k x0 x1 (x1 == 5)) else (if x1 = 7 then (digits_Days.j1 k x0 x1 (x1 == 7)) else (if x1 = 8 then (digits_Days.j1 k x0 x1 (x1 == 8)) else (if x1 = 10 then (digits_Days.j1 k x0 x1 (x1 == 10)) else (digits_Days.j1 k x0 x1 (x1 == 12))))))))
def digits_Days.j1 : Nat → Int → Int → Bool → Option (Int)
  | 0, _, _, _ => none
  | k + 1, x0, x11, x12 => if x12 = true then (some 31) else (if x11 = 4 then (digits_Days.j2 k x0 x11 (x11 == 4)) else (if x11 = 6 then (digits_Days.j2 k x0 x11 (x11 == 6)) else (if x11 = 9 then (digits_Days.j2 k x0 x11 (x11 == 9)) else (digits_Days.j2 k x0 x11 (x11 == 11)))))
def digits_Days.j2 : Nat → Int → Int → Bool → Option (Int)
  | 0, _, _, _ => none
  | k + 1, x0, x11, x20 => if x20 = true then (some 30) else (if x11 = 2 then ((digits_leap.f x0).bind fun t152 => (if t152 = true then (some 29) else (some 28))) else (some 0))
end
def digits_Days.f (k : Nat) (a0 : Int) (a1 : Int) : Option (Int) := if a0 < 0 then (digits_Days.j0 k a0 a1 true) else (digits_Days.j0 k a0 a1 (decide (a0 > 9999)))
theorem digits_Days.mono_l : ∀ k, (∀ y0 y1 y2, LeO (digits_Days.j0 k y0 y1 y2) (digits_Days.j0 (k + 1) y0 y1 y2)) ∧ (∀ y0 y1 y2, LeO (digits_Days.j1 k y0 y1 y2) (digits_Days.j1 (k + 1) y0 y1 y2)) ∧ (∀ y0 y1 y2, LeO (digits_Days.j2 k y0 y1 y2) (digits_Days.j2 (k + 1) y0 y1 y2))
  | 0 => ⟨fun _ _ _ r h => by simp [digits_Days.j0] at h, fun _ _ _ r h => by simp [digits_Days.j1] at h, fun _ _ _ r h => by simp [digits_Days.j2] at h⟩
  | k + 1 => by
    obtain ⟨ih0, ih1, ih2⟩ := digits_Days.mono_l k
    refine ⟨?_, ?_, ?_⟩
    · intro y0 y1 y2
      unfold digits_Days.j0
      repeat' first
      | (with_reducible exact ih0 _ _ _)
      | (with_reducible exact ih1 _ _ _)
      | (with_reducible exact ih2 _ _ _)
      | (with_reducible exact LeO.refl _)
      | (with_reducible exact LeO.none _)
      | (with_reducible refine LeO.ite ?_ ?_)
      | (with_reducible refine LeO.bind ?_ (fun _ => ?_))
      | exact ih0 _ _ _
      | exact ih1 _ _ _
      | exact ih2 _ _ _
      | exact LeO.none _
      | refine LeO.ite ?_ ?_
      | refine LeO.bind ?_ (fun _ => ?_)
    · intro y0 y1 y2
      unfold digits_Days.j1
      repeat' first
      | (with_reducible exact ih0 _ _ _)
      | (with_reducible exact ih1 _ _ _)
      | (with_reducible exact ih2 _ _ _)
      | (with_reducible exact LeO.refl _)
      | (with_reducible exact LeO.none _)
      | (with_reducible refine LeO.ite ?_ ?_)
      | (with_reducible refine LeO.bind ?_ (fun _ => ?_))
      | exact ih0 _ _ _
      | exact ih1 _ _ _
      | exact ih2 _ _ _
      | exact LeO.none _
      | refine LeO.ite ?_ ?_
      | refine LeO.bind ?_ (fun _ => ?_)
    · intro y0 y1 y2
      unfold digits_Days.j2
      repeat' first
      | (with_reducible exact ih0 _ _ _)
      | (with_reducible exact ih1 _ _ _)
      | (with_reducible exact ih2 _ _ _)
      | (with_reducible exact LeO.refl _)
      | (with_reducible exact LeO.none _)
      | (with_reducible refine LeO.ite ?_ ?_)
      | (with_reducible refine LeO.bind ?_ (fun _ => ?_))
      | exact ih0 _ _ _
      | exact ih1 _ _ _
      | exact ih2 _ _ _
      | exact LeO.none _
      | refine LeO.ite ?_ ?_
      | refine LeO.bind ?_ (fun _ => ?_)
theorem digits_Days.mono : ∀ a0 a1 k, LeO (digits_Days.f k a0 a1) (digits_Days.f (k + 1) a0 a1) := by
  intro a0 a1 k
  obtain ⟨ih0, ih1, ih2⟩ := digits_Days.mono_l k
  unfold digits_Days.f
  repeat' first
      | (with_reducible exact ih0 _ _ _)
      | (with_reducible exact ih1 _ _ _)
      | (with_reducible exact ih2 _ _ _)
      | (with_reducible exact LeO.refl _)
      | (with_reducible exact LeO.none _)
      | (with_reducible refine LeO.ite ?_ ?_)
      | (with_reducible refine LeO.bind ?_ (fun _ => ?_))
      | exact ih0 _ _ _
      | exact ih1 _ _ _
      | exact ih2 _ _ _
      | exact LeO.none _
      | refine LeO.ite ?_ ?_
      | refine LeO.bind ?_ (fun _ => ?_)
set_option maxHeartbeats 8000000 in
set_option maxRecDepth 100000 in
theorem digits_Days.calls (k : Nat) (a0 : Int) (a1 : Int) (r : Int) (w : World) (h : digits_Days.f k a0 a1 = some r) :
    Calls Tryz.prog 78 #[.int .i64 a0, .int .i64 a1] w fun e w' => e = .returned (.int .i64 r) ∧ Drawn0 w w' := by
  have H : (if a0 < 0 then (digits_Days.j0 k a0 a1 true) else (digits_Days.j0 k a0 a1 (decide (a0 > 9999)))) = some r := h
  clear h
  have HC3 := Aside0.mk H
  clear H
  go_enter Tryz.func78, Tryz.ntmps78
  go_upto_region 1 with (fail)
  go_cut [10] (fun v10 wc => ∃ (kq : Nat) (x10_2 : Bool), v10 = .bool x10_2 ∧ Aside0 (digits_Days.j0 kq a0 a1 x10_2 = some r) ∧ Aside0 (kq ≤ k) ∧ Drawn0 w wc)
  case first =>
    have H := HC3.out
    clear HC3
    by_cases c4 : a0 < 0
    · rw [if_pos c4] at H
      have c4b0 : decide (a0 < 0) = true := decide_eq_true c4
      clear c4
      (first | rw [c4b0] | (simp only [i64_w, i32_w]; rw [c4b0]) | skip)
      have H' := Aside0.mk H
      clear H
      go_wp2
      go_meet
      case rel => exact ⟨_, (true), (by first | rfl | (simp; done) | (simp [*]; done)), H', ⟨by first | omega | exact Nat.le_refl _⟩, by repeat (first | exact Drawn0.refl _ | apply Drawn0.step)⟩
    · rw [if_neg c4] at H
      have c4b0 : decide (a0 < 0) = false := decide_eq_false c4
      clear c4
      (first | rw [c4b0] | (simp only [i64_w, i32_w]; rw [c4b0]) | skip)
      have H' := Aside0.mk H
      clear H
      go_wp2
      go_meet
      case rel => exact ⟨_, (decide (a0 > 9999)), (by first | rfl | (simp; done) | (simp [*]; done)), H', ⟨by first | omega | exact Nat.le_refl _⟩, by repeat (first | exact Drawn0.refl _ | apply Drawn0.step)⟩
  case rest =>
    clear HC3
    try clear p2
    try clear c4
    try clear c4b0
    obtain ⟨kq, x10_2, rfl, HA, HJ2, ⟨mc2, rfl⟩⟩ := hcut
    cases kq with
    | zero => exact absurd HA.out (by simp [digits_Days.j0])
    | succ kj2 =>
      have H := HA.out
      clear HA
      simp only [digits_Days.j0] at H
      by_cases c5 : x10_2 = true
      · subst c5
        have H1 : (some 0) = some r := by rw [if_pos rfl] at H; exact H
        clear H
        have H := H1
        clear H1
        obtain rfl := Option.some.inj H
        go_wp2
        go_ret
        exact ⟨by first | rfl | (simp; done) | (simp [*]; done), by repeat (first | exact Drawn0.refl _ | apply Drawn0.step)⟩
      · replace c5 := Bool.eq_false_iff.mpr c5
        subst c5
        have H1 : (if a1 = 1 then (digits_Days.j1 kj2 a0 a1 (a1 == 1)) else (if a1 = 3 then (digits_Days.j1 kj2 a0 a1 (a1 == 3)) else (if a1 = 5 then (digits_Days.j1 kj2 a0 a1 (a1 == 5)) else (if a1 = 7 then (digits_Days.j1 kj2 a0 a1 (a1 == 7)) else (if a1 = 8 then (digits_Days.j1 kj2 a0 a1 (a1 == 8)) else (if a1 = 10 then (digits_Days.j1 kj2 a0 a1 (a1 == 10)) else (digits_Days.j1 kj2 a0 a1 (a1 == 12)))))))) = some r := by rw [if_neg (show ¬ (false = true) by decide)] at H; exact H
        clear H
        have H := H1
        clear H1
        have HC6 := Aside0.mk H
        clear H
        go_upto_if 12 with (fail)
        go_cut [12] (fun v12 wc => ∃ (kq : Nat) (x12_5 : Bool), v12 = .bool x12_5 ∧ Aside0 (digits_Days.j1 kq a0 a1 x12_5 = some r) ∧ Aside0 (kq ≤ kj2) ∧ Drawn0 w wc)
        case first =>
          have H := HC6.out
          clear HC6
          by_cases c7 : a1 = 1
          · rw [if_pos c7] at H
            have c7b0 : (a1 == 1) = true := beq_iff_eq.mpr c7
            have c7b1 : (a1 != 1) = false := bne_eq_false_iff_eq.mpr c7
            clear c7
            (first | rw [c7b0] | (simp only [i64_w, i32_w]; rw [c7b0]) | skip)
            have H' := Aside0.mk H
            clear H
            go_wp2
            go_meet
            case rel => exact ⟨_, ((a1 == 1)), (by first | rfl | (simp; done) | (simp [*]; done)), H', ⟨by have := HJ2.out; first | omega | exact Nat.le_refl _⟩, by repeat (first | exact Drawn0.refl _ | apply Drawn0.step)⟩
          · rw [if_neg c7] at H
            have c7b0 : (a1 == 1) = false := beq_eq_false_iff_ne.mpr c7
            have c7b1 : (a1 != 1) = true := bne_iff_ne.mpr c7
            (first | rw [c7b0] | (simp only [i64_w, i32_w]; rw [c7b0]) | skip)
            by_cases c8 : a1 = 3
            · rw [if_pos c8] at H
              have c8b0 : (a1 == 3) = true := beq_iff_eq.mpr c8
              have c8b1 : (a1 != 3) = false := bne_eq_false_iff_eq.mpr c8
              clear c8
              have H' := Aside0.mk H
              clear H
              go_wp2
              go_meet
              case rel => exact ⟨_, ((a1 == 3)), (by first | rfl | (simp; done) | (simp [*]; done)), H', ⟨by have := HJ2.out; first | omega | exact Nat.le_refl _⟩, by repeat (first | exact Drawn0.refl _ | apply Drawn0.step)⟩
            · rw [if_neg c8] at H
              have c8b0 : (a1 == 3) = false := beq_eq_false_iff_ne.mpr c8
              have c8b1 : (a1 != 3) = true := bne_iff_ne.mpr c8
              by_cases c9 : a1 = 5
              · rw [if_pos c9] at H
                have c9b0 : (a1 == 5) = true := beq_iff_eq.mpr c9
                have c9b1 : (a1 != 5) = false := bne_eq_false_iff_eq.mpr c9
                clear c9
                have H' := Aside0.mk H
                clear H
                go_wp2
                go_meet
                case rel => exact ⟨_, ((a1 == 5)), (by first | rfl | (simp; done) | (simp [*]; done)), H', ⟨by have := HJ2.out; first | omega | exact Nat.le_refl _⟩, by repeat (first | exact Drawn0.refl _ | apply Drawn0.step)⟩
              · rw [if_neg c9] at H
                have c9b0 : (a1 == 5) = false := beq_eq_false_iff_ne.mpr c9
                have c9b1 : (a1 != 5) = true := bne_iff_ne.mpr c9
                by_cases c10 : a1 = 7
                · rw [if_pos c10] at H
                  have c10b0 : (a1 == 7) = true := beq_iff_eq.mpr c10
                  have c10b1 : (a1 != 7) = false := bne_eq_false_iff_eq.mpr c10
                  clear c10
                  have H' := Aside0.mk H
                  clear H
                  go_wp2
                  go_meet
                  case rel => exact ⟨_, ((a1 == 7)), (by first | rfl | (simp; done) | (simp [*]; done)), H', ⟨by have := HJ2.out; first | omega | exact Nat.le_refl _⟩, by repeat (first | exact Drawn0.refl _ | apply Drawn0.step)⟩
                · rw [if_neg c10] at H
                  have c10b0 : (a1 == 7) = false := beq_eq_false_iff_ne.mpr c10
                  have c10b1 : (a1 != 7) = true := bne_iff_ne.mpr c10
                  by_cases c11 : a1 = 8
                  · rw [if_pos c11] at H
                    have c11b0 : (a1 == 8) = true := beq_iff_eq.mpr c11
                    have c11b1 : (a1 != 8) = false := bne_eq_false_iff_eq.mpr c11
                    clear c11
                    have H' := Aside0.mk H
                    clear H
                    go_wp2
                    go_meet
                    case rel => exact ⟨_, ((a1 == 8)), (by first | rfl | (simp; done) | (simp [*]; done)), H', ⟨by have := HJ2.out; first | omega | exact Nat.le_refl _⟩, by repeat (first | exact Drawn0.refl _ | apply Drawn0.step)⟩
                  · rw [if_neg c11] at H
                    have c11b0 : (a1 == 8) = false := beq_eq_false_iff_ne.mpr c11
                    have c11b1 : (a1 != 8) = true := bne_iff_ne.mpr c11
                    by_cases c12 : a1 = 10
                    · rw [if_pos c12] at H
                      have c12b0 : (a1 == 10) = true := beq_iff_eq.mpr c12
                      have c12b1 : (a1 != 10) = false := bne_eq_false_iff_eq.mpr c12
                      clear c12
                      have H' := Aside0.mk H
                      clear H
                      go_wp2
                      go_meet
                      case rel => exact ⟨_, ((a1 == 10)), (by first | rfl | (simp; done) | (simp [*]; done)), H', ⟨by have := HJ2.out; first | omega | exact Nat.le_refl _⟩, by repeat (first | exact Drawn0.refl _ | apply Drawn0.step)⟩
                    · rw [if_neg c12] at H
                      have c12b0 : (a1 == 10) = false := beq_eq_false_iff_ne.mpr c12
                      have c12b1 : (a1 != 10) = true := bne_iff_ne.mpr c12
                      have H' := Aside0.mk H
                      clear H
                      go_wp2
                      go_meet
                      case rel => exact ⟨_, ((a1 == 12)), (by first | rfl | (simp; done) | (simp [*]; done)), H', ⟨by have := HJ2.out; first | omega | exact Nat.le_refl _⟩, by repeat (first | exact Drawn0.refl _ | apply Drawn0.step)⟩
        case rest =>
          clear HC6
          try clear c1
          try clear c2
          try clear p2
          try clear c4
          try clear c4b0
          try clear c5
          try clear c7
          try clear c7b0
          try clear c7b1
          try clear c8
          try clear c8b0
          try clear c8b1
          try clear c9
          try clear c9b0
          try clear c9b1
          try clear c10
          try clear c10b0
          try clear c10b1
          try clear c11
          try clear c11b0
          try clear c11b1
          try clear c12
          try clear c12b0
          try clear c12b1
          try clear p2
          obtain ⟨kq, x12_5, rfl, HA, HJ5, ⟨mc5, rfl⟩⟩ := hcut
          cases kq with
          | zero => exact absurd HA.out (by simp [digits_Days.j1])
          | succ kj5 =>
            have H := HA.out
            clear HA
            simp only [digits_Days.j1] at H
            by_cases c13 : x12_5 = true
            · subst c13
              have H1 : (some 31) = some r := by rw [if_pos rfl] at H; exact H
              clear H
              have H := H1
              clear H1
              obtain rfl := Option.some.inj H
              go_wp2
              go_ret
              exact ⟨by first | rfl | (simp; done) | (simp [*]; done), by repeat (first | exact Drawn0.refl _ | apply Drawn0.step)⟩
            · replace c13 := Bool.eq_false_iff.mpr c13
              subst c13
              have H1 : (if a1 = 4 then (digits_Days.j2 kj5 a0 a1 (a1 == 4)) else (if a1 = 6 then (digits_Days.j2 kj5 a0 a1 (a1 == 6)) else (if a1 = 9 then (digits_Days.j2 kj5 a0 a1 (a1 == 9)) else (digits_Days.j2 kj5 a0 a1 (a1 == 11))))) = some r := by rw [if_neg (show ¬ (false = true) by decide)] at H; exact H
              clear H
              have H := H1
              clear H1
              have HC14 := Aside0.mk H
              clear H
              go_upto_if 20 with (fail)
              go_cut [20] (fun v20 wc => ∃ (kq : Nat) (x20_13 : Bool), v20 = .bool x20_13 ∧ Aside0 (digits_Days.j2 kq a0 a1 x20_13 = some r) ∧ Aside0 (kq ≤ kj5) ∧ Drawn0 w wc)
              case first =>
                have H := HC14.out
                clear HC14
                by_cases c15 : a1 = 4
                · rw [if_pos c15] at H
                  have c15b0 : (a1 == 4) = true := beq_iff_eq.mpr c15
                  have c15b1 : (a1 != 4) = false := bne_eq_false_iff_eq.mpr c15
                  clear c15
                  (first | rw [c15b0] | (simp only [i64_w, i32_w]; rw [c15b0]) | skip)
                  have H' := Aside0.mk H
                  clear H
                  go_wp2
                  go_meet
                  case rel => exact ⟨_, ((a1 == 4)), (by first | rfl | (simp; done) | (simp [*]; done)), H', ⟨by have := HJ2.out; have := HJ5.out; first | omega | exact Nat.le_refl _⟩, by repeat (first | exact Drawn0.refl _ | apply Drawn0.step)⟩
                · rw [if_neg c15] at H
                  have c15b0 : (a1 == 4) = false := beq_eq_false_iff_ne.mpr c15
                  have c15b1 : (a1 != 4) = true := bne_iff_ne.mpr c15
                  (first | rw [c15b0] | (simp only [i64_w, i32_w]; rw [c15b0]) | skip)
                  by_cases c16 : a1 = 6
                  · rw [if_pos c16] at H
                    have c16b0 : (a1 == 6) = true := beq_iff_eq.mpr c16
                    have c16b1 : (a1 != 6) = false := bne_eq_false_iff_eq.mpr c16
                    clear c16
                    have H' := Aside0.mk H
                    clear H
                    go_wp2
                    go_meet
                    case rel => exact ⟨_, ((a1 == 6)), (by first | rfl | (simp; done) | (simp [*]; done)), H', ⟨by have := HJ2.out; have := HJ5.out; first | omega | exact Nat.le_refl _⟩, by repeat (first | exact Drawn0.refl _ | apply Drawn0.step)⟩
                  · rw [if_neg c16] at H
                    have c16b0 : (a1 == 6) = false := beq_eq_false_iff_ne.mpr c16
                    have c16b1 : (a1 != 6) = true := bne_iff_ne.mpr c16
                    by_cases c17 : a1 = 9
                    · rw [if_pos c17] at H
                      have c17b0 : (a1 == 9) = true := beq_iff_eq.mpr c17
                      have c17b1 : (a1 != 9) = false := bne_eq_false_iff_eq.mpr c17
                      clear c17
                      have H' := Aside0.mk H
                      clear H
                      go_wp2
                      go_meet
                      case rel => exact ⟨_, ((a1 == 9)), (by first | rfl | (simp; done) | (simp [*]; done)), H', ⟨by have := HJ2.out; have := HJ5.out; first | omega | exact Nat.le_refl _⟩, by repeat (first | exact Drawn0.refl _ | apply Drawn0.step)⟩
                    · rw [if_neg c17] at H
                      have c17b0 : (a1 == 9) = false := beq_eq_false_iff_ne.mpr c17
                      have c17b1 : (a1 != 9) = true := bne_iff_ne.mpr c17
                      have H' := Aside0.mk H
                      clear H
                      go_wp2
                      go_meet
                      case rel => exact ⟨_, ((a1 == 11)), (by first | rfl | (simp; done) | (simp [*]; done)), H', ⟨by have := HJ2.out; have := HJ5.out; first | omega | exact Nat.le_refl _⟩, by repeat (first | exact Drawn0.refl _ | apply Drawn0.step)⟩
              case rest =>
                clear HC14
                try clear c1
                try clear c2
                try clear p2
                try clear c4
                try clear c4b0
                try clear c5
                try clear c7
                try clear c7b0
                try clear c7b1
                try clear c8
                try clear c8b0
                try clear c8b1
                try clear c9
                try clear c9b0
                try clear c9b1
                try clear c10
                try clear c10b0
                try clear c10b1
                try clear c11
                try clear c11b0
                try clear c11b1
                try clear c12
                try clear c12b0
                try clear c12b1
                try clear c13
                try clear c15
                try clear c15b0
                try clear c15b1
                try clear c16
                try clear c16b0
                try clear c16b1
                try clear c17
                try clear c17b0
                try clear c17b1
                try clear p2
                obtain ⟨kq, x20_13, rfl, HA, HJ13, ⟨mc13, rfl⟩⟩ := hcut
                cases kq with
                | zero => exact absurd HA.out (by simp [digits_Days.j2])
                | succ kj13 =>
                  have H := HA.out
                  clear HA
                  simp only [digits_Days.j2] at H
                  by_cases c18 : x20_13 = true
                  · subst c18
                    have H1 : (some 30) = some r := by rw [if_pos rfl] at H; exact H
                    clear H
                    have H := H1
                    clear H1
                    obtain rfl := Option.some.inj H
                    go_wp2
                    go_ret
                    exact ⟨by first | rfl | (simp; done) | (simp [*]; done), by repeat (first | exact Drawn0.refl _ | apply Drawn0.step)⟩
                  · replace c18 := Bool.eq_false_iff.mpr c18
                    subst c18
                    have H1 : (if a1 = 2 then ((digits_leap.f a0).bind fun t152 => (if t152 = true then (some 29) else (some 28))) else (some 0)) = some r := by rw [if_neg (show ¬ (false = true) by decide)] at H; exact H
                    clear H
                    have H := H1
                    clear H1
                    by_cases c19 : a1 = 2
                    · rw [if_pos c19] at H
                      have c19b0 : (a1 == 2) = true := beq_iff_eq.mpr c19
                      have c19b1 : (a1 != 2) = false := bne_eq_false_iff_eq.mpr c19
                      clear c19
                      replace H := Option.bind_eq_some_iff.mp H
                      obtain ⟨t152, A200, H⟩ := H
                      replace H : (if t152 = true then (some 29) else (some 28)) = some r := H
                      have A20 := Aside0.mk A200
                      clear A200
                      by_cases c21 : t152 = true
                      · subst c21
                        have H1 : (some 29) = some r := by rw [if_pos rfl] at H; exact H
                        clear H
                        have H := H1
                        clear H1
                        obtain rfl := Option.some.inj H
                        go_wp2_with (first | ((with_reducible refine gate_callee (f := 89) rfl ?_); refine goesL_ (some 28) rfl rfl Tryz.func89 (by kernel_rfl) rfl #[.int .i64 a0] rfl (by (try simp only [List.map_toArray, List.map_cons, List.map_nil]); first | done | rfl | (simp only [List.length_drop, List.length_take]; rfl)) ?_; (with_reducible refine (digits_leap.calls a0 true _ A20.out).mono ?_); rintro e w' ⟨rfl, ⟨nd, rfl⟩⟩; refine ⟨_, rfl, ?_⟩))
                        go_ret
                        exact ⟨by first | rfl | (simp; done) | (simp [*]; done), by repeat (first | exact Drawn0.refl _ | apply Drawn0.step)⟩
                      · replace c21 := Bool.eq_false_iff.mpr c21
                        subst c21
                        have H1 : (some 28) = some r := by rw [if_neg (show ¬ (false = true) by decide)] at H; exact H
                        clear H
                        have H := H1
                        clear H1
                        obtain rfl := Option.some.inj H
                        go_wp2_with (first | ((with_reducible refine gate_callee (f := 89) rfl ?_); refine goesL_ (some 28) rfl rfl Tryz.func89 (by kernel_rfl) rfl #[.int .i64 a0] rfl (by (try simp only [List.map_toArray, List.map_cons, List.map_nil]); first | done | rfl | (simp only [List.length_drop, List.length_take]; rfl)) ?_; (with_reducible refine (digits_leap.calls a0 false _ A20.out).mono ?_); rintro e w' ⟨rfl, ⟨nd, rfl⟩⟩; refine ⟨_, rfl, ?_⟩))
                        go_ret
                        exact ⟨by first | rfl | (simp; done) | (simp [*]; done), by repeat (first | exact Drawn0.refl _ | apply Drawn0.step)⟩
                    · rw [if_neg c19] at H
                      have c19b0 : (a1 == 2) = false := beq_eq_false_iff_ne.mpr c19
                      have c19b1 : (a1 != 2) = true := bne_iff_ne.mpr c19
                      obtain rfl := Option.some.inj H
                      go_wp2
                      go_ret
                      exact ⟨by first | rfl | (simp; done) | (simp [*]; done), by repeat (first | exact Drawn0.refl _ | apply Drawn0.step)⟩






/-! ### cashierlaw18_one: function 27 -/
def cashierlaw18_one.f  : Option (ByteArray × ByteArray × ByteArray × ByteArray × ByteArray × Int) := some ((⟨#[52, 49, 49, 49, 49, 49, 49, 49, 49, 49, 49, 49, 49, 49, 49, 49]⟩ : ByteArray), (⟨#[52, 49, 49, 49, 49, 49, 49, 49, 49, 49, 49, 49, 49, 49, 49, 49]⟩ : ByteArray), (⟨#[97, 99, 115]⟩ : ByteArray), (⟨#[50, 46, 49, 46, 48]⟩ : ByteArray), (⟨#[50, 46, 50, 46, 48]⟩ : ByteArray), 1)
set_option maxHeartbeats 8000000 in
set_option maxRecDepth 100000 in
theorem cashierlaw18_one.calls  (r1 : ByteArray) (r2 : ByteArray) (r3 : ByteArray) (r4 : ByteArray) (r5 : ByteArray) (r6 : Int) (w : World) (h : cashierlaw18_one.f  = some (r1, r2, r3, r4, r5, r6)) :
    Calls Tryz.prog 27 #[] w fun e w' => e = .returned (.agg #[.string r1, .string r2, .string r3, .string r4, .string r5, .int .i64 r6]) ∧ Below w.heap.size w w' := by
  have hu23 := Tryz.underlying23
  have HB := Aside0.mk (Below.refl w.heap.size w)
  have H : (some ((⟨#[52, 49, 49, 49, 49, 49, 49, 49, 49, 49, 49, 49, 49, 49, 49, 49]⟩ : ByteArray), (⟨#[52, 49, 49, 49, 49, 49, 49, 49, 49, 49, 49, 49, 49, 49, 49, 49]⟩ : ByteArray), (⟨#[97, 99, 115]⟩ : ByteArray), (⟨#[50, 46, 49, 46, 48]⟩ : ByteArray), (⟨#[50, 46, 50, 46, 48]⟩ : ByteArray), 1)) = some (r1, r2, r3, r4, r5, r6) := h
  clear h
  simp only [Option.some.injEq, Prod.mk.injEq] at H
  obtain ⟨rfl, rfl, rfl, rfl, rfl, rfl⟩ := H
  go_enter Tryz.func27, Tryz.ntmps27
  go_wp2_with (first | ((with_reducible refine gate_dst (N := 0) rfl ?_); refine box_event ?hg (N := 0) ?hd (cs := #[.string (⟨#[]⟩ : ByteArray), .string (⟨#[]⟩ : ByteArray), .string (⟨#[]⟩ : ByteArray), .string (⟨#[]⟩ : ByteArray), .string (⟨#[]⟩ : ByteArray), .int .i64 0]) (t := 23) ?hr ?_; (case hd => rfl); (case hg => rfl); (case hr => first | (go_simp; done) | (go_simp; rfl)); intro gb153 hg w1 hbox hb; have n0_ := Aside0.mk (below_step (by repeat (first | (with_reducible first | exact HB.out | apply below_alloc | apply pw_below_drewN | apply below_drew1) | exact HB.out)) hb); have n1_ := Aside0.mk (hbox); have n2_ := Aside0.mk ((by rw [hg]; exact (below_size (by repeat (first | (with_reducible first | exact HB.out | apply below_alloc | apply pw_below_drewN | apply below_drew1) | exact HB.out))) : w.heap.size ≤ gb153)); have n3_ := Aside0.mk ((by rw [hg]; exact (below_size (by repeat (first | (with_reducible first | exact HB.out | apply below_alloc | apply pw_below_drewN | apply below_drew1) | exact HB.out))) : w.heap.size ≤ gb153)); clear HB; have HB := n0_; have BK153 := n1_; have GW153 := n2_; have GE153 := n3_; clear n0_ n1_ n2_ n3_; clear hb hbox hg; have hcz2_0 : w1.cell? ⟨gb153, 0, none⟩ = some (.string (⟨#[]⟩ : ByteArray)) := (blk_cell BK153.out 0).trans rfl; have hcz2_1 : w1.cell? ⟨gb153, 1, none⟩ = some (.string (⟨#[]⟩ : ByteArray)) := (blk_cell BK153.out 1).trans rfl; have hcz2_2 : w1.cell? ⟨gb153, 2, none⟩ = some (.string (⟨#[]⟩ : ByteArray)) := (blk_cell BK153.out 2).trans rfl; have hcz2_3 : w1.cell? ⟨gb153, 3, none⟩ = some (.string (⟨#[]⟩ : ByteArray)) := (blk_cell BK153.out 3).trans rfl; have hcz2_4 : w1.cell? ⟨gb153, 4, none⟩ = some (.string (⟨#[]⟩ : ByteArray)) := (blk_cell BK153.out 4).trans rfl; have hcz2_5 : w1.cell? ⟨gb153, 5, none⟩ = some (.int .i64 0) := (blk_cell BK153.out 5).trans rfl; have hfz2_0 := blk_frozen BK153.out 0; have hfz2_1 := blk_frozen BK153.out 1; have hfz2_2 := blk_frozen BK153.out 2; have hfz2_3 := blk_frozen BK153.out 3; have hfz2_4 := blk_frozen BK153.out 4; have hfz2_5 := blk_frozen BK153.out 5))
  refine bodyPost_ret (results_cell_row rfl _ _ gb153 23 #[.string (⟨#[52, 49, 49, 49, 49, 49, 49, 49, 49, 49, 49, 49, 49, 49, 49, 49]⟩ : ByteArray), .string (⟨#[52, 49, 49, 49, 49, 49, 49, 49, 49, 49, 49, 49, 49, 49, 49, 49]⟩ : ByteArray), .string (⟨#[97, 99, 115]⟩ : ByteArray), .string (⟨#[50, 46, 49, 46, 48]⟩ : ByteArray), .string (⟨#[50, 46, 50, 46, 48]⟩ : ByteArray), .int .i64 1] (0, 0) _ rfl (by (with_reducible repeat (first | refine blk_drewN ?_ _ | refine blk_drew ?_ | refine blk_alloc ?_ _)); refine blk_put (cs := #[.string (⟨#[52, 49, 49, 49, 49, 49, 49, 49, 49, 49, 49, 49, 49, 49, 49, 49]⟩ : ByteArray), .string (⟨#[52, 49, 49, 49, 49, 49, 49, 49, 49, 49, 49, 49, 49, 49, 49, 49]⟩ : ByteArray), .string (⟨#[97, 99, 115]⟩ : ByteArray), .string (⟨#[50, 46, 49, 46, 48]⟩ : ByteArray), .string (⟨#[50, 46, 50, 46, 48]⟩ : ByteArray), .int .i64 0]) ?_ 5 _ rfl; (with_reducible repeat (first | refine blk_drewN ?_ _ | refine blk_drew ?_ | refine blk_alloc ?_ _)); refine blk_put (cs := #[.string (⟨#[52, 49, 49, 49, 49, 49, 49, 49, 49, 49, 49, 49, 49, 49, 49, 49]⟩ : ByteArray), .string (⟨#[52, 49, 49, 49, 49, 49, 49, 49, 49, 49, 49, 49, 49, 49, 49, 49]⟩ : ByteArray), .string (⟨#[97, 99, 115]⟩ : ByteArray), .string (⟨#[50, 46, 49, 46, 48]⟩ : ByteArray), .string (⟨#[]⟩ : ByteArray), .int .i64 0]) ?_ 4 _ rfl; (with_reducible repeat (first | refine blk_drewN ?_ _ | refine blk_drew ?_ | refine blk_alloc ?_ _)); refine blk_put (cs := #[.string (⟨#[52, 49, 49, 49, 49, 49, 49, 49, 49, 49, 49, 49, 49, 49, 49, 49]⟩ : ByteArray), .string (⟨#[52, 49, 49, 49, 49, 49, 49, 49, 49, 49, 49, 49, 49, 49, 49, 49]⟩ : ByteArray), .string (⟨#[97, 99, 115]⟩ : ByteArray), .string (⟨#[]⟩ : ByteArray), .string (⟨#[]⟩ : ByteArray), .int .i64 0]) ?_ 3 _ rfl; (with_reducible repeat (first | refine blk_drewN ?_ _ | refine blk_drew ?_ | refine blk_alloc ?_ _)); refine blk_put (cs := #[.string (⟨#[52, 49, 49, 49, 49, 49, 49, 49, 49, 49, 49, 49, 49, 49, 49, 49]⟩ : ByteArray), .string (⟨#[52, 49, 49, 49, 49, 49, 49, 49, 49, 49, 49, 49, 49, 49, 49, 49]⟩ : ByteArray), .string (⟨#[]⟩ : ByteArray), .string (⟨#[]⟩ : ByteArray), .string (⟨#[]⟩ : ByteArray), .int .i64 0]) ?_ 2 _ rfl; (with_reducible repeat (first | refine blk_drewN ?_ _ | refine blk_drew ?_ | refine blk_alloc ?_ _)); refine blk_put (cs := #[.string (⟨#[52, 49, 49, 49, 49, 49, 49, 49, 49, 49, 49, 49, 49, 49, 49, 49]⟩ : ByteArray), .string (⟨#[]⟩ : ByteArray), .string (⟨#[]⟩ : ByteArray), .string (⟨#[]⟩ : ByteArray), .string (⟨#[]⟩ : ByteArray), .int .i64 0]) ?_ 1 _ rfl; (with_reducible repeat (first | refine blk_drewN ?_ _ | refine blk_drew ?_ | refine blk_alloc ?_ _)); refine blk_put (cs := #[.string (⟨#[]⟩ : ByteArray), .string (⟨#[]⟩ : ByteArray), .string (⟨#[]⟩ : ByteArray), .string (⟨#[]⟩ : ByteArray), .string (⟨#[]⟩ : ByteArray), .int .i64 0]) ?_ 0 _ rfl; (with_reducible repeat (first | refine blk_drewN ?_ _ | refine blk_drew ?_ | refine blk_alloc ?_ _)); exact BK153.out) Tryz.underlying23 rfl (by kernel_rfl)) rfl ?_
  exact ⟨by first | rfl | (simp [errW_none, errW_some] <;> rfl) | (simp [*, errW_none, errW_some] <;> rfl), by repeat (first | (with_reducible first | exact HB.out | apply below_alloc | apply pw_below_drewN | apply below_drew1 | refine below_set ?_ GE153.out) | exact HB.out)⟩








/-! ### cashierref03_Is: function 31 -/
def cashierref03_Is.l0 : Nat → ByteArray → Int → Option (Bool)
  | 0, _, _ => none
  | k + 1, x0, x3 => if x3 < (x0.size : Int) then (if 0 ≤ x3 then (if (bt x0 x3) < 48 then (some false) else (if (bt x0 x3) > 57 then (some false) else (cashierref03_Is.l0 k x0 (wrap64 (x3 + 1))))) else (none)) else (some (decide ((x0.size : Int) > 0)))
def cashierref03_Is.f (k : Nat) (a0 : ByteArray) : Option (Bool) := cashierref03_Is.l0 k a0 0
theorem cashierref03_Is.mono_l : ∀ k, (∀ y0 y1, LeO (cashierref03_Is.l0 k y0 y1) (cashierref03_Is.l0 (k + 1) y0 y1))
  | 0 => fun _ _ r h => by simp [cashierref03_Is.l0] at h
  | k + 1 => by
    have ih0 := cashierref03_Is.mono_l k
    · intro y0 y1
      unfold cashierref03_Is.l0
      repeat' first
      | (with_reducible exact ih0 _ _)
      | (with_reducible exact LeO.refl _)
      | (with_reducible exact LeO.none _)
      | (with_reducible refine LeO.ite ?_ ?_)
      | (with_reducible refine LeO.bind ?_ (fun _ => ?_))
      | exact ih0 _ _
      | exact LeO.none _
      | refine LeO.ite ?_ ?_
      | refine LeO.bind ?_ (fun _ => ?_)
theorem cashierref03_Is.mono : ∀ a0 k, LeO (cashierref03_Is.f k a0) (cashierref03_Is.f (k + 1) a0) := by
  intro a0 k
  have ih0 := cashierref03_Is.mono_l k
  unfold cashierref03_Is.f
  repeat' first
      | (with_reducible exact ih0 _ _)
      | (with_reducible exact LeO.refl _)
      | (with_reducible exact LeO.none _)
      | (with_reducible refine LeO.ite ?_ ?_)
      | (with_reducible refine LeO.bind ?_ (fun _ => ?_))
      | exact ih0 _ _
      | exact LeO.none _
      | refine LeO.ite ?_ ?_
      | refine LeO.bind ?_ (fun _ => ?_)
set_option maxHeartbeats 8000000 in
set_option maxRecDepth 100000 in
theorem cashierref03_Is.calls (k : Nat) (a0 : ByteArray) (r : Bool) (w : World) (h : cashierref03_Is.f k a0 = some r) :
    Calls Tryz.prog 31 #[.string a0] w fun e w' => e = .returned (.bool r) ∧ Drawn0 w w' := by
  have H : (cashierref03_Is.l0 k a0 0) = some r := h
  clear h
  have H' := Aside0.mk H
  clear H
  go_enter Tryz.func31, Tryz.ntmps31
  go_wp2
  go_loopg [3] k (fun kq v3 w' => ∃ (x3_1 : Int), v3 = .int .i64 x3_1 ∧ Aside0 (cashierref03_Is.l0 kq a0 x3_1 = some r) ∧ Aside0 (kq ≤ k) ∧ Drawn0 w w')
  case atStart => exact ⟨(0), (by first | rfl | (simp; done) | (simp [*]; done)), H', ⟨Nat.le_refl _⟩, by repeat (first | exact Drawn0.refl _ | apply Drawn0.step)⟩
  case round =>
    clear H'
    obtain ⟨x3_1, rfl, HA, HK1, ⟨m1, rfl⟩⟩ := hrel
    cases gk with
    | zero => exact absurd HA.out (by simp [cashierref03_Is.l0])
    | succ k1 =>
      have H := HA.out
      clear HA
      simp only [cashierref03_Is.l0] at H
      by_cases c2 : x3_1 < (a0.size : Int)
      · rw [if_pos c2] at H
        have c2b0 : decide (x3_1 < (a0.size : Int)) = true := decide_eq_true c2
        clear c2
        by_cases c3 : 0 ≤ x3_1
        · rw [if_pos c3] at H
          have c3b0 : decide (0 ≤ x3_1) = true := decide_eq_true c3
          clear c3
          by_cases c5 : (bt a0 x3_1) < 48
          · rw [if_pos c5] at H
            have c5b0 : decide ((bt a0 x3_1) < 48) = true := decide_eq_true c5
            clear c5
            obtain rfl := Option.some.inj H
            have p4 : 0 ≤ (x3_1 : Int) := of_decide_eq_true (by first | (with_reducible assumption) | assumption)
            have q4 : x3_1 < (a0.size : Int) := of_decide_eq_true (by first | (with_reducible assumption) | assumption)
            have hx4 := bt_at a0 x3_1
            replace p4 := eq_true p4
            replace q4 := eq_true q4
            go_wp2
            go_ret
            exact ⟨by first | rfl | (simp; done) | (simp [*]; done), by repeat (first | exact Drawn0.refl _ | apply Drawn0.step)⟩
          · rw [if_neg c5] at H
            have c5b0 : decide ((bt a0 x3_1) < 48) = false := decide_eq_false c5
            clear c5
            by_cases c7 : (bt a0 x3_1) > 57
            · rw [if_pos c7] at H
              have c7b0 : decide (57 < (bt a0 x3_1)) = true := decide_eq_true c7
              clear c7
              obtain rfl := Option.some.inj H
              have p4 : 0 ≤ (x3_1 : Int) := of_decide_eq_true (by first | (with_reducible assumption) | assumption)
              have q4 : x3_1 < (a0.size : Int) := of_decide_eq_true (by first | (with_reducible assumption) | assumption)
              have hx4 := bt_at a0 x3_1
              replace p4 := eq_true p4
              replace q4 := eq_true q4
              have p6 : 0 ≤ (x3_1 : Int) := of_decide_eq_true (by first | (with_reducible assumption) | assumption)
              have q6 : x3_1 < (a0.size : Int) := of_decide_eq_true (by first | (with_reducible assumption) | assumption)
              have hx6 := bt_at a0 x3_1
              replace p6 := eq_true p6
              replace q6 := eq_true q6
              go_wp2
              go_ret
              exact ⟨by first | rfl | (simp; done) | (simp [*]; done), by repeat (first | exact Drawn0.refl _ | apply Drawn0.step)⟩
            · rw [if_neg c7] at H
              have c7b0 : decide (57 < (bt a0 x3_1)) = false := decide_eq_false c7
              clear c7
              have H' := Aside0.mk H
              clear H
              have p4 : 0 ≤ (x3_1 : Int) := of_decide_eq_true (by first | (with_reducible assumption) | assumption)
              have q4 : x3_1 < (a0.size : Int) := of_decide_eq_true (by first | (with_reducible assumption) | assumption)
              have hx4 := bt_at a0 x3_1
              replace p4 := eq_true p4
              replace q4 := eq_true q4
              have p6 : 0 ≤ (x3_1 : Int) := of_decide_eq_true (by first | (with_reducible assumption) | assumption)
              have q6 : x3_1 < (a0.size : Int) := of_decide_eq_true (by first | (with_reducible assumption) | assumption)
              have hx6 := bt_at a0 x3_1
              replace p6 := eq_true p6
              replace q6 := eq_true q6
              go_wp2
              go_roundg k1
              case measure => have := HK1.out; omega
              case rel => exact ⟨(wrap64 (x3_1 + 1)), (by first | rfl | (simp; done) | (simp [*]; done)), H', ⟨by have := HK1.out; omega⟩, by repeat (first | exact Drawn0.refl _ | apply Drawn0.step)⟩
        · rw [if_neg c3] at H
          exact absurd H (by simp)
      · rw [if_neg c2] at H
        have c2b0 : decide (x3_1 < (a0.size : Int)) = false := decide_eq_false c2
        clear c2
        obtain rfl := Option.some.inj H
        go_wp2
        go_ret
        exact ⟨by first | rfl | (simp; done) | (simp [*]; done), by repeat (first | exact Drawn0.refl _ | apply Drawn0.step)⟩


/-! ### cashierref03_Number: function 51 -/
def cashierref03_Number.l0 : Nat → ByteArray → Int → Int → Option (Int × Bool)
  | 0, _, _, _ => none
  | k + 1, x0, x4, x5 => if x5 < (x0.size : Int) then (if 0 ≤ x5 then (if x4 > ((18446744073709551615 - (((bt x0 x5) - 48) % 256)) / 10) then (some (0, false)) else (cashierref03_Number.l0 k x0 (IntKind.u64.wrap ((IntKind.u64.wrap (x4 * 10)) + (((bt x0 x5) - 48) % 256))) (wrap64 (x5 + 1)))) else (none)) else (some (x4, true))
def cashierref03_Number.f (k : Nat) (a0 : ByteArray) : Option (Int × Bool) := cashierref03_Number.l0 k a0 0 0
theorem cashierref03_Number.mono_l : ∀ k, (∀ y0 y1 y2, LeO (cashierref03_Number.l0 k y0 y1 y2) (cashierref03_Number.l0 (k + 1) y0 y1 y2))
  | 0 => fun _ _ _ r h => by simp [cashierref03_Number.l0] at h
  | k + 1 => by
    have ih0 := cashierref03_Number.mono_l k
    · intro y0 y1 y2
      unfold cashierref03_Number.l0
      repeat' first
      | (with_reducible exact ih0 _ _ _)
      | (with_reducible exact LeO.refl _)
      | (with_reducible exact LeO.none _)
      | (with_reducible refine LeO.ite ?_ ?_)
      | (with_reducible refine LeO.bind ?_ (fun _ => ?_))
      | exact ih0 _ _ _
      | exact LeO.none _
      | refine LeO.ite ?_ ?_
      | refine LeO.bind ?_ (fun _ => ?_)
theorem cashierref03_Number.mono : ∀ a0 k, LeO (cashierref03_Number.f k a0) (cashierref03_Number.f (k + 1) a0) := by
  intro a0 k
  have ih0 := cashierref03_Number.mono_l k
  unfold cashierref03_Number.f
  repeat' first
      | (with_reducible exact ih0 _ _ _)
      | (with_reducible exact LeO.refl _)
      | (with_reducible exact LeO.none _)
      | (with_reducible refine LeO.ite ?_ ?_)
      | (with_reducible refine LeO.bind ?_ (fun _ => ?_))
      | exact ih0 _ _ _
      | exact LeO.none _
      | refine LeO.ite ?_ ?_
      | refine LeO.bind ?_ (fun _ => ?_)
set_option maxHeartbeats 8000000 in
set_option maxRecDepth 100000 in
theorem cashierref03_Number.calls (k : Nat) (a0 : ByteArray) (r1 : Int) (r2 : Bool) (w : World) (h : cashierref03_Number.f k a0 = some (r1, r2)) :
    Calls Tryz.prog 51 #[.string a0] w fun e w' => e = .returned (.tuple #[.int .u64 r1, .bool r2]) ∧ Drawn0 w w' := by
  have H : (cashierref03_Number.l0 k a0 0 0) = some (r1, r2) := h
  clear h
  have H' := Aside0.mk H
  clear H
  go_enter Tryz.func51, Tryz.ntmps51
  go_wp2
  go_loopg [4, 5] k (fun kq v4 v5 w' => ∃ (x4_1 : Int) (x5_1 : Int), v4 = .int .u64 x4_1 ∧ v5 = .int .i64 x5_1 ∧ Aside0 (cashierref03_Number.l0 kq a0 x4_1 x5_1 = some (r1, r2)) ∧ Aside0 (kq ≤ k) ∧ Drawn0 w w')
  case atStart => exact ⟨(0), (0), (by first | rfl | (simp; done) | (simp [*]; done)), (by first | rfl | (simp; done) | (simp [*]; done)), H', ⟨Nat.le_refl _⟩, by repeat (first | exact Drawn0.refl _ | apply Drawn0.step)⟩
  case round =>
    clear H'
    obtain ⟨x4_1, x5_1, rfl, rfl, HA, HK1, ⟨m1, rfl⟩⟩ := hrel
    cases gk with
    | zero => exact absurd HA.out (by simp [cashierref03_Number.l0])
    | succ k1 =>
      have H := HA.out
      clear HA
      simp only [cashierref03_Number.l0] at H
      by_cases c2 : x5_1 < (a0.size : Int)
      · rw [if_pos c2] at H
        have c2b0 : decide (x5_1 < (a0.size : Int)) = true := decide_eq_true c2
        clear c2
        by_cases c3 : 0 ≤ x5_1
        · rw [if_pos c3] at H
          have c3b0 : decide (0 ≤ x5_1) = true := decide_eq_true c3
          clear c3
          by_cases c5 : x4_1 > ((18446744073709551615 - (((bt a0 x5_1) - 48) % 256)) / 10)
          · rw [if_pos c5] at H
            have c5b0 : decide (((18446744073709551615 - (((bt a0 x5_1) - 48) % 256)) / 10) < x4_1) = true := decide_eq_true c5
            clear c5
            simp only [Option.some.injEq, Prod.mk.injEq] at H
            obtain ⟨rfl, rfl⟩ := H
            have p4 : 0 ≤ (x5_1 : Int) := of_decide_eq_true (by first | (with_reducible assumption) | assumption)
            have q4 : x5_1 < (a0.size : Int) := of_decide_eq_true (by first | (with_reducible assumption) | assumption)
            have hx4 := bt_at a0 x5_1
            replace p4 := eq_true p4
            replace q4 := eq_true q4
            go_wp2
            go_ret2
            exact ⟨by first | rfl | (simp; done) | (simp [*]; done), by repeat (first | exact Drawn0.refl _ | apply Drawn0.step)⟩
          · rw [if_neg c5] at H
            have c5b0 : decide (((18446744073709551615 - (((bt a0 x5_1) - 48) % 256)) / 10) < x4_1) = false := decide_eq_false c5
            clear c5
            have H' := Aside0.mk H
            clear H
            have p4 : 0 ≤ (x5_1 : Int) := of_decide_eq_true (by first | (with_reducible assumption) | assumption)
            have q4 : x5_1 < (a0.size : Int) := of_decide_eq_true (by first | (with_reducible assumption) | assumption)
            have hx4 := bt_at a0 x5_1
            replace p4 := eq_true p4
            replace q4 := eq_true q4
            go_wp2
            go_roundg k1
            case measure => have := HK1.out; omega
            case rel => exact ⟨(IntKind.u64.wrap ((IntKind.u64.wrap (x4_1 * 10)) + (((bt a0 x5_1) - 48) % 256))), (wrap64 (x5_1 + 1)), (by first | rfl | (simp; done) | (simp [*]; done)), (by first | rfl | (simp; done) | (simp [*]; done)), H', ⟨by have := HK1.out; omega⟩, by repeat (first | exact Drawn0.refl _ | apply Drawn0.step)⟩
        · rw [if_neg c3] at H
          exact absurd H (by simp)
      · rw [if_neg c2] at H
        have c2b0 : decide (x5_1 < (a0.size : Int)) = false := decide_eq_false c2
        clear c2
        simp only [Option.some.injEq, Prod.mk.injEq] at H
        obtain ⟨rfl, rfl⟩ := H
        go_wp2
        go_ret2
        exact ⟨by first | rfl | (simp; done) | (simp [*]; done), by repeat (first | exact Drawn0.refl _ | apply Drawn0.step)⟩


/-! ### cashierref03_Dec: function 52 -/
def cashierref03_Dec.l0 : Nat → Int → ByteArray → Option (ByteArray)
  | 0, _, _ => none
  | k + 1, x0, x3 => (some (([(IntKind.u64.wrap (48 + (Int.tmod x0 10))) % 256] : List Int) : List Int)).bind fun y185 => (if (strOfNums y185).size + x3.size ≤ 9223372036854775807 then (if (IntKind.u64.wrap (Int.tdiv x0 10)) = 0 then (some ((strOfNums y185) ++ x3)) else (cashierref03_Dec.l0 k (IntKind.u64.wrap (Int.tdiv x0 10)) ((strOfNums y185) ++ x3))) else (none))
def cashierref03_Dec.f (k : Nat) (a0 : Int) : Option (ByteArray) := cashierref03_Dec.l0 k a0 (⟨#[]⟩ : ByteArray)
theorem cashierref03_Dec.mono_l : ∀ k, (∀ y0 y1, LeO (cashierref03_Dec.l0 k y0 y1) (cashierref03_Dec.l0 (k + 1) y0 y1))
  | 0 => fun _ _ r h => by simp [cashierref03_Dec.l0] at h
  | k + 1 => by
    have ih0 := cashierref03_Dec.mono_l k
    · intro y0 y1
      unfold cashierref03_Dec.l0
      repeat' first
      | (with_reducible exact ih0 _ _)
      | (with_reducible exact LeO.refl _)
      | (with_reducible exact LeO.none _)
      | (with_reducible refine LeO.ite ?_ ?_)
      | (with_reducible refine LeO.bind ?_ (fun _ => ?_))
      | exact ih0 _ _
      | exact LeO.none _
      | refine LeO.ite ?_ ?_
      | refine LeO.bind ?_ (fun _ => ?_)
theorem cashierref03_Dec.mono : ∀ a0 k, LeO (cashierref03_Dec.f k a0) (cashierref03_Dec.f (k + 1) a0) := by
  intro a0 k
  have ih0 := cashierref03_Dec.mono_l k
  unfold cashierref03_Dec.f
  repeat' first
      | (with_reducible exact ih0 _ _)
      | (with_reducible exact LeO.refl _)
      | (with_reducible exact LeO.none _)
      | (with_reducible refine LeO.ite ?_ ?_)
      | (with_reducible refine LeO.bind ?_ (fun _ => ?_))
      | exact ih0 _ _
      | exact LeO.none _
      | refine LeO.ite ?_ ?_
      | refine LeO.bind ?_ (fun _ => ?_)
set_option maxHeartbeats 8000000 in
set_option maxRecDepth 100000 in
theorem cashierref03_Dec.calls (k : Nat) (a0 : Int) (r : ByteArray) (w : World) (h : cashierref03_Dec.f k a0 = some r) :
    Calls Tryz.prog 52 #[.int .u64 a0] w fun e w' => e = .returned (.string r) ∧ Below w.heap.size w w' := by
  have HB := Aside0.mk (Below.refl w.heap.size w)
  have H : (cashierref03_Dec.l0 k a0 (⟨#[]⟩ : ByteArray)) = some r := h
  clear h
  have H' := Aside0.mk H
  clear H
  go_enter Tryz.func52, Tryz.ntmps52
  go_wp2
  go_loopg [0, 3] k (fun kq v0 v3 w' => ∃ (x0_1 : Int) (x3_1 : ByteArray), v0 = .int .u64 x0_1 ∧ v3 = .string x3_1 ∧ Aside0 (cashierref03_Dec.l0 kq x0_1 x3_1 = some r) ∧ Aside0 (kq ≤ k) ∧ Aside0 (Below w.heap.size w w'))
  case atStart => exact ⟨(a0), ((⟨#[]⟩ : ByteArray)), (by first | rfl | (simp; done) | (simp [*]; done)), (by first | rfl | (simp; done) | (simp [*]; done)), H', ⟨Nat.le_refl _⟩, ⟨by repeat (first | (with_reducible first | exact HB.out | apply below_alloc | apply pw_below_drewN | apply below_drew1) | exact HB.out)⟩⟩
  case round =>
    clear H'
    obtain ⟨x0_1, x3_1, rfl, rfl, HA, HK1, HB⟩ := hrel
    cases gk with
    | zero => exact absurd HA.out (by simp [cashierref03_Dec.l0])
    | succ k1 =>
      have H := HA.out
      clear HA
      simp only [cashierref03_Dec.l0] at H
      obtain ⟨y185, hy185⟩ : ∃ y_ : List Int, y_ = (([(IntKind.u64.wrap (48 + (Int.tmod x0_1 10))) % 256] : List Int)) := ⟨_, rfl⟩
      replace H : (if (strOfNums y185).size + x3_1.size ≤ 9223372036854775807 then (if (IntKind.u64.wrap (Int.tdiv x0_1 10)) = 0 then (some ((strOfNums y185) ++ x3_1)) else (cashierref03_Dec.l0 k1 (IntKind.u64.wrap (Int.tdiv x0_1 10)) ((strOfNums y185) ++ x3_1))) else (none)) = some r := by first | (rw [hy185]; with_reducible exact H) | (have H2_ := (Option.bind_some _ _).symm.trans H; rw [hy185]; with_reducible exact H2_) | (have H2_ := (Option.bind_some _ _).symm.trans H; with_reducible exact H2_) | with_reducible exact H | (rw [hy185]; exact H) | exact H
      have Ny185 := Aside0.mk hy185
      clear hy185
      by_cases c2 : (strOfNums y185).size + x3_1.size ≤ 9223372036854775807
      · rw [if_pos c2] at H
        have c2b0 := eq_true c2
        have c2b1 : decide ((strOfNums y185).size + x3_1.size ≤ 9223372036854775807) = true := decide_eq_true c2
        try have c2b2 : (9223372036854775807 < (strOfNums y185).size + x3_1.size) = False := eq_false (Nat.not_lt.2 c2)
        by_cases c3 : (IntKind.u64.wrap (Int.tdiv x0_1 10)) = 0
        · rw [if_pos c3] at H
          have c3b0 : ((IntKind.u64.wrap (Int.tdiv x0_1 10)) == 0) = true := beq_iff_eq.mpr c3
          have c3b1 : ((IntKind.u64.wrap (Int.tdiv x0_1 10)) != 0) = false := bne_eq_false_iff_eq.mpr c3
          clear c3
          obtain rfl := Option.some.inj H
          go_wp2_with (first | ((with_reducible refine gate_dst (N := 8) rfl ?_); refine Kd.R_lit (Kd.int .u8) _ 5 ?hg (N := 8) ?hd (xs := ([(IntKind.u64.wrap (48 + (Int.tmod x0_1 10))) % 256] : List Int)) (inner := [.int .u8 ((IntKind.u64.wrap (48 + (Int.tmod x0_1 10))) % 256)]) (ok := fun _ => True) (okp := fun _ => True) ?hr ?hp (fun _ hk => hk) trivial (Below.refl _ _) (Nat.le_refl _) (by simp) ?_; (case hd => rfl); (case hg => rfl); (case hr => first | (go_simp; done) | (go_simp; rfl)); (case hp => exact (Reps.one (show Kd.M (Kd.int .u8) _ _ _ ((IntKind.u64.wrap (48 + (Int.tmod x0_1 10))) % 256) [.int .u8 ((IntKind.u64.wrap (48 + (Int.tmod x0_1 10))) % 256)] from rfl) (Reps.none _ _))); intro v186 w4 ho5 hb hg_ hnew_; clear hg_ hnew_; (first | rw [← Ny185.out] at ho5 | (simp only [Int.reduceToNat] at ho5; rw [← Ny185.out] at ho5)); have n0_ := Aside0.mk (Kd.R_lower ho5 (below_size (by repeat (first | (with_reducible first | exact HB.out | apply below_alloc | apply pw_below_drewN | apply below_drew1) | exact HB.out)))); have n1_ := Aside0.mk (below_step (by repeat (first | (with_reducible first | exact HB.out | apply below_alloc | apply pw_below_drewN | apply below_drew1) | exact HB.out)) hb); clear HB; have HO187 := n0_; have HB := n1_; clear n0_ n1_; clear hb ho5; have hcv6 := own_string (P := Tryz.prog) Tryz.underlying98 Tryz.underlying5 Tryz.underlying9 (Kd.own_of_R HO187.out)))
          go_ret
          exact ⟨by first | rfl | (simp [errW_none, errW_some] <;> rfl) | (simp [*, errW_none, errW_some] <;> rfl), by repeat (first | (with_reducible first | exact HB.out | apply below_alloc | apply pw_below_drewN | apply below_drew1) | exact HB.out)⟩
        · rw [if_neg c3] at H
          have c3b0 : ((IntKind.u64.wrap (Int.tdiv x0_1 10)) == 0) = false := beq_eq_false_iff_ne.mpr c3
          have c3b1 : ((IntKind.u64.wrap (Int.tdiv x0_1 10)) != 0) = true := bne_iff_ne.mpr c3
          have H' := Aside0.mk H
          clear H
          go_wp2_with (first | ((with_reducible refine gate_dst (N := 8) rfl ?_); refine Kd.R_lit (Kd.int .u8) _ 5 ?hg (N := 8) ?hd (xs := ([(IntKind.u64.wrap (48 + (Int.tmod x0_1 10))) % 256] : List Int)) (inner := [.int .u8 ((IntKind.u64.wrap (48 + (Int.tmod x0_1 10))) % 256)]) (ok := fun _ => True) (okp := fun _ => True) ?hr ?hp (fun _ hk => hk) trivial (Below.refl _ _) (Nat.le_refl _) (by simp) ?_; (case hd => rfl); (case hg => rfl); (case hr => first | (go_simp; done) | (go_simp; rfl)); (case hp => exact (Reps.one (show Kd.M (Kd.int .u8) _ _ _ ((IntKind.u64.wrap (48 + (Int.tmod x0_1 10))) % 256) [.int .u8 ((IntKind.u64.wrap (48 + (Int.tmod x0_1 10))) % 256)] from rfl) (Reps.none _ _))); intro v186 w7 ho8 hb hg_ hnew_; clear hg_ hnew_; (first | rw [← Ny185.out] at ho8 | (simp only [Int.reduceToNat] at ho8; rw [← Ny185.out] at ho8)); have n0_ := Aside0.mk (Kd.R_lower ho8 (below_size (by repeat (first | (with_reducible first | exact HB.out | apply below_alloc | apply pw_below_drewN | apply below_drew1) | exact HB.out)))); have n1_ := Aside0.mk (below_step (by repeat (first | (with_reducible first | exact HB.out | apply below_alloc | apply pw_below_drewN | apply below_drew1) | exact HB.out)) hb); clear HB; have HO187 := n0_; have HB := n1_; clear n0_ n1_; clear hb ho8; have hcv9 := own_string (P := Tryz.prog) Tryz.underlying98 Tryz.underlying5 Tryz.underlying9 (Kd.own_of_R HO187.out)))
          go_roundg k1
          case measure => have := HK1.out; omega
          case rel => exact ⟨(IntKind.u64.wrap (Int.tdiv x0_1 10)), ((strOfNums y185) ++ x3_1), (by first | rfl | (simp; done) | (simp [*]; done)), (by first | rfl | (simp; done) | (simp [*]; done)), H', ⟨by have := HK1.out; omega⟩, ⟨by repeat (first | (with_reducible first | exact HB.out | apply below_alloc | apply pw_below_drewN | apply below_drew1) | exact HB.out)⟩⟩
      · rw [if_neg c2] at H
        exact absurd H (by simp)


end Go.Proofs.YtiggnmhoececfaaGreatDoor.PRef

namespace Go.Proofs.YtiggnmhoececfaaGreatDoor
set_option linter.unusedVariables false
set_option linter.unusedSimpArgs false
open Go.RowKit Go.Proofs.YtiggnmhoececfaaGreatDoorW.PrintWords

set_option maxRecDepth 100000 in
theorem card_4111 : cardE [52, 49, 49, 49, 49, 49, 49, 49, 49, 49, 49, 49, 49, 49, 49, 49] = 0 := by decide +kernel

theorem text_7 : textL 7 3 = [48, 48, 55] := by
  have h : Lib.decDigits 7 = [55] := by rw [Lib.decDigits, dif_pos (by omega)]; rfl
  unfold textL
  rw [h]
  decide +kernel

set_option maxHeartbeats 800000 in
theorem awake03_any (w : World) (hG : Glob w) :
    Calls Tryz.prog 69 #[] w fun e w' => e = .returned (.bool true) ∧ Below w.heap.size w w' := by
  have h1 := card_any ⟨#[52, 49, 49, 49, 49, 49, 49, 49, 49, 49, 49, 49, 49, 49, 49, 49]⟩ (by decide) w
  rw [show cardE (ByteArray.mk #[52, 49, 49, 49, 49, 49, 49, 49, 49, 49, 49, 49, 49, 49, 49, 49]).data.toList = 0 from card_4111] at h1
  have h2 := fun w1 hG1 => text_any 7 3 (by omega) (by omega) (by omega) w1 hG1
  rw [text_7] at h2
  have h3 := fun w1 => PRef.digits_Days.calls 5 2024 2 29 w1 (by decide +kernel)
  have H1 := Lib.hid h1
  have H2 := Lib.hid h2
  have H3 := Lib.hid h3
  clear h1 h2 h3
  go_enter Tryz.func69, Tryz.ntmps69
  go_wp2_with (first
    | (go_at_call 77; go_must (refine H1.out.mono ?_); rintro e w1 ⟨rfl, hb⟩)
    | (go_at_call 72; go_must (refine (H2.out w1 (hG.below hb)).mono ?_); rintro e w2 ⟨rfl, hb2⟩; have hb3 := below_step hb hb2)
    | (go_at_call 78; go_must (refine (H3.out _).mono ?_); rintro e w3 ⟨rfl, hb4⟩))
  go_ret
  exact ⟨rfl, below_step hb3 hb4.below⟩

theorem Awake03_any (w : World) (hG : Glob w) :
    Calls Tryz.prog 61 #[] w fun e w' => e = .returned (.bool true) ∧ Below w.heap.size w w' := by
  have H1 := Lib.hid (awake03_any w hG)
  go_enter Tryz.func61, Tryz.ntmps61
  go_wp2_with (go_at_call 69; go_must (refine H1.out.mono ?_); rintro e w1 ⟨rfl, hb⟩)
  go_ret
  exact ⟨rfl, hb⟩

end Go.Proofs.YtiggnmhoececfaaGreatDoor

namespace Go.Proofs.YtiggnmhoececfaaGreatDoor
set_option linter.unusedVariables false
set_option linter.unusedSimpArgs false
open Go.RowKit Go.Proofs.YtiggnmhoececfaaGreatDoorW.PrintWords

theorem infoStr : (Tryz.prog.info? 9).map (fun i => (i.zero, i.size, i.bytes)) = some (some (.string ByteArray.empty), 1, 16) := by kernel_rfl

/-- a version's text -/
def verText (a b c : Nat) : Bytes := Lib.join [textL a 0, textL b 0, textL c 0] [46]

theorem text0 (n : Nat) : textL n 0 = Lib.decDigits n := by
  unfold textL
  rw [show (Max.max (Min.min (Max.max (0 : Int) 0) 40 - ((Lib.decDigits n).length : Int)) 0) = 0 by omega]
  rfl
theorem text0_len (n : Nat) (h : n < 18446744073709551616) : (textL n 0).length ≤ 20 := by rw [text0]; exact dec_len n h

set_option maxHeartbeats 1600000 in
set_option maxRecDepth 1000000 in
/-- version.V.Text -/
theorem vtext_any (a b c : Nat) (ha : a < 65536) (hb : b < 65536) (hc : c < 65536) (w : World) (hG : Glob w) :
    Calls Tryz.prog 68 #[.agg #[.int .u16 a, .int .u16 b, .int .u16 c]] w fun e w' => e = .returned (.string ⟨(verText a b c).toArray⟩) ∧ Below w.heap.size w w' := by
  obtain ⟨i0, hi, hz0, hz1, hz2⟩ := info_parts infoStr
  have j0 : ∀ w, (Instr.index 82 (.agg #[.int .u16 a, .int .u16 b, .int .u16 c]) (.int .i64 0)).run Tryz.prog w = .ok (.int .u16 a) w := fun _ => by kernel_rfl
  have j1 : ∀ w, (Instr.index 82 (.agg #[.int .u16 a, .int .u16 b, .int .u16 c]) (.int .i64 1)).run Tryz.prog w = .ok (.int .u16 b) w := fun _ => by kernel_rfl
  have j2 : ∀ w, (Instr.index 82 (.agg #[.int .u16 a, .int .u16 b, .int .u16 c]) (.int .i64 2)).run Tryz.prog w = .ok (.int .u16 c) w := fun _ => by kernel_rfl
  go_enter Tryz.func68, Tryz.ntmps68
  go_wp2
  go_loopw [3, 7] (fun v i wr => ∃ k : Nat, k ≤ 3 ∧ i = .int .i64 k ∧ wr.ownsRow w.heap.size 9 1 v k (strs ([textL a 0, textL b 0, textL c 0].take k)) ∧ Below w.heap.size w wr ) (fun _ i _ => 3 - (intOf i).toNat)
  case atStart => exact ⟨0, by omega, rfl, World.ownsRow_nil _ _ _ _, below_alloc (Below.refl _ _) _⟩
  case round =>
    obtain ⟨k, hk, rfl, hown, hb⟩ := hrel
    have hG1 := hG.below hb
    match k, hk with
    | 0, _ =>
      go_wp2_with (first
        | (go_at_call 72; refine (text_any a 0 (by omega) (by omega) (by omega) _ hG1).mono ?_; rintro e w1 ⟨rfl, hb1⟩; have hb2 := below_step hb hb1; have hown1 := pw_own_below hown hb1)
        | (at_builtin; refine print_append_cells (w0 := w) w.heap.size rfl (.tmp 10) (.tmp 14) 41 9 (.string ByteArray.empty) 1 16 rfl Tryz.underlying41 infoStr rfl (by decide) (by decide) u3 _ _ [.string ⟨(textL a 0).toArray⟩] rfl rfl rfl ?_ hown1 hb2 ?_ ?_ ?_; simp [Value.oneCell']; exact hb2.size; decide; intro v1 w3 hown2 hb3 _ _))
      go_roundw
      case rel => exact ⟨1, by omega, rfl, hown2, hb3⟩
      case measure => simp [intOf]
    | 1, _ =>
      go_wp2_with (first
        | (go_at_call 72; refine (text_any b 0 (by omega) (by omega) (by omega) _ hG1).mono ?_; rintro e w1 ⟨rfl, hb1⟩; have hb2 := below_step hb hb1; have hown1 := pw_own_below hown hb1)
        | (at_builtin; refine print_append_cells (w0 := w) w.heap.size rfl (.tmp 10) (.tmp 14) 41 9 (.string ByteArray.empty) 1 16 rfl Tryz.underlying41 infoStr rfl (by decide) (by decide) u3 _ _ [.string ⟨(textL b 0).toArray⟩] rfl rfl rfl ?_ hown1 hb2 ?_ ?_ ?_; simp [Value.oneCell']; exact hb2.size; decide; intro v1 w3 hown2 hb3 _ _))
      go_roundw
      case rel => exact ⟨2, by omega, rfl, hown2, hb3⟩
      case measure => simp [intOf]
    | 2, _ =>
      go_wp2_with (first
        | (go_at_call 72; refine (text_any c 0 (by omega) (by omega) (by omega) _ hG1).mono ?_; rintro e w1 ⟨rfl, hb1⟩; have hb2 := below_step hb hb1; have hown1 := pw_own_below hown hb1)
        | (at_builtin; refine print_append_cells (w0 := w) w.heap.size rfl (.tmp 10) (.tmp 14) 41 9 (.string ByteArray.empty) 1 16 rfl Tryz.underlying41 infoStr rfl (by decide) (by decide) u3 _ _ [.string ⟨(textL c 0).toArray⟩] rfl rfl rfl ?_ hown1 hb2 ?_ ?_ ?_; simp [Value.oneCell']; exact hb2.size; decide; intro v1 w3 hown2 hb3 _ _))
      go_roundw
      case rel => exact ⟨3, by omega, rfl, hown2, hb3⟩
      case measure => simp [intOf]
    | 3, _ =>
      obtain ⟨A, cp, rfl, hq, hc, hr⟩ := own_strs hown
      clear hq
      have hj := join_any A cp [textL a 0, textL b 0, textL c 0] [46] wr hr hc (by simp) (by
        have := text0_len a (by omega); have := text0_len b (by omega); have := text0_len c (by omega)
        simp [Lib.join, List.intercalate]; omega)
      have HJ := Lib.hid hj; clear hj
      go_wp2_with (go_at_call 76; refine HJ.out.mono ?_; rintro e w1 ⟨rfl, hb1⟩; have hb2 := below_step hb hb1)
      go_ret
      exact ⟨rfl, hb2⟩
/-- A part of a version: a number as it is written. -/
def okPart (t : Bytes) : Bool := isNum t && decide (numOf t ≤ 65535) && (Lib.decDigits (numOf t) == t)
/-- version.Parse: the numbers, if it is one. -/
def verParts (l : Bytes) : Option (List Nat) := if (split1 46 l).length = 3 ∧ (split1 46 l).all okPart = true then some ((split1 46 l).map numOf) else none

theorem number_le {p : Bytes} {n : Nat} (h : number p = (n, 0)) : n ≤ 18446744073709551615 := by
  unfold number at h
  split at h
  · split at h
    · simp at h; omega
    · simp at h
  · simp at h

theorem number_num {p : Bytes} {n : Nat} (h : number p = (n, 0)) : numOf p = n := by
  unfold number at h
  split at h
  · split at h
    · simp at h; exact h
    · simp at h
  · simp at h

theorem okPart_iff (p : Bytes) : okPart p = true ↔ (number p).2 = 0 ∧ (number p).1 ≤ 65535 ∧ textL (number p).1 0 = p := by
  unfold okPart number
  rw [text0]
  by_cases h : isNum p = true
  · rw [if_pos h]
    by_cases h2 : numOf p ≤ 18446744073709551615
    · rw [if_pos h2]; simp [h]
    · rw [if_neg h2]; simp [h]; omega
  · rw [if_neg h]; simp [h]

theorem ver_no {ps : List Bytes} {k : Nat} {p : Bytes} (hp : ps[k]? = some p) (h : ¬ okPart p = true) : ¬ ps.all okPart = true := by
  intro ha
  rw [List.all_eq_true] at ha
  exact h (ha p (List.mem_of_getElem? hp))

def vcells (ps : List Bytes) (k : Nat) : List Value := (List.range 3).map fun j => if j < k then .int .u16 (numOf (ps.getD j [])) else .int .u16 0
theorem vcells_length (ps : List Bytes) (k : Nat) : (vcells ps k).length = 3 := by simp [vcells]
theorem vcells_set (ps : List Bytes) (k : Nat) (hk : k < 3) : (vcells ps k).toArray.setIfInBounds k (.int .u16 (numOf (ps.getD k []))) = (vcells ps (k + 1)).toArray := by
  have : k = 0 ∨ k = 1 ∨ k = 2 := by omega
  rcases this with rfl | rfl | rfl <;> rfl

theorem numOf_wrap (n : Nat) (h : n ≤ 65535) : IntKind.u16.wrap (n : Int) = n := by
  simp [IntKind.wrap, IntKind.bits, IntKind.signed]; omega

def verVal (o : Option (List Nat)) : Value := match o with
  | some [a, b, c] => .tuple #[.agg #[.int .u16 a, .int .u16 b, .int .u16 c], .int .i64 0]
  | _ => .tuple #[.agg #[.int .u16 0, .int .u16 0, .int .u16 0], .int .i64 4]

set_option maxHeartbeats 400000 in
set_option maxRecDepth 1000000 in
/-- version.Parse -/
theorem vparse_any (s : ByteArray) (w : World) (hs : s.size < 4294967281) (hG : Glob w) :
    Calls Tryz.prog 62 #[.string s] w fun e w' => e = .returned (verVal (verParts s.data.toList)) ∧ Below w.heap.size w w' := by
  obtain ⟨ps, hps⟩ : ∃ ps, split1 46 s.data.toList = ps := ⟨_, rfl⟩
  have hsp := fun W hG => split_any s 46 W hs hG
  rw [hps] at hsp
  have HSP := Lib.hid hsp; clear hsp
  have HPS := Lib.hid hps; clear hps
  by_cases h3 : ps.length = 3
  · have h3' : ((ps.length : Int) != 3) = false := by rw [h3]; rfl
    have H3 := Lib.hid h3; clear h3
    have hG1 : ∀ o o', Glob ((w.alloc o).alloc o') := fun o o' => hG.below (below_alloc (below_alloc (Below.refl _ _) _) _)
    go_enter Tryz.func62, Tryz.ntmps62
    go_wp2_with (go_at_call 70; refine (HSP.out _ (hG1 _ _)).mono ?_; rintro e w1 ⟨rfl, rfl⟩)
    go_loopw [18] (fun i wr => ∃ k : Nat, k ≤ 3 ∧ i = .int .i64 k ∧ wr.heap[w.heap.size + 1]? = some (.cells (vcells ps k).toArray 82 (0, 0)) ∧ wr.heap[w.heap.size]? = some (.cells #[.int .u16 0, .int .u16 0, .int .u16 0] 82 (0, 0)) ∧ CellsAt wr (w.heap.size + 1 + 1) (strs ps) ∧ Below w.heap.size w wr ∧ (ps.take k).all okPart = true) (fun i _ => 3 - (intOf i).toNat)
    case atStart =>
      refine ⟨0, by omega, rfl, ?_, ?_, CellsAt.new' (by simp), below_alloc (below_alloc (below_alloc (Below.refl _ _) _) _) _, rfl⟩
      · have := blk_new (w.alloc (.cells #[.int .u16 0, .int .u16 0, .int .u16 0] 82)) (.cells #[.int .u16 0, .int .u16 0, .int .u16 0] 82)
        rw [World.size_alloc] at this
        exact blk_alloc this _
      · exact blk_alloc (blk_alloc (blk_new w _) _) _
    case round =>
      obtain ⟨k, hk, rfl, hb1, hb0, hcs, hbl, hall⟩ := hrel
      have hG2 := hG.below hbl
      by_cases hlt : k < 3
      · obtain ⟨p, hp⟩ : ∃ p, ps[k]? = some p := ⟨ps[k]'(by rw [H3.out]; exact hlt), List.getElem?_eq_getElem _⟩
        have hcell : wr.cell? ⟨w.heap.size + 1 + 1, k, none⟩ = some (.string ⟨p.toArray⟩) := hcs.get (by simp [strs, hp])
        have hps : (⟨p.toArray⟩ : ByteArray).size ≤ 140737488351232 := by
          have h1 := split1_len 46 s.data.toList p (by rw [HPS.out]; exact List.mem_of_getElem? hp)
          have h2 : s.data.toList.length = s.size := by simp
          show p.toArray.size ≤ _
          simp; omega
        have hlk : k < ps.length := by rw [H3.out]; exact hlt
        have hn := number_any ⟨p.toArray⟩
        have hpn : number (⟨p.toArray⟩ : ByteArray).data.toList = number p := rfl
        rw [hpn] at hn
        have hok := okPart_iff p
        by_cases he : (number p).2 = 0
        · obtain ⟨n, hnp⟩ : ∃ n, number p = (n, 0) := ⟨(number p).1, Prod.ext rfl he⟩
          rw [hnp] at hn hok
          have hn64 : n ≤ 18446744073709551615 := number_le hnp
          by_cases hle : n ≤ 65535
          · have htx := text_any n 0 (by omega) (by omega) (by omega)
            by_cases htp : textL n 0 = p
            · have hok' : okPart p = true := hok.2 ⟨rfl, hle, htp⟩
              have hnn : numOf p = n := number_num hnp
              have htp' : (textL n 0 == p) = true := by rw [beq_iff_eq]; exact htp
              have hle' : decide ((65535 : Int) < (n : Int)) = false := by simp; omega
              have hset := vcells_set ps k hlt
              rw [show ps.getD k [] = p by rw [List.getD_eq_getElem?_getD, hp]; rfl, hnn] at hset
              have hwr := numOf_wrap n hle
              have hold : ∃ v, (vcells ps k)[k]? = some v := ⟨_, List.getElem?_eq_getElem (by rw [vcells_length]; exact hlt)⟩
              have hsz : (ps.take (k + 1)).all okPart = true := by
                rw [List.take_succ_eq_append_getElem (by rw [H3.out]; exact hlt), List.all_append, hall]
                have : ps[k]'(by rw [H3.out]; exact hlt) = p := by have := List.getElem?_eq_some_iff.1 hp; exact this.2
                simp [this, hok']
              obtain ⟨v0, hv0⟩ := hold
              have HN := Lib.hid hn
              have HT := Lib.hid htx
              have HSET := Lib.hid hset
              have HALL := Lib.hid hsz
              have HV0 := Lib.hid hv0
              clear hn hpn he hok hnp htx hset hsz hnn htp hall hv0 hok' hp
              go_wp2_with (first
                | (go_at_call 71; go_must (refine (HN.out _ hps hG2).mono ?_); rintro e w1 ⟨rfl, hbw⟩; have hb1' := blk_below hb1 hbw; have hb0' := blk_below hb0 hbw; have hbl' := below_step hbl hbw; have hcs' := hcs.below hbw)
                | (go_at_call 72; go_must (refine (HT.out w1 (hG.below hbl')).mono ?_); rintro e w2 ⟨rfl, hbw2⟩; have hb1'' := blk_below hb1' hbw2; have hb0'' := blk_below hb0' hbw2; have hbl'' := below_step hbl' hbw2; have hcs'' := hcs'.below hbw2; have hc0 : w2.cell? ⟨w.heap.size + 1, k, none⟩ = some v0 := (blk_cell hb1'' k).trans (by simpa using HV0.out); have hf0 := blk_frozen hb1'' k))
              go_roundw
              case rel =>
                refine ⟨k + 1, by omega, by go_num, ?_, ?_, ?_, ?_, HALL.out⟩
                · have := blk_set hb1'' k (.int .u16 (n : Int))
                  rw [HSET.out] at this
                  exact this
                · exact blk_far hb0'' (p := ⟨w.heap.size + 1, k, none⟩) (by simp) _
                · exact hcs''.setCell (p := ⟨w.heap.size + 1, k, none⟩) (by simp) _
                · exact hbl''.setCell (p := ⟨w.heap.size + 1, k, none⟩) (by simp) _
              case measure => simp [intOf]; omega
            · have hv : verVal (verParts s.data.toList) = .tuple #[.agg #[.int .u16 0, .int .u16 0, .int .u16 0], .int .i64 4] := by unfold verParts; rw [HPS.out, if_neg (fun h => ver_no hp (by rw [hok]; intro h; exact htp h.2.2) h.2)]; rfl
              have htp' : (textL n 0 == p) = false := by rw [beq_eq_false_iff_ne]; exact htp
              have HV := Lib.hid hv
              have HN := Lib.hid hn
              have HT := Lib.hid htx; clear hn hpn he hv hok hnp htx
              go_wp2_with (first
                | (go_at_call 71; go_must (refine (HN.out _ hps hG2).mono ?_); rintro e w1 ⟨rfl, hbw⟩; have hb0' := blk_below hb0 hbw; have hbl' := below_step hbl hbw)
                | (go_at_call 72; go_must (refine (HT.out w1 (hG.below hbl')).mono ?_); rintro e w2 ⟨rfl, hbw2⟩; have hb0'' := blk_below hb0' hbw2; have hbl'' := below_step hbl' hbw2)
                | ((with_reducible refine gate_store (t := 82) (p := 2) (v := .tmp 40) rfl ?_); go_must (refine wpList_store_row rfl 82 (.tmp 2) (.tmp 40) rfl w.heap.size #[.int .u16 0, .int .u16 0, .int .u16 0] rfl rfl 82 _ hb0'' rfl rfl (by simp [Value.oneCell']) ?_)))
              refine bodyPost_ret (results_ct (p := 2) (u := 3) (ty := 82) rfl _ _ w.heap.size 82 #[.int .u16 0, .int .u16 0, .int .u16 0] (0, 0) _ rfl (setRow_heap _ _ _ _ _ _ hb0'') Tryz.underlying82 rfl rfl) rfl ⟨by rw [HV.out]; rfl, below_setRow hbl'' (Nat.le_refl _) _⟩
          · have hgt : (65535 : Int) < (n : Int) := by omega
            have hgt' : decide ((65535 : Int) < (n : Int)) = true := by simpa using hgt
            have hv : verVal (verParts s.data.toList) = .tuple #[.agg #[.int .u16 0, .int .u16 0, .int .u16 0], .int .i64 4] := by unfold verParts; rw [HPS.out, if_neg (fun h => ver_no hp (by rw [hok]; intro h; exact hle h.2.1) h.2)]; rfl
            have HV := Lib.hid hv
            have HN := Lib.hid hn; clear hn hpn he hv hok hnp
            go_wp2_with (first
              | (go_at_call 71; go_must (refine (HN.out _ hps hG2).mono ?_); rintro e w1 ⟨rfl, hbw⟩; have hb0' := blk_below hb0 hbw; have hbl' := below_step hbl hbw)
              | ((with_reducible refine gate_store (t := 82) (p := 2) (v := .tmp 40) rfl ?_); go_must (refine wpList_store_row rfl 82 (.tmp 2) (.tmp 40) rfl w.heap.size #[.int .u16 0, .int .u16 0, .int .u16 0] rfl rfl 82 _ hb0' rfl rfl (by simp [Value.oneCell']) ?_)))
            refine bodyPost_ret (results_ct (p := 2) (u := 3) (ty := 82) rfl _ _ w.heap.size 82 #[.int .u16 0, .int .u16 0, .int .u16 0] (0, 0) _ rfl (setRow_heap _ _ _ _ _ _ hb0') Tryz.underlying82 rfl rfl) rfl ⟨by rw [HV.out]; rfl, below_setRow hbl' (Nat.le_refl _) _⟩
        · have he' : ((number p).2 != 0) = true := by rw [bne_iff_ne]; exact he
          have hv : verVal (verParts s.data.toList) = .tuple #[.agg #[.int .u16 0, .int .u16 0, .int .u16 0], .int .i64 4] := by unfold verParts; rw [HPS.out, if_neg (fun h => ver_no hp (by rw [hok]; intro h; exact he h.1) h.2)]; rfl
          have HV := Lib.hid hv
          have HN := Lib.hid hn; clear hn hpn he hv hok
          go_wp2_with (first
            | (go_at_call 71; refine (HN.out _ hps hG2).mono ?_; rintro e w1 ⟨rfl, hbw⟩; have hb0' := blk_below hb0 hbw; have hbl' := below_step hbl hbw)
            | ((with_reducible refine gate_store (t := 82) (p := 2) (v := .tmp 40) rfl ?_); go_must (refine wpList_store_row rfl 82 (.tmp 2) (.tmp 40) rfl w.heap.size #[.int .u16 0, .int .u16 0, .int .u16 0] rfl rfl 82 _ hb0' rfl rfl (by simp [Value.oneCell']) ?_)))
          refine bodyPost_ret (results_ct (p := 2) (u := 3) (ty := 82) rfl _ _ w.heap.size 82 #[.int .u16 0, .int .u16 0, .int .u16 0] (0, 0) _ rfl (setRow_heap _ _ _ _ _ _ hb0') Tryz.underlying82 rfl rfl) rfl ⟨by rw [HV.out]; rfl, below_setRow hbl' (Nat.le_refl _) _⟩
      · obtain rfl : k = 3 := by omega
        have hall' : ps.all okPart = true := by rw [List.take_of_length_le (by rw [H3.out]; exact Nat.le_refl _)] at hall; exact hall
        have hlk : ¬ 3 < ps.length := by rw [H3.out]; omega
        obtain ⟨a, b, c, rfl⟩ : ∃ a b c, ps = [a, b, c] := by
          match ps, H3.out with
          | [a, b, c], _ => exact ⟨a, b, c, rfl⟩
        have hv : verVal (verParts s.data.toList) = .tuple #[.agg #[.int .u16 (numOf a), .int .u16 (numOf b), .int .u16 (numOf c)], .int .i64 0] := by unfold verParts; rw [HPS.out, if_pos ⟨rfl, hall'⟩]; rfl
        have HV := Lib.hid hv
        clear hv hall hall' hcs HSP HPS H3 hlt
        replace hb1 : wr.heap[w.heap.size + 1]? = some (.cells #[.int .u16 (numOf a), .int .u16 (numOf b), .int .u16 (numOf c)] 82 (0, 0)) := hb1
        go_wp2_with (first
          | ((with_reducible refine gate_ (.load 82 (.tmp 4)) rfl ?_); go_must (refine wpList_load_row rfl 82 (.tmp 4) rfl (w.heap.size + 1) rfl 82 _ (0, 0) _ hb1 Tryz.underlying82 rfl rfl ?_))
          | ((with_reducible refine gate_store (t := 82) (p := 2) (v := .tmp 46) rfl ?_); go_must (refine wpList_store_row rfl 82 (.tmp 2) (.tmp 46) rfl w.heap.size #[.int .u16 (numOf a), .int .u16 (numOf b), .int .u16 (numOf c)] rfl rfl 82 _ hb0 rfl rfl (by simp [Value.oneCell']) ?_)))
        refine bodyPost_ret (results_ct (p := 2) (u := 3) (ty := 82) rfl _ _ w.heap.size 82 #[.int .u16 (numOf a), .int .u16 (numOf b), .int .u16 (numOf c)] (0, 0) _ rfl (setRow_heap _ _ _ _ _ _ hb0) Tryz.underlying82 rfl rfl) rfl ⟨by rw [HV.out]; rfl, below_setRow hbl (Nat.le_refl _) _⟩
  · have h3' : ((ps.length : Int) == 3) = false := by rw [beq_eq_false_iff_ne]; omega
    have h4 : ((ps.length : Int) != 3) = true := by rw [bne, h3']; rfl
    have hv : verVal (verParts s.data.toList) = .tuple #[.agg #[.int .u16 0, .int .u16 0, .int .u16 0], .int .i64 4] := by unfold verParts; rw [HPS.out, if_neg (fun h => h3 h.1)]; rfl
    rw [hv]; clear hv
    have hG1 : ∀ o o', Glob ((w.alloc o).alloc o') := fun o o' => hG.below (below_alloc (below_alloc (Below.refl _ _) _) _)
    go_enter Tryz.func62, Tryz.ntmps62
    go_wp2_with (go_at_call 70; refine (HSP.out _ (hG1 _ _)).mono ?_; rintro e w1 ⟨rfl, rfl⟩)
    refine bodyPost_ret (v := .tuple #[.agg #[.int .u16 0, .int .u16 0, .int .u16 0], .int .i64 4]) (by simp [results, Tryz.results62, go_sem]) rfl ⟨rfl, ?_⟩
    exact below_alloc (below_alloc (below_alloc (Below.refl _ _) _) _) _

/-- slices.Compare, by definition -/
def lexc : List Nat → List Nat → Int
  | [], [] => 0
  | [], _ :: _ => -1
  | _ :: _, [] => 1
  | x :: l, y :: r => if x < y then -1 else if y < x then 1 else lexc l r
def cmpN (x y : Nat) : Int := if x < y then -1 else if y < x then 1 else 0

theorem nan_u16 (x : Int) (w : World) : Calls Tryz.prog 83 #[.int .u16 x] w fun e w' => e = .returned (.bool false) ∧ w = w' := by
  have h : (x != x) = false := by simp
  go_enter Tryz.func83, Tryz.ntmps83
  go_wp2
  go_ret
  exact ⟨rfl, rfl⟩

/-- cmp.Compare -/
theorem cmp_u16 (x y : Nat) (w : World) : Calls Tryz.prog 73 #[.int .u16 x, .int .u16 y] w fun e w' => e = .returned (.int .i64 (cmpN x y)) ∧ w = w' := by
  have hx := nan_u16 x w
  have hy := nan_u16 y w
  have HX := Lib.hid hx
  have HY := Lib.hid hy
  clear hx hy
  by_cases a : x < y
  · have hv : cmpN x y = -1 := by unfold cmpN; rw [if_pos a]
    rw [hv]; clear hv
    go_enter Tryz.func73, Tryz.ntmps73
    go_wp2_with fail
    refine HX.out.mono ?_
    rintro e w1 ⟨rfl, rfl⟩
    go_wp2_with fail
    refine HY.out.mono ?_
    rintro e w1 ⟨rfl, rfl⟩
    go_wp2
    go_ret
    exact ⟨rfl, rfl⟩
  · by_cases b : y < x
    · have hv : cmpN x y = 1 := by unfold cmpN; rw [if_neg a, if_pos b]
      rw [hv]; clear hv
      go_enter Tryz.func73, Tryz.ntmps73
      go_wp2_with fail
      refine HX.out.mono ?_
      rintro e w1 ⟨rfl, rfl⟩
      go_wp2_with fail
      refine HY.out.mono ?_
      rintro e w1 ⟨rfl, rfl⟩
      go_wp2
      go_ret
      exact ⟨rfl, rfl⟩
    · have hv : cmpN x y = 0 := by unfold cmpN; rw [if_neg a, if_neg b]
      rw [hv]; clear hv
      go_enter Tryz.func73, Tryz.ntmps73
      go_wp2_with fail
      refine HX.out.mono ?_
      rintro e w1 ⟨rfl, rfl⟩
      go_wp2_with fail
      refine HY.out.mono ?_
      rintro e w1 ⟨rfl, rfl⟩
      go_wp2
      go_ret
      exact ⟨rfl, rfl⟩

def u16s (l : List Nat) : List Value := l.map fun (n : Nat) => Value.int .u16 (n : Int)

set_option maxHeartbeats 800000 in
set_option maxRecDepth 1000000 in
/-- slices.Compare, at numbers in two arrays -/
theorem slices_cmp (l r : List Nat) (b b' c c' : Nat) (w : World) (hl : l.length ≤ 1000) (hr : r.length ≤ 1000) (hcl : CellsAt w b (u16s l)) (hcr : CellsAt w b' (u16s r)) :
    Calls Tryz.prog 63 #[.slice (some ⟨b, 0, none⟩) l.length c, .slice (some ⟨b', 0, none⟩) r.length c'] w fun e w' => e = .returned (.int .i64 (lexc l r)) ∧ w = w' := by
  go_enter Tryz.func63, Tryz.ntmps63
  go_wp2
  go_loop [11] (fun i => ∃ k : Nat, i = .int .i64 k ∧ k ≤ l.length ∧ k ≤ r.length ∧ lexc l r = lexc (l.drop k) (r.drop k)) (fun i => l.length - (intOf i).toNat)
  case atStart => exact ⟨0, rfl, by omega, by omega, rfl⟩
  case round =>
    obtain ⟨k, rfl, hk, hk', hlex⟩ := hrel
    by_cases hlt : k < l.length
    · by_cases hlt' : k < r.length
      · have h1 : w.cell? ⟨b, k, none⟩ = some (.int .u16 (l[k] : Nat)) := hcl.get (by simp [u16s, hlt])
        have h2 : w.cell? ⟨b', k, none⟩ = some (.int .u16 (r[k] : Nat)) := hcr.get (by simp [u16s, hlt'])
        rw [List.drop_eq_getElem_cons hlt, List.drop_eq_getElem_cons hlt', lexc] at hlex
        obtain ⟨x, hx⟩ : ∃ x, l[k] = x := ⟨_, rfl⟩
        obtain ⟨y, hy⟩ : ∃ y, r[k] = y := ⟨_, rfl⟩
        rw [hx] at h1 hlex
        rw [hy] at h2 hlex
        clear hx hy
        have hcmp := cmp_u16 x y w
        by_cases he : cmpN x y = 0
        · have hxy : ¬ x < y ∧ ¬ y < x := by
            unfold cmpN at he
            by_cases p : x < y
            · rw [if_pos p] at he; omega
            · rw [if_neg p] at he
              by_cases q : y < x
              · rw [if_pos q] at he; omega
              · exact ⟨p, q⟩
          rw [if_neg hxy.1, if_neg hxy.2] at hlex
          rw [he] at hcmp
          have HC := Lib.hid hcmp
          have HX := Lib.hid hlex
          clear hcmp hlex he hxy
          go_wp2_with (go_at_call 73; go_must (refine HC.out.mono ?_); rintro e w1 ⟨rfl, rfl⟩)
          go_round
          case rel => exact ⟨k + 1, by go_num, by omega, by omega, HX.out⟩
          case measure => simp [intOf]; omega
        · have hv : lexc l r = cmpN x y := by
            rw [hlex]
            unfold cmpN at he ⊢
            by_cases p : x < y
            · rw [if_pos p, if_pos p]
            · rw [if_neg p, if_neg p] at *
              by_cases q : y < x
              · rw [if_pos q, if_pos q]
              · rw [if_neg q] at he; exact absurd rfl he
          have he' : (cmpN x y != 0) = true := by rw [bne_iff_ne]; exact he
          have HC := Lib.hid hcmp
          have HX := Lib.hid hv
          clear hcmp hlex he hv
          go_wp2_with (go_at_call 73; go_must (refine HC.out.mono ?_); rintro e w1 ⟨rfl, rfl⟩)
          go_ret
          exact ⟨ret_int HX.out.symm, rfl⟩
      · have hv : lexc l r = 1 := by rw [hlex, List.drop_eq_getElem_cons hlt, List.drop_of_length_le (show r.length ≤ k by omega)]; rfl
        have h1 : w.cell? ⟨b, k, none⟩ = some (.int .u16 (l[k] : Nat)) := hcl.get (by simp [u16s, hlt])
        have HX := Lib.hid hv
        clear hlex hv
        go_wp2
        go_ret
        exact ⟨ret_int HX.out.symm, rfl⟩
    · obtain rfl : k = l.length := by omega
      rw [List.drop_of_length_le (Nat.le_refl _)] at hlex
      by_cases h : l.length < r.length
      · have hv : lexc l r = -1 := by rw [hlex, List.drop_eq_getElem_cons h]; rfl
        have HX := Lib.hid hv
        clear hlex hv
        go_wp2
        go_ret
        exact ⟨ret_int HX.out.symm, rfl⟩
      · have hv : lexc l r = 0 := by rw [hlex, List.drop_of_length_le (by omega)]; rfl
        have HX := Lib.hid hv
        clear hlex hv
        go_wp2
        go_ret
        exact ⟨ret_int HX.out.symm, rfl⟩

set_option maxHeartbeats 400000 in
/-- version.Cmp -/
theorem vcmp_any (a b c x y z : Nat) (w : World) :
    Calls Tryz.prog 50 #[.agg #[.int .u16 a, .int .u16 b, .int .u16 c], .agg #[.int .u16 x, .int .u16 y, .int .u16 z]] w fun e w' => e = .returned (.int .i64 (lexc [a, b, c] [x, y, z])) ∧ Below w.heap.size w w' := by
  have hc : ∀ n, Calls Tryz.prog 63 #[.slice (some ⟨w.heap.size, 0, none⟩) 3 3, .slice (some ⟨w.heap.size + 1, 0, none⟩) 3 3] (((w.alloc (.cells #[.int .u16 a, .int .u16 b, .int .u16 c] 82)).alloc (.cells #[.int .u16 x, .int .u16 y, .int .u16 z] 82)).drewN n) fun e w' => e = .returned (.int .i64 (lexc [a, b, c] [x, y, z])) ∧ w' = ((w.alloc (.cells #[.int .u16 a, .int .u16 b, .int .u16 c] 82)).alloc (.cells #[.int .u16 x, .int .u16 y, .int .u16 z] 82)).drewN n := by
    intro n
    refine (slices_cmp [a, b, c] [x, y, z] w.heap.size (w.heap.size + 1) 3 3 _ (by simp) (by simp) ?_ ?_).mono (fun e w' h => ⟨h.1, h.2.symm⟩)
    · exact (((CellsAt.new w (u16s [a, b, c]) _).below (below_alloc (Below.refl _ _) _)).below (pw_below_drewN (Below.refl _ _) n))
    · exact ((CellsAt.new' (l := u16s [x, y, z]) (by simp)).below (pw_below_drewN (Below.refl _ _) n))
  have HC := Lib.hid hc; clear hc
  go_enter Tryz.func50, Tryz.ntmps50
  go_wp2
  go_quiet ((go_at_call 63; exact Calls.quiet_of_same (HC.out _)))
  go_wp2
  go_ret
  exact ⟨rfl, pw_below_drewN (below_alloc (below_alloc (Below.refl _ _) _) _) _⟩

abbrev Ver := { t : Nat × Nat × Nat // t.1 < 65536 ∧ t.2.1 < 65536 ∧ t.2.2 < 65536 }
/-- The version of a text. -/
def verOf (l : Bytes) : Option Ver := match split1 46 l with
  | [a, b, c] => if h : okPart a = true ∧ okPart b = true ∧ okPart c = true then
      some ⟨(numOf a, numOf b, numOf c), by
        obtain ⟨h1, h2, h3⟩ := h
        simp only [okPart, Bool.and_eq_true, decide_eq_true_eq] at h1 h2 h3
        exact ⟨by show numOf a < 65536; omega, by show numOf b < 65536; omega, by show numOf c < 65536; omega⟩⟩
    else none
  | _ => none
def verRes (o : Option Ver) : Value := match o with
  | some v => .tuple #[.agg #[.int .u16 (v.1.1 : Nat), .int .u16 (v.1.2.1 : Nat), .int .u16 (v.1.2.2 : Nat)], .int .i64 0]
  | none => .tuple #[.agg #[.int .u16 0, .int .u16 0, .int .u16 0], .int .i64 4]

theorem verRes_eq (l : Bytes) : verVal (verParts l) = verRes (verOf l) := by
  unfold verParts verOf
  split
  · rename_i h
    obtain ⟨h3, ha⟩ := h
    match hs : split1 46 l, h3 with
    | [a, b, c], _ =>
      rw [hs] at ha
      simp only [List.all_cons, List.all_nil, Bool.and_true, Bool.and_eq_true] at ha
      simp only [hs]
      rw [dif_pos ha]
      rfl
  · rename_i h
    match hs : split1 46 l with
    | [a, b, c] =>
      rw [hs] at h
      simp only [hs]
      rw [dif_neg (fun h2 => h ⟨rfl, by simp [h2.1, h2.2.1, h2.2.2]⟩)]
      rfl
    | [] => simp only [hs]; rfl
    | [_] => simp only [hs]; rfl
    | [_, _] => simp only [hs]; rfl
    | _ :: _ :: _ :: _ :: _ => simp only [hs]; rfl

theorem vparse_of (s : ByteArray) (w : World) (hs : s.size < 4294967281) (hG : Glob w) :
    Calls Tryz.prog 62 #[.string s] w fun e w' => e = .returned (verRes (verOf s.data.toList)) ∧ Below w.heap.size w w' := by
  rw [← verRes_eq]
  exact vparse_any s w hs hG

def verCells (v : Ver) : List Value := [.int .u16 (v.1.1 : Nat), .int .u16 (v.1.2.1 : Nat), .int .u16 (v.1.2.2 : Nat)]
def versCells (vs : List Ver) : List Value := (vs.map verCells).flatten

theorem infoVer : (Tryz.prog.info? 82).map (fun i => (i.zero, i.size, i.bytes)) = some (some (.agg #[.int .u16 0, .int .u16 0, .int .u16 0]), 3, 6) := by kernel_rfl

set_option maxHeartbeats 800000 in
set_option maxRecDepth 1000000 in
/-- version.from, where all are versions -/
theorem from_yes (A : Option Addr) (cp : Nat) (xs : List Bytes) (vs : List Ver) (hv : xs.map verOf = vs.map some) (hn : xs.length ≤ 1000) (hx : ∀ x, x ∈ xs → x.length ≤ 1000000) (hcp : xs.length ≤ cp) (w : World) (hr : ReadsStrs w A xs) (hG : Glob w) :
    Calls Tryz.prog 49 #[.slice A xs.length cp] w fun e w' => ∃ v, e = .returned (.tuple #[v, .bool true]) ∧ w'.ownsRow w.heap.size 82 3 v vs.length (versCells vs) ∧ Below w.heap.size w w' := by
  have hlen : xs.length = vs.length := by have := congrArg List.length hv; simpa using this
  have HV := Lib.hid hv
  have HL := Lib.hid hlen
  clear hv hlen
  go_enter Tryz.func49, Tryz.ntmps49
  go_wp2
  go_loopw [4, 11] (fun v i wr => ∃ k : Nat, k ≤ xs.length ∧ i = .int .i64 k ∧ wr.ownsRow w.heap.size 82 3 v k (versCells (vs.take k)) ∧ Below w.heap.size w wr) (fun _ i _ => xs.length - (intOf i).toNat)
  case atStart => exact ⟨0, by omega, rfl, World.ownsRow_nil _ _ _ _, Below.refl _ _⟩
  case round =>
    obtain ⟨k, hk, rfl, hown, hb⟩ := hrel
    by_cases hlt : k < xs.length
    · have hltv : k < vs.length := by rw [← HL.out]; exact hlt
      obtain ⟨b, o, rfl, hbo, hcell⟩ := (hr.below hb) (fun e => by rw [e] at hlt; exact absurd hlt (by simp))
      have hc := hcell k xs[k] (List.getElem?_eq_getElem hlt)
      have hxl := hx _ (List.getElem_mem hlt)
      obtain ⟨x, hxe⟩ : ∃ x, xs[k] = x := ⟨_, rfl⟩
      obtain ⟨u, hue⟩ : ∃ u, vs[k] = u := ⟨_, rfl⟩
      have hver : verOf x = some u := by
        have := congrArg (fun l => l[k]?) HV.out
        simp only [List.getElem?_map, List.getElem?_eq_getElem hlt, List.getElem?_eq_getElem hltv, Option.map_some, Option.some.injEq] at this
        rw [hxe, hue] at this
        exact this
      rw [hxe] at hc hxl
      have hp := vparse_of ⟨x.toArray⟩ wr (by show x.toArray.size < _; simp; omega) (hG.below hb)
      rw [show (⟨x.toArray⟩ : ByteArray).data.toList = x from rfl, hver] at hp
      have hnext : versCells (vs.take (k + 1)) = versCells (vs.take k) ++ verCells u := by
        rw [List.take_succ_eq_append_getElem hltv, hue]; simp [versCells]
      have HP := Lib.hid hp
      have HX := Lib.hid hnext
      clear hp hnext hver hcell hxe hue
      go_wp2_with (first
        | (go_at_call 62; go_must (refine HP.out.mono ?_); rintro e w1 ⟨rfl, hb1⟩; simp only [verRes]; have hb2 := below_step hb hb1; have hown1 := pw_own_below hown hb1)
        | (at_builtin; go_must (refine print_append_cells (w0 := w) w.heap.size rfl (.tmp 22) (.tmp 24) 76 82 (.agg #[.int .u16 0, .int .u16 0, .int .u16 0]) 3 6 rfl Tryz.underlying76 infoVer rfl (by decide) (by decide) u4 _ _ (verCells u) rfl (by simp only [World.size_alloc]; rfl) rfl ?_ (World.ownsRow.alloc hown1 _) ?_ ?_ ?_ ?_); intro z hz; simp [verCells] at hz; rcases hz with rfl | rfl | rfl <;> rfl; exact below_alloc hb2 _; exact (below_alloc hb2 _).size; omega; intro v1 w3 hown2 hb3 _ _; rw [← HX.out] at hown2))
      go_roundw
      case rel => exact ⟨k + 1, by omega, by go_num, hown2, hb3⟩
      case measure => simp [intOf]; omega
    · obtain rfl : k = xs.length := by omega
      have hown' : wr.ownsRow w.heap.size 82 3 u4 vs.length (versCells vs) := by rw [HL.out, List.take_of_length_le (Nat.le_refl _)] at hown; exact hown
      clear hown
      go_wp2
      go_ret2
      exact ⟨_, rfl, hown', hb⟩

set_option maxHeartbeats 800000 in
set_option maxRecDepth 1000000 in
/-- version.from, where one is no version -/
theorem from_no (A : Option Addr) (cp : Nat) (xs : List Bytes) (j : Nat) (hj : j < xs.length) (hno : verOf xs[j] = none) (hyes : ∀ i (h : i < xs.length), i < j → (verOf xs[i]).isSome = true) (hn : xs.length ≤ 1000) (hx : ∀ x, x ∈ xs → x.length ≤ 1000000) (hcp : xs.length ≤ cp) (w : World) (hr : ReadsStrs w A xs) (hG : Glob w) :
    Calls Tryz.prog 49 #[.slice A xs.length cp] w fun e w' => e = .returned (.tuple #[.slice none 0 0, .bool false]) ∧ Below w.heap.size w w' := by
  have HY := Lib.hid hyes
  have HNO := Lib.hid hno
  clear hyes hno
  go_enter Tryz.func49, Tryz.ntmps49
  go_wp2
  go_loopw [4, 11] (fun v i wr => ∃ (k : Nat) (l : List Value), k ≤ j ∧ i = .int .i64 k ∧ wr.ownsRow w.heap.size 82 3 v k l ∧ Below w.heap.size w wr) (fun _ i _ => xs.length - (intOf i).toNat)
  case atStart => exact ⟨0, [], by omega, rfl, World.ownsRow_nil _ _ _ _, Below.refl _ _⟩
  case round =>
    obtain ⟨k, cl, hk, rfl, hown, hb⟩ := hrel
    have hlt : k < xs.length := by omega
    obtain ⟨b, o, rfl, hbo, hcell⟩ := (hr.below hb) (fun e => by rw [e] at hlt; exact absurd hlt (by simp))
    have hc := hcell k xs[k] (List.getElem?_eq_getElem hlt)
    have hxl := hx _ (List.getElem_mem hlt)
    obtain ⟨x, hxe⟩ : ∃ x, xs[k] = x := ⟨_, rfl⟩
    rw [hxe] at hc hxl
    have hp := vparse_of ⟨x.toArray⟩ wr (by show x.toArray.size < _; simp; omega) (hG.below hb)
    rw [show (⟨x.toArray⟩ : ByteArray).data.toList = x from rfl] at hp
    by_cases hkj : k < j
    · have hy := HY.out k hlt hkj
      rw [hxe] at hy
      obtain ⟨u, hu⟩ := Option.isSome_iff_exists.1 hy
      rw [hu] at hp
      have HP := Lib.hid hp
      clear hp hu hy hcell hxe
      go_wp2_with (first
        | (go_at_call 62; go_must (refine HP.out.mono ?_); rintro e w1 ⟨rfl, hb1⟩; simp only [verRes]; have hb2 := below_step hb hb1; have hown1 := pw_own_below hown hb1)
        | (at_builtin; go_must (refine print_append_cells (w0 := w) w.heap.size rfl (.tmp 22) (.tmp 24) 76 82 (.agg #[.int .u16 0, .int .u16 0, .int .u16 0]) 3 6 rfl Tryz.underlying76 infoVer rfl (by decide) (by decide) u4 _ _ (verCells u) rfl (by simp only [World.size_alloc]; rfl) rfl ?_ (World.ownsRow.alloc hown1 _) ?_ ?_ ?_ ?_); intro z hz; simp [verCells] at hz; rcases hz with rfl | rfl | rfl <;> rfl; exact below_alloc hb2 _; exact (below_alloc hb2 _).size; omega; intro v1 w3 hown2 hb3 _ _))
      go_roundw
      case rel => exact ⟨k + 1, _, by omega, by go_num, hown2, hb3⟩
      case measure => simp [intOf]; omega
    · obtain rfl : k = j := by omega
      rw [show verOf x = none by rw [← hxe]; exact HNO.out] at hp
      have HP := Lib.hid hp
      clear hp hcell hxe
      go_wp2_with (first
        | (go_at_call 62; go_must (refine HP.out.mono ?_); rintro e w1 ⟨rfl, hb1⟩; simp only [verRes]; have hb2 := below_step hb hb1))
      go_ret2
      exact ⟨rfl, below_alloc hb2 _⟩

end Go.Proofs.YtiggnmhoececfaaGreatDoor

namespace Go.Proofs.YtiggnmhoececfaaGreatDoor
set_option linter.unusedVariables false
set_option linter.unusedSimpArgs false
open Go.RowKit Go.Proofs.YtiggnmhoececfaaGreatDoorW.PrintWords

def verList (v : Ver) : List Nat := [v.1.1, v.1.2.1, v.1.2.2]
/-- version.Within -/
def within (x y z : Bytes) : Bool := match verOf x, verOf y, verOf z with
  | some a, some b, some c => decide (0 ≤ lexc (verList a) (verList b)) && decide (lexc (verList a) (verList c) ≤ 0)
  | _, _, _ => false

theorem own_blk {w : World} {base : Nat} {e : TypeId} {size n : Nat} {v : Value} {xs : List Value} (h : w.ownsRow base e size v n xs) (h0 : 0 < n) :
    ∃ g c cs, v = .slice (some ⟨g, 0, none⟩) n c ∧ n ≤ c ∧ base ≤ g ∧ g < w.heap.size ∧ w.heap[g]? = some (.cells cs e (0, 0)) ∧ ∀ j u, xs[j]? = some u → w.cell? ⟨g, j, none⟩ = some u := by
  have hlt := h.lt
  have hcl := fun g hg => h.cells (g := g) hg
  obtain ⟨hl, ⟨rfl, h1⟩ | ⟨g, cap, cur, rfl, hb, hh, hc, hm, hs, hx⟩⟩ := h
  · omega
  · refine ⟨g, cap, cur, rfl, hc, hb, (hlt g rfl).2, hh, fun j u hj => ?_⟩
    have := hcl g rfl j u hj
    rw [Lib.add_plain, Nat.zero_add] at this
    exact this

set_option maxHeartbeats 800000 in
set_option maxRecDepth 1000000 in
theorem within_yes (x y z : Bytes) (a b c : Ver) (ha : verOf x = some a) (hb : verOf y = some b) (hc : verOf z = some c) (hx : x.length ≤ 1000000) (hy : y.length ≤ 1000000) (hz : z.length ≤ 1000000) (w : World) (hG : Glob w) :
    Calls Tryz.prog 30 #[.string ⟨x.toArray⟩, .string ⟨y.toArray⟩, .string ⟨z.toArray⟩] w fun e w' => e = .returned (.bool (within x y z)) ∧ Below w.heap.size w w' := by
  have hw : within x y z = (decide (0 ≤ lexc (verList a) (verList b)) && decide (lexc (verList a) (verList c) ≤ 0)) := by unfold within; rw [ha, hb, hc]
  have hf := from_yes (some ⟨w.heap.size, 0, none⟩) 3 [x, y, z] [a, b, c] (by simp [ha, hb, hc]) (by simp) (by intro s hs; simp at hs; rcases hs with rfl | rfl | rfl <;> assumption) (by simp) (w.alloc (.cells (strs [x, y, z]).toArray 9)) (ReadsStrs.of_cells (CellsAt.new _ _ _)) (hG.below (below_alloc (Below.refl _ _) _))
  have HW := Lib.hid hw
  have HF := Lib.hid hf
  clear hw hf ha hb hc
  go_enter Tryz.func30, Tryz.ntmps30
  go_wp2_with (go_at_call 49; go_must (refine HF.out.mono ?_); rintro e w1 ⟨v, rfl, hown, hb1⟩; obtain ⟨g, cap, cs, rfl, hcap, hgb, hgl, hblk, hcell⟩ := own_blk hown (by simp))
  have k0 := hcell 0 _ rfl
  have k1 := hcell 1 _ rfl
  have k2 := hcell 2 _ rfl
  have k3 := hcell 3 _ rfl
  have k4 := hcell 4 _ rfl
  have k5 := hcell 5 _ rfl
  have k6 := hcell 6 _ rfl
  have k7 := hcell 7 _ rfl
  have k8 := hcell 8 _ rfl
  clear hcell hblk hown
  have q0 := fun d os => cell_regrown k0 d os
  have q1 := fun d os => cell_regrown k1 d os
  have q2 := fun d os => cell_regrown k2 d os
  have q3 := fun d os => cell_regrown k3 d os
  have q4 := fun d os => cell_regrown k4 d os
  have q5 := fun d os => cell_regrown k5 d os
  have q6 := fun d os => cell_regrown k6 d os
  have q7 := fun d os => cell_regrown k7 d os
  have q8 := fun d os => cell_regrown k8 d os
  clear k0 k1 k2 k3 k4 k5 k6 k7 k8
  have hb0 := below_step (below_alloc (Below.refl w.heap.size w) (.cells (strs [x, y, z]).toArray 9)) hb1
  by_cases h1 : 0 ≤ lexc (verList a) (verList b)
  · have h1' : decide (0 ≤ lexc [a.1.1, a.1.2.1, a.1.2.2] [b.1.1, b.1.2.1, b.1.2.2]) = true := decide_eq_true h1
    have hv : within x y z = decide (lexc [a.1.1, a.1.2.1, a.1.2.2] [c.1.1, c.1.2.1, c.1.2.2] ≤ 0) := by rw [HW.out]; unfold verList; rw [h1']; rfl
    have HV := Lib.hid hv
    clear hv HW HF
    refine wp_region_quiet_below (by kernel_rfl) (by kernel_rfl) ?_
    repeat (first | go_big_quiet_step ((go_at_call 50; exact Calls.regrown_of (vcmp_any _ _ _ _ _ _ _))) | quiet_step ((go_at_call 50; exact Calls.regrown_of (vcmp_any _ _ _ _ _ _ _))))
    refine wpQuiet_nil ?_
    intro _ hw'
    obtain ⟨⟨dq, osq⟩, hw''⟩ := hw'
    subst hw''
    go_wp2
    go_ret
    exact ⟨ret_bool HV.out.symm, below_step hb0 (below_regrown _ _ _)⟩
  · have h1' : decide (0 ≤ lexc [a.1.1, a.1.2.1, a.1.2.2] [b.1.1, b.1.2.1, b.1.2.2]) = false := decide_eq_false h1
    have hv : within x y z = false := by rw [HW.out]; unfold verList; rw [h1']; rfl
    have HV := Lib.hid hv
    clear hv HW HF
    refine wp_region_quiet_below (by kernel_rfl) (by kernel_rfl) ?_
    repeat (first | go_big_quiet_step ((go_at_call 50; exact Calls.regrown_of (vcmp_any _ _ _ _ _ _ _))) | quiet_step ((go_at_call 50; exact Calls.regrown_of (vcmp_any _ _ _ _ _ _ _))))
    refine wpQuiet_nil ?_
    intro _ hw'
    obtain ⟨⟨dq, osq⟩, hw''⟩ := hw'
    subst hw''
    go_wp2
    go_ret
    exact ⟨ret_bool HV.out.symm, below_step hb0 (below_regrown _ _ _)⟩

set_option maxHeartbeats 800000 in
set_option maxRecDepth 1000000 in
theorem within_not (x y z : Bytes) (j : Nat) (hj : j < 3) (hno : verOf ([x, y, z][j]) = none) (hyes : ∀ i (h : i < 3), i < j → (verOf ([x, y, z][i])).isSome = true) (hx : x.length ≤ 1000000) (hy : y.length ≤ 1000000) (hz : z.length ≤ 1000000) (w : World) (hG : Glob w) :
    Calls Tryz.prog 30 #[.string ⟨x.toArray⟩, .string ⟨y.toArray⟩, .string ⟨z.toArray⟩] w fun e w' => e = .returned (.bool false) ∧ Below w.heap.size w w' := by
  have hf := from_no (some ⟨w.heap.size, 0, none⟩) 3 [x, y, z] j hj hno hyes (by simp) (by intro s hs; simp at hs; rcases hs with rfl | rfl | rfl <;> assumption) (by simp) (w.alloc (.cells (strs [x, y, z]).toArray 9)) (ReadsStrs.of_cells (CellsAt.new _ _ _)) (hG.below (below_alloc (Below.refl _ _) _))
  have HF := Lib.hid hf
  clear hf hno hyes
  go_enter Tryz.func30, Tryz.ntmps30
  go_wp2_with (go_at_call 49; go_must (refine HF.out.mono ?_); rintro e w1 ⟨rfl, hb1⟩; have hb0 := below_step (below_alloc (Below.refl w.heap.size w) (.cells (strs [x, y, z]).toArray 9)) hb1)
  refine wp_region_quiet_below (by kernel_rfl) (by kernel_rfl) ?_
  repeat (first | go_big_quiet_step (fail) | quiet_step (fail))
  refine wpQuiet_nil ?_
  intro _ hw'
  obtain ⟨⟨dq, osq⟩, hw''⟩ := hw'
  subst hw''
  go_wp2
  go_ret
  exact ⟨rfl, below_step hb0 (below_regrown _ _ _)⟩

/-- version.Within -/
theorem within_any (x y z : Bytes) (hx : x.length ≤ 1000000) (hy : y.length ≤ 1000000) (hz : z.length ≤ 1000000) (w : World) (hG : Glob w) :
    Calls Tryz.prog 30 #[.string ⟨x.toArray⟩, .string ⟨y.toArray⟩, .string ⟨z.toArray⟩] w fun e w' => e = .returned (.bool (within x y z)) ∧ Below w.heap.size w w' := by
  cases ha : verOf x with
  | none =>
    rw [show within x y z = false by unfold within; rw [ha]]
    exact within_not x y z 0 (by omega) ha (fun i _ h => by omega) hx hy hz w hG
  | some a =>
    cases hb : verOf y with
    | none =>
      rw [show within x y z = false by unfold within; rw [ha, hb]]
      refine within_not x y z 1 (by omega) hb (fun i _ h => ?_) hx hy hz w hG
      obtain rfl : i = 0 := by omega
      show (verOf x).isSome = true
      rw [ha]; rfl
    | some b =>
      cases hc : verOf z with
      | none =>
        rw [show within x y z = false by unfold within; rw [ha, hb, hc]]
        refine within_not x y z 2 (by omega) hc (fun i _ h => ?_) hx hy hz w hG
        have : i = 0 ∨ i = 1 := by omega
        rcases this with rfl | rfl
        · show (verOf x).isSome = true
          rw [ha]; rfl
        · show (verOf y).isSome = true
          rw [hb]; rfl
      | some c => exact within_yes x y z a b c ha hb hc hx hy hz w hG

end Go.Proofs.YtiggnmhoececfaaGreatDoor

namespace Go.Proofs.YtiggnmhoececfaaGreatDoor
set_option linter.unusedVariables false
set_option linter.unusedSimpArgs false
open Go.RowKit Go.Shelf Go.Proofs.YtiggnmhoececfaaGreatDoorW.PrintWords
attribute [local go_sem] Oper.semAt_some

def verAgg (x : Ver) : Value := .agg #[.int .u16 (x.1.1 : Nat), .int .u16 (x.1.2.1 : Nat), .int .u16 (x.1.2.2 : Nat)]
def verEnc (x : Ver) : Array Value := #[verAgg x]

/-- The cells of block b hold these versions. -/
def VersAt (W : World) (b : Nat) (zs : List Ver) : Prop := ∃ cs T, W.heap[b]? = some (.cells cs T (0, 0)) ∧ ∀ j (h : j < zs.length), cs[j * 3]? = some (.int .u16 (zs[j].1.1 : Nat)) ∧ cs[j * 3 + 1]? = some (.int .u16 (zs[j].1.2.1 : Nat)) ∧ cs[j * 3 + 2]? = some (.int .u16 (zs[j].1.2.2 : Nat))

theorem VersAt.get {W : World} {b : Nat} {zs : List Ver} (h : VersAt W b zs) (j : Nat) (hj : j < zs.length) :
    W.cell? ⟨b, j * 3, none⟩ = some (.int .u16 (zs[j].1.1 : Nat)) ∧ W.cell? ⟨b, j * 3 + 1, none⟩ = some (.int .u16 (zs[j].1.2.1 : Nat)) ∧ W.cell? ⟨b, j * 3 + 2, none⟩ = some (.int .u16 (zs[j].1.2.2 : Nat)) := by
  obtain ⟨cs, T, hc, hz⟩ := h
  obtain ⟨h0, h1, h2⟩ := hz j hj
  exact ⟨(blk_cell hc _).trans h0, (blk_cell hc _).trans h1, (blk_cell hc _).trans h2⟩

set_option maxRecDepth 100000 in
set_option maxHeartbeats 2000000 in
theorem values1_in (l Bs b cap : Nat) (zs : List Ver) (hreach : zs.length ≤ 1000) (J Jx : List Ver → World → Prop)
    (hY : ∀ pre x W, J pre W → pre.length < zs.length → YieldAt Fence.wide 8 Tryz.prog l (verEnc x) W fun e W' =>
      (e = .returned (.bool true) ∧ J (pre ++ [x]) W' ∧ W'.heap[b]? = W.heap[b]?) ∨ (e = .returned (.bool false) ∧ Jx (pre ++ [x]) W'))
    (hJ : ∀ pre (A B : World), J pre A → Below A.heap.size A B → J pre B)
    (W : World) (hBs : W.cell? ⟨Bs, 0, none⟩ = some (.slice (some ⟨b, 0, none⟩) zs.length cap)) (hc : VersAt W b zs) (h0 : J [] W) :
    CallsIn Fence.wide 9 Tryz.prog 84 #[.func (.yield l) #[] #[], .pointer (some ⟨Bs, 0, none⟩)] W fun e W' => (∃ v, e = .returned v) ∧
      ((∃ ys, ys = zs ∧ J ys W') ∨ (∃ pre, pre <+: zs ∧ Jx pre W')) := by
  refine callsIn_of_wp Tryz.func84 rfl trivial ?_ rfl
  simp only [Tryz.ntmps84, List.size_toArray, List.length_cons, List.length_nil, Nat.reduceAdd, Nat.reduceSub, Array.replicate_succ, Array.replicate_zero, List.push_toArray, List.append_toArray, List.nil_append, List.cons_append]
  gi_wp2
  gi_loopw [7] (fun i wr => ∃ k : Nat, k ≤ zs.length ∧ i = .int .i64 k ∧ J (zs.take k) wr ∧ wr.heap[b]? = W.heap[b]?)
    (fun i _ => zs.length - (intOf i).toNat)
  case atStart => exact ⟨0, Nat.zero_le _, rfl, h0, rfl⟩
  case round =>
    obtain ⟨k, hk, rfl, hJs, hnx⟩ := hrel
    by_cases hlt : k < zs.length
    · have hc' : VersAt wr b zs := by obtain ⟨cs, T, hc1, hz⟩ := hc; exact ⟨cs, T, hnx.trans hc1, hz⟩
      obtain ⟨c0, c1, c2⟩ := hc'.get k hlt
      obtain ⟨fn, tmps, assign, body, hy, hR⟩ := hY (zs.take k) zs[k] (wr.alloc (.cells #[.int .u16 (zs[k].1.1 : Nat), .int .u16 (zs[k].1.2.1 : Nat), .int .u16 (zs[k].1.2.2 : Nat)] 82)) (hJ _ _ _ hJs (below_alloc (Below.refl _ _) _)) (by rw [List.length_take]; omega)
      dsimp only [verEnc, verAgg] at hy
      have hbk : b < wr.heap.size := by obtain ⟨cs, T, hc1, _⟩ := hc'; exact blk_lt hc1
      have HN := Lib.hid hnx
      clear hnx hc hc'
      gi_wp2
      refine hR.mono ?_
      rintro e W3 (⟨rfl, hJ3, hk3⟩ | ⟨rfl, hJx3⟩)
      · have hk4 : W3.heap[b]? = W.heap[b]? := hk3.trans ((Below.heap_alloc _ _ _ hbk).trans HN.out)
        have HK := Lib.hid hk4
        clear hk4 hk3
        have hts : zs.take (k + 1) = zs.take k ++ [zs[k]] := List.take_succ_eq_append_getElem hlt
        have HTS := Lib.hid hts
        clear hts
        gi_wp2
        go_roundw
        case rel => exact ⟨k + 1, by omega, by go_num, by rw [HTS.out]; exact hJ3, HK.out⟩
        case measure => simp [intOf]; omega
      · gi_wp2
        refine bodyPost_ret (results_none rfl _ _ _) rfl ?_
        exact ⟨⟨_, rfl⟩, .inr ⟨_, by rw [← List.take_succ_eq_append_getElem hlt]; exact List.take_prefix _ _, hJx3⟩⟩
    · obtain rfl : k = zs.length := by omega
      rw [List.take_of_length_le (Nat.le_refl _)] at hJs
      clear hnx
      gi_wp2
      go_end0
      exact ⟨⟨_, rfl⟩, .inl ⟨_, rfl, hJs⟩⟩

theorem values_any (a : Option Addr) (len cap : Nat) (w : World) :
    Calls Tryz.prog 75 #[.slice a len cap] w fun e w' => e = .returned (.func (.func 84) #[] #[.pointer (some ⟨w.heap.size, 0, none⟩)]) ∧ w' = w.alloc (.cells #[.slice a len cap] 76) := by
  go_enter Tryz.func75, Tryz.ntmps75
  go_wp2
  go_ret
  exact ⟨rfl, rfl⟩

def knownV : List Ver := [⟨(2, 1, 0), by decide⟩, ⟨(2, 2, 0), by decide⟩]

/-- version.Known: an iterator over two versions -/
theorem known_any (w : World) :
    Calls Tryz.prog 67 #[] w fun e w' => e = .returned (.func (.func 84) #[] #[.pointer (some ⟨w.heap.size + 1, 0, none⟩)]) ∧
      w' = (w.alloc (.cells #[.int .u16 2, .int .u16 1, .int .u16 0, .int .u16 2, .int .u16 2, .int .u16 0] 82)).alloc (.cells #[.slice (some ⟨w.heap.size, 0, none⟩) 2 2] 76) := by
  go_enter Tryz.func67, Tryz.ntmps67
  go_wp2_with (go_at_call 75; go_must (refine (values_any _ _ _ _).mono ?_); rintro e w1 ⟨rfl, rfl⟩)
  go_ret
  exact ⟨by simp, rfl⟩

/-! Blocks of cells, between a loop's rounds -/
theorem ownFrom_blk {β : Type} (B k : Nat) (f : β → Array Value) (T : TypeId) : OwnFrom B (fun s W => W.heap[k]? = some (.cells (f s) T (0, 0))) := fun s A C row hs hg hr =>
  (hg.block k (blk_lt hs) (fun e => by obtain ⟨_, o, ho, hc⟩ := hr k e.symm; rw [hs] at ho; cases ho; cases hc)).trans hs

theorem seq_known (Bs b : Nat) (w0 : World) (hBs : w0.heap[Bs]? = some (.cells #[.slice (some ⟨b, 0, none⟩) 2 2] 76 (0, 0))) (hc : VersAt w0 b knownV) :
    SeqStopsK Fence.wide 9 Tryz.prog 84 #[.pointer (some ⟨Bs, 0, none⟩)] verEnc (fun A B => B.heap[b]? = A.heap[b]?) (fun ys => ys = knownV) (fun pre => pre <+: knownV) 2 w0 := by
  intro l J Jx W hW hJ _ hY h0
  have hbs := hW.block Bs (blk_lt hBs)
  obtain ⟨cs, T, hb, hz⟩ := hc
  have hbb := hW.block b (blk_lt hb)
  exact values1_in l Bs b 2 knownV (by decide) J Jx hY (fun pre A B hj hAB => hJ pre A B none hj (grown_of_below hAB none) (fun r e => by cases e)) W
    (blk_cell (hbs.trans hBs) 0) ⟨cs, T, hbb.trans hb, hz⟩ h0

theorem keepsFrom_below {B : Nat} {W W2 : World} (h : Below W.heap.size W W2) : KeepsFrom B W W2 := ⟨h.size, fun k o _ hk _ => (h.block k (Array.getElem?_eq_some_iff.1 hk).1).trans hk⟩

def bestStep (low high : Bytes) (acc : Bytes) (v : Ver) : Bytes := if within (verText v.1.1 v.1.2.1 v.1.2.2) low high = true then verText v.1.1 v.1.2.1 v.1.2.2 else acc
def bestOf (low high : Bytes) (vs : List Ver) : Bytes := vs.foldl (bestStep low high) []
theorem bestOf_snoc (low high : Bytes) (vs : List Ver) (v : Ver) : bestOf low high (vs ++ [v]) = bestStep low high (bestOf low high vs) v := by simp [bestOf]

theorem verText_len (a b c : Nat) (ha : a < 65536) (hb : b < 65536) (hc : c < 65536) : (verText a b c).length ≤ 1000000 := by
  have h1 := text0_len a (by omega); have h2 := text0_len b (by omega); have h3 := text0_len c (by omega)
  simp [verText, Lib.join, List.intercalate]; omega

set_option maxRecDepth 100000 in
set_option maxHeartbeats 2000000 in
/-- version.Best -/
theorem best_any (low high : Bytes) (hlo : low.length ≤ 1000000) (hh : high.length ≤ 1000000) (w : World) (hG : Glob w) :
    Calls Tryz.prog 60 #[.string ⟨low.toArray⟩, .string ⟨high.toArray⟩] w fun e w' => e = .returned (.tuple #[.string ⟨(bestOf low high knownV).toArray⟩, .bool (!(bestOf low high knownV).isEmpty)]) ∧ Below w.heap.size w w' := by
  refine (callsIn_wide (n := 10)).1 ?_
  refine callsIn_of_wp_marks Tryz.func60 rfl trivial ?_ rfl
  simp only [Tryz.ntmps60, List.size_toArray, List.length_cons, List.length_nil, Nat.reduceAdd, Nat.reduceSub, Array.replicate_succ, Array.replicate_zero, List.push_toArray, List.append_toArray, List.nil_append, List.cons_append]
  gi_wp2_with (refine ⟨trivial, ?_⟩; gi_at_call 67; go_must (refine ((callsIn_wide (n := 9)).2 (known_any _)).mono ?_); rintro e w1 ⟨rfl, hw1⟩; have HW1 := Lib.hid hw1; clear hw1)
  have hw2 : w1 = allocs w [.cells #[.string ⟨low.toArray⟩] 9, .cells #[.string ⟨high.toArray⟩] 9, .cells #[.string ⟨([] : Bytes).toArray⟩] 9, .cells #[.int .u16 2, .int .u16 1, .int .u16 0, .int .u16 2, .int .u16 2, .int .u16 0] 82, .cells #[.slice (some ⟨w.heap.size + 3, 0, none⟩) 2 2] 76] := by
    rw [HW1.out]
    simp only [World.size_alloc]
    rfl
  have hsz : w1.heap.size = w.heap.size + 5 := by rw [hw2, allocs_size]; rfl
  have g2 : w1.heap[w.heap.size]? = some (.cells #[.string ⟨low.toArray⟩] 9 (0, 0)) := by rw [hw2]; exact allocs_get w _ 0 _ rfl
  have g3 : w1.heap[w.heap.size + 1]? = some (.cells #[.string ⟨high.toArray⟩] 9 (0, 0)) := by rw [hw2]; exact allocs_get w _ 1 _ rfl
  have g6 : w1.heap[w.heap.size + 1 + 1]? = some (.cells #[.string ⟨(bestOf low high []).toArray⟩] 9 (0, 0)) := by rw [hw2]; exact allocs_get w _ 2 _ rfl
  have gb : VersAt w1 (w.heap.size + 3) knownV := by
    rw [hw2]
    refine ⟨_, _, allocs_get w _ 3 _ rfl, fun j hj => ?_⟩
    have : j = 0 ∨ j = 1 := by have : j < 2 := hj; omega
    rcases this with rfl | rfl <;> exact ⟨rfl, rfl, rfl⟩
  have gs : w1.heap[w.heap.size + 4]? = some (.cells #[.slice (some ⟨w.heap.size + 3, 0, none⟩) 2 2] 76 (0, 0)) := by rw [hw2]; exact allocs_get w _ 4 _ rfl
  have hbelow : Below w.heap.size w w1 := by rw [hw2]; exact allocs_below _ _
  have hseq := seq_known (w.heap.size + 4) (w.heap.size + 3) w1 gs gb
  clear hw2 HW1 gb gs
  refine wpIn_rangeFunc_ownH rfl (by omega) (gf := 84) (lb := #[.pointer (some ⟨w.heap.size + 4, 0, none⟩)]) rfl trivial (enters_of Tryz.func84 (by kernel_rfl) rfl)
    hseq (fun h k => k.trans h) (fun W l o o' hl ho _ _ => World.putObj_heap_other (by omega)) (Below.refl _ _) (fun _ => rfl)
    (fun pre W => W.heap[w.heap.size + 1 + 1]? = some (.cells #[.string ⟨(bestOf low high pre).toArray⟩] 9 (0, 0)) ∧ W.heap[w.heap.size]? = some (.cells #[.string ⟨low.toArray⟩] 9 (0, 0)) ∧ W.heap[w.heap.size + 1]? = some (.cells #[.string ⟨high.toArray⟩] 9 (0, 0)) ∧ Below w.heap.size w W ∧ w1.heap.size ≤ W.heap.size)
    (fun _ _ _ => False)
    (OwnFrom.and (ownFrom_blk _ _ _ _) (OwnFrom.and (ownFrom_blk _ _ _ _) (OwnFrom.and (ownFrom_blk _ _ _ _) (OwnFrom.and (ownFrom_below (Nat.le_refl _) (by omega)) (fun s A B row hs hg hr => Nat.le_trans hs hg.size)))))
    (fun _ _ _ _ _ hs _ _ => hs)
    ⟨g6, g2, g3, hbelow, Nat.le_refl _⟩
    (fun x a' W => ∃ Bx, w1.heap.size ≤ Bx ∧ W.heap[Bx]? = some (.cells #[.int .u16 (x.1.1 : Nat), .int .u16 (x.1.2.1 : Nat), .int .u16 (x.1.2.2 : Nat)] 82 (0, 0)) ∧ a' = { tmps := #[.string ⟨low.toArray⟩, .string ⟨high.toArray⟩, .pointer (some ⟨w.heap.size, 0, none⟩), .pointer (some ⟨w.heap.size + 1, 0, none⟩), .string ⟨#[]⟩, .bool false, .pointer (some ⟨w.heap.size + 1 + 1, 0, none⟩), .pointer (some ⟨Bx, 0, none⟩), undef, .func (.func 84) #[] #[.pointer (some ⟨w.heap.size + 1 + 1 + 1 + 1, 0, none⟩)], verAgg x, undef, undef, undef, undef, undef, undef, undef, undef, undef, undef], defers := [] })
    (fun x a' s A B row hs hg hr => by
      obtain ⟨Bx, h1, h2, h3⟩ := hs
      exact ⟨Bx, h1, ownFrom_blk _ Bx (fun (_ : Unit) => _) _ () A B row h2 hg hr, h3⟩)
    ?assign ?body ?done ?stop
  case assign =>
    rintro l pre x W K ⟨i6, i2, i3, ib, is⟩ hK
    have e1 : (verEnc x) = #[.agg #[.int .u16 (x.1.1 : Nat), .int .u16 (x.1.2.1 : Nat), .int .u16 (x.1.2.2 : Nat)]] := rfl
    rw [e1]
    clear e1
    have hb3 : w.heap.size + 3 < W.heap.size := by omega
    gi_wp2
    refine hK _ _ ((KeepsOthers.alloc _ _).from _) (Below.heap_alloc _ _ _ hb3) ⟨blk_alloc i6 _, blk_alloc i2 _, blk_alloc i3 _, below_alloc ib _, by simp; omega⟩ ⟨W.heap.size, is, blk_new _ _, rfl⟩
  case body =>
    rintro l pre x a' W hl ⟨r, hr⟩ ⟨i6, i2, i3, ib, is⟩ ⟨Bx, hBx, bX, rfl⟩ hlt
    have hGW := hG.below ib
    have ht := vtext_any x.1.1 x.1.2.1 x.1.2.2 x.2.1 x.2.2.1 x.2.2.2 W hGW
    have hwi := fun W1 => within_any (verText x.1.1 x.1.2.1 x.1.2.2) low high (verText_len _ _ _ x.2.1 x.2.2.1 x.2.2.2) hlo hh W1
    obtain ⟨x0, x1, x2, _, _, _⟩ := blk3 bX
    have hstep := bestOf_snoc low high pre x
    unfold bestStep at hstep
    obtain ⟨tx, htx⟩ : ∃ tx, verText x.1.1 x.1.2.1 x.1.2.2 = tx := ⟨_, rfl⟩
    rw [htx] at ht hwi hstep
    cases hwb : within tx low high with
    | true =>
      rw [hwb, if_pos rfl] at hstep
      rw [hwb] at hwi
      have HT := Lib.hid ht
      have HW := Lib.hid hwi
      have HS := Lib.hid hstep
      clear ht hwi hstep hwb htx hr hlt bX
      gi_wp2_with (first
        | (refine ⟨trivial, ?_⟩; gi_at_call 68; go_must (refine (CallsIn.inRound l ((callsIn_wide (n := 7)).2 HT.out)).mono ?_); rintro e W1 ⟨rfl, hb1⟩; have j2 := blk_cell (blk_below i2 hb1) 0; have j3 := blk_cell (blk_below i3 hb1) 0)
        | (refine ⟨trivial, ?_⟩; gi_at_call 30; go_must (refine (CallsIn.inRound l ((callsIn_wide (n := 7)).2 (HW.out _ (hGW.below hb1)))).mono ?_); rintro e W2 ⟨rfl, hb2⟩; have hb3 := below_step hb1 hb2; have j6 := blk_cell (blk_below i6 hb3) 0; have f6 := blk_frozen (blk_below i6 hb3) 0))
      have hk3 : w.heap.size + 3 < W.heap.size := by omega
      refine ⟨(keepsFrom_below hb3).trans ((KeepsOthers.setCell _ _ _).from _), (Below.heap_setCell _ _ _ _ (by simp)).trans (hb3.block _ hk3), ?_, blk_far (blk_below i2 hb3) (by show w.heap.size ≠ w.heap.size + 1 + 1; omega) _, blk_far (blk_below i3 hb3) (by simp) _, (below_step ib hb3).setCell (by simp; omega) _, ?_⟩
      · have := blk_set (blk_below i6 hb3) 0 (.string ⟨tx.toArray⟩)
        rw [HS.out]
        exact this
      · have := hb3.size
        simp [World.setCell]
        omega
    | false =>
      rw [hwb, if_neg (by decide)] at hstep
      rw [hwb] at hwi
      have HT := Lib.hid ht
      have HW := Lib.hid hwi
      have HS := Lib.hid hstep
      clear ht hwi hstep hwb htx hr hlt bX
      gi_wp2_with (first
        | (refine ⟨trivial, ?_⟩; gi_at_call 68; go_must (refine (CallsIn.inRound l ((callsIn_wide (n := 7)).2 HT.out)).mono ?_); rintro e W1 ⟨rfl, hb1⟩; have j2 := blk_cell (blk_below i2 hb1) 0; have j3 := blk_cell (blk_below i3 hb1) 0)
        | (refine ⟨trivial, ?_⟩; gi_at_call 30; go_must (refine (CallsIn.inRound l ((callsIn_wide (n := 7)).2 (HW.out _ (hGW.below hb1)))).mono ?_); rintro e W2 ⟨rfl, hb2⟩; have hb3 := below_step hb1 hb2; have j6 := blk_cell (blk_below i6 hb3) 0; have f6 := blk_frozen (blk_below i6 hb3) 0))
      have hk3 : w.heap.size + 3 < W.heap.size := by omega
      refine ⟨keepsFrom_below hb3, hb3.block _ hk3, ?_, blk_below i2 hb3, blk_below i3 hb3, below_step ib hb3, ?_⟩
      · rw [HS.out]; exact blk_below i6 hb3
      · have := hb3.size
        omega
  case done =>
    rintro D ys W hD rfl ⟨i6, i2, i3, ib, is⟩ hK
    have j6 := blk_cell i6 0
    obtain ⟨tx, htx⟩ : ∃ tx, bestOf low high knownV = tx := ⟨_, rfl⟩
    have HTX := Lib.hid htx
    rw [htx] at j6
    clear htx i2 i3 i6 hseq
    replace j6 : W.cell? ⟨w.heap.size + 1 + 1, 0, none⟩ = some (.string ⟨tx.toArray⟩) := j6
    gi_wp2
    refine wpIn_wide.2 ?_
    go_quiet (fail)
    gi_wp2
    have hK2 : (W.drewN nq).heap[D]? = some (.deferred (some [])) := hK
    refine ⟨by simp, .inl ⟨_, _, rfl, run_takeDeferred hK2, ?_⟩⟩
    refine ⟨_, results_tmp2 rfl _ _ _, ?_, ?_⟩
    · rw [HTX.out]; rfl
    · exact (pw_below_drewN ib nq).trans (belowK_b (w := w) (Nat.le_refl _) (W.drewN nq) D _ _ (by omega) hK2 rfl rfl)
  case stop =>
    rintro D c pre W _ _ h _
    exact h.elim

end Go.Proofs.YtiggnmhoececfaaGreatDoor

namespace Go.Proofs.YtiggnmhoececfaaGreatDoor
set_option linter.unusedVariables false
set_option linter.unusedSimpArgs false
open Go.RowKit Go.Proofs.YtiggnmhoececfaaGreatDoorW.PrintWords

set_option maxRecDepth 100000 in
theorem best_1 : bestOf [50, 46, 48, 46, 48] [50, 46, 49, 46, 57] knownV = [50, 46, 49, 46, 48] := by decide +kernel

set_option maxHeartbeats 800000 in
theorem awake17_any (w : World) (hG : Glob w) :
    Calls Tryz.prog 48 #[] w fun e w' => e = .returned (.bool true) ∧ Below w.heap.size w w' := by
  have h1 := best_any [50, 46, 48, 46, 48] [50, 46, 49, 46, 57] (by decide) (by decide) w hG
  rw [best_1] at h1
  have h2 := fun w1 hG1 => Awake03_any w1 hG1
  have H1 := Lib.hid h1
  have H2 := Lib.hid h2
  clear h1 h2
  go_enter Tryz.func48, Tryz.ntmps48
  go_wp2_with (first
    | (go_at_call 60; go_must (refine H1.out.mono ?_); rintro e w1 ⟨rfl, hb⟩)
    | (go_at_call 61; go_must (refine (H2.out w1 (hG.below hb)).mono ?_); rintro e w2 ⟨rfl, hb2⟩; have hb3 := below_step hb hb2))
  go_ret
  exact ⟨rfl, hb3⟩

end Go.Proofs.YtiggnmhoececfaaGreatDoor

namespace Go.Proofs.YtiggnmhoececfaaGreatDoor
set_option linter.unusedVariables false
set_option linter.unusedSimpArgs false
open Go.RowKit

/-- bytes in order, spelled out -/
def bl : Bytes → Bytes → Bool
  | _, [] => false
  | [], _ :: _ => true
  | a :: r, b :: s => if a < b then true else if b < a then false else bl r s

theorem bl_eq : ∀ x y : Bytes, Op.bytesLess x y = bl x y
  | [], [] => by simp [Op.bytesLess, bl]
  | _ :: _, [] => by simp [Op.bytesLess, bl]
  | [], _ :: _ => by simp [Op.bytesLess, bl]
  | a :: x, b :: y => by
    rw [Op.bytesLess, bl_eq x y]
    show _ = (if a < b then true else if b < a then false else bl x y)
    by_cases h1 : a < b
    · simp [h1]
    · by_cases h2 : b < a
      · have h3 : a ≠ b := by rintro rfl; exact h1 h2
        simp [h1, h2, h3]
      · have h3 : a = b := by
          rw [← UInt8.toNat_inj]
          rw [UInt8.lt_iff_toNat_lt] at h1 h2
          omega
        subst h3
        simp [h1]

theorem bl_total : ∀ x y : Bytes, bl x y = false → bl y x = false → x = y := by
  intro x
  induction x with
  | nil => intro y h1 h2; cases y with
    | nil => rfl
    | cons b s => simp [bl] at h1
  | cons a r ih =>
    intro y h1 h2
    cases y with
    | nil => simp [bl] at h2
    | cons b s =>
      unfold bl at h1 h2
      by_cases h : a < b
      · rw [if_pos h] at h1; cases h1
      · by_cases h' : b < a
        · rw [if_pos h'] at h2; cases h2
        · rw [if_neg h, if_neg h'] at h1
          rw [if_neg h', if_neg h] at h2
          have hab : a = b := by
            rw [← UInt8.toNat_inj]
            rw [UInt8.lt_iff_toNat_lt] at h h'
            omega
          rw [hab, ih s h1 h2]

theorem bl_asymm : ∀ x y : Bytes, bl x y = true → bl y x = false := by
  intro x
  induction x with
  | nil => intro y h; cases y <;> rfl
  | cons a r ih =>
    intro y h1
    cases y with
    | nil => simp [bl] at h1
    | cons b s =>
      unfold bl at h1 ⊢
      by_cases h : a < b
      · have h' : ¬ b < a := by rw [UInt8.lt_iff_toNat_lt] at h ⊢; omega
        rw [if_neg h', if_pos h]
      · rw [if_neg h] at h1
        by_cases h' : b < a
        · rw [if_pos h'] at h1; cases h1
        · rw [if_neg h'] at h1
          rw [if_neg h', if_neg h]
          exact ih s h1

theorem bl_irrefl : ∀ x : Bytes, bl x x = false := by
  intro x
  induction x with
  | nil => rfl
  | cons a r ih => unfold bl; rw [if_neg (by rw [UInt8.lt_iff_toNat_lt]; omega), if_neg (by rw [UInt8.lt_iff_toNat_lt]; omega)]; exact ih

theorem less_flip {x y : Bytes} (h : Op.bytesLess y x = true) : Op.bytesLess x y = false ∧ (x == y) = false := by
  rw [bl_eq] at h ⊢
  refine ⟨bl_asymm y x h, ?_⟩
  rw [beq_eq_false_iff_ne]
  rintro rfl
  rw [bl_irrefl] at h
  cases h

theorem less_not {x y : Bytes} (h : Op.bytesLess y x = false) : (Op.bytesLess x y = true ∧ (x == y) = false) ∨ (Op.bytesLess x y = false ∧ (x == y) = true) := by
  cases h2 : Op.bytesLess x y with
  | true => exact .inl ⟨rfl, (by
      have := (less_flip (x := y) (y := x) h2).2
      rw [beq_eq_false_iff_ne] at this ⊢
      exact fun e => this e.symm)⟩
  | false =>
    rw [bl_eq] at h h2
    exact .inr ⟨rfl, by rw [bl_total x y h2 h]; exact beq_self_eq_true _⟩

end Go.Proofs.YtiggnmhoececfaaGreatDoor

namespace Go.Proofs.YtiggnmhoececfaaGreatDoor.PRef
open Go.Proofs.YtiggnmhoececfaaGreatDoor.PRangesTurn
open Go.RowKit Go.Proofs.YtiggnmhoececfaaGreatDoorW.PrintWords Go.Proofs.YtiggnmhoececfaaGreatDoorW.PrintLast Go.Proofs.YtiggnmhoececfaaGreatDoorW.PrintMore
attribute [local go_sem] max2_int min2_int max_two min_two max_three min_three max_four min_four   -- for this text's walks alone
set_option linter.unusedVariables false
set_option linter.unusedSimpArgs false

/-! ### ranges_named: function 29 -/
def ranges_named.l0 : Nat → ByteArray → Int → Int → Option (Bool)
  | 0, _, _, _ => none
  | k + 1, x0, x5, x6 => if x6 < x5 then (if 0 ≤ x6 then (if x6 < (x0.size : Int) then (if (bt x0 x6) < 33 then (some false) else (if (bt x0 x6) > 126 then (some false) else (ranges_named.l0 k x0 x5 (wrap64 (x6 + 1))))) else (none)) else (none)) else (if x0.toList = ([] : List UInt8) then (some false) else (some (decide ((x0.size : Int) ≤ 32))))
def ranges_named.f (k : Nat) (a0 : ByteArray) : Option (Bool) := ranges_named.l0 k a0 (a0.size : Int) 0
theorem ranges_named.mono_l : ∀ k, (∀ y0 y1 y2, LeO (ranges_named.l0 k y0 y1 y2) (ranges_named.l0 (k + 1) y0 y1 y2))
  | 0 => fun _ _ _ r h => by simp [ranges_named.l0] at h
  | k + 1 => by
    have ih0 := ranges_named.mono_l k
    · intro y0 y1 y2
      unfold ranges_named.l0
      repeat' first
      | (with_reducible exact ih0 _ _ _)
      | (with_reducible exact LeO.refl _)
      | (with_reducible exact LeO.none _)
      | (with_reducible refine LeO.ite ?_ ?_)
      | (with_reducible refine LeO.bind ?_ (fun _ => ?_))
      | exact ih0 _ _ _
      | exact LeO.none _
      | refine LeO.ite ?_ ?_
      | refine LeO.bind ?_ (fun _ => ?_)
theorem ranges_named.mono : ∀ a0 k, LeO (ranges_named.f k a0) (ranges_named.f (k + 1) a0) := by
  intro a0 k
  have ih0 := ranges_named.mono_l k
  unfold ranges_named.f
  repeat' first
      | (with_reducible exact ih0 _ _ _)
      | (with_reducible exact LeO.refl _)
      | (with_reducible exact LeO.none _)
      | (with_reducible refine LeO.ite ?_ ?_)
      | (with_reducible refine LeO.bind ?_ (fun _ => ?_))
      | exact ih0 _ _ _
      | exact LeO.none _
      | refine LeO.ite ?_ ?_
      | refine LeO.bind ?_ (fun _ => ?_)
set_option maxHeartbeats 8000000 in
set_option maxRecDepth 100000 in
theorem ranges_named.calls (k : Nat) (a0 : ByteArray) (r : Bool) (w : World) (h : ranges_named.f k a0 = some r) :
    Calls Tryz.prog 29 #[.string a0] w fun e w' => e = .returned (.bool r) ∧ Drawn0 w w' := by
  have H : (ranges_named.l0 k a0 (a0.size : Int) 0) = some r := h
  clear h
  have H' := Aside0.mk H
  clear H
  go_enter Tryz.func29, Tryz.ntmps29
  go_wp2
  go_loopg [6] k (fun kq v6 w' => ∃ (x6_1 : Int), v6 = .int .i64 x6_1 ∧ Aside0 (ranges_named.l0 kq a0 (a0.size : Int) x6_1 = some r) ∧ Aside0 (kq ≤ k) ∧ Drawn0 w w')
  case atStart => exact ⟨(0), (by first | rfl | (simp; done) | (simp [*]; done)), H', ⟨Nat.le_refl _⟩, by repeat (first | exact Drawn0.refl _ | apply Drawn0.step)⟩
  case round =>
    clear H'
    obtain ⟨x6_1, rfl, HA, HK1, ⟨m1, rfl⟩⟩ := hrel
    cases gk with
    | zero => exact absurd HA.out (by simp [ranges_named.l0])
    | succ k1 =>
      have H := HA.out
      clear HA
      simp only [ranges_named.l0] at H
      by_cases c2 : x6_1 < (a0.size : Int)
      · rw [if_pos c2] at H
        have c2b0 : decide (x6_1 < (a0.size : Int)) = true := decide_eq_true c2
        clear c2
        by_cases c3 : 0 ≤ x6_1
        · rw [if_pos c3] at H
          have c3b0 : decide (0 ≤ x6_1) = true := decide_eq_true c3
          clear c3
          by_cases c4 : x6_1 < (a0.size : Int)
          · rw [if_pos c4] at H
            have c4b0 : decide (x6_1 < (a0.size : Int)) = true := decide_eq_true c4
            clear c4
            by_cases c6 : (bt a0 x6_1) < 33
            · rw [if_pos c6] at H
              have c6b0 : decide ((bt a0 x6_1) < 33) = true := decide_eq_true c6
              clear c6
              obtain rfl := Option.some.inj H
              have p5 : 0 ≤ (x6_1 : Int) := of_decide_eq_true (by first | (with_reducible assumption) | assumption)
              have q5 : x6_1 < (a0.size : Int) := of_decide_eq_true (by first | (with_reducible assumption) | assumption)
              have hx5 := bt_at a0 x6_1
              replace p5 := eq_true p5
              replace q5 := eq_true q5
              go_wp2
              go_ret
              exact ⟨by first | rfl | (simp; done) | (simp [*]; done), by repeat (first | exact Drawn0.refl _ | apply Drawn0.step)⟩
            · rw [if_neg c6] at H
              have c6b0 : decide ((bt a0 x6_1) < 33) = false := decide_eq_false c6
              clear c6
              by_cases c8 : (bt a0 x6_1) > 126
              · rw [if_pos c8] at H
                have c8b0 : decide (126 < (bt a0 x6_1)) = true := decide_eq_true c8
                clear c8
                obtain rfl := Option.some.inj H
                have p5 : 0 ≤ (x6_1 : Int) := of_decide_eq_true (by first | (with_reducible assumption) | assumption)
                have q5 : x6_1 < (a0.size : Int) := of_decide_eq_true (by first | (with_reducible assumption) | assumption)
                have hx5 := bt_at a0 x6_1
                replace p5 := eq_true p5
                replace q5 := eq_true q5
                have p7 : 0 ≤ (x6_1 : Int) := of_decide_eq_true (by first | (with_reducible assumption) | assumption)
                have q7 : x6_1 < (a0.size : Int) := of_decide_eq_true (by first | (with_reducible assumption) | assumption)
                have hx7 := bt_at a0 x6_1
                replace p7 := eq_true p7
                replace q7 := eq_true q7
                go_wp2
                go_ret
                exact ⟨by first | rfl | (simp; done) | (simp [*]; done), by repeat (first | exact Drawn0.refl _ | apply Drawn0.step)⟩
              · rw [if_neg c8] at H
                have c8b0 : decide (126 < (bt a0 x6_1)) = false := decide_eq_false c8
                clear c8
                have H' := Aside0.mk H
                clear H
                have p5 : 0 ≤ (x6_1 : Int) := of_decide_eq_true (by first | (with_reducible assumption) | assumption)
                have q5 : x6_1 < (a0.size : Int) := of_decide_eq_true (by first | (with_reducible assumption) | assumption)
                have hx5 := bt_at a0 x6_1
                replace p5 := eq_true p5
                replace q5 := eq_true q5
                have p7 : 0 ≤ (x6_1 : Int) := of_decide_eq_true (by first | (with_reducible assumption) | assumption)
                have q7 : x6_1 < (a0.size : Int) := of_decide_eq_true (by first | (with_reducible assumption) | assumption)
                have hx7 := bt_at a0 x6_1
                replace p7 := eq_true p7
                replace q7 := eq_true q7
                go_wp2
                go_roundg k1
                case measure => have := HK1.out; omega
                case rel => exact ⟨(wrap64 (x6_1 + 1)), (by first | rfl | (simp; done) | (simp [*]; done)), H', ⟨by have := HK1.out; omega⟩, by repeat (first | exact Drawn0.refl _ | apply Drawn0.step)⟩
          · rw [if_neg c4] at H
            exact absurd H (by simp)
        · rw [if_neg c3] at H
          exact absurd H (by simp)
      · rw [if_neg c2] at H
        have c2b0 : decide (x6_1 < (a0.size : Int)) = false := decide_eq_false c2
        clear c2
        by_cases c9 : a0.toList = ([] : List UInt8)
        · rw [if_pos c9] at H
          have c9b0 : (a0.toList == ([] : List UInt8)) = true := beq_iff_eq.mpr c9
          have c9b1 : (a0.toList != ([] : List UInt8)) = false := bne_eq_false_iff_eq.mpr c9
          clear c9
          obtain rfl := Option.some.inj H
          go_wp2
          go_ret
          exact ⟨by first | rfl | (simp; done) | (simp [*]; done), by repeat (first | exact Drawn0.refl _ | apply Drawn0.step)⟩
        · rw [if_neg c9] at H
          have c9b0 : (a0.toList == ([] : List UInt8)) = false := beq_eq_false_iff_ne.mpr c9
          have c9b1 : (a0.toList != ([] : List UInt8)) = true := bne_iff_ne.mpr c9
          obtain rfl := Option.some.inj H
          go_wp2
          go_ret
          exact ⟨by first | rfl | (simp; done) | (simp [*]; done), by repeat (first | exact Drawn0.refl _ | apply Drawn0.step)⟩









end Go.Proofs.YtiggnmhoececfaaGreatDoor.PRef

namespace Go.Proofs.YtiggnmhoececfaaGreatDoor
set_option linter.unusedVariables false
set_option linter.unusedSimpArgs false
open Go.RowKit Go.Proofs.YtiggnmhoececfaaGreatDoorW.PrintWords

/-- ranges.card -/
def cardOk (s : ByteArray) : Bool := isNum s.data.toList && decide (13 ≤ s.size) && decide (s.size ≤ 19)

set_option maxHeartbeats 800000 in
theorem rcard_any (s : ByteArray) (w : World) :
    Calls Tryz.prog 28 #[.string s] w fun e w' => e = .returned (.bool (cardOk s)) ∧ Below w.heap.size w w' := by
  have h1 := is_any s w
  cases hn : isNum s.data.toList with
  | false =>
    rw [show cardOk s = false by unfold cardOk; rw [hn]; rfl]
    rw [hn] at h1
    have H1 := Lib.hid h1
    clear h1 hn
    go_enter Tryz.func28, Tryz.ntmps28
    go_wp2_with (go_at_call 37; go_must (refine H1.out.mono ?_); rintro e w1 ⟨rfl, hb⟩)
    go_ret
    exact ⟨rfl, hb⟩
  | true =>
    rw [hn] at h1
    have H1 := Lib.hid h1
    by_cases h13 : 13 ≤ s.size
    · by_cases h19 : s.size ≤ 19
      · rw [show cardOk s = true by unfold cardOk; rw [hn, decide_eq_true h13, decide_eq_true h19]; rfl]
        have k1 : decide ((13 : Int) ≤ (s.size : Int)) = true := decide_eq_true (by omega)
        have k2 : decide ((s.size : Int) ≤ 19) = true := decide_eq_true (by omega)
        clear h1 hn h13 h19
        go_enter Tryz.func28, Tryz.ntmps28
        go_wp2_with (go_at_call 37; go_must (refine H1.out.mono ?_); rintro e w1 ⟨rfl, hb⟩)
        go_ret
        exact ⟨rfl, hb⟩
      · rw [show cardOk s = false by unfold cardOk; rw [decide_eq_false h19]; simp]
        have k1 : decide ((13 : Int) ≤ (s.size : Int)) = true := decide_eq_true (by omega)
        have k2 : decide ((s.size : Int) ≤ 19) = false := decide_eq_false (by omega)
        clear h1 hn h13 h19
        go_enter Tryz.func28, Tryz.ntmps28
        go_wp2_with (go_at_call 37; go_must (refine H1.out.mono ?_); rintro e w1 ⟨rfl, hb⟩)
        go_ret
        exact ⟨rfl, hb⟩
    · rw [show cardOk s = false by unfold cardOk; rw [decide_eq_false h13]; simp]
      have k1 : decide ((13 : Int) ≤ (s.size : Int)) = false := decide_eq_false (by omega)
      clear h1 hn h13
      go_enter Tryz.func28, Tryz.ntmps28
      go_wp2_with (go_at_call 37; go_must (refine H1.out.mono ?_); rintro e w1 ⟨rfl, hb⟩)
      go_ret
      exact ⟨rfl, hb⟩

theorem cmpInt_nan (x : Int) (w : World) : Calls Tryz.prog 53 #[.int .i64 x] w fun e w' => e = .returned (.bool false) ∧ w = w' := by
  have h : (x != x) = false := by simp
  go_enter Tryz.func53, Tryz.ntmps53
  go_wp2
  go_ret
  exact ⟨rfl, rfl⟩

def cmpZ (x y : Int) : Int := if x < y then -1 else if y < x then 1 else 0

theorem cmpInt_any (x y : Int) (w : World) : Calls Tryz.prog 35 #[.int .i64 x, .int .i64 y] w fun e w' => e = .returned (.int .i64 (cmpZ x y)) ∧ w = w' := by
  have HX := Lib.hid (cmpInt_nan x w)
  have HY := Lib.hid (cmpInt_nan y w)
  by_cases a : x < y
  · rw [show cmpZ x y = -1 by unfold cmpZ; rw [if_pos a]]
    go_enter Tryz.func35, Tryz.ntmps35
    go_wp2_with (go_at_call 53; first | (with_reducible refine HX.out.mono ?_; rintro e w' ⟨rfl, rfl⟩) | (with_reducible refine HY.out.mono ?_; rintro e w' ⟨rfl, rfl⟩))
    go_ret
    exact ⟨rfl, rfl⟩
  · by_cases b : y < x
    · rw [show cmpZ x y = 1 by unfold cmpZ; rw [if_neg a, if_pos b]]
      go_enter Tryz.func35, Tryz.ntmps35
      go_wp2_with (go_at_call 53; first | (with_reducible refine HX.out.mono ?_; rintro e w' ⟨rfl, rfl⟩) | (with_reducible refine HY.out.mono ?_; rintro e w' ⟨rfl, rfl⟩))
      go_ret
      exact ⟨rfl, rfl⟩
    · rw [show cmpZ x y = 0 by unfold cmpZ; rw [if_neg a, if_neg b]]
      go_enter Tryz.func35, Tryz.ntmps35
      go_wp2_with (go_at_call 53; first | (with_reducible refine HX.out.mono ?_; rintro e w' ⟨rfl, rfl⟩) | (with_reducible refine HY.out.mono ?_; rintro e w' ⟨rfl, rfl⟩))
      go_ret
      exact ⟨rfl, rfl⟩

/-- ranges.Cmp -/
def rcmpV (a b : ByteArray) : Int := if a.size = b.size then Lib.compareBytes a.data.toList b.data.toList else cmpZ a.size b.size

theorem rcmp_any (a b : ByteArray) (w : World) : Calls Tryz.prog 11 #[.string a, .string b] w fun e w' => e = .returned (.int .i64 (rcmpV a b)) ∧ w' = w := by
  by_cases h : a.size = b.size
  · have hv : rcmpV a b = Lib.compareBytes a.data.toList b.data.toList := by unfold rcmpV; rw [if_pos h]
    rw [hv]
    clear hv
    have H1 := Lib.hid (Tryz.strings_Compare a b w)
    have k1 : ((a.size : Int) != (b.size : Int)) = false := by simp [h]
    clear h
    go_enter Tryz.func11, Tryz.ntmps11
    go_wp2_with (go_at_call 36; go_must (refine H1.out.mono ?_); rintro e w' ⟨rfl, rfl⟩)
    go_ret
    exact ⟨rfl, rfl⟩
  · have hv : rcmpV a b = cmpZ a.size b.size := by unfold rcmpV; rw [if_neg h]
    rw [hv]
    clear hv
    have H1 := Lib.hid (fun w => cmpInt_any a.size b.size w)
    have k1 : ((a.size : Int) != (b.size : Int)) = true := by simp; omega
    clear h
    go_enter Tryz.func11, Tryz.ntmps11
    go_wp2_with (go_at_call 35; go_must (refine (H1.out _).mono ?_); rintro e w' ⟨rfl, rfl⟩)
    go_ret
    exact ⟨rfl, rfl⟩

/-- a range, as a value -/
abbrev rangeV (f t n lo hi : ByteArray) (m : Int) : Value := .agg #[.string f, .string t, .string n, .string lo, .string hi, .int .i64 m]
abbrev rangeC (f t n lo hi : ByteArray) (m : Int) : List Value := [.string f, .string t, .string n, .string lo, .string hi, .int .i64 m]

/-- ranges.Range.Has -/
def hasV (f t c : ByteArray) : Bool := isNum c.data.toList && (decide (c.size = f.size) && (!(Op.bytesLess c.toList f.toList) && (Op.bytesLess c.toList t.toList || c.toList == t.toList)))

set_option maxHeartbeats 1600000 in
theorem has_any (f t n lo hi c : ByteArray) (m : Int) (w : World) :
    Calls Tryz.prog 12 #[rangeV f t n lo hi m, .string c] w fun e w' => e = .returned (.bool (hasV f t c)) ∧ Below w.heap.size w w' := by
  have hC := CellsAt.new w (rangeC f t n lo hi m) 23
  have HC := Lib.hid hC
  have HB := Lib.hid (below_alloc (Below.refl w.heap.size w) (.cells (rangeC f t n lo hi m).toArray 23))
  have h1 := is_any c (w.alloc (.cells (rangeC f t n lo hi m).toArray 23))
  unfold hasV
  cases hn : isNum c.data.toList with
  | false =>
    rw [hn] at h1
    have H1 := Lib.hid h1
    clear h1 hn hC
    go_enter Tryz.func12, Tryz.ntmps12
    go_wp2_with (go_at_call 37; go_must (refine H1.out.mono ?_); rintro e w1 ⟨rfl, hb⟩)
    go_ret
    exact ⟨rfl, below_step HB.out hb⟩
  | true =>
    rw [hn] at h1
    have H1 := Lib.hid h1
    clear h1 hn hC
    by_cases hs : c.size = f.size
    · have k1 : ((c.size : Int) == (f.size : Int)) = true := by simp [hs]
      rw [decide_eq_true hs]
      clear hs
      cases hl : Op.bytesLess c.toList f.toList with
      | true =>
        go_enter Tryz.func12, Tryz.ntmps12
        go_wp2_with (go_at_call 37; go_must (refine H1.out.mono ?_); rintro e w1 ⟨rfl, hb⟩; have c0 := (HC.out.below hb).get (j := 0) rfl; have c1 := (HC.out.below hb).get (j := 1) rfl)
        go_ret
        exact ⟨rfl, below_step HB.out hb⟩
      | false =>
        have hrest : ∀ q : Bool, (true && (true && (!false && q))) = q := by decide
        rw [hrest]
        clear hrest
        cases hq1 : Op.bytesLess c.toList t.toList with
        | true =>
          go_enter Tryz.func12, Tryz.ntmps12
          go_wp2_with (go_at_call 37; go_must (refine H1.out.mono ?_); rintro e w1 ⟨rfl, hb⟩; have c0 := (HC.out.below hb).get (j := 0) rfl; have c1 := (HC.out.below hb).get (j := 1) rfl)
          go_ret
          exact ⟨rfl, below_step HB.out hb⟩
        | false =>
          cases hq2 : (c.toList == t.toList) with
          | true =>
            go_enter Tryz.func12, Tryz.ntmps12
            go_wp2_with (go_at_call 37; go_must (refine H1.out.mono ?_); rintro e w1 ⟨rfl, hb⟩; have c0 := (HC.out.below hb).get (j := 0) rfl; have c1 := (HC.out.below hb).get (j := 1) rfl)
            go_ret
            exact ⟨rfl, below_step HB.out hb⟩
          | false =>
            go_enter Tryz.func12, Tryz.ntmps12
            go_wp2_with (go_at_call 37; go_must (refine H1.out.mono ?_); rintro e w1 ⟨rfl, hb⟩; have c0 := (HC.out.below hb).get (j := 0) rfl; have c1 := (HC.out.below hb).get (j := 1) rfl)
            go_ret
            exact ⟨rfl, below_step HB.out hb⟩
    · have k1 : ((c.size : Int) == (f.size : Int)) = false := by simp; omega
      rw [decide_eq_false hs]
      clear hs
      go_enter Tryz.func12, Tryz.ntmps12
      go_wp2_with (go_at_call 37; go_must (refine H1.out.mono ?_); rintro e w1 ⟨rfl, hb⟩; have c0 := (HC.out.below hb).get (j := 0) rfl; have c1 := (HC.out.below hb).get (j := 1) rfl)
      go_ret
      exact ⟨rfl, below_step HB.out hb⟩

end Go.Proofs.YtiggnmhoececfaaGreatDoor
