/- Texts taken together: Ref17, Ref17b, Ranges2, Law18, PrintD, PrintC, Ref18, Ref18b, RCheck, RCheck2, Neigh0, Neigh1, Neigh2, Tab. -/
import Derived.Test.YtiggnmhoececfaaGreatDoorT3
import Derived.Test.YtiggnmhoececfaaGreatDoorT4
import Derived.Test.YtiggnmhoececfaaGreatDoorT5
import Derived.Laws.Cover1
import Derived.Lib.QuietBelow

namespace Go.Proofs.YtiggnmhoececfaaGreatDoor
set_option linter.unusedVariables false
set_option linter.unusedSimpArgs false
open Go.RowKit Go.Proofs.YtiggnmhoececfaaGreatDoorW.PrintWords Go.Proofs.YtiggnmhoececfaaGreatDoorW.PrintLast Go.Proofs.YtiggnmhoececfaaGreatDoorW.PrintMore
open PRef

theorem wrap64_of {x : Int} (h0 : -9223372036854775808 ≤ x) (h1 : x ≤ 9223372036854775807) : wrap64 x = x := by
  unfold wrap64
  omega
theorem wrapU_of {x : Int} (h0 : 0 ≤ x) (h1 : x ≤ 18446744073709551615) : IntKind.u64.wrap x = x := by
  rw [IntKind.wrap_u64]; omega

theorem bt_nat (s : ByteArray) (i : Nat) (h : i < s.size) : bt s (i : Int) = ((s.data.toList[i]'(by simpa using h)).toNat : Int) := by
  unfold bt
  rw [dif_pos (by simpa using h)]
  rfl

theorem drop_at {l : Bytes} {i : Nat} (h : i < l.length) : l.drop i = l[i] :: l.drop (i + 1) := List.drop_eq_getElem_cons h

theorem ref_is (s : ByteArray) (hs : s.size ≤ 1000000) : ∀ k i : Nat, i ≤ s.size → s.size - i < k → cashierref03_Is.l0 k s i = some (isDig (s.data.toList.drop i) && decide ((s.size : Int) > 0)) := by
  intro k
  induction k with
  | zero => intro i hi hk; omega
  | succ k ih =>
    intro i hi hk
    unfold cashierref03_Is.l0
    have hsz : s.data.toList.length = s.size := by simp
    by_cases h : i < s.size
    · rw [if_pos (by omega), if_pos (by omega), bt_nat s i h, drop_at (by omega)]
      have h4 : (48 : UInt8).toNat = 48 := rfl
      have h5 : (57 : UInt8).toNat = 57 := rfl
      generalize s.data.toList[i]'(by omega) = c
      have hall : isDig (c :: s.data.toList.drop (i + 1)) = ((decide (48 ≤ c.toNat) && decide (c.toNat ≤ 57)) && isDig (s.data.toList.drop (i + 1))) := by
        simp only [isDig, List.all_cons, UInt8.le_iff_toNat_le, h4, h5]
      rw [hall]
      by_cases h1 : 48 ≤ c.toNat
      · by_cases h2 : c.toNat ≤ 57
        · rw [if_neg (by omega), if_neg (by omega), wrap64_of (by omega) (by omega), show ((i : Int) + 1) = ((i + 1 : Nat) : Int) by omega, ih (i + 1) (by omega) (by omega), decide_eq_true h1, decide_eq_true h2]
          rfl
        · rw [if_neg (by omega), if_pos (by omega), decide_eq_false h2, Bool.and_false]
          rfl
      · rw [if_pos (by omega), decide_eq_false h1]
        rfl
    · rw [if_neg (by omega), List.drop_eq_nil_of_le (by omega)]
      simp [isDig]

theorem ref_is_f (s : ByteArray) (hs : s.size ≤ 1000000) (k : Nat) (hk : s.size < k) : cashierref03_Is.f k s = some (isNum s.data.toList) := by
  unfold cashierref03_Is.f
  have := ref_is s hs k 0 (by omega) (by omega)
  rw [show ((0 : Nat) : Int) = 0 by rfl] at this
  rw [this]
  congr 1
  unfold isNum
  rw [List.drop_zero]
  congr 1
  have hsz : s.data.toList.length = s.size := by simp
  cases hl : s.data.toList with
  | nil => rw [hl] at hsz; simp at hsz; simp [← hsz]
  | cons a r => rw [hl] at hsz; simp at hsz; simp; omega

/-- What Number answers, where it is asked of anything at all. -/
theorem ref_num (s : ByteArray) (hs : s.size ≤ 1000000) : ∀ (k i n : Nat), i ≤ s.size → n ≤ 18446744073709551615 → s.size - i < k →
    ∃ r, cashierref03_Number.l0 k s n i = some r ∧ (isDig (s.data.toList.drop i) = true → (numFrom n (s.data.toList.drop i) ≤ 18446744073709551615 → r = (((numFrom n (s.data.toList.drop i) : Nat) : Int), true)) ∧ (18446744073709551615 < numFrom n (s.data.toList.drop i) → r = (0, false))) := by
  intro k
  induction k with
  | zero => intro i n hi hn hk; omega
  | succ k ih =>
    intro i n hi hn hk
    have hsz : s.data.toList.length = s.size := by simp
    unfold cashierref03_Number.l0
    by_cases h : i < s.size
    · rw [if_pos (by omega), if_pos (by omega), bt_nat s i h, drop_at (by omega)]
      have hc := (s.data.toList[i]'(by omega)).toNat_lt
      generalize s.data.toList[i]'(by omega) = c at hc ⊢
      have hb : 0 ≤ ((c.toNat : Int) - 48) % 256 ∧ ((c.toNat : Int) - 48) % 256 < 256 := by omega
      generalize hd : ((c.toNat : Int) - 48) % 256 = d at hb ⊢
      by_cases h1 : (n : Int) > (18446744073709551615 - d) / 10
      · rw [if_pos h1]
        refine ⟨_, rfl, fun hdig => ⟨fun hle => ?_, fun _ => rfl⟩⟩
        exfalso
        simp only [isDig, List.all_cons, Bool.and_eq_true, decide_eq_true_eq, UInt8.le_iff_toNat_le] at hdig
        have h4 : (48 : UInt8).toNat = 48 := rfl
        have h5 : (57 : UInt8).toNat = 57 := rfl
        have := numFrom_ge (s.data.toList.drop (i + 1)) (n * 10 + (c.toNat - 48))
        simp only [numFrom, List.foldl_cons] at hle this
        omega
      · rw [if_neg h1]
        have hw : IntKind.u64.wrap (IntKind.u64.wrap ((n : Int) * 10) + d) = ((n * 10 + d.toNat : Nat) : Int) := by
          rw [wrapU_of (x := (n : Int) * 10) (by omega) (by omega), wrapU_of (by omega) (by omega)]; omega
        rw [hw, wrap64_of (by omega) (by omega), show ((i : Int) + 1) = ((i + 1 : Nat) : Int) by omega]
        obtain ⟨r, hr, hr'⟩ := ih (i + 1) (n * 10 + d.toNat) (by omega) (by omega) (by omega)
        refine ⟨r, hr, fun hdig => ?_⟩
        have hdig' := hdig
        simp only [isDig, List.all_cons, Bool.and_eq_true, decide_eq_true_eq, UInt8.le_iff_toNat_le] at hdig'
        have h4 : (48 : UInt8).toNat = 48 := rfl
        have h5 : (57 : UInt8).toNat = 57 := rfl
        have hdn : d.toNat = c.toNat - 48 := by omega
        have := hr' (by simp only [isDig] at hdig ⊢; exact hdig'.2)
        rw [hdn] at this
        exact this
    · rw [if_neg (by omega), List.drop_eq_nil_of_le (by omega)]
      exact ⟨_, rfl, fun _ => ⟨fun _ => rfl, fun hx => by simp [numFrom] at hx; omega⟩⟩

theorem ref_num_f (s : ByteArray) (hs : s.size ≤ 1000000) (k : Nat) (hk : s.size < k) :
    ∃ r, cashierref03_Number.f k s = some r ∧ (isDig s.data.toList = true → (numOf s.data.toList ≤ 18446744073709551615 → r = (((numOf s.data.toList : Nat) : Int), true)) ∧ (18446744073709551615 < numOf s.data.toList → r = (0, false))) := by
  have := ref_num s hs k 0 0 (by omega) (by omega) (by omega)
  rw [List.drop_zero] at this
  exact this

theorem strOf_dec (d : Nat) (h : d < 10) (acc : ByteArray) : (strOfNums [(IntKind.u64.wrap (48 + (d : Int))) % 256] ++ acc).data.toList = UInt8.ofNat (48 + d) :: acc.data.toList := by
  rw [wrapU_of (by omega) (by omega), show ((48 + (d : Int)) % 256) = ((48 + d : Nat) : Int) by omega]
  rw [ByteArray.data_append, Array.toList_append, strOfNums_data]
  rfl

theorem strOf_size (d : Int) (acc : ByteArray) : (strOfNums [d] ++ acc).size = 1 + acc.size := by
  rw [ByteArray.size_append, strOfNums_size]; rfl

theorem ref_dec : ∀ (k n : Nat) (acc : ByteArray), n < 10 ^ k → n ≤ 18446744073709551615 → acc.size + k ≤ 1000000 → 1 ≤ k →
    cashierref03_Dec.l0 k n acc = some ⟨(Lib.decDigits n ++ acc.data.toList).toArray⟩ := by
  intro k
  induction k with
  | zero => intro n acc _ _ _ h; omega
  | succ k ih =>
    intro n acc hn hu hs _
    unfold cashierref03_Dec.l0
    simp only [Option.bind_some]
    have hm : Int.tmod (n : Int) 10 = ((n % 10 : Nat) : Int) := by rw [Int.tmod_eq_emod_of_nonneg (by omega)]; omega
    have hdv : IntKind.u64.wrap (Int.tdiv (n : Int) 10) = ((n / 10 : Nat) : Int) := by
      rw [Int.tdiv_eq_ediv_of_nonneg (by omega), wrapU_of (by omega) (by omega)]; omega
    rw [hm, hdv]
    have hlen : (strOfNums [(IntKind.u64.wrap (48 + ((n % 10 : Nat) : Int))) % 256]).size = 1 := by rw [strOfNums_size]; rfl
    rw [if_pos (by rw [hlen]; omega)]
    have hl := strOf_dec (n % 10) (by omega) acc
    have hz := strOf_size ((IntKind.u64.wrap (48 + ((n % 10 : Nat) : Int))) % 256) acc
    generalize strOfNums [(IntKind.u64.wrap (48 + ((n % 10 : Nat) : Int))) % 256] ++ acc = nx at hl hz
    by_cases h0 : n / 10 = 0
    · rw [if_pos (by omega)]
      congr 1
      rw [Lib.decDigits, dif_pos (by omega), List.singleton_append]
      rw [show n % 10 = n by omega] at hl
      rw [← hl]
    · rw [if_neg (by omega)]
      rw [ih (n / 10) nx (by rw [Nat.pow_succ] at hn; omega) (by omega) (by omega) (by
        cases k with
        | zero => simp at hn; omega
        | succ _ => omega)]
      rw [hl]
      conv => rhs; rw [Lib.decDigits, dif_neg (by omega)]
      simp

theorem ref_dec_f (k n : Nat) (hn : n ≤ 65535) (hk : 5 ≤ k) (hk2 : k ≤ 1000000) : cashierref03_Dec.f k n = some ⟨(Lib.decDigits n).toArray⟩ := by
  unfold cashierref03_Dec.f
  have h5 : 10 ^ 5 ≤ 10 ^ k := Nat.pow_le_pow_right (by omega) hk
  rw [ref_dec k n _ (by omega) (by omega) (by have : (⟨#[]⟩ : ByteArray).size = 0 := rfl; omega) (by omega)]
  simp

/-- What Parse answers. -/
def refP (out : List Int) (parts : List Bytes) : List Int × Bool :=
  if parts.all okPart = true then (out ++ parts.map (fun p => ((numOf p : Nat) : Int)), ((out.length + parts.length : Nat) : Int) == 3) else ([], false)

/-- One part's check. -/
theorem ref_check (s : ByteArray) (out : List Int) (t : ByteArray) (i : Int) (k : Nat) (ht : t.size ≤ 1000) (hk : t.size < k) (hk5 : 5 ≤ k) (hk2 : k ≤ 1000000) (hout : out.length < 100000) :
    cashierref17_Parse.j1 (k + 1) s out t i false = if okPart t.data.toList = true then cashierref17_Parse.l0 k s (out ++ [((numOf t.data.toList : Nat) : Int)]) ⟨#[]⟩ (wrap64 (i + 1)) else some ([], false) := by
  unfold cashierref17_Parse.j1
  rw [if_neg (by simp)]
  obtain ⟨r, hr, hr'⟩ := ref_num_f t (by omega) k hk
  rw [hr, ref_is_f t (by omega) k hk]
  simp only [Option.bind_some]
  unfold okPart
  by_cases hn : isNum t.data.toList = true
  · rw [if_pos hn, hn]
    have hd : isDig t.data.toList = true := by simp only [isNum, Bool.and_eq_true] at hn; exact hn.1
    have hr2 := hr' hd
    by_cases hle : numOf t.data.toList ≤ 18446744073709551615
    · obtain rfl := hr2.1 hle
      simp only [if_true]
      by_cases h16 : numOf t.data.toList ≤ 65535
      · rw [if_neg (by omega), ref_dec_f k _ h16 hk5 hk2, decide_eq_true h16]
        simp only [Option.bind_some, Bool.true_and]
        have hw : wrap64 ((numOf t.data.toList : Nat) : Int) = ((numOf t.data.toList : Nat) : Int) := wrap64_of (by omega) (by omega)
        rw [hw]
        have hx : (ByteArray.mk (Lib.decDigits (numOf t.data.toList)).toArray).toList = Lib.decDigits (numOf t.data.toList) := by simp
        have hy : t.toList = t.data.toList := ByteArray.toList_eq t
        rw [hx, hy]
        by_cases he : Lib.decDigits (numOf t.data.toList) = t.data.toList
        · rw [if_pos he, if_pos (by omega), if_pos (by simp [he])]
        · rw [if_neg he, if_neg (by simp [he])]
      · rw [if_pos (by omega), decide_eq_false h16]
        simp
    · obtain rfl := hr2.2 (by omega)
      simp only [Bool.false_eq_true, if_false]
      rw [decide_eq_false (by omega : ¬ numOf t.data.toList ≤ 65535)]
      simp
  · rw [if_neg hn]
    simp [hn]

theorem split1_prefix (t r : Bytes) (ht : ∀ x, x ∈ t → x ≠ 46) : split1 46 (t ++ 46 :: r) = t :: split1 46 r := split1_hit 46 t r ht

theorem refP_step (out : List Int) (t : Bytes) (r : List Bytes) : refP out (t :: r) = if okPart t = true then refP (out ++ [((numOf t : Nat) : Int)]) r else ([], false) := by
  unfold refP
  by_cases h : okPart t = true
  · rw [if_pos h]
    simp only [List.all_cons, h, Bool.true_and]
    by_cases h2 : r.all okPart = true
    · rw [if_pos h2, if_pos h2]
      simp only [List.length_cons, List.length_append, List.length_nil, List.append_assoc, List.map_cons, List.singleton_append]
      rw [show out.length + (r.length + 1) = out.length + (0 + 1) + r.length by omega]
    · rw [if_neg h2, if_neg h2]
  · rw [if_neg h, if_neg (by simp [h])]

theorem ref_end (s : ByteArray) (hs : s.size ≤ 1000) (k : Nat) (out : List Int) (t : ByteArray) (hk : 2000 < k) (hk2 : k ≤ 900000) (hout : out.length ≤ 2000) (ht : t.size ≤ s.size)
    (hd : ∀ x, x ∈ t.data.toList → x ≠ 46) : cashierref17_Parse.l0 k s out t (s.size : Nat) = some (refP out (split1 46 (t.data.toList ++ s.data.toList.drop s.size))) := by
  obtain ⟨k, rfl⟩ : ∃ k', k = k' + 1 + 1 + 1 := ⟨k - 3, by omega⟩
  have hsz : s.data.toList.length = s.size := by simp
  rw [cashierref17_Parse.l0, if_pos (by omega), if_neg (by omega), ref_check s out t _ (k + 1) (by omega) (by omega) (by omega) (by omega) (by omega)]
  rw [List.drop_eq_nil_of_le (by omega), List.append_nil, split1_none _ _ hd, refP_step]
  by_cases h : okPart t.data.toList = true
  · rw [if_pos h, if_pos h, cashierref17_Parse.l0, wrap64_of (by omega) (by omega), if_neg (by omega)]
    congr 1
    simp [refP]
  · rw [if_neg h, if_neg h]

theorem extract_one (s : ByteArray) (i : Nat) (h : i < s.size) : (s.extract i (i + 1)).data.toList = [s.data.toList[i]'(by simpa using h)] := by
  rw [ByteArray.data_extract, Array.toList_extract]
  rw [List.extract_eq_take_drop, show i + 1 - i = 1 by omega, drop_at (by simpa using h)]
  rfl

theorem ref_loop (s : ByteArray) (hs : s.size ≤ 1000) : ∀ (n k i : Nat) (out : List Int) (t : ByteArray), s.size - i ≤ n → i ≤ s.size → 2 * n + 2000 < k → k ≤ 900000 → out.length + (s.size - i) ≤ 2000 → t.size ≤ i →
    (∀ x, x ∈ t.data.toList → x ≠ 46) → cashierref17_Parse.l0 k s out t i = some (refP out (split1 46 (t.data.toList ++ s.data.toList.drop i))) := by
  intro n
  induction n with
  | zero =>
    intro k i out t hi hi2 hk hk2 hout ht hd
    obtain rfl : i = s.size := by omega
    exact ref_end s hs k out t (by omega) hk2 (by omega) ht hd
  | succ n ih =>
    intro k i out t hi hi2 hk hk2 hout ht hd
    by_cases h : i < s.size
    · obtain ⟨k, rfl⟩ : ∃ k', k = k' + 1 + 1 := ⟨k - 2, by omega⟩
      have hsz : s.data.toList.length = s.size := by simp
      have hx := extract_one s i h
      rw [cashierref17_Parse.l0, if_pos (by omega), if_pos (by omega), if_pos (by omega), bt_nat s i h, drop_at (by omega)]
      generalize s.data.toList[i]'(by omega) = c at hx ⊢
      by_cases h46 : c = 46
      · subst h46
        rw [show (((46 : UInt8).toNat : Int) != 46) = false by rfl, ref_check s out t _ k (by omega) (by omega) (by omega) (by omega) (by omega), split1_prefix _ _ hd, refP_step]
        by_cases hok : okPart t.data.toList = true
        · rw [if_pos hok, if_pos hok, wrap64_of (by omega) (by omega), show ((i : Int) + 1) = ((i + 1 : Nat) : Int) by omega]
          have := ih k (i + 1) (out ++ [((numOf t.data.toList : Nat) : Int)]) ⟨#[]⟩ (by omega) (by omega) (by omega) (by omega) (by simp; omega) (by simp [ByteArray.size]) (by simp)
          simpa using this
        · rw [if_neg hok, if_neg hok]
      · have hne : ((c.toNat : Int) != 46) = true := by
          rw [bne_iff_ne]
          intro e
          apply h46
          rw [← UInt8.toNat_inj]
          show c.toNat = 46
          omega
        rw [hne, cashierref17_Parse.j1, if_pos rfl, if_pos (by omega), wrap64_of (by omega) (by omega), if_pos (by omega), if_pos (by omega)]
        rw [show ((i : Int) + 1).toNat = i + 1 by omega, show (i : Int).toNat = i by omega]
        have hsx : (s.extract i (i + 1)).size = 1 := by
          have := congrArg List.length hx
          rw [Array.length_toList] at this
          exact this
        have hts : (t ++ s.extract i (i + 1)).size = t.size + 1 := by rw [ByteArray.size_append, hsx]
        have htl : (t ++ s.extract i (i + 1)).data.toList = t.data.toList ++ [c] := by rw [ByteArray.data_append, Array.toList_append, hx]
        rw [if_pos (by rw [hsx]; omega)]
        generalize t ++ s.extract i (i + 1) = t' at hts htl ⊢
        rw [show ((i : Int) + 1) = ((i + 1 : Nat) : Int) by omega, ih k (i + 1) out t' (by omega) (by omega) (by omega) (by omega) (by omega) (by omega) (by
          rw [htl]; intro x hx
          rcases List.mem_append.1 hx with hx | hx
          · exact hd x hx
          · obtain rfl : x = c := by simpa using hx
            exact h46)]
        rw [htl, List.append_assoc, List.singleton_append]
    · obtain rfl : i = s.size := by omega
      exact ref_end s hs k out t (by omega) hk2 (by omega) ht hd

/-- The document's Parse. -/
theorem ref_parse (s : ByteArray) (hs : s.size ≤ 1000) (k : Nat) (hk : 5000 ≤ k) (hk2 : k ≤ 900000) : cashierref17_Parse.f k s = some (refP [] (split1 46 s.data.toList)) := by
  have := ref_loop s hs 1000 k 0 [] ⟨#[]⟩ (by omega) (by omega) (by omega) hk2 (by simp; omega) (by simp [ByteArray.size]) (by simp)
  unfold cashierref17_Parse.f
  simpa using this

/-- The document's Cmp. -/
theorem ref_cmp (a b c x y z : Nat) (k : Nat) (hk : 5 ≤ k) : cashierref17_Cmp.f k [(a : Int), (b : Int), (c : Int)] [(x : Int), (y : Int), (z : Int)] = some (lexc [a, b, c] [x, y, z]) := by
  obtain ⟨k, rfl⟩ : ∃ k', k = k' + 1 + 1 + 1 + 1 := ⟨k - 4, by omega⟩
  have w0 : wrap64 (0 + 1) = 1 := wrap64_of (by omega) (by omega)
  have w1 : wrap64 (1 + 1) = 2 := wrap64_of (by omega) (by omega)
  have w2 : wrap64 (2 + 1) = 3 := wrap64_of (by omega) (by omega)
  simp only [cashierref17_Cmp.f, cashierref17_Cmp.l0, rd, lexc, w0, w1, w2, List.length_cons, List.length_nil]
  simp
  split
  · rfl
  · split
    · rfl
    · split
      · rfl
      · split
        · rfl
        · split
          · rfl
          · split <;> rfl

end Go.Proofs.YtiggnmhoececfaaGreatDoor

namespace Go.Proofs.YtiggnmhoececfaaGreatDoor
set_option linter.unusedVariables false
set_option linter.unusedSimpArgs false
open Go.RowKit Go.Proofs.YtiggnmhoececfaaGreatDoorW.PrintWords Go.Proofs.YtiggnmhoececfaaGreatDoorW.PrintLast Go.Proofs.YtiggnmhoececfaaGreatDoorW.PrintMore
open PRef

abbrev nums3 (v : Ver) : List Int := [((v.1.1 : Nat) : Int), ((v.1.2.1 : Nat) : Int), ((v.1.2.2 : Nat) : Int)]

theorem ref_yes (l : Bytes) (v : Ver) (h : verOf l = some v) : refP [] (split1 46 l) = (nums3 v, true) := by
  unfold verOf at h
  split at h
  · rename_i a b c hs
    rw [hs]
    split at h
    · rename_i hok
      cases h
      simp [refP, hok.1, hok.2.1, hok.2.2]
    · cases h
  · cases h

theorem ref_no (l : Bytes) (h : verOf l = none) : (refP [] (split1 46 l)).2 = false := by
  unfold verOf at h
  unfold refP
  split
  · rename_i hall
    split at h
    · rename_i a b c hs
      rw [hs] at hall
      split at h
      · cases h
      · rename_i hno
        exfalso
        apply hno
        simpa using hall
    · rename_i hne
      show ((((([] : List Int).length + (split1 46 l).length : Nat) : Int)) == 3) = false
      rw [beq_eq_false_iff_ne]
      intro e
      have e3 : (split1 46 l).length = 3 := by simp at e; omega
      match hm : split1 46 l, e3 with
      | [a, b, c], _ => exact hne a b c hm
  · rfl

end Go.Proofs.YtiggnmhoececfaaGreatDoor

namespace Go.Proofs.YtiggnmhoececfaaGreatDoor
set_option linter.unusedVariables false
set_option linter.unusedSimpArgs false
open Go.RowKit Go.Proofs.YtiggnmhoececfaaGreatDoorW.PrintWords

/-- ranges.named -/
def namedOk (s : ByteArray) : Bool := (s.data.toList.all fun c => decide (33 ≤ c.toNat) && decide (c.toNat ≤ 126)) && (!s.data.toList.isEmpty && decide (s.size ≤ 32))

theorem named_loop (s : ByteArray) (hs : s.size ≤ 1000) : ∀ k i : Nat, i ≤ s.size → s.size - i < k → (s.data.toList.take i).all (fun c => decide (33 ≤ c.toNat) && decide (c.toNat ≤ 126)) = true → PRef.ranges_named.l0 k s (s.size : Int) i = some (namedOk s) := by
  intro k
  induction k with
  | zero => intro i hi hk; omega
  | succ k ih =>
    intro i hi hk ha
    have hsz : s.data.toList.length = s.size := by simp
    unfold PRef.ranges_named.l0
    by_cases h : i < s.size
    · rw [if_pos (by omega), if_pos (by omega), if_pos (by omega), bt_nat s i h]
      have hd : s.data.toList = s.data.toList.take i ++ s.data.toList[i]'(by omega) :: s.data.toList.drop (i + 1) := by
        rw [← drop_at (by omega), List.take_append_drop]
      have ht : s.data.toList.take (i + 1) = s.data.toList.take i ++ [s.data.toList[i]'(by omega)] := by rw [List.take_succ_eq_append_getElem (by omega)]
      have hno : ∀ c, s.data.toList[i]'(by omega) = c → (decide (33 ≤ c.toNat) && decide (c.toNat ≤ 126)) = false → namedOk s = false := fun c hc hf => by
        unfold namedOk
        rw [hd, hc]
        simp [hf]
      generalize hc : s.data.toList[i]'(by omega) = c at ht hno
      have hno := hno c rfl
      by_cases h1 : 33 ≤ c.toNat
      · by_cases h2 : c.toNat ≤ 126
        · rw [if_neg (by omega), if_neg (by omega), wrap64_of (by omega) (by omega), show ((i : Int) + 1) = ((i + 1 : Nat) : Int) by omega]
          exact ih (i + 1) (by omega) (by omega) (by rw [ht, List.all_append, ha]; simp [h1, h2])
        · rw [if_neg (by omega), if_pos (by omega), hno (by simp [h2])]
      · rw [if_pos (by omega), hno (by simp [h1])]
    · obtain rfl : i = s.size := by omega
      rw [if_neg (by omega)]
      rw [List.take_of_length_le (by omega)] at ha
      unfold namedOk
      rw [ha, Bool.true_and, ByteArray.toList_eq]
      by_cases he : s.data.toList = []
      · rw [if_pos he, he]; rfl
      · rw [if_neg he]
        have : s.data.toList.isEmpty = false := by simpa using he
        rw [this]
        congr 1
        simp
        omega

theorem named_any (s : ByteArray) (hs : s.size ≤ 1000) (w : World) :
    Calls Tryz.prog 29 #[.string s] w fun e w' => e = .returned (.bool (namedOk s)) ∧ Below w.heap.size w w' :=
  (PRef.ranges_named.calls 2000 s _ w (named_loop s hs 2000 0 (by omega) (by omega) (by simp))).mono fun _ _ h => ⟨h.1, h.2.below⟩

def chk (p q s l nm wi : Bool) (m : Int) : Int := if p = true then (if q = true then (if s = true then (if l = true then 19 else if nm = true then (if wi = true then (if m < 1 then 11 else if 3 < m then 11 else 0) else 7) else 2) else 4) else 4) else 4

set_option maxHeartbeats 4000000 in
theorem check_walk (p q nm wi : Bool) (f t n lo hi : ByteArray) (m : Int) (w : World) (hG : Glob w)
    (p1 : ∀ W, Calls Tryz.prog 28 #[.string f] W fun e w' => e = .returned (.bool p) ∧ Below W.heap.size W w')
    (p2 : ∀ W, Calls Tryz.prog 28 #[.string t] W fun e w' => e = .returned (.bool q) ∧ Below W.heap.size W w')
    (pn : ∀ W, Calls Tryz.prog 29 #[.string n] W fun e w' => e = .returned (.bool nm) ∧ Below W.heap.size W w')
    (pw : ∀ W, Glob W → Calls Tryz.prog 30 #[.string lo, .string lo, .string hi] W fun e w' => e = .returned (.bool wi) ∧ Below W.heap.size W w') :
    Calls Tryz.prog 9 #[rangeV f t n lo hi m] w fun e w' => e = .returned (.int .i64 (chk p q (decide (f.size = t.size)) (Op.bytesLess t.toList f.toList) nm wi m)) ∧ Below w.heap.size w w' := by
  have HC := Lib.hid (CellsAt.new w (rangeC f t n lo hi m) 23)
  have HB := Lib.hid (below_alloc (Below.refl w.heap.size w) (.cells (rangeC f t n lo hi m).toArray 23))
  have P1 := Lib.hid p1
  have P2 := Lib.hid p2
  have PN := Lib.hid pn
  have PW := Lib.hid pw
  clear p1 p2 pn pw
  by_cases hs : f.size = t.size
  · have k1 : ((f.size : Int) != (t.size : Int)) = false := by simp [hs]
    rw [decide_eq_true hs]
    clear hs
    cases p
    · show Calls _ _ _ _ fun e w' => e = .returned (.int .i64 4) ∧ Below w.heap.size w w'
      go_enter Tryz.func9, Tryz.ntmps9
      go_wp2_with (first
              | (go_at_call 28; first
                  | (with_reducible refine (P1.out _).mono ?_; rintro e w1 ⟨rfl, hb⟩; have B1 := Lib.hid (below_step HB.out hb); have N1 := Lib.hid (HC.out.below hb); have c0 := N1.out.get (j := 0) rfl; have c1 := N1.out.get (j := 1) rfl; have c2 := N1.out.get (j := 2) rfl; have c3 := N1.out.get (j := 3) rfl; have c4 := N1.out.get (j := 4) rfl; have c5 := N1.out.get (j := 5) rfl; clear hb)
                  | (with_reducible refine (P2.out _).mono ?_; rintro e w2 ⟨rfl, hb⟩; have B2 := Lib.hid (below_step B1.out hb); have N2 := Lib.hid (N1.out.below hb); have d0 := N2.out.get (j := 0) rfl; have d1 := N2.out.get (j := 1) rfl; have d2 := N2.out.get (j := 2) rfl; have d3 := N2.out.get (j := 3) rfl; have d4 := N2.out.get (j := 4) rfl; have d5 := N2.out.get (j := 5) rfl; clear hb))
              | (go_at_call 29; go_must (refine (PN.out _).mono ?_); rintro e w3 ⟨rfl, hb⟩; have B3 := Lib.hid (below_step B2.out hb); have N3 := Lib.hid (N2.out.below hb); have e0 := N3.out.get (j := 0) rfl; have e1 := N3.out.get (j := 1) rfl; have e2 := N3.out.get (j := 2) rfl; have e3 := N3.out.get (j := 3) rfl; have e4 := N3.out.get (j := 4) rfl; have e5 := N3.out.get (j := 5) rfl; clear hb)
              | (go_at_call 30; go_must (refine (PW.out _ (hG.below B3.out)).mono ?_); rintro e w4 ⟨rfl, hb⟩; have B4 := Lib.hid (below_step B3.out hb); have N4 := Lib.hid (N3.out.below hb); have g0 := N4.out.get (j := 0) rfl; have g1 := N4.out.get (j := 1) rfl; have g2 := N4.out.get (j := 2) rfl; have g3 := N4.out.get (j := 3) rfl; have g4 := N4.out.get (j := 4) rfl; have g5 := N4.out.get (j := 5) rfl; clear hb))
      go_ret
      exact ⟨rfl, B1.out⟩
    · cases q
      · show Calls _ _ _ _ fun e w' => e = .returned (.int .i64 4) ∧ Below w.heap.size w w'
        go_enter Tryz.func9, Tryz.ntmps9
        go_wp2_with (first
                | (go_at_call 28; first
                    | (with_reducible refine (P1.out _).mono ?_; rintro e w1 ⟨rfl, hb⟩; have B1 := Lib.hid (below_step HB.out hb); have N1 := Lib.hid (HC.out.below hb); have c0 := N1.out.get (j := 0) rfl; have c1 := N1.out.get (j := 1) rfl; have c2 := N1.out.get (j := 2) rfl; have c3 := N1.out.get (j := 3) rfl; have c4 := N1.out.get (j := 4) rfl; have c5 := N1.out.get (j := 5) rfl; clear hb)
                    | (with_reducible refine (P2.out _).mono ?_; rintro e w2 ⟨rfl, hb⟩; have B2 := Lib.hid (below_step B1.out hb); have N2 := Lib.hid (N1.out.below hb); have d0 := N2.out.get (j := 0) rfl; have d1 := N2.out.get (j := 1) rfl; have d2 := N2.out.get (j := 2) rfl; have d3 := N2.out.get (j := 3) rfl; have d4 := N2.out.get (j := 4) rfl; have d5 := N2.out.get (j := 5) rfl; clear hb))
                | (go_at_call 29; go_must (refine (PN.out _).mono ?_); rintro e w3 ⟨rfl, hb⟩; have B3 := Lib.hid (below_step B2.out hb); have N3 := Lib.hid (N2.out.below hb); have e0 := N3.out.get (j := 0) rfl; have e1 := N3.out.get (j := 1) rfl; have e2 := N3.out.get (j := 2) rfl; have e3 := N3.out.get (j := 3) rfl; have e4 := N3.out.get (j := 4) rfl; have e5 := N3.out.get (j := 5) rfl; clear hb)
                | (go_at_call 30; go_must (refine (PW.out _ (hG.below B3.out)).mono ?_); rintro e w4 ⟨rfl, hb⟩; have B4 := Lib.hid (below_step B3.out hb); have N4 := Lib.hid (N3.out.below hb); have g0 := N4.out.get (j := 0) rfl; have g1 := N4.out.get (j := 1) rfl; have g2 := N4.out.get (j := 2) rfl; have g3 := N4.out.get (j := 3) rfl; have g4 := N4.out.get (j := 4) rfl; have g5 := N4.out.get (j := 5) rfl; clear hb))
        go_ret
        exact ⟨rfl, B2.out⟩
      · cases hl : Op.bytesLess t.toList f.toList
        · cases nm
          · show Calls _ _ _ _ fun e w' => e = .returned (.int .i64 2) ∧ Below w.heap.size w w'
            go_enter Tryz.func9, Tryz.ntmps9
            go_wp2_with (first
                    | (go_at_call 28; first
                        | (with_reducible refine (P1.out _).mono ?_; rintro e w1 ⟨rfl, hb⟩; have B1 := Lib.hid (below_step HB.out hb); have N1 := Lib.hid (HC.out.below hb); have c0 := N1.out.get (j := 0) rfl; have c1 := N1.out.get (j := 1) rfl; have c2 := N1.out.get (j := 2) rfl; have c3 := N1.out.get (j := 3) rfl; have c4 := N1.out.get (j := 4) rfl; have c5 := N1.out.get (j := 5) rfl; clear hb)
                        | (with_reducible refine (P2.out _).mono ?_; rintro e w2 ⟨rfl, hb⟩; have B2 := Lib.hid (below_step B1.out hb); have N2 := Lib.hid (N1.out.below hb); have d0 := N2.out.get (j := 0) rfl; have d1 := N2.out.get (j := 1) rfl; have d2 := N2.out.get (j := 2) rfl; have d3 := N2.out.get (j := 3) rfl; have d4 := N2.out.get (j := 4) rfl; have d5 := N2.out.get (j := 5) rfl; clear hb))
                    | (go_at_call 29; go_must (refine (PN.out _).mono ?_); rintro e w3 ⟨rfl, hb⟩; have B3 := Lib.hid (below_step B2.out hb); have N3 := Lib.hid (N2.out.below hb); have e0 := N3.out.get (j := 0) rfl; have e1 := N3.out.get (j := 1) rfl; have e2 := N3.out.get (j := 2) rfl; have e3 := N3.out.get (j := 3) rfl; have e4 := N3.out.get (j := 4) rfl; have e5 := N3.out.get (j := 5) rfl; clear hb)
                    | (go_at_call 30; go_must (refine (PW.out _ (hG.below B3.out)).mono ?_); rintro e w4 ⟨rfl, hb⟩; have B4 := Lib.hid (below_step B3.out hb); have N4 := Lib.hid (N3.out.below hb); have g0 := N4.out.get (j := 0) rfl; have g1 := N4.out.get (j := 1) rfl; have g2 := N4.out.get (j := 2) rfl; have g3 := N4.out.get (j := 3) rfl; have g4 := N4.out.get (j := 4) rfl; have g5 := N4.out.get (j := 5) rfl; clear hb))
            go_ret
            exact ⟨rfl, B3.out⟩
          · cases wi
            · show Calls _ _ _ _ fun e w' => e = .returned (.int .i64 7) ∧ Below w.heap.size w w'
              go_enter Tryz.func9, Tryz.ntmps9
              go_wp2_with (first
                      | (go_at_call 28; first
                          | (with_reducible refine (P1.out _).mono ?_; rintro e w1 ⟨rfl, hb⟩; have B1 := Lib.hid (below_step HB.out hb); have N1 := Lib.hid (HC.out.below hb); have c0 := N1.out.get (j := 0) rfl; have c1 := N1.out.get (j := 1) rfl; have c2 := N1.out.get (j := 2) rfl; have c3 := N1.out.get (j := 3) rfl; have c4 := N1.out.get (j := 4) rfl; have c5 := N1.out.get (j := 5) rfl; clear hb)
                          | (with_reducible refine (P2.out _).mono ?_; rintro e w2 ⟨rfl, hb⟩; have B2 := Lib.hid (below_step B1.out hb); have N2 := Lib.hid (N1.out.below hb); have d0 := N2.out.get (j := 0) rfl; have d1 := N2.out.get (j := 1) rfl; have d2 := N2.out.get (j := 2) rfl; have d3 := N2.out.get (j := 3) rfl; have d4 := N2.out.get (j := 4) rfl; have d5 := N2.out.get (j := 5) rfl; clear hb))
                      | (go_at_call 29; go_must (refine (PN.out _).mono ?_); rintro e w3 ⟨rfl, hb⟩; have B3 := Lib.hid (below_step B2.out hb); have N3 := Lib.hid (N2.out.below hb); have e0 := N3.out.get (j := 0) rfl; have e1 := N3.out.get (j := 1) rfl; have e2 := N3.out.get (j := 2) rfl; have e3 := N3.out.get (j := 3) rfl; have e4 := N3.out.get (j := 4) rfl; have e5 := N3.out.get (j := 5) rfl; clear hb)
                      | (go_at_call 30; go_must (refine (PW.out _ (hG.below B3.out)).mono ?_); rintro e w4 ⟨rfl, hb⟩; have B4 := Lib.hid (below_step B3.out hb); have N4 := Lib.hid (N3.out.below hb); have g0 := N4.out.get (j := 0) rfl; have g1 := N4.out.get (j := 1) rfl; have g2 := N4.out.get (j := 2) rfl; have g3 := N4.out.get (j := 3) rfl; have g4 := N4.out.get (j := 4) rfl; have g5 := N4.out.get (j := 5) rfl; clear hb))
              go_ret
              exact ⟨rfl, B4.out⟩
            · by_cases h1 : m < 1
              · have e : chk true true true false true true m = 11 := by unfold chk; simp [h1]
                rw [e]
                clear e
                have k2 : decide (m < 1) = true := decide_eq_true h1
                clear h1
                go_enter Tryz.func9, Tryz.ntmps9
                go_wp2_with (first
                        | (go_at_call 28; first
                            | (with_reducible refine (P1.out _).mono ?_; rintro e w1 ⟨rfl, hb⟩; have B1 := Lib.hid (below_step HB.out hb); have N1 := Lib.hid (HC.out.below hb); have c0 := N1.out.get (j := 0) rfl; have c1 := N1.out.get (j := 1) rfl; have c2 := N1.out.get (j := 2) rfl; have c3 := N1.out.get (j := 3) rfl; have c4 := N1.out.get (j := 4) rfl; have c5 := N1.out.get (j := 5) rfl; clear hb)
                            | (with_reducible refine (P2.out _).mono ?_; rintro e w2 ⟨rfl, hb⟩; have B2 := Lib.hid (below_step B1.out hb); have N2 := Lib.hid (N1.out.below hb); have d0 := N2.out.get (j := 0) rfl; have d1 := N2.out.get (j := 1) rfl; have d2 := N2.out.get (j := 2) rfl; have d3 := N2.out.get (j := 3) rfl; have d4 := N2.out.get (j := 4) rfl; have d5 := N2.out.get (j := 5) rfl; clear hb))
                        | (go_at_call 29; go_must (refine (PN.out _).mono ?_); rintro e w3 ⟨rfl, hb⟩; have B3 := Lib.hid (below_step B2.out hb); have N3 := Lib.hid (N2.out.below hb); have e0 := N3.out.get (j := 0) rfl; have e1 := N3.out.get (j := 1) rfl; have e2 := N3.out.get (j := 2) rfl; have e3 := N3.out.get (j := 3) rfl; have e4 := N3.out.get (j := 4) rfl; have e5 := N3.out.get (j := 5) rfl; clear hb)
                        | (go_at_call 30; go_must (refine (PW.out _ (hG.below B3.out)).mono ?_); rintro e w4 ⟨rfl, hb⟩; have B4 := Lib.hid (below_step B3.out hb); have N4 := Lib.hid (N3.out.below hb); have g0 := N4.out.get (j := 0) rfl; have g1 := N4.out.get (j := 1) rfl; have g2 := N4.out.get (j := 2) rfl; have g3 := N4.out.get (j := 3) rfl; have g4 := N4.out.get (j := 4) rfl; have g5 := N4.out.get (j := 5) rfl; clear hb))
                go_ret
                exact ⟨rfl, B4.out⟩
              · by_cases h3 : 3 < m
                · have e : chk true true true false true true m = 11 := by unfold chk; simp [h1, h3]
                  rw [e]
                  clear e
                  have k2 : decide (m < 1) = false := decide_eq_false h1
                  have k3 : decide (3 < m) = true := decide_eq_true h3
                  clear h1 h3
                  go_enter Tryz.func9, Tryz.ntmps9
                  go_wp2_with (first
                          | (go_at_call 28; first
                              | (with_reducible refine (P1.out _).mono ?_; rintro e w1 ⟨rfl, hb⟩; have B1 := Lib.hid (below_step HB.out hb); have N1 := Lib.hid (HC.out.below hb); have c0 := N1.out.get (j := 0) rfl; have c1 := N1.out.get (j := 1) rfl; have c2 := N1.out.get (j := 2) rfl; have c3 := N1.out.get (j := 3) rfl; have c4 := N1.out.get (j := 4) rfl; have c5 := N1.out.get (j := 5) rfl; clear hb)
                              | (with_reducible refine (P2.out _).mono ?_; rintro e w2 ⟨rfl, hb⟩; have B2 := Lib.hid (below_step B1.out hb); have N2 := Lib.hid (N1.out.below hb); have d0 := N2.out.get (j := 0) rfl; have d1 := N2.out.get (j := 1) rfl; have d2 := N2.out.get (j := 2) rfl; have d3 := N2.out.get (j := 3) rfl; have d4 := N2.out.get (j := 4) rfl; have d5 := N2.out.get (j := 5) rfl; clear hb))
                          | (go_at_call 29; go_must (refine (PN.out _).mono ?_); rintro e w3 ⟨rfl, hb⟩; have B3 := Lib.hid (below_step B2.out hb); have N3 := Lib.hid (N2.out.below hb); have e0 := N3.out.get (j := 0) rfl; have e1 := N3.out.get (j := 1) rfl; have e2 := N3.out.get (j := 2) rfl; have e3 := N3.out.get (j := 3) rfl; have e4 := N3.out.get (j := 4) rfl; have e5 := N3.out.get (j := 5) rfl; clear hb)
                          | (go_at_call 30; go_must (refine (PW.out _ (hG.below B3.out)).mono ?_); rintro e w4 ⟨rfl, hb⟩; have B4 := Lib.hid (below_step B3.out hb); have N4 := Lib.hid (N3.out.below hb); have g0 := N4.out.get (j := 0) rfl; have g1 := N4.out.get (j := 1) rfl; have g2 := N4.out.get (j := 2) rfl; have g3 := N4.out.get (j := 3) rfl; have g4 := N4.out.get (j := 4) rfl; have g5 := N4.out.get (j := 5) rfl; clear hb))
                  go_ret
                  exact ⟨rfl, B4.out⟩
                · have e : chk true true true false true true m = 0 := by unfold chk; simp [h1, h3]
                  rw [e]
                  clear e
                  have k2 : decide (m < 1) = false := decide_eq_false h1
                  have k3 : decide (3 < m) = false := decide_eq_false h3
                  clear h1 h3
                  go_enter Tryz.func9, Tryz.ntmps9
                  go_wp2_with (first
                          | (go_at_call 28; first
                              | (with_reducible refine (P1.out _).mono ?_; rintro e w1 ⟨rfl, hb⟩; have B1 := Lib.hid (below_step HB.out hb); have N1 := Lib.hid (HC.out.below hb); have c0 := N1.out.get (j := 0) rfl; have c1 := N1.out.get (j := 1) rfl; have c2 := N1.out.get (j := 2) rfl; have c3 := N1.out.get (j := 3) rfl; have c4 := N1.out.get (j := 4) rfl; have c5 := N1.out.get (j := 5) rfl; clear hb)
                              | (with_reducible refine (P2.out _).mono ?_; rintro e w2 ⟨rfl, hb⟩; have B2 := Lib.hid (below_step B1.out hb); have N2 := Lib.hid (N1.out.below hb); have d0 := N2.out.get (j := 0) rfl; have d1 := N2.out.get (j := 1) rfl; have d2 := N2.out.get (j := 2) rfl; have d3 := N2.out.get (j := 3) rfl; have d4 := N2.out.get (j := 4) rfl; have d5 := N2.out.get (j := 5) rfl; clear hb))
                          | (go_at_call 29; go_must (refine (PN.out _).mono ?_); rintro e w3 ⟨rfl, hb⟩; have B3 := Lib.hid (below_step B2.out hb); have N3 := Lib.hid (N2.out.below hb); have e0 := N3.out.get (j := 0) rfl; have e1 := N3.out.get (j := 1) rfl; have e2 := N3.out.get (j := 2) rfl; have e3 := N3.out.get (j := 3) rfl; have e4 := N3.out.get (j := 4) rfl; have e5 := N3.out.get (j := 5) rfl; clear hb)
                          | (go_at_call 30; go_must (refine (PW.out _ (hG.below B3.out)).mono ?_); rintro e w4 ⟨rfl, hb⟩; have B4 := Lib.hid (below_step B3.out hb); have N4 := Lib.hid (N3.out.below hb); have g0 := N4.out.get (j := 0) rfl; have g1 := N4.out.get (j := 1) rfl; have g2 := N4.out.get (j := 2) rfl; have g3 := N4.out.get (j := 3) rfl; have g4 := N4.out.get (j := 4) rfl; have g5 := N4.out.get (j := 5) rfl; clear hb))
                  go_ret
                  exact ⟨rfl, B4.out⟩
        · show Calls _ _ _ _ fun e w' => e = .returned (.int .i64 19) ∧ Below w.heap.size w w'
          go_enter Tryz.func9, Tryz.ntmps9
          go_wp2_with (first
                  | (go_at_call 28; first
                      | (with_reducible refine (P1.out _).mono ?_; rintro e w1 ⟨rfl, hb⟩; have B1 := Lib.hid (below_step HB.out hb); have N1 := Lib.hid (HC.out.below hb); have c0 := N1.out.get (j := 0) rfl; have c1 := N1.out.get (j := 1) rfl; have c2 := N1.out.get (j := 2) rfl; have c3 := N1.out.get (j := 3) rfl; have c4 := N1.out.get (j := 4) rfl; have c5 := N1.out.get (j := 5) rfl; clear hb)
                      | (with_reducible refine (P2.out _).mono ?_; rintro e w2 ⟨rfl, hb⟩; have B2 := Lib.hid (below_step B1.out hb); have N2 := Lib.hid (N1.out.below hb); have d0 := N2.out.get (j := 0) rfl; have d1 := N2.out.get (j := 1) rfl; have d2 := N2.out.get (j := 2) rfl; have d3 := N2.out.get (j := 3) rfl; have d4 := N2.out.get (j := 4) rfl; have d5 := N2.out.get (j := 5) rfl; clear hb))
                  | (go_at_call 29; go_must (refine (PN.out _).mono ?_); rintro e w3 ⟨rfl, hb⟩; have B3 := Lib.hid (below_step B2.out hb); have N3 := Lib.hid (N2.out.below hb); have e0 := N3.out.get (j := 0) rfl; have e1 := N3.out.get (j := 1) rfl; have e2 := N3.out.get (j := 2) rfl; have e3 := N3.out.get (j := 3) rfl; have e4 := N3.out.get (j := 4) rfl; have e5 := N3.out.get (j := 5) rfl; clear hb)
                  | (go_at_call 30; go_must (refine (PW.out _ (hG.below B3.out)).mono ?_); rintro e w4 ⟨rfl, hb⟩; have B4 := Lib.hid (below_step B3.out hb); have N4 := Lib.hid (N3.out.below hb); have g0 := N4.out.get (j := 0) rfl; have g1 := N4.out.get (j := 1) rfl; have g2 := N4.out.get (j := 2) rfl; have g3 := N4.out.get (j := 3) rfl; have g4 := N4.out.get (j := 4) rfl; have g5 := N4.out.get (j := 5) rfl; clear hb))
          go_ret
          exact ⟨rfl, B2.out⟩
  · have k1 : ((f.size : Int) != (t.size : Int)) = true := by simp; omega
    rw [decide_eq_false hs]
    clear hs
    cases p
    · show Calls _ _ _ _ fun e w' => e = .returned (.int .i64 4) ∧ Below w.heap.size w w'
      go_enter Tryz.func9, Tryz.ntmps9
      go_wp2_with (first
              | (go_at_call 28; first
                  | (with_reducible refine (P1.out _).mono ?_; rintro e w1 ⟨rfl, hb⟩; have B1 := Lib.hid (below_step HB.out hb); have N1 := Lib.hid (HC.out.below hb); have c0 := N1.out.get (j := 0) rfl; have c1 := N1.out.get (j := 1) rfl; have c2 := N1.out.get (j := 2) rfl; have c3 := N1.out.get (j := 3) rfl; have c4 := N1.out.get (j := 4) rfl; have c5 := N1.out.get (j := 5) rfl; clear hb)
                  | (with_reducible refine (P2.out _).mono ?_; rintro e w2 ⟨rfl, hb⟩; have B2 := Lib.hid (below_step B1.out hb); have N2 := Lib.hid (N1.out.below hb); have d0 := N2.out.get (j := 0) rfl; have d1 := N2.out.get (j := 1) rfl; have d2 := N2.out.get (j := 2) rfl; have d3 := N2.out.get (j := 3) rfl; have d4 := N2.out.get (j := 4) rfl; have d5 := N2.out.get (j := 5) rfl; clear hb))
              | (go_at_call 29; go_must (refine (PN.out _).mono ?_); rintro e w3 ⟨rfl, hb⟩; have B3 := Lib.hid (below_step B2.out hb); have N3 := Lib.hid (N2.out.below hb); have e0 := N3.out.get (j := 0) rfl; have e1 := N3.out.get (j := 1) rfl; have e2 := N3.out.get (j := 2) rfl; have e3 := N3.out.get (j := 3) rfl; have e4 := N3.out.get (j := 4) rfl; have e5 := N3.out.get (j := 5) rfl; clear hb)
              | (go_at_call 30; go_must (refine (PW.out _ (hG.below B3.out)).mono ?_); rintro e w4 ⟨rfl, hb⟩; have B4 := Lib.hid (below_step B3.out hb); have N4 := Lib.hid (N3.out.below hb); have g0 := N4.out.get (j := 0) rfl; have g1 := N4.out.get (j := 1) rfl; have g2 := N4.out.get (j := 2) rfl; have g3 := N4.out.get (j := 3) rfl; have g4 := N4.out.get (j := 4) rfl; have g5 := N4.out.get (j := 5) rfl; clear hb))
      go_ret
      exact ⟨rfl, B1.out⟩
    · cases q
      · show Calls _ _ _ _ fun e w' => e = .returned (.int .i64 4) ∧ Below w.heap.size w w'
        go_enter Tryz.func9, Tryz.ntmps9
        go_wp2_with (first
                | (go_at_call 28; first
                    | (with_reducible refine (P1.out _).mono ?_; rintro e w1 ⟨rfl, hb⟩; have B1 := Lib.hid (below_step HB.out hb); have N1 := Lib.hid (HC.out.below hb); have c0 := N1.out.get (j := 0) rfl; have c1 := N1.out.get (j := 1) rfl; have c2 := N1.out.get (j := 2) rfl; have c3 := N1.out.get (j := 3) rfl; have c4 := N1.out.get (j := 4) rfl; have c5 := N1.out.get (j := 5) rfl; clear hb)
                    | (with_reducible refine (P2.out _).mono ?_; rintro e w2 ⟨rfl, hb⟩; have B2 := Lib.hid (below_step B1.out hb); have N2 := Lib.hid (N1.out.below hb); have d0 := N2.out.get (j := 0) rfl; have d1 := N2.out.get (j := 1) rfl; have d2 := N2.out.get (j := 2) rfl; have d3 := N2.out.get (j := 3) rfl; have d4 := N2.out.get (j := 4) rfl; have d5 := N2.out.get (j := 5) rfl; clear hb))
                | (go_at_call 29; go_must (refine (PN.out _).mono ?_); rintro e w3 ⟨rfl, hb⟩; have B3 := Lib.hid (below_step B2.out hb); have N3 := Lib.hid (N2.out.below hb); have e0 := N3.out.get (j := 0) rfl; have e1 := N3.out.get (j := 1) rfl; have e2 := N3.out.get (j := 2) rfl; have e3 := N3.out.get (j := 3) rfl; have e4 := N3.out.get (j := 4) rfl; have e5 := N3.out.get (j := 5) rfl; clear hb)
                | (go_at_call 30; go_must (refine (PW.out _ (hG.below B3.out)).mono ?_); rintro e w4 ⟨rfl, hb⟩; have B4 := Lib.hid (below_step B3.out hb); have N4 := Lib.hid (N3.out.below hb); have g0 := N4.out.get (j := 0) rfl; have g1 := N4.out.get (j := 1) rfl; have g2 := N4.out.get (j := 2) rfl; have g3 := N4.out.get (j := 3) rfl; have g4 := N4.out.get (j := 4) rfl; have g5 := N4.out.get (j := 5) rfl; clear hb))
        go_ret
        exact ⟨rfl, B2.out⟩
      · show Calls _ _ _ _ fun e w' => e = .returned (.int .i64 4) ∧ Below w.heap.size w w'
        go_enter Tryz.func9, Tryz.ntmps9
        go_wp2_with (first
                | (go_at_call 28; first
                    | (with_reducible refine (P1.out _).mono ?_; rintro e w1 ⟨rfl, hb⟩; have B1 := Lib.hid (below_step HB.out hb); have N1 := Lib.hid (HC.out.below hb); have c0 := N1.out.get (j := 0) rfl; have c1 := N1.out.get (j := 1) rfl; have c2 := N1.out.get (j := 2) rfl; have c3 := N1.out.get (j := 3) rfl; have c4 := N1.out.get (j := 4) rfl; have c5 := N1.out.get (j := 5) rfl; clear hb)
                    | (with_reducible refine (P2.out _).mono ?_; rintro e w2 ⟨rfl, hb⟩; have B2 := Lib.hid (below_step B1.out hb); have N2 := Lib.hid (N1.out.below hb); have d0 := N2.out.get (j := 0) rfl; have d1 := N2.out.get (j := 1) rfl; have d2 := N2.out.get (j := 2) rfl; have d3 := N2.out.get (j := 3) rfl; have d4 := N2.out.get (j := 4) rfl; have d5 := N2.out.get (j := 5) rfl; clear hb))
                | (go_at_call 29; go_must (refine (PN.out _).mono ?_); rintro e w3 ⟨rfl, hb⟩; have B3 := Lib.hid (below_step B2.out hb); have N3 := Lib.hid (N2.out.below hb); have e0 := N3.out.get (j := 0) rfl; have e1 := N3.out.get (j := 1) rfl; have e2 := N3.out.get (j := 2) rfl; have e3 := N3.out.get (j := 3) rfl; have e4 := N3.out.get (j := 4) rfl; have e5 := N3.out.get (j := 5) rfl; clear hb)
                | (go_at_call 30; go_must (refine (PW.out _ (hG.below B3.out)).mono ?_); rintro e w4 ⟨rfl, hb⟩; have B4 := Lib.hid (below_step B3.out hb); have N4 := Lib.hid (N3.out.below hb); have g0 := N4.out.get (j := 0) rfl; have g1 := N4.out.get (j := 1) rfl; have g2 := N4.out.get (j := 2) rfl; have g3 := N4.out.get (j := 3) rfl; have g4 := N4.out.get (j := 4) rfl; have g5 := N4.out.get (j := 5) rfl; clear hb))
        go_ret
        exact ⟨rfl, B2.out⟩

/-- ranges.Range.Check -/
def checkV (f t n lo hi : ByteArray) (m : Int) : Int := chk (cardOk f) (cardOk t) (decide (f.size = t.size)) (Op.bytesLess t.toList f.toList) (namedOk n) (within lo.data.toList lo.data.toList hi.data.toList) m

theorem bytes_of (s : ByteArray) : (⟨s.data.toList.toArray⟩ : ByteArray) = s := by
  cases s; simp

theorem check_any (f t n lo hi : ByteArray) (m : Int) (hn : n.size ≤ 1000) (hlo : lo.size ≤ 1000) (hhi : hi.size ≤ 1000) (w : World) (hG : Glob w) :
    Calls Tryz.prog 9 #[rangeV f t n lo hi m] w fun e w' => e = .returned (.int .i64 (checkV f t n lo hi m)) ∧ Below w.heap.size w w' := by
  refine check_walk _ _ _ _ f t n lo hi m w hG (fun W => rcard_any f W) (fun W => rcard_any t W) (fun W => named_any n hn W) (fun W hW => ?_)
  have l1 : lo.data.toList.length = lo.size := by simp
  have l2 : hi.data.toList.length = hi.size := by simp
  have := within_any lo.data.toList lo.data.toList hi.data.toList (by omega) (by omega) (by omega) W hW
  rw [bytes_of, bytes_of] at this
  exact this

end Go.Proofs.YtiggnmhoececfaaGreatDoor

namespace Go.Proofs.YtiggnmhoececfaaGreatDoor
set_option linter.unusedVariables false
set_option linter.unusedSimpArgs false
open Go.RowKit Go.Proofs.YtiggnmhoececfaaGreatDoorW.PrintWords Go.Proofs.YtiggnmhoececfaaGreatDoorW.PrintMore

theorem max_five (ats : Array TypeId) (ty : TypeId) (a b c d e : Value) : Builtin.max_ ats ty #[a, b, c, d, e] = (Builtin.max2 a b >>= fun s => Builtin.max2 s c >>= fun s => Builtin.max2 s d >>= fun s => Builtin.max2 s e >>= fun s => pure s) := by simp only [Builtin.max_, List.foldlM_cons, List.foldlM_nil]

theorem imax (a b : Int) : ∃ M : Int, (if a < b then b else a) = M ∧ (60 < M ↔ 60 < a ∨ 60 < b) := by
  refine ⟨_, rfl, ?_⟩
  split <;> omega

theorem max5_is (a b c d e : Int) : ∃ M : Int, (∀ ats ty, Builtin.max_ ats ty #[.int .i64 a, .int .i64 b, .int .i64 c, .int .i64 d, .int .i64 e] = pure (.int .i64 M)) ∧ (60 < M ↔ 60 < a ∨ 60 < b ∨ 60 < c ∨ 60 < d ∨ 60 < e) := by
  obtain ⟨m1, e1, h1⟩ := imax a b
  obtain ⟨m2, e2, h2⟩ := imax m1 c
  obtain ⟨m3, e3, h3⟩ := imax m2 d
  obtain ⟨m4, e4, h4⟩ := imax m3 e
  refine ⟨m4, fun ats ty => by rw [max_five, max2_int, pure_bind, e1, max2_int, pure_bind, e2, max2_int, pure_bind, e3, max2_int, pure_bind, e4], by omega⟩

def lightV (f t n lo hi : ByteArray) : Bool := decide (f.size ≤ 60) && (decide (t.size ≤ 60) && (decide (n.size ≤ 60) && (decide (lo.size ≤ 60) && decide (hi.size ≤ 60))))

set_option maxHeartbeats 800000 in
theorem light_any (f t n lo hi : ByteArray) (m : Int) (w : World) :
    Calls Tryz.prog 8 #[rangeV f t n lo hi m] w fun e w' => e = .returned (.bool (lightV f t n lo hi)) ∧ Below w.heap.size w w' := by
  obtain ⟨M, hM, hiff⟩ := max5_is f.size t.size n.size lo.size hi.size
  have hv : lightV f t n lo hi = decide (M ≤ 60) := by
    unfold lightV
    rw [Bool.eq_iff_iff]
    simp only [Bool.and_eq_true, decide_eq_true_eq]
    omega
  rw [hv]
  clear hv hiff
  go_enter Tryz.func8, Tryz.ntmps8
  go_wp2
  go_ret
  exact ⟨rfl, below_alloc (Below.refl _ _) _⟩

abbrev oneF : ByteArray := ⟨#[52, 49, 49, 49, 49, 49, 49, 49, 49, 49, 49, 49, 49, 49, 49, 49]⟩
abbrev oneN : ByteArray := ⟨#[97, 99, 115]⟩
abbrev oneLo : ByteArray := ⟨#[50, 46, 49, 46, 48]⟩
abbrev oneHi : ByteArray := ⟨#[50, 46, 50, 46, 48]⟩

theorem one_any (w : World) : Calls Tryz.prog 27 #[] w fun e w' => e = .returned (rangeV oneF oneF oneN oneLo oneHi 1) ∧ Below w.heap.size w w' :=
  PRef.cashierlaw18_one.calls _ _ _ _ _ _ w rfl

set_option maxRecDepth 100000 in
theorem check_one : checkV oneF oneF oneN oneLo oneHi 1 = 0 := by decide +kernel
set_option maxRecDepth 100000 in
theorem has_one : hasV oneF oneF ⟨#[52, 49, 49, 49, 49, 49, 49, 49, 49, 49, 49, 49, 49, 49, 49, 49]⟩ = true := by decide +kernel
set_option maxRecDepth 100000 in
theorem has_two : hasV oneF oneF ⟨#[52, 49, 49, 49, 49, 49, 49, 49, 49, 49, 49, 49, 49, 49, 49, 50]⟩ = false := by decide +kernel

theorem Awake17_any (w : World) (hG : Glob w) :
    Calls Tryz.prog 26 #[] w fun e w' => e = .returned (.bool true) ∧ Below w.heap.size w w' := by
  have H1 := Lib.hid (awake17_any w hG)
  go_enter Tryz.func26, Tryz.ntmps26
  go_wp2_with (go_at_call 48; go_must (refine H1.out.mono ?_); rintro e w1 ⟨rfl, hb⟩)
  go_ret
  exact ⟨rfl, hb⟩

set_option maxHeartbeats 1600000 in
theorem awake18_any (w : World) (hG : Glob w) :
    Calls Tryz.prog 7 #[] w fun e w' => e = .returned (.bool true) ∧ Below w.heap.size w w' := by
  have H1 := Lib.hid (Awake17_any w hG)
  have h2 := fun W hW => check_any oneF oneF oneN oneLo oneHi 1 (by decide) (by decide) (by decide) W hW
  rw [check_one] at h2
  have h3 := fun W => has_any oneF oneF oneN oneLo oneHi ⟨#[52, 49, 49, 49, 49, 49, 49, 49, 49, 49, 49, 49, 49, 49, 49, 49]⟩ 1 W
  rw [has_one] at h3
  have h4 := fun W => has_any oneF oneF oneN oneLo oneHi ⟨#[52, 49, 49, 49, 49, 49, 49, 49, 49, 49, 49, 49, 49, 49, 49, 50]⟩ 1 W
  rw [has_two] at h4
  have H2 := Lib.hid h2
  have H3 := Lib.hid h3
  have H4 := Lib.hid h4
  have HO := Lib.hid one_any
  clear h2 h3 h4
  go_enter Tryz.func7, Tryz.ntmps7
  go_wp2_with (first
    | (go_at_call 26; go_must (refine H1.out.mono ?_); rintro e w1 ⟨rfl, hb⟩; have B := Lib.hid hb; clear hb)
    | (go_at_call 27; go_must (refine (HO.out _).mono ?_); rintro e w2 ⟨rfl, hb⟩; replace B := Lib.hid (below_step B.out hb); clear hb)
    | (go_at_call 9; go_must (refine (H2.out _ (hG.below B.out)).mono ?_); rintro e w3 ⟨rfl, hb⟩; replace B := Lib.hid (below_step B.out hb); clear hb)
    | (go_at_call 12; first
        | (with_reducible refine (H3.out _).mono ?_; rintro e w4 ⟨rfl, hb⟩; replace B := Lib.hid (below_step B.out hb); clear hb)
        | (with_reducible refine (H4.out _).mono ?_; rintro e w5 ⟨rfl, hb⟩; replace B := Lib.hid (below_step B.out hb); clear hb)))
  go_ret
  exact ⟨rfl, B.out⟩

end Go.Proofs.YtiggnmhoececfaaGreatDoor

namespace Go.Proofs.YtiggnmhoececfaaGreatDoor.PRef
open Go.Proofs.YtiggnmhoececfaaGreatDoor.PRangesTurn
open Go.RowKit Go.Proofs.YtiggnmhoececfaaGreatDoorW.PrintWords Go.Proofs.YtiggnmhoececfaaGreatDoorW.PrintLast Go.Proofs.YtiggnmhoececfaaGreatDoorW.PrintMore
attribute [local go_sem] max2_int min2_int max_two min_two max_three min_three max_four min_four   -- for this text's walks alone
set_option linter.unusedVariables false
set_option linter.unusedSimpArgs false

/-! ### cashierref03_Cmp: function 32 -/
mutual
def cashierref03_Cmp.j1 : Nat → ByteArray → ByteArray → Option (Int)
  | 0, _, _ => none
  | k + 1, x0, x1 => cashierref03_Cmp.l1 k x0 x1
def cashierref03_Cmp.j3 : Nat → ByteArray → ByteArray → Option (Int)
  | 0, _, _ => none
  | k + 1, x0, x1 => if (x0.size : Int) < (x1.size : Int) then (cashierref03_Cmp.j4 k x0 x1 true) else (if (x0.size : Int) = (x1.size : Int) then (cashierref03_Cmp.j4 k x0 x1 (Op.bytesLess x0.toList x1.toList)) else (cashierref03_Cmp.j4 k x0 x1 false))
def cashierref03_Cmp.j4 : Nat → ByteArray → ByteArray → Bool → Option (Int)
  | 0, _, _, _ => none
  | k + 1, x0, x1, x41 => if x41 = true then (some (-1)) else (if (x0.size : Int) > (x1.size : Int) then (some 1) else (if (Op.bytesLess x1.toList x0.toList) = true then (some 1) else (some 0)))
def cashierref03_Cmp.l1 : Nat → ByteArray → ByteArray → Option (Int)
  | 0, _, _ => none
  | k + 1, x0, x1 => if (x1.size : Int) > 0 then (if 0 < (x1.size : Int) then (if (bt x1 0) = 48 then (if 1 ≤ (x1.size : Int) then (cashierref03_Cmp.l1 k x0 (x1.extract 1 x1.size)) else (none)) else (cashierref03_Cmp.j3 k x0 x1)) else (none)) else (cashierref03_Cmp.j3 k x0 x1)
def cashierref03_Cmp.l0 : Nat → ByteArray → ByteArray → Option (Int)
  | 0, _, _ => none
  | k + 1, x0, x1 => if (x0.size : Int) > 0 then (if 0 < (x0.size : Int) then (if (bt x0 0) = 48 then (if 1 ≤ (x0.size : Int) then (cashierref03_Cmp.l0 k (x0.extract 1 x0.size) x1) else (none)) else (cashierref03_Cmp.j1 k x0 x1)) else (none)) else (cashierref03_Cmp.j1 k x0 x1)
end
def cashierref03_Cmp.f (k : Nat) (a0 : ByteArray) (a1 : ByteArray) : Option (Int) := cashierref03_Cmp.l0 k a0 a1
theorem cashierref03_Cmp.mono_l : ∀ k, (∀ y0 y1, LeO (cashierref03_Cmp.j1 k y0 y1) (cashierref03_Cmp.j1 (k + 1) y0 y1)) ∧ (∀ y0 y1, LeO (cashierref03_Cmp.j3 k y0 y1) (cashierref03_Cmp.j3 (k + 1) y0 y1)) ∧ (∀ y0 y1 y2, LeO (cashierref03_Cmp.j4 k y0 y1 y2) (cashierref03_Cmp.j4 (k + 1) y0 y1 y2)) ∧ (∀ y0 y1, LeO (cashierref03_Cmp.l1 k y0 y1) (cashierref03_Cmp.l1 (k + 1) y0 y1)) ∧ (∀ y0 y1, LeO (cashierref03_Cmp.l0 k y0 y1) (cashierref03_Cmp.l0 (k + 1) y0 y1))
  | 0 => ⟨fun _ _ r h => by simp [cashierref03_Cmp.j1] at h, fun _ _ r h => by simp [cashierref03_Cmp.j3] at h, fun _ _ _ r h => by simp [cashierref03_Cmp.j4] at h, fun _ _ r h => by simp [cashierref03_Cmp.l1] at h, fun _ _ r h => by simp [cashierref03_Cmp.l0] at h⟩
  | k + 1 => by
    obtain ⟨ih0, ih1, ih2, ih3, ih4⟩ := cashierref03_Cmp.mono_l k
    refine ⟨?_, ?_, ?_, ?_, ?_⟩
    · intro y0 y1
      unfold cashierref03_Cmp.j1
      repeat' first
      | (with_reducible exact ih0 _ _)
      | (with_reducible exact ih1 _ _)
      | (with_reducible exact ih2 _ _ _)
      | (with_reducible exact ih3 _ _)
      | (with_reducible exact ih4 _ _)
      | (with_reducible exact LeO.refl _)
      | (with_reducible exact LeO.none _)
      | (with_reducible refine LeO.ite ?_ ?_)
      | (with_reducible refine LeO.bind ?_ (fun _ => ?_))
      | exact ih0 _ _
      | exact ih1 _ _
      | exact ih2 _ _ _
      | exact ih3 _ _
      | exact ih4 _ _
      | exact LeO.none _
      | refine LeO.ite ?_ ?_
      | refine LeO.bind ?_ (fun _ => ?_)
    · intro y0 y1
      unfold cashierref03_Cmp.j3
      repeat' first
      | (with_reducible exact ih0 _ _)
      | (with_reducible exact ih1 _ _)
      | (with_reducible exact ih2 _ _ _)
      | (with_reducible exact ih3 _ _)
      | (with_reducible exact ih4 _ _)
      | (with_reducible exact LeO.refl _)
      | (with_reducible exact LeO.none _)
      | (with_reducible refine LeO.ite ?_ ?_)
      | (with_reducible refine LeO.bind ?_ (fun _ => ?_))
      | exact ih0 _ _
      | exact ih1 _ _
      | exact ih2 _ _ _
      | exact ih3 _ _
      | exact ih4 _ _
      | exact LeO.none _
      | refine LeO.ite ?_ ?_
      | refine LeO.bind ?_ (fun _ => ?_)
    · intro y0 y1 y2
      unfold cashierref03_Cmp.j4
      repeat' first
      | (with_reducible exact ih0 _ _)
      | (with_reducible exact ih1 _ _)
      | (with_reducible exact ih2 _ _ _)
      | (with_reducible exact ih3 _ _)
      | (with_reducible exact ih4 _ _)
      | (with_reducible exact LeO.refl _)
      | (with_reducible exact LeO.none _)
      | (with_reducible refine LeO.ite ?_ ?_)
      | (with_reducible refine LeO.bind ?_ (fun _ => ?_))
      | exact ih0 _ _
      | exact ih1 _ _
      | exact ih2 _ _ _
      | exact ih3 _ _
      | exact ih4 _ _
      | exact LeO.none _
      | refine LeO.ite ?_ ?_
      | refine LeO.bind ?_ (fun _ => ?_)
    · intro y0 y1
      unfold cashierref03_Cmp.l1
      repeat' first
      | (with_reducible exact ih0 _ _)
      | (with_reducible exact ih1 _ _)
      | (with_reducible exact ih2 _ _ _)
      | (with_reducible exact ih3 _ _)
      | (with_reducible exact ih4 _ _)
      | (with_reducible exact LeO.refl _)
      | (with_reducible exact LeO.none _)
      | (with_reducible refine LeO.ite ?_ ?_)
      | (with_reducible refine LeO.bind ?_ (fun _ => ?_))
      | exact ih0 _ _
      | exact ih1 _ _
      | exact ih2 _ _ _
      | exact ih3 _ _
      | exact ih4 _ _
      | exact LeO.none _
      | refine LeO.ite ?_ ?_
      | refine LeO.bind ?_ (fun _ => ?_)
    · intro y0 y1
      unfold cashierref03_Cmp.l0
      repeat' first
      | (with_reducible exact ih0 _ _)
      | (with_reducible exact ih1 _ _)
      | (with_reducible exact ih2 _ _ _)
      | (with_reducible exact ih3 _ _)
      | (with_reducible exact ih4 _ _)
      | (with_reducible exact LeO.refl _)
      | (with_reducible exact LeO.none _)
      | (with_reducible refine LeO.ite ?_ ?_)
      | (with_reducible refine LeO.bind ?_ (fun _ => ?_))
      | exact ih0 _ _
      | exact ih1 _ _
      | exact ih2 _ _ _
      | exact ih3 _ _
      | exact ih4 _ _
      | exact LeO.none _
      | refine LeO.ite ?_ ?_
      | refine LeO.bind ?_ (fun _ => ?_)
theorem cashierref03_Cmp.mono : ∀ a0 a1 k, LeO (cashierref03_Cmp.f k a0 a1) (cashierref03_Cmp.f (k + 1) a0 a1) := by
  intro a0 a1 k
  obtain ⟨ih0, ih1, ih2, ih3, ih4⟩ := cashierref03_Cmp.mono_l k
  unfold cashierref03_Cmp.f
  repeat' first
      | (with_reducible exact ih0 _ _)
      | (with_reducible exact ih1 _ _)
      | (with_reducible exact ih2 _ _ _)
      | (with_reducible exact ih3 _ _)
      | (with_reducible exact ih4 _ _)
      | (with_reducible exact LeO.refl _)
      | (with_reducible exact LeO.none _)
      | (with_reducible refine LeO.ite ?_ ?_)
      | (with_reducible refine LeO.bind ?_ (fun _ => ?_))
      | exact ih0 _ _
      | exact ih1 _ _
      | exact ih2 _ _ _
      | exact ih3 _ _
      | exact ih4 _ _
      | exact LeO.none _
      | refine LeO.ite ?_ ?_
      | refine LeO.bind ?_ (fun _ => ?_)
set_option maxHeartbeats 8000000 in
set_option maxRecDepth 100000 in
theorem cashierref03_Cmp.calls (k : Nat) (a0 : ByteArray) (a1 : ByteArray) (r : Int) (w : World) (h : cashierref03_Cmp.f k a0 a1 = some r) :
    Calls Tryz.prog 32 #[.string a0, .string a1] w fun e w' => e = .returned (.int .i64 r) ∧ Drawn0 w w' := by
  have H : (cashierref03_Cmp.l0 k a0 a1) = some r := h
  clear h
  have HC3 := Aside0.mk H
  clear H
  go_enter Tryz.func32, Tryz.ntmps32
  go_upto_block 0 with (fail)
  go_cut [0] (fun v0 wc => ∃ (kq : Nat) (x0_2 : ByteArray), v0 = .string x0_2 ∧ Aside0 (cashierref03_Cmp.j1 kq x0_2 a1 = some r) ∧ Aside0 (kq ≤ k) ∧ Drawn0 w wc)
  case first =>
    have H := HC3.out
    clear HC3
    have H' := Aside0.mk H
    clear H
    go_wp2
    go_loopg [0] k (fun kq v0 w' => ∃ (x0_1 : ByteArray), v0 = .string x0_1 ∧ Aside0 (cashierref03_Cmp.l0 kq x0_1 a1 = some r) ∧ Aside0 (kq ≤ k) ∧ Drawn0 w w')
    case atStart => exact ⟨(a0), (by first | rfl | (simp; done) | (simp [*]; done)), H', ⟨Nat.le_refl _⟩, by repeat (first | exact Drawn0.refl _ | apply Drawn0.step)⟩
    case round =>
      clear H'
      try clear p2
      try clear c3
      obtain ⟨x0_1, rfl, HA, HK1, ⟨m1, rfl⟩⟩ := hrel
      cases gk with
      | zero => exact absurd HA.out (by simp [cashierref03_Cmp.l0])
      | succ k1 =>
        have H := HA.out
        clear HA
        simp only [cashierref03_Cmp.l0] at H
        by_cases c4 : (x0_1.size : Int) > 0
        · rw [if_pos c4] at H
          have c4b0 : decide (0 < (x0_1.size : Int)) = true := decide_eq_true c4
          have c4b1 : decide (0 < x0_1.size) = true := decide_eq_true (by omega)
          clear c4
          (first | rw [c4b0] | (simp only [i64_w, i32_w]; rw [c4b0]) | skip)
          by_cases c5 : 0 < (x0_1.size : Int)
          · rw [if_pos c5] at H
            have c5b0 : decide (0 < (x0_1.size : Int)) = true := decide_eq_true c5
            have c5b1 : decide (0 < x0_1.size) = true := decide_eq_true (by omega)
            clear c5
            by_cases c7 : (bt x0_1 0) = 48
            · rw [if_pos c7] at H
              have c7b0 : ((bt x0_1 0) == 48) = true := beq_iff_eq.mpr c7
              have c7b1 : ((bt x0_1 0) != 48) = false := bne_eq_false_iff_eq.mpr c7
              clear c7
              by_cases c8 : 1 ≤ (x0_1.size : Int)
              · rw [if_pos c8] at H
                have c8b0 := eq_true c8
                have c8b1 : decide (1 ≤ (x0_1.size : Int)) = true := decide_eq_true c8
                clear c8
                have H' := Aside0.mk H
                clear H
                have p6 : 0 ≤ (0 : Int) := (by omega)
                have q6 : 0 < x0_1.size := (by have : (0 : Int) < (x0_1.size : Int) := of_decide_eq_true (by first | (with_reducible assumption) | assumption); omega)
                have hx6 : ∀ h : 0 < x0_1.size, ((x0_1[0]'h).toNat : Int) = bt x0_1 0 := bt_at x0_1 0
                clear p6
                have qi6 : (0 < (x0_1.size : Int)) = True := eq_true (of_decide_eq_true (by first | (with_reducible assumption) | assumption))
                replace q6 := eq_true q6
                go_wp2
                go_roundg k1
                case measure => have := HK1.out; omega
                case rel => exact ⟨(x0_1.extract 1 x0_1.size), (by first | rfl | (simp; done) | (simp [*]; done)), H', ⟨by have := HK1.out; omega⟩, by repeat (first | exact Drawn0.refl _ | apply Drawn0.step)⟩
              · rw [if_neg c8] at H
                exact absurd H (by simp)
            · rw [if_neg c7] at H
              have c7b0 : ((bt x0_1 0) == 48) = false := beq_eq_false_iff_ne.mpr c7
              have c7b1 : ((bt x0_1 0) != 48) = true := bne_iff_ne.mpr c7
              have H' := Aside0.mk H
              clear H
              have p6 : 0 ≤ (0 : Int) := (by omega)
              have q6 : 0 < x0_1.size := (by have : (0 : Int) < (x0_1.size : Int) := of_decide_eq_true (by first | (with_reducible assumption) | assumption); omega)
              have hx6 : ∀ h : 0 < x0_1.size, ((x0_1[0]'h).toNat : Int) = bt x0_1 0 := bt_at x0_1 0
              clear p6
              have qi6 : (0 < (x0_1.size : Int)) = True := eq_true (of_decide_eq_true (by first | (with_reducible assumption) | assumption))
              replace q6 := eq_true q6
              go_wp2
              go_meet
              case rel => exact ⟨_, (x0_1), (by first | rfl | (simp; done) | (simp [*]; done)), H', ⟨by have := HK1.out; first | omega | exact Nat.le_refl _⟩, by repeat (first | exact Drawn0.refl _ | apply Drawn0.step)⟩
          · rw [if_neg c5] at H
            exact absurd H (by simp)
        · rw [if_neg c4] at H
          have c4b0 : decide (0 < (x0_1.size : Int)) = false := decide_eq_false c4
          have c4b1 : decide (0 < x0_1.size) = false := decide_eq_false (by omega)
          clear c4
          (first | rw [c4b0] | (simp only [i64_w, i32_w]; rw [c4b0]) | skip)
          have H' := Aside0.mk H
          clear H
          go_wp2
          go_meet
          case rel => exact ⟨_, (x0_1), (by first | rfl | (simp; done) | (simp [*]; done)), H', ⟨by have := HK1.out; first | omega | exact Nat.le_refl _⟩, by repeat (first | exact Drawn0.refl _ | apply Drawn0.step)⟩
  case rest =>
    clear HC3
    try clear p2
    try clear c3
    try clear c4
    try clear c4b0
    try clear c4b1
    try clear c5
    try clear c5b0
    try clear c5b1
    try clear p6
    try clear q6
    try clear hx6
    try clear qi6
    try clear c7
    try clear c7b0
    try clear c7b1
    try clear c8
    try clear c8b0
    try clear c8b1
    try clear p2
    try clear p6
    try clear q6
    obtain ⟨kq, x0_2, rfl, HA, HJ2, ⟨mc2, rfl⟩⟩ := hcut
    cases kq with
    | zero => exact absurd HA.out (by simp [cashierref03_Cmp.j1])
    | succ kj2 =>
      have H := HA.out
      clear HA
      simp only [cashierref03_Cmp.j1] at H
      have HC9 := Aside0.mk H
      clear H
      go_upto_block 2 with (fail)
      go_cut [1] (fun v1 wc => ∃ (kq : Nat) (x1_8 : ByteArray), v1 = .string x1_8 ∧ Aside0 (cashierref03_Cmp.j3 kq x0_2 x1_8 = some r) ∧ Aside0 (kq ≤ kj2) ∧ Drawn0 w wc)
      case first =>
        have H := HC9.out
        clear HC9
        have H' := Aside0.mk H
        clear H
        go_wp2
        go_loopg [1] kj2 (fun kq v1 w' => ∃ (x1_2 : ByteArray), v1 = .string x1_2 ∧ Aside0 (cashierref03_Cmp.l1 kq x0_2 x1_2 = some r) ∧ Aside0 (kq ≤ kj2) ∧ Drawn0 w w')
        case atStart => exact ⟨(a1), (by first | rfl | (simp; done) | (simp [*]; done)), H', ⟨Nat.le_refl _⟩, by repeat (first | exact Drawn0.refl _ | apply Drawn0.step)⟩
        case round =>
          clear H'
          try clear c2
          try clear p2
          try clear c3
          try clear c4
          try clear c4b0
          try clear c4b1
          try clear c5
          try clear c5b0
          try clear c5b1
          try clear p6
          try clear q6
          try clear hx6
          try clear qi6
          try clear c7
          try clear c7b0
          try clear c7b1
          try clear c8
          try clear c8b0
          try clear c8b1
          try clear p2
          try clear p6
          try clear q6
          obtain ⟨x1_2, rfl, HA, HK2, ⟨m2, rfl⟩⟩ := hrel
          cases gk with
          | zero => exact absurd HA.out (by simp [cashierref03_Cmp.l1])
          | succ k2 =>
            have H := HA.out
            clear HA
            simp only [cashierref03_Cmp.l1] at H
            by_cases c10 : (x1_2.size : Int) > 0
            · rw [if_pos c10] at H
              have c10b0 : decide (0 < (x1_2.size : Int)) = true := decide_eq_true c10
              have c10b1 : decide (0 < x1_2.size) = true := decide_eq_true (by omega)
              clear c10
              (first | rw [c10b0] | (simp only [i64_w, i32_w]; rw [c10b0]) | skip)
              by_cases c11 : 0 < (x1_2.size : Int)
              · rw [if_pos c11] at H
                have c11b0 : decide (0 < (x1_2.size : Int)) = true := decide_eq_true c11
                have c11b1 : decide (0 < x1_2.size) = true := decide_eq_true (by omega)
                clear c11
                by_cases c13 : (bt x1_2 0) = 48
                · rw [if_pos c13] at H
                  have c13b0 : ((bt x1_2 0) == 48) = true := beq_iff_eq.mpr c13
                  have c13b1 : ((bt x1_2 0) != 48) = false := bne_eq_false_iff_eq.mpr c13
                  clear c13
                  by_cases c14 : 1 ≤ (x1_2.size : Int)
                  · rw [if_pos c14] at H
                    have c14b0 := eq_true c14
                    have c14b1 : decide (1 ≤ (x1_2.size : Int)) = true := decide_eq_true c14
                    clear c14
                    have H' := Aside0.mk H
                    clear H
                    have p12 : 0 ≤ (0 : Int) := (by omega)
                    have q12 : 0 < x1_2.size := (by have : (0 : Int) < (x1_2.size : Int) := of_decide_eq_true (by first | (with_reducible assumption) | assumption); omega)
                    have hx12 : ∀ h : 0 < x1_2.size, ((x1_2[0]'h).toNat : Int) = bt x1_2 0 := bt_at x1_2 0
                    clear p12
                    have qi12 : (0 < (x1_2.size : Int)) = True := eq_true (of_decide_eq_true (by first | (with_reducible assumption) | assumption))
                    replace q12 := eq_true q12
                    go_wp2
                    go_roundg k2
                    case measure => have := HJ2.out; have := HK2.out; omega
                    case rel => exact ⟨(x1_2.extract 1 x1_2.size), (by first | rfl | (simp; done) | (simp [*]; done)), H', ⟨by have := HJ2.out; have := HK2.out; omega⟩, by repeat (first | exact Drawn0.refl _ | apply Drawn0.step)⟩
                  · rw [if_neg c14] at H
                    exact absurd H (by simp)
                · rw [if_neg c13] at H
                  have c13b0 : ((bt x1_2 0) == 48) = false := beq_eq_false_iff_ne.mpr c13
                  have c13b1 : ((bt x1_2 0) != 48) = true := bne_iff_ne.mpr c13
                  have H' := Aside0.mk H
                  clear H
                  have p12 : 0 ≤ (0 : Int) := (by omega)
                  have q12 : 0 < x1_2.size := (by have : (0 : Int) < (x1_2.size : Int) := of_decide_eq_true (by first | (with_reducible assumption) | assumption); omega)
                  have hx12 : ∀ h : 0 < x1_2.size, ((x1_2[0]'h).toNat : Int) = bt x1_2 0 := bt_at x1_2 0
                  clear p12
                  have qi12 : (0 < (x1_2.size : Int)) = True := eq_true (of_decide_eq_true (by first | (with_reducible assumption) | assumption))
                  replace q12 := eq_true q12
                  go_wp2
                  go_meet
                  case rel => exact ⟨_, (x1_2), (by first | rfl | (simp; done) | (simp [*]; done)), H', ⟨by have := HJ2.out; have := HK2.out; first | omega | exact Nat.le_refl _⟩, by repeat (first | exact Drawn0.refl _ | apply Drawn0.step)⟩
              · rw [if_neg c11] at H
                exact absurd H (by simp)
            · rw [if_neg c10] at H
              have c10b0 : decide (0 < (x1_2.size : Int)) = false := decide_eq_false c10
              have c10b1 : decide (0 < x1_2.size) = false := decide_eq_false (by omega)
              clear c10
              (first | rw [c10b0] | (simp only [i64_w, i32_w]; rw [c10b0]) | skip)
              have H' := Aside0.mk H
              clear H
              go_wp2
              go_meet
              case rel => exact ⟨_, (x1_2), (by first | rfl | (simp; done) | (simp [*]; done)), H', ⟨by have := HJ2.out; have := HK2.out; first | omega | exact Nat.le_refl _⟩, by repeat (first | exact Drawn0.refl _ | apply Drawn0.step)⟩
      case rest =>
        clear HC9
        try clear c1
        try clear p1
        try clear q1
        try clear hx1
        try clear qi1
        try clear c2
        try clear p2
        try clear c3
        try clear c4
        try clear c4b0
        try clear c4b1
        try clear c5
        try clear c5b0
        try clear c5b1
        try clear p6
        try clear q6
        try clear hx6
        try clear qi6
        try clear c7
        try clear c7b0
        try clear c7b1
        try clear c8
        try clear c8b0
        try clear c8b1
        try clear c10
        try clear c10b0
        try clear c10b1
        try clear c11
        try clear c11b0
        try clear c11b1
        try clear p12
        try clear q12
        try clear hx12
        try clear qi12
        try clear c13
        try clear c13b0
        try clear c13b1
        try clear c14
        try clear c14b0
        try clear c14b1
        try clear p12
        try clear p2
        try clear p6
        try clear q12
        try clear q6
        obtain ⟨kq, x1_8, rfl, HA, HJ8, ⟨mc8, rfl⟩⟩ := hcut
        cases kq with
        | zero => exact absurd HA.out (by simp [cashierref03_Cmp.j3])
        | succ kj8 =>
          have H := HA.out
          clear HA
          simp only [cashierref03_Cmp.j3] at H
          have HC15 := Aside0.mk H
          clear H
          go_upto_region 5 with (fail)
          go_cut [41] (fun v41 wc => ∃ (kq : Nat) (x41_14 : Bool), v41 = .bool x41_14 ∧ Aside0 (cashierref03_Cmp.j4 kq x0_2 x1_8 x41_14 = some r) ∧ Aside0 (kq ≤ kj8) ∧ Drawn0 w wc)
          case first =>
            have H := HC15.out
            clear HC15
            by_cases c16 : (x0_2.size : Int) < (x1_8.size : Int)
            · rw [if_pos c16] at H
              have c16b0 : decide ((x0_2.size : Int) < (x1_8.size : Int)) = true := decide_eq_true c16
              have c16b1 : decide (x0_2.size < x1_8.size) = true := decide_eq_true (Int.ofNat_lt.mp c16)
              clear c16
              (first | rw [c16b0] | (simp only [i64_w, i32_w]; rw [c16b0]) | skip)
              have H' := Aside0.mk H
              clear H
              go_wp2
              go_meet
              case rel => exact ⟨_, (true), (by first | rfl | (simp; done) | (simp [*]; done)), H', ⟨by have := HJ2.out; have := HJ8.out; first | omega | exact Nat.le_refl _⟩, by repeat (first | exact Drawn0.refl _ | apply Drawn0.step)⟩
            · rw [if_neg c16] at H
              have c16b0 : decide ((x0_2.size : Int) < (x1_8.size : Int)) = false := decide_eq_false c16
              have c16b1 : decide (x0_2.size < x1_8.size) = false := decide_eq_false (fun h => c16 (Int.ofNat_lt.mpr h))
              clear c16
              (first | rw [c16b0] | (simp only [i64_w, i32_w]; rw [c16b0]) | skip)
              by_cases c17 : (x0_2.size : Int) = (x1_8.size : Int)
              · rw [if_pos c17] at H
                have c17b0 : ((x0_2.size : Int) == (x1_8.size : Int)) = true := beq_iff_eq.mpr c17
                have c17b1 : ((x0_2.size : Int) != (x1_8.size : Int)) = false := bne_eq_false_iff_eq.mpr c17
                have c17b2 : (x0_2.size == x1_8.size) = true := by first | simpa using c17 | (simp at c17 ⊢; omega)
                clear c17
                have H' := Aside0.mk H
                clear H
                go_wp2
                go_meet
                case rel => exact ⟨_, ((Op.bytesLess x0_2.toList x1_8.toList)), (by first | rfl | (simp; done) | (simp [*]; done)), H', ⟨by have := HJ2.out; have := HJ8.out; first | omega | exact Nat.le_refl _⟩, by repeat (first | exact Drawn0.refl _ | apply Drawn0.step)⟩
              · rw [if_neg c17] at H
                have c17b0 : ((x0_2.size : Int) == (x1_8.size : Int)) = false := beq_eq_false_iff_ne.mpr c17
                have c17b1 : ((x0_2.size : Int) != (x1_8.size : Int)) = true := bne_iff_ne.mpr c17
                have c17b2 : (x0_2.size == x1_8.size) = false := by first | simpa using c17 | (simp at c17 ⊢; omega)
                have H' := Aside0.mk H
                clear H
                go_wp2
                go_meet
                case rel => exact ⟨_, (false), (by first | rfl | (simp; done) | (simp [*]; done)), H', ⟨by have := HJ2.out; have := HJ8.out; first | omega | exact Nat.le_refl _⟩, by repeat (first | exact Drawn0.refl _ | apply Drawn0.step)⟩
          case rest =>
            clear HC15
            try clear c1
            try clear p1
            try clear q1
            try clear hx1
            try clear qi1
            try clear c2
            try clear p2
            try clear c3
            try clear c4
            try clear c4b0
            try clear c4b1
            try clear c5
            try clear c5b0
            try clear c5b1
            try clear p6
            try clear q6
            try clear hx6
            try clear qi6
            try clear c7
            try clear c7b0
            try clear c7b1
            try clear c8
            try clear c8b0
            try clear c8b1
            try clear c10
            try clear c10b0
            try clear c10b1
            try clear c11
            try clear c11b0
            try clear c11b1
            try clear p12
            try clear q12
            try clear hx12
            try clear qi12
            try clear c13
            try clear c13b0
            try clear c13b1
            try clear c14
            try clear c14b0
            try clear c14b1
            try clear c16
            try clear c16b0
            try clear c16b1
            try clear c17
            try clear c17b0
            try clear c17b1
            try clear c17b2
            try clear p1
            try clear p12
            try clear p2
            try clear p6
            try clear q1
            try clear q12
            try clear q6
            obtain ⟨kq, x41_14, rfl, HA, HJ14, ⟨mc14, rfl⟩⟩ := hcut
            cases kq with
            | zero => exact absurd HA.out (by simp [cashierref03_Cmp.j4])
            | succ kj14 =>
              have H := HA.out
              clear HA
              simp only [cashierref03_Cmp.j4] at H
              by_cases c18 : x41_14 = true
              · subst c18
                have H1 : (some (-1)) = some r := by rw [if_pos rfl] at H; exact H
                clear H
                have H := H1
                clear H1
                obtain rfl := Option.some.inj H
                go_wp2
                go_ret
                exact ⟨by first | rfl | (simp; done) | (simp [*]; done), by repeat (first | exact Drawn0.refl _ | apply Drawn0.step)⟩
              · replace c18 := Bool.eq_false_iff.mpr c18
                subst c18
                have H1 : (if (x0_2.size : Int) > (x1_8.size : Int) then (some 1) else (if (Op.bytesLess x1_8.toList x0_2.toList) = true then (some 1) else (some 0))) = some r := by rw [if_neg (show ¬ (false = true) by decide)] at H; exact H
                clear H
                have H := H1
                clear H1
                by_cases c19 : (x0_2.size : Int) > (x1_8.size : Int)
                · rw [if_pos c19] at H
                  have c19b0 : decide ((x1_8.size : Int) < (x0_2.size : Int)) = true := decide_eq_true c19
                  have c19b1 : decide (x1_8.size < x0_2.size) = true := decide_eq_true (Int.ofNat_lt.mp c19)
                  clear c19
                  obtain rfl := Option.some.inj H
                  go_wp2
                  go_ret
                  exact ⟨by first | rfl | (simp; done) | (simp [*]; done), by repeat (first | exact Drawn0.refl _ | apply Drawn0.step)⟩
                · rw [if_neg c19] at H
                  have c19b0 : decide ((x1_8.size : Int) < (x0_2.size : Int)) = false := decide_eq_false c19
                  have c19b1 : decide (x1_8.size < x0_2.size) = false := decide_eq_false (fun h => c19 (Int.ofNat_lt.mpr h))
                  clear c19
                  by_cases c20 : (Op.bytesLess x1_8.toList x0_2.toList) = true
                  · rw [if_pos c20] at H
                    have c20b0 : (Op.bytesLess x1_8.toList x0_2.toList) = true := c20
                    obtain ⟨less1, less2⟩ := less_flip c20b0
                    clear c20
                    obtain rfl := Option.some.inj H
                    go_wp2
                    go_ret
                    exact ⟨by first | rfl | (simp; done) | (simp [*]; done), by repeat (first | exact Drawn0.refl _ | apply Drawn0.step)⟩
                  · rw [if_neg c20] at H
                    have c20b0 : (Op.bytesLess x1_8.toList x0_2.toList) = false := by simpa using c20
                    rcases less_not c20b0 with ⟨less1, less2⟩ | ⟨less1, less2⟩
                    · clear c20
                      obtain rfl := Option.some.inj H
                      go_wp2
                      go_ret
                      exact ⟨by first | rfl | (simp; done) | (simp [*]; done), by repeat (first | exact Drawn0.refl _ | apply Drawn0.step)⟩
                    · clear c20
                      obtain rfl := Option.some.inj H
                      go_wp2
                      go_ret
                      exact ⟨by first | rfl | (simp; done) | (simp [*]; done), by repeat (first | exact Drawn0.refl _ | apply Drawn0.step)⟩

end Go.Proofs.YtiggnmhoececfaaGreatDoor.PRef

namespace Go.Proofs.YtiggnmhoececfaaGreatDoor.PRef
open Go.Proofs.YtiggnmhoececfaaGreatDoor.PRangesTurn
open Go.RowKit Go.Proofs.YtiggnmhoececfaaGreatDoorW.PrintWords Go.Proofs.YtiggnmhoececfaaGreatDoorW.PrintLast Go.Proofs.YtiggnmhoececfaaGreatDoorW.PrintMore
attribute [local go_sem] max2_int min2_int max_two min_two max_three min_three max_four min_four   -- for this text's walks alone
set_option linter.unusedVariables false
set_option linter.unusedSimpArgs false

/-! ### cashierref18_Check: function 10 -/
mutual
def cashierref18_Check.j0 : Nat → Bool → ByteArray → ByteArray → ByteArray → ByteArray → ByteArray → Int → Option (Int)
  | 0, _, _, _, _, _, _, _ => none
  | k + 1, x38, x200000, x200001, x200002, x200003, x200004, x200005 => if x38 = true then (some 4) else ((cashierref03_Cmp.f k x200001 x200000).bind fun t202 => (if t202 < 0 then (some 19) else (if (x200002.size : Int) < 1 then (cashierref18_Check.j1 k true x200000 x200001 x200002 x200003 x200004 x200005) else (cashierref18_Check.j1 k (decide ((x200002.size : Int) > 32)) x200000 x200001 x200002 x200003 x200004 x200005))))
def cashierref18_Check.j1 : Nat → Bool → ByteArray → ByteArray → ByteArray → ByteArray → ByteArray → Int → Option (Int)
  | 0, _, _, _, _, _, _, _ => none
  | k + 1, x54, x200000, x200001, x200002, x200003, x200004, x200005 => if x54 = true then (some 2) else (cashierref18_Check.l0 k 0 x200000 x200001 x200002 x200003 x200004 x200005)
def cashierref18_Check.l0 : Nat → Int → ByteArray → ByteArray → ByteArray → ByteArray → ByteArray → Int → Option (Int)
  | 0, _, _, _, _, _, _, _ => none
  | k + 1, x3, x200000, x200001, x200002, x200003, x200004, x200005 => if x3 < (x200002.size : Int) then (if 0 ≤ x3 then (if (bt x200002 x3) < 33 then (some 2) else (if (bt x200002 x3) > 126 then (some 2) else (cashierref18_Check.l0 k (wrap64 (x3 + 1)) x200000 x200001 x200002 x200003 x200004 x200005))) else (none)) else ((cashierref17_Parse.f k x200003).bind fun bt203 => ((cashierref17_Parse.f k x200004).bind fun bt207 => (if bt203.2 = true then (if bt207.2 = true then ((cashierref17_Cmp.f k bt203.1 bt207.1).bind fun t211 => (cashierref18_Check.j3 k (decide (t211 > 0)) x200000 x200001 x200002 x200003 x200004 x200005)) else (cashierref18_Check.j3 k true x200000 x200001 x200002 x200003 x200004 x200005)) else (cashierref18_Check.j3 k true x200000 x200001 x200002 x200003 x200004 x200005))))
def cashierref18_Check.j3 : Nat → Bool → ByteArray → ByteArray → ByteArray → ByteArray → ByteArray → Int → Option (Int)
  | 0, _, _, _, _, _, _, _ => none
  | k + 1, x97, x200000, x200001, x200002, x200003, x200004, x200005 => if x97 = true then (some 7) else (if x200005 < 1 then (some 11) else (if x200005 > 3 then (some 11) else (some 0)))
end
def cashierref18_Check.f (k : Nat) (a0_0 : ByteArray) (a0_1 : ByteArray) (a0_2 : ByteArray) (a0_3 : ByteArray) (a0_4 : ByteArray) (a0_5 : Int) : Option (Int) := (cashierref03_Is.f k a0_0).bind fun t200 => (if t200 = true then ((cashierref03_Is.f k a0_1).bind fun t201 => (if t201 = true then (if (a0_0.size : Int) < 13 then (cashierref18_Check.j0 k true a0_0 a0_1 a0_2 a0_3 a0_4 a0_5) else (if (a0_0.size : Int) > 19 then (cashierref18_Check.j0 k true a0_0 a0_1 a0_2 a0_3 a0_4 a0_5) else (cashierref18_Check.j0 k ((a0_1.size : Int) != (a0_0.size : Int)) a0_0 a0_1 a0_2 a0_3 a0_4 a0_5))) else (cashierref18_Check.j0 k true a0_0 a0_1 a0_2 a0_3 a0_4 a0_5))) else (cashierref18_Check.j0 k true a0_0 a0_1 a0_2 a0_3 a0_4 a0_5))
theorem cashierref18_Check.mono_l : ∀ k, (∀ y0 y1 y2 y3 y4 y5 y6, LeO (cashierref18_Check.j0 k y0 y1 y2 y3 y4 y5 y6) (cashierref18_Check.j0 (k + 1) y0 y1 y2 y3 y4 y5 y6)) ∧ (∀ y0 y1 y2 y3 y4 y5 y6, LeO (cashierref18_Check.j1 k y0 y1 y2 y3 y4 y5 y6) (cashierref18_Check.j1 (k + 1) y0 y1 y2 y3 y4 y5 y6)) ∧ (∀ y0 y1 y2 y3 y4 y5 y6, LeO (cashierref18_Check.l0 k y0 y1 y2 y3 y4 y5 y6) (cashierref18_Check.l0 (k + 1) y0 y1 y2 y3 y4 y5 y6)) ∧ (∀ y0 y1 y2 y3 y4 y5 y6, LeO (cashierref18_Check.j3 k y0 y1 y2 y3 y4 y5 y6) (cashierref18_Check.j3 (k + 1) y0 y1 y2 y3 y4 y5 y6))
  | 0 => ⟨fun _ _ _ _ _ _ _ r h => by simp [cashierref18_Check.j0] at h, fun _ _ _ _ _ _ _ r h => by simp [cashierref18_Check.j1] at h, fun _ _ _ _ _ _ _ r h => by simp [cashierref18_Check.l0] at h, fun _ _ _ _ _ _ _ r h => by simp [cashierref18_Check.j3] at h⟩
  | k + 1 => by
    obtain ⟨ih0, ih1, ih2, ih3⟩ := cashierref18_Check.mono_l k
    refine ⟨?_, ?_, ?_, ?_⟩
    · intro y0 y1 y2 y3 y4 y5 y6
      unfold cashierref18_Check.j0
      repeat' first
      | (with_reducible exact ih0 _ _ _ _ _ _ _)
      | (with_reducible exact ih1 _ _ _ _ _ _ _)
      | (with_reducible exact ih2 _ _ _ _ _ _ _)
      | (with_reducible exact ih3 _ _ _ _ _ _ _)
      | (with_reducible exact cashierref03_Cmp.mono _ _ _)
      | (with_reducible exact cashierref03_Is.mono _ _)
      | (with_reducible exact cashierref17_Cmp.mono _ _ _)
      | (with_reducible exact cashierref17_Parse.mono _ _)
      | (with_reducible exact LeO.refl _)
      | (with_reducible exact LeO.none _)
      | (with_reducible refine LeO.ite ?_ ?_)
      | (with_reducible refine LeO.bind ?_ (fun _ => ?_))
      | exact ih0 _ _ _ _ _ _ _
      | exact ih1 _ _ _ _ _ _ _
      | exact ih2 _ _ _ _ _ _ _
      | exact ih3 _ _ _ _ _ _ _
      | exact cashierref03_Cmp.mono _ _ _
      | exact cashierref03_Is.mono _ _
      | exact cashierref17_Cmp.mono _ _ _
      | exact cashierref17_Parse.mono _ _
      | exact LeO.none _
      | refine LeO.ite ?_ ?_
      | refine LeO.bind ?_ (fun _ => ?_)
    · intro y0 y1 y2 y3 y4 y5 y6
      unfold cashierref18_Check.j1
      repeat' first
      | (with_reducible exact ih0 _ _ _ _ _ _ _)
      | (with_reducible exact ih1 _ _ _ _ _ _ _)
      | (with_reducible exact ih2 _ _ _ _ _ _ _)
      | (with_reducible exact ih3 _ _ _ _ _ _ _)
      | (with_reducible exact cashierref03_Cmp.mono _ _ _)
      | (with_reducible exact cashierref03_Is.mono _ _)
      | (with_reducible exact cashierref17_Cmp.mono _ _ _)
      | (with_reducible exact cashierref17_Parse.mono _ _)
      | (with_reducible exact LeO.refl _)
      | (with_reducible exact LeO.none _)
      | (with_reducible refine LeO.ite ?_ ?_)
      | (with_reducible refine LeO.bind ?_ (fun _ => ?_))
      | exact ih0 _ _ _ _ _ _ _
      | exact ih1 _ _ _ _ _ _ _
      | exact ih2 _ _ _ _ _ _ _
      | exact ih3 _ _ _ _ _ _ _
      | exact cashierref03_Cmp.mono _ _ _
      | exact cashierref03_Is.mono _ _
      | exact cashierref17_Cmp.mono _ _ _
      | exact cashierref17_Parse.mono _ _
      | exact LeO.none _
      | refine LeO.ite ?_ ?_
      | refine LeO.bind ?_ (fun _ => ?_)
    · intro y0 y1 y2 y3 y4 y5 y6
      unfold cashierref18_Check.l0
      repeat' first
      | (with_reducible exact ih0 _ _ _ _ _ _ _)
      | (with_reducible exact ih1 _ _ _ _ _ _ _)
      | (with_reducible exact ih2 _ _ _ _ _ _ _)
      | (with_reducible exact ih3 _ _ _ _ _ _ _)
      | (with_reducible exact cashierref03_Cmp.mono _ _ _)
      | (with_reducible exact cashierref03_Is.mono _ _)
      | (with_reducible exact cashierref17_Cmp.mono _ _ _)
      | (with_reducible exact cashierref17_Parse.mono _ _)
      | (with_reducible exact LeO.refl _)
      | (with_reducible exact LeO.none _)
      | (with_reducible refine LeO.ite ?_ ?_)
      | (with_reducible refine LeO.bind ?_ (fun _ => ?_))
      | exact ih0 _ _ _ _ _ _ _
      | exact ih1 _ _ _ _ _ _ _
      | exact ih2 _ _ _ _ _ _ _
      | exact ih3 _ _ _ _ _ _ _
      | exact cashierref03_Cmp.mono _ _ _
      | exact cashierref03_Is.mono _ _
      | exact cashierref17_Cmp.mono _ _ _
      | exact cashierref17_Parse.mono _ _
      | exact LeO.none _
      | refine LeO.ite ?_ ?_
      | refine LeO.bind ?_ (fun _ => ?_)
    · intro y0 y1 y2 y3 y4 y5 y6
      unfold cashierref18_Check.j3
      repeat' first
      | (with_reducible exact ih0 _ _ _ _ _ _ _)
      | (with_reducible exact ih1 _ _ _ _ _ _ _)
      | (with_reducible exact ih2 _ _ _ _ _ _ _)
      | (with_reducible exact ih3 _ _ _ _ _ _ _)
      | (with_reducible exact cashierref03_Cmp.mono _ _ _)
      | (with_reducible exact cashierref03_Is.mono _ _)
      | (with_reducible exact cashierref17_Cmp.mono _ _ _)
      | (with_reducible exact cashierref17_Parse.mono _ _)
      | (with_reducible exact LeO.refl _)
      | (with_reducible exact LeO.none _)
      | (with_reducible refine LeO.ite ?_ ?_)
      | (with_reducible refine LeO.bind ?_ (fun _ => ?_))
      | exact ih0 _ _ _ _ _ _ _
      | exact ih1 _ _ _ _ _ _ _
      | exact ih2 _ _ _ _ _ _ _
      | exact ih3 _ _ _ _ _ _ _
      | exact cashierref03_Cmp.mono _ _ _
      | exact cashierref03_Is.mono _ _
      | exact cashierref17_Cmp.mono _ _ _
      | exact cashierref17_Parse.mono _ _
      | exact LeO.none _
      | refine LeO.ite ?_ ?_
      | refine LeO.bind ?_ (fun _ => ?_)
theorem cashierref18_Check.mono : ∀ a0 a1 a2 a3 a4 a5 k, LeO (cashierref18_Check.f k a0 a1 a2 a3 a4 a5) (cashierref18_Check.f (k + 1) a0 a1 a2 a3 a4 a5) := by
  intro a0 a1 a2 a3 a4 a5 k
  obtain ⟨ih0, ih1, ih2, ih3⟩ := cashierref18_Check.mono_l k
  unfold cashierref18_Check.f
  repeat' first
      | (with_reducible exact ih0 _ _ _ _ _ _ _)
      | (with_reducible exact ih1 _ _ _ _ _ _ _)
      | (with_reducible exact ih2 _ _ _ _ _ _ _)
      | (with_reducible exact ih3 _ _ _ _ _ _ _)
      | (with_reducible exact cashierref03_Cmp.mono _ _ _)
      | (with_reducible exact cashierref03_Is.mono _ _)
      | (with_reducible exact cashierref17_Cmp.mono _ _ _)
      | (with_reducible exact cashierref17_Parse.mono _ _)
      | (with_reducible exact LeO.refl _)
      | (with_reducible exact LeO.none _)
      | (with_reducible refine LeO.ite ?_ ?_)
      | (with_reducible refine LeO.bind ?_ (fun _ => ?_))
      | exact ih0 _ _ _ _ _ _ _
      | exact ih1 _ _ _ _ _ _ _
      | exact ih2 _ _ _ _ _ _ _
      | exact ih3 _ _ _ _ _ _ _
      | exact cashierref03_Cmp.mono _ _ _
      | exact cashierref03_Is.mono _ _
      | exact cashierref17_Cmp.mono _ _ _
      | exact cashierref17_Parse.mono _ _
      | exact LeO.none _
      | refine LeO.ite ?_ ?_
      | refine LeO.bind ?_ (fun _ => ?_)
set_option maxHeartbeats 8000000 in
set_option maxRecDepth 100000 in
theorem cashierref18_Check.calls (k : Nat) (a0_0 : ByteArray) (a0_1 : ByteArray) (a0_2 : ByteArray) (a0_3 : ByteArray) (a0_4 : ByteArray) (a0_5 : Int) (r : Int) (w : World) (h : cashierref18_Check.f k a0_0 a0_1 a0_2 a0_3 a0_4 a0_5 = some r) :
    Calls Tryz.prog 10 #[.agg #[.string a0_0, .string a0_1, .string a0_2, .string a0_3, .string a0_4, .int .i64 a0_5]] w fun e w' => e = .returned (.int .i64 r) ∧ Below w.heap.size w w' := by
  have hu29 := Tryz.underlying29
  have HB := Aside0.mk (Below.refl w.heap.size w)
  have H : ((cashierref03_Is.f k a0_0).bind fun t200 => (if t200 = true then ((cashierref03_Is.f k a0_1).bind fun t201 => (if t201 = true then (if (a0_0.size : Int) < 13 then (cashierref18_Check.j0 k true a0_0 a0_1 a0_2 a0_3 a0_4 a0_5) else (if (a0_0.size : Int) > 19 then (cashierref18_Check.j0 k true a0_0 a0_1 a0_2 a0_3 a0_4 a0_5) else (cashierref18_Check.j0 k ((a0_1.size : Int) != (a0_0.size : Int)) a0_0 a0_1 a0_2 a0_3 a0_4 a0_5))) else (cashierref18_Check.j0 k true a0_0 a0_1 a0_2 a0_3 a0_4 a0_5))) else (cashierref18_Check.j0 k true a0_0 a0_1 a0_2 a0_3 a0_4 a0_5))) = some r := h
  clear h
  have HC2 := Aside0.mk H
  clear H
  go_enter Tryz.func10, Tryz.ntmps10
  go_upto_region 1 with (first | ((with_reducible refine gate_dst (N := 1) rfl ?_); (try (refine gate_guard (by rfl) ?_; dsimp only)); refine box_event ?hg (N := 1) ?hd (cs := #[.string a0_0, .string a0_1, .string a0_2, .string a0_3, .string a0_4, .int .i64 a0_5]) (t := 29) ?hr ?_; (case hd => rfl); (case hg => rfl); (case hr => first | (go_simp; done) | (go_simp; rfl)); intro gb199 hg w3 hbox hb; have n0_ := Aside0.mk (below_step (by repeat (first | (with_reducible first | exact HB.out | apply below_alloc | apply pw_below_drewN | apply below_drew1) | exact HB.out)) hb); have n1_ := Aside0.mk (hbox); have n2_ := Aside0.mk ((by rw [hg]; exact (below_size (by repeat (first | (with_reducible first | exact HB.out | apply below_alloc | apply pw_below_drewN | apply below_drew1) | exact HB.out))) : w.heap.size ≤ gb199)); have n3_ := Aside0.mk ((by rw [hg]; exact (below_size (by repeat (first | (with_reducible first | exact HB.out | apply below_alloc | apply pw_below_drewN | apply below_drew1) | exact HB.out))) : w.heap.size ≤ gb199)); clear HB; have HB := n0_; have BK199 := n1_; have GW199 := n2_; have GE199 := n3_; clear n0_ n1_ n2_ n3_; clear hb hbox hg))
  (try simp only [Act.put, List.setIfInBounds_toArray, List.set_cons_zero, List.set_cons_succ])
  go_cut [38] (fun v38 wc => ∃ (kq : Nat) (x38_1 : Bool), v38 = .bool x38_1 ∧ Aside0 (cashierref18_Check.j0 kq x38_1 a0_0 a0_1 a0_2 a0_3 a0_4 a0_5 = some r) ∧ Aside0 (kq ≤ k) ∧ Aside0 (wc.heap[gb199]? = some (.cells #[.string a0_0, .string a0_1, .string a0_2, .string a0_3, .string a0_4, .int .i64 a0_5] 29 (0, 0))) ∧ Aside0 (Below w.heap.size w wc))
  case first =>
    have H := HC2.out
    clear HC2
    replace H := Option.bind_eq_some_iff.mp H
    obtain ⟨t200, A40, H⟩ := H
    replace H : (if t200 = true then ((cashierref03_Is.f k a0_1).bind fun t201 => (if t201 = true then (if (a0_0.size : Int) < 13 then (cashierref18_Check.j0 k true a0_0 a0_1 a0_2 a0_3 a0_4 a0_5) else (if (a0_0.size : Int) > 19 then (cashierref18_Check.j0 k true a0_0 a0_1 a0_2 a0_3 a0_4 a0_5) else (cashierref18_Check.j0 k ((a0_1.size : Int) != (a0_0.size : Int)) a0_0 a0_1 a0_2 a0_3 a0_4 a0_5))) else (cashierref18_Check.j0 k true a0_0 a0_1 a0_2 a0_3 a0_4 a0_5))) else (cashierref18_Check.j0 k true a0_0 a0_1 a0_2 a0_3 a0_4 a0_5)) = some r := H
    have A4 := Aside0.mk A40
    clear A40
    by_cases c5 : t200 = true
    · subst c5
      have H1 : ((cashierref03_Is.f k a0_1).bind fun t201 => (if t201 = true then (if (a0_0.size : Int) < 13 then (cashierref18_Check.j0 k true a0_0 a0_1 a0_2 a0_3 a0_4 a0_5) else (if (a0_0.size : Int) > 19 then (cashierref18_Check.j0 k true a0_0 a0_1 a0_2 a0_3 a0_4 a0_5) else (cashierref18_Check.j0 k ((a0_1.size : Int) != (a0_0.size : Int)) a0_0 a0_1 a0_2 a0_3 a0_4 a0_5))) else (cashierref18_Check.j0 k true a0_0 a0_1 a0_2 a0_3 a0_4 a0_5))) = some r := by rw [if_pos rfl] at H; exact H
      clear H
      have H := H1
      clear H1
      replace H := Option.bind_eq_some_iff.mp H
      obtain ⟨t201, A60, H⟩ := H
      replace H : (if t201 = true then (if (a0_0.size : Int) < 13 then (cashierref18_Check.j0 k true a0_0 a0_1 a0_2 a0_3 a0_4 a0_5) else (if (a0_0.size : Int) > 19 then (cashierref18_Check.j0 k true a0_0 a0_1 a0_2 a0_3 a0_4 a0_5) else (cashierref18_Check.j0 k ((a0_1.size : Int) != (a0_0.size : Int)) a0_0 a0_1 a0_2 a0_3 a0_4 a0_5))) else (cashierref18_Check.j0 k true a0_0 a0_1 a0_2 a0_3 a0_4 a0_5)) = some r := H
      have A6 := Aside0.mk A60
      clear A60
      by_cases c7 : t201 = true
      · subst c7
        have H1 : (if (a0_0.size : Int) < 13 then (cashierref18_Check.j0 k true a0_0 a0_1 a0_2 a0_3 a0_4 a0_5) else (if (a0_0.size : Int) > 19 then (cashierref18_Check.j0 k true a0_0 a0_1 a0_2 a0_3 a0_4 a0_5) else (cashierref18_Check.j0 k ((a0_1.size : Int) != (a0_0.size : Int)) a0_0 a0_1 a0_2 a0_3 a0_4 a0_5))) = some r := by rw [if_pos rfl] at H; exact H
        clear H
        have H := H1
        clear H1
        by_cases c8 : (a0_0.size : Int) < 13
        · rw [if_pos c8] at H
          have c8b0 : decide ((a0_0.size : Int) < 13) = true := decide_eq_true c8
          have c8b1 : decide (a0_0.size < 13) = true := decide_eq_true (by omega)
          clear c8
          (first | rw [c8b0] | (simp only [i64_w, i32_w]; rw [c8b0]) | skip)
          have H' := Aside0.mk H
          clear H
          have hcz9_0 : w3.cell? ⟨gb199, 0, none⟩ = some (.string a0_0) := (blk_cell BK199.out 0).trans rfl
          have hcz9_1 : w3.cell? ⟨gb199, 1, none⟩ = some (.string a0_1) := (blk_cell BK199.out 1).trans rfl
          have hcz9_2 : w3.cell? ⟨gb199, 2, none⟩ = some (.string a0_2) := (blk_cell BK199.out 2).trans rfl
          have hcz9_3 : w3.cell? ⟨gb199, 3, none⟩ = some (.string a0_3) := (blk_cell BK199.out 3).trans rfl
          have hcz9_4 : w3.cell? ⟨gb199, 4, none⟩ = some (.string a0_4) := (blk_cell BK199.out 4).trans rfl
          have hcz9_5 : w3.cell? ⟨gb199, 5, none⟩ = some (.int .i64 a0_5) := (blk_cell BK199.out 5).trans rfl
          have hfz9_0 := blk_frozen BK199.out 0
          have hfz9_1 := blk_frozen BK199.out 1
          have hfz9_2 := blk_frozen BK199.out 2
          have hfz9_3 := blk_frozen BK199.out 3
          have hfz9_4 := blk_frozen BK199.out 4
          have hfz9_5 := blk_frozen BK199.out 5
          go_wp2_with (first | ((with_reducible refine gate_callee (f := 31) rfl ?_); refine goesL_ (some 10) rfl rfl Tryz.func31 (by kernel_rfl) rfl #[.string a0_0] rfl (by (try simp only [List.map_toArray, List.map_cons, List.map_nil]); first | done | rfl | (simp only [List.length_drop, List.length_take]; rfl)) ?_; (with_reducible refine (cashierref03_Is.calls k a0_0 true _ A4.out).mono ?_); rintro e w' ⟨rfl, ⟨nd, rfl⟩⟩; refine ⟨_, rfl, ?_⟩) | (go_at_call 31; (with_reducible refine (cashierref03_Is.calls k a0_1 true _ A6.out).mono ?_); rintro e w' ⟨rfl, ⟨nd, rfl⟩⟩))
          go_meet
          case rel => exact ⟨_, (true), (by first | rfl | (simp; done) | (simp [*]; done)), H', ⟨by first | omega | exact Nat.le_refl _⟩, ⟨by (with_reducible repeat (first | refine blk_drewN ?_ _ | refine blk_drew ?_ | refine blk_alloc ?_ _)); exact BK199.out⟩, ⟨by repeat (first | (with_reducible first | exact HB.out | apply below_alloc | apply pw_below_drewN | apply below_drew1 | refine below_set ?_ GE199.out) | exact HB.out)⟩⟩
        · rw [if_neg c8] at H
          have c8b0 : decide ((a0_0.size : Int) < 13) = false := decide_eq_false c8
          have c8b1 : decide (a0_0.size < 13) = false := decide_eq_false (by omega)
          clear c8
          (first | rw [c8b0] | (simp only [i64_w, i32_w]; rw [c8b0]) | skip)
          by_cases c10 : (a0_0.size : Int) > 19
          · rw [if_pos c10] at H
            have c10b0 : decide (19 < (a0_0.size : Int)) = true := decide_eq_true c10
            have c10b1 : decide (19 < a0_0.size) = true := decide_eq_true (by omega)
            clear c10
            have H' := Aside0.mk H
            clear H
            have hcz11_0 : w3.cell? ⟨gb199, 0, none⟩ = some (.string a0_0) := (blk_cell BK199.out 0).trans rfl
            have hcz11_1 : w3.cell? ⟨gb199, 1, none⟩ = some (.string a0_1) := (blk_cell BK199.out 1).trans rfl
            have hcz11_2 : w3.cell? ⟨gb199, 2, none⟩ = some (.string a0_2) := (blk_cell BK199.out 2).trans rfl
            have hcz11_3 : w3.cell? ⟨gb199, 3, none⟩ = some (.string a0_3) := (blk_cell BK199.out 3).trans rfl
            have hcz11_4 : w3.cell? ⟨gb199, 4, none⟩ = some (.string a0_4) := (blk_cell BK199.out 4).trans rfl
            have hcz11_5 : w3.cell? ⟨gb199, 5, none⟩ = some (.int .i64 a0_5) := (blk_cell BK199.out 5).trans rfl
            have hfz11_0 := blk_frozen BK199.out 0
            have hfz11_1 := blk_frozen BK199.out 1
            have hfz11_2 := blk_frozen BK199.out 2
            have hfz11_3 := blk_frozen BK199.out 3
            have hfz11_4 := blk_frozen BK199.out 4
            have hfz11_5 := blk_frozen BK199.out 5
            go_wp2_with (first | ((with_reducible refine gate_callee (f := 31) rfl ?_); refine goesL_ (some 10) rfl rfl Tryz.func31 (by kernel_rfl) rfl #[.string a0_0] rfl (by (try simp only [List.map_toArray, List.map_cons, List.map_nil]); first | done | rfl | (simp only [List.length_drop, List.length_take]; rfl)) ?_; (with_reducible refine (cashierref03_Is.calls k a0_0 true _ A4.out).mono ?_); rintro e w' ⟨rfl, ⟨nd, rfl⟩⟩; refine ⟨_, rfl, ?_⟩) | (go_at_call 31; (with_reducible refine (cashierref03_Is.calls k a0_1 true _ A6.out).mono ?_); rintro e w' ⟨rfl, ⟨nd, rfl⟩⟩))
            go_meet
            case rel => exact ⟨_, (true), (by first | rfl | (simp; done) | (simp [*]; done)), H', ⟨by first | omega | exact Nat.le_refl _⟩, ⟨by (with_reducible repeat (first | refine blk_drewN ?_ _ | refine blk_drew ?_ | refine blk_alloc ?_ _)); exact BK199.out⟩, ⟨by repeat (first | (with_reducible first | exact HB.out | apply below_alloc | apply pw_below_drewN | apply below_drew1 | refine below_set ?_ GE199.out) | exact HB.out)⟩⟩
          · rw [if_neg c10] at H
            have c10b0 : decide (19 < (a0_0.size : Int)) = false := decide_eq_false c10
            have c10b1 : decide (19 < a0_0.size) = false := decide_eq_false (by omega)
            clear c10
            have H' := Aside0.mk H
            clear H
            have hcz12_0 : w3.cell? ⟨gb199, 0, none⟩ = some (.string a0_0) := (blk_cell BK199.out 0).trans rfl
            have hcz12_1 : w3.cell? ⟨gb199, 1, none⟩ = some (.string a0_1) := (blk_cell BK199.out 1).trans rfl
            have hcz12_2 : w3.cell? ⟨gb199, 2, none⟩ = some (.string a0_2) := (blk_cell BK199.out 2).trans rfl
            have hcz12_3 : w3.cell? ⟨gb199, 3, none⟩ = some (.string a0_3) := (blk_cell BK199.out 3).trans rfl
            have hcz12_4 : w3.cell? ⟨gb199, 4, none⟩ = some (.string a0_4) := (blk_cell BK199.out 4).trans rfl
            have hcz12_5 : w3.cell? ⟨gb199, 5, none⟩ = some (.int .i64 a0_5) := (blk_cell BK199.out 5).trans rfl
            have hfz12_0 := blk_frozen BK199.out 0
            have hfz12_1 := blk_frozen BK199.out 1
            have hfz12_2 := blk_frozen BK199.out 2
            have hfz12_3 := blk_frozen BK199.out 3
            have hfz12_4 := blk_frozen BK199.out 4
            have hfz12_5 := blk_frozen BK199.out 5
            go_wp2_with (first | ((with_reducible refine gate_callee (f := 31) rfl ?_); refine goesL_ (some 10) rfl rfl Tryz.func31 (by kernel_rfl) rfl #[.string a0_0] rfl (by (try simp only [List.map_toArray, List.map_cons, List.map_nil]); first | done | rfl | (simp only [List.length_drop, List.length_take]; rfl)) ?_; (with_reducible refine (cashierref03_Is.calls k a0_0 true _ A4.out).mono ?_); rintro e w' ⟨rfl, ⟨nd, rfl⟩⟩; refine ⟨_, rfl, ?_⟩) | (go_at_call 31; (with_reducible refine (cashierref03_Is.calls k a0_1 true _ A6.out).mono ?_); rintro e w' ⟨rfl, ⟨nd, rfl⟩⟩))
            go_meet
            case rel => exact ⟨_, (((a0_1.size : Int) != (a0_0.size : Int))), (by first | rfl | (simp; done) | (simp [*]; done)), H', ⟨by first | omega | exact Nat.le_refl _⟩, ⟨by (with_reducible repeat (first | refine blk_drewN ?_ _ | refine blk_drew ?_ | refine blk_alloc ?_ _)); exact BK199.out⟩, ⟨by repeat (first | (with_reducible first | exact HB.out | apply below_alloc | apply pw_below_drewN | apply below_drew1 | refine below_set ?_ GE199.out) | exact HB.out)⟩⟩
      · replace c7 := Bool.eq_false_iff.mpr c7
        subst c7
        have H1 : (cashierref18_Check.j0 k true a0_0 a0_1 a0_2 a0_3 a0_4 a0_5) = some r := by rw [if_neg (show ¬ (false = true) by decide)] at H; exact H
        clear H
        have H := H1
        clear H1
        have H' := Aside0.mk H
        clear H
        have hcz13_0 : w3.cell? ⟨gb199, 0, none⟩ = some (.string a0_0) := (blk_cell BK199.out 0).trans rfl
        have hcz13_1 : w3.cell? ⟨gb199, 1, none⟩ = some (.string a0_1) := (blk_cell BK199.out 1).trans rfl
        have hcz13_2 : w3.cell? ⟨gb199, 2, none⟩ = some (.string a0_2) := (blk_cell BK199.out 2).trans rfl
        have hcz13_3 : w3.cell? ⟨gb199, 3, none⟩ = some (.string a0_3) := (blk_cell BK199.out 3).trans rfl
        have hcz13_4 : w3.cell? ⟨gb199, 4, none⟩ = some (.string a0_4) := (blk_cell BK199.out 4).trans rfl
        have hcz13_5 : w3.cell? ⟨gb199, 5, none⟩ = some (.int .i64 a0_5) := (blk_cell BK199.out 5).trans rfl
        have hfz13_0 := blk_frozen BK199.out 0
        have hfz13_1 := blk_frozen BK199.out 1
        have hfz13_2 := blk_frozen BK199.out 2
        have hfz13_3 := blk_frozen BK199.out 3
        have hfz13_4 := blk_frozen BK199.out 4
        have hfz13_5 := blk_frozen BK199.out 5
        go_wp2_with (first | ((with_reducible refine gate_callee (f := 31) rfl ?_); refine goesL_ (some 10) rfl rfl Tryz.func31 (by kernel_rfl) rfl #[.string a0_0] rfl (by (try simp only [List.map_toArray, List.map_cons, List.map_nil]); first | done | rfl | (simp only [List.length_drop, List.length_take]; rfl)) ?_; (with_reducible refine (cashierref03_Is.calls k a0_0 true _ A4.out).mono ?_); rintro e w' ⟨rfl, ⟨nd, rfl⟩⟩; refine ⟨_, rfl, ?_⟩) | (go_at_call 31; (with_reducible refine (cashierref03_Is.calls k a0_1 false _ A6.out).mono ?_); rintro e w' ⟨rfl, ⟨nd, rfl⟩⟩))
        go_meet
        case rel => exact ⟨_, (true), (by first | rfl | (simp; done) | (simp [*]; done)), H', ⟨by first | omega | exact Nat.le_refl _⟩, ⟨by (with_reducible repeat (first | refine blk_drewN ?_ _ | refine blk_drew ?_ | refine blk_alloc ?_ _)); exact BK199.out⟩, ⟨by repeat (first | (with_reducible first | exact HB.out | apply below_alloc | apply pw_below_drewN | apply below_drew1 | refine below_set ?_ GE199.out) | exact HB.out)⟩⟩
    · replace c5 := Bool.eq_false_iff.mpr c5
      subst c5
      have H1 : (cashierref18_Check.j0 k true a0_0 a0_1 a0_2 a0_3 a0_4 a0_5) = some r := by rw [if_neg (show ¬ (false = true) by decide)] at H; exact H
      clear H
      have H := H1
      clear H1
      have H' := Aside0.mk H
      clear H
      have hcz14_0 : w3.cell? ⟨gb199, 0, none⟩ = some (.string a0_0) := (blk_cell BK199.out 0).trans rfl
      have hcz14_1 : w3.cell? ⟨gb199, 1, none⟩ = some (.string a0_1) := (blk_cell BK199.out 1).trans rfl
      have hcz14_2 : w3.cell? ⟨gb199, 2, none⟩ = some (.string a0_2) := (blk_cell BK199.out 2).trans rfl
      have hcz14_3 : w3.cell? ⟨gb199, 3, none⟩ = some (.string a0_3) := (blk_cell BK199.out 3).trans rfl
      have hcz14_4 : w3.cell? ⟨gb199, 4, none⟩ = some (.string a0_4) := (blk_cell BK199.out 4).trans rfl
      have hcz14_5 : w3.cell? ⟨gb199, 5, none⟩ = some (.int .i64 a0_5) := (blk_cell BK199.out 5).trans rfl
      have hfz14_0 := blk_frozen BK199.out 0
      have hfz14_1 := blk_frozen BK199.out 1
      have hfz14_2 := blk_frozen BK199.out 2
      have hfz14_3 := blk_frozen BK199.out 3
      have hfz14_4 := blk_frozen BK199.out 4
      have hfz14_5 := blk_frozen BK199.out 5
      go_wp2_with (first | ((with_reducible refine gate_callee (f := 31) rfl ?_); refine goesL_ (some 10) rfl rfl Tryz.func31 (by kernel_rfl) rfl #[.string a0_0] rfl (by (try simp only [List.map_toArray, List.map_cons, List.map_nil]); first | done | rfl | (simp only [List.length_drop, List.length_take]; rfl)) ?_; (with_reducible refine (cashierref03_Is.calls k a0_0 false _ A4.out).mono ?_); rintro e w' ⟨rfl, ⟨nd, rfl⟩⟩; refine ⟨_, rfl, ?_⟩))
      go_meet
      case rel => exact ⟨_, (true), (by first | rfl | (simp; done) | (simp [*]; done)), H', ⟨by first | omega | exact Nat.le_refl _⟩, ⟨by (with_reducible repeat (first | refine blk_drewN ?_ _ | refine blk_drew ?_ | refine blk_alloc ?_ _)); exact BK199.out⟩, ⟨by repeat (first | (with_reducible first | exact HB.out | apply below_alloc | apply pw_below_drewN | apply below_drew1 | refine below_set ?_ GE199.out) | exact HB.out)⟩⟩
  case rest =>
    clear HC2
    try clear c1
    try clear p2
    try clear c3
    try clear c5
    try clear c7
    try clear c8
    try clear c8b0
    try clear c8b1
    try clear c10
    try clear c10b0
    try clear c10b1
    try clear hcz11_0
    try clear hcz11_1
    try clear hcz11_2
    try clear hcz11_3
    try clear hcz11_4
    try clear hcz11_5
    try clear hcz12_0
    try clear hcz12_1
    try clear hcz12_2
    try clear hcz12_3
    try clear hcz12_4
    try clear hcz12_5
    try clear hcz13_0
    try clear hcz13_1
    try clear hcz13_2
    try clear hcz13_3
    try clear hcz13_4
    try clear hcz13_5
    try clear hcz14_0
    try clear hcz14_1
    try clear hcz14_2
    try clear hcz14_3
    try clear hcz14_4
    try clear hcz14_5
    try clear hcz9_0
    try clear hcz9_1
    try clear hcz9_2
    try clear hcz9_3
    try clear hcz9_4
    try clear hcz9_5
    try clear hfz11_0
    try clear hfz11_1
    try clear hfz11_2
    try clear hfz11_3
    try clear hfz11_4
    try clear hfz11_5
    try clear hfz12_0
    try clear hfz12_1
    try clear hfz12_2
    try clear hfz12_3
    try clear hfz12_4
    try clear hfz12_5
    try clear hfz13_0
    try clear hfz13_1
    try clear hfz13_2
    try clear hfz13_3
    try clear hfz13_4
    try clear hfz13_5
    try clear hfz14_0
    try clear hfz14_1
    try clear hfz14_2
    try clear hfz14_3
    try clear hfz14_4
    try clear hfz14_5
    try clear hfz9_0
    try clear hfz9_1
    try clear hfz9_2
    try clear hfz9_3
    try clear hfz9_4
    try clear hfz9_5
    obtain ⟨kq, x38_1, rfl, HA, HJ1, BK199, HB⟩ := hcut
    cases kq with
    | zero => exact absurd HA.out (by simp [cashierref18_Check.j0])
    | succ kj1 =>
      have H := HA.out
      clear HA
      simp only [cashierref18_Check.j0] at H
      by_cases c15 : x38_1 = true
      · subst c15
        have H1 : (some 4) = some r := by rw [if_pos rfl] at H; exact H
        clear H
        have H := H1
        clear H1
        obtain rfl := Option.some.inj H
        go_wp2
        go_ret
        exact ⟨by first | rfl | (simp [errW_none, errW_some] <;> rfl) | (simp [*, errW_none, errW_some] <;> rfl), by repeat (first | (with_reducible first | exact HB.out | apply below_alloc | apply pw_below_drewN | apply below_drew1 | refine below_set ?_ GE199.out) | exact HB.out)⟩
      · replace c15 := Bool.eq_false_iff.mpr c15
        subst c15
        have H1 : ((cashierref03_Cmp.f kj1 a0_1 a0_0).bind fun t202 => (if t202 < 0 then (some 19) else (if (a0_2.size : Int) < 1 then (cashierref18_Check.j1 kj1 true a0_0 a0_1 a0_2 a0_3 a0_4 a0_5) else (cashierref18_Check.j1 kj1 (decide ((a0_2.size : Int) > 32)) a0_0 a0_1 a0_2 a0_3 a0_4 a0_5)))) = some r := by rw [if_neg (show ¬ (false = true) by decide)] at H; exact H
        clear H
        have H := H1
        clear H1
        replace H := Option.bind_eq_some_iff.mp H
        obtain ⟨t202, A160, H⟩ := H
        replace H : (if t202 < 0 then (some 19) else (if (a0_2.size : Int) < 1 then (cashierref18_Check.j1 kj1 true a0_0 a0_1 a0_2 a0_3 a0_4 a0_5) else (cashierref18_Check.j1 kj1 (decide ((a0_2.size : Int) > 32)) a0_0 a0_1 a0_2 a0_3 a0_4 a0_5))) = some r := H
        have A16 := Aside0.mk A160
        clear A160
        by_cases c17 : t202 < 0
        · rw [if_pos c17] at H
          have c17b0 : decide (t202 < 0) = true := decide_eq_true c17
          clear c17
          obtain rfl := Option.some.inj H
          have hcz18_0 : wc.cell? ⟨gb199, 0, none⟩ = some (.string a0_0) := (blk_cell BK199.out 0).trans rfl
          have hcz18_1 : wc.cell? ⟨gb199, 1, none⟩ = some (.string a0_1) := (blk_cell BK199.out 1).trans rfl
          have hcz18_2 : wc.cell? ⟨gb199, 2, none⟩ = some (.string a0_2) := (blk_cell BK199.out 2).trans rfl
          have hcz18_3 : wc.cell? ⟨gb199, 3, none⟩ = some (.string a0_3) := (blk_cell BK199.out 3).trans rfl
          have hcz18_4 : wc.cell? ⟨gb199, 4, none⟩ = some (.string a0_4) := (blk_cell BK199.out 4).trans rfl
          have hcz18_5 : wc.cell? ⟨gb199, 5, none⟩ = some (.int .i64 a0_5) := (blk_cell BK199.out 5).trans rfl
          have hfz18_0 := blk_frozen BK199.out 0
          have hfz18_1 := blk_frozen BK199.out 1
          have hfz18_2 := blk_frozen BK199.out 2
          have hfz18_3 := blk_frozen BK199.out 3
          have hfz18_4 := blk_frozen BK199.out 4
          have hfz18_5 := blk_frozen BK199.out 5
          go_wp2_with (first | ((with_reducible refine gate_callee (f := 32) rfl ?_); refine goesL_ (some 43) rfl rfl Tryz.func32 (by kernel_rfl) rfl #[.string a0_1, .string a0_0] rfl (by (try simp only [List.map_toArray, List.map_cons, List.map_nil]); first | done | rfl | (simp only [List.length_drop, List.length_take]; rfl)) ?_; (with_reducible refine (cashierref03_Cmp.calls kj1 a0_1 a0_0 t202 _ A16.out).mono ?_); rintro e w' ⟨rfl, ⟨nd, rfl⟩⟩; refine ⟨_, rfl, ?_⟩))
          go_ret
          exact ⟨by first | rfl | (simp [errW_none, errW_some] <;> rfl) | (simp [*, errW_none, errW_some] <;> rfl), by repeat (first | (with_reducible first | exact HB.out | apply below_alloc | apply pw_below_drewN | apply below_drew1 | refine below_set ?_ GE199.out) | exact HB.out)⟩
        · rw [if_neg c17] at H
          have c17b0 : decide (t202 < 0) = false := decide_eq_false c17
          clear c17
          have HC19 := Aside0.mk H
          clear H
          have hcz20_0 : wc.cell? ⟨gb199, 0, none⟩ = some (.string a0_0) := (blk_cell BK199.out 0).trans rfl
          have hcz20_1 : wc.cell? ⟨gb199, 1, none⟩ = some (.string a0_1) := (blk_cell BK199.out 1).trans rfl
          have hcz20_2 : wc.cell? ⟨gb199, 2, none⟩ = some (.string a0_2) := (blk_cell BK199.out 2).trans rfl
          have hcz20_3 : wc.cell? ⟨gb199, 3, none⟩ = some (.string a0_3) := (blk_cell BK199.out 3).trans rfl
          have hcz20_4 : wc.cell? ⟨gb199, 4, none⟩ = some (.string a0_4) := (blk_cell BK199.out 4).trans rfl
          have hcz20_5 : wc.cell? ⟨gb199, 5, none⟩ = some (.int .i64 a0_5) := (blk_cell BK199.out 5).trans rfl
          have hfz20_0 := blk_frozen BK199.out 0
          have hfz20_1 := blk_frozen BK199.out 1
          have hfz20_2 := blk_frozen BK199.out 2
          have hfz20_3 := blk_frozen BK199.out 3
          have hfz20_4 := blk_frozen BK199.out 4
          have hfz20_5 := blk_frozen BK199.out 5
          go_upto_region 5 with (first | ((with_reducible refine gate_callee (f := 32) rfl ?_); refine goesL_ (some 43) rfl rfl Tryz.func32 (by kernel_rfl) rfl #[.string a0_1, .string a0_0] rfl (by (try simp only [List.map_toArray, List.map_cons, List.map_nil]); first | done | rfl | (simp only [List.length_drop, List.length_take]; rfl)) ?_; (with_reducible refine (cashierref03_Cmp.calls kj1 a0_1 a0_0 t202 _ A16.out).mono ?_); rintro e w' ⟨rfl, ⟨nd, rfl⟩⟩; refine ⟨_, rfl, ?_⟩))
          (try simp only [Act.put, List.setIfInBounds_toArray, List.set_cons_zero, List.set_cons_succ])
          go_cut [54] (fun v54 wc => ∃ (kq : Nat) (x54_18 : Bool), v54 = .bool x54_18 ∧ Aside0 (cashierref18_Check.j1 kq x54_18 a0_0 a0_1 a0_2 a0_3 a0_4 a0_5 = some r) ∧ Aside0 (kq ≤ kj1) ∧ Aside0 (wc.heap[gb199]? = some (.cells #[.string a0_0, .string a0_1, .string a0_2, .string a0_3, .string a0_4, .int .i64 a0_5] 29 (0, 0))) ∧ Aside0 (Below w.heap.size w wc))
          case first =>
            have H := HC19.out
            clear HC19
            by_cases c21 : (a0_2.size : Int) < 1
            · rw [if_pos c21] at H
              have c21b0 : decide ((a0_2.size : Int) < 1) = true := decide_eq_true c21
              have c21b1 : decide (a0_2.size < 1) = true := decide_eq_true (by omega)
              clear c21
              (first | rw [c21b0] | (simp only [i64_w, i32_w]; rw [c21b0]) | skip)
              have H' := Aside0.mk H
              clear H
              have hcz22_0 : wc.cell? ⟨gb199, 0, none⟩ = some (.string a0_0) := (blk_cell BK199.out 0).trans rfl
              have hcz22_1 : wc.cell? ⟨gb199, 1, none⟩ = some (.string a0_1) := (blk_cell BK199.out 1).trans rfl
              have hcz22_2 : wc.cell? ⟨gb199, 2, none⟩ = some (.string a0_2) := (blk_cell BK199.out 2).trans rfl
              have hcz22_3 : wc.cell? ⟨gb199, 3, none⟩ = some (.string a0_3) := (blk_cell BK199.out 3).trans rfl
              have hcz22_4 : wc.cell? ⟨gb199, 4, none⟩ = some (.string a0_4) := (blk_cell BK199.out 4).trans rfl
              have hcz22_5 : wc.cell? ⟨gb199, 5, none⟩ = some (.int .i64 a0_5) := (blk_cell BK199.out 5).trans rfl
              have hfz22_0 := blk_frozen BK199.out 0
              have hfz22_1 := blk_frozen BK199.out 1
              have hfz22_2 := blk_frozen BK199.out 2
              have hfz22_3 := blk_frozen BK199.out 3
              have hfz22_4 := blk_frozen BK199.out 4
              have hfz22_5 := blk_frozen BK199.out 5
              go_wp2
              go_meet
              case rel => exact ⟨_, (true), (by first | rfl | (simp; done) | (simp [*]; done)), H', ⟨by have := HJ1.out; first | omega | exact Nat.le_refl _⟩, ⟨by (with_reducible repeat (first | refine blk_drewN ?_ _ | refine blk_drew ?_ | refine blk_alloc ?_ _)); exact BK199.out⟩, ⟨by repeat (first | (with_reducible first | exact HB.out | apply below_alloc | apply pw_below_drewN | apply below_drew1 | refine below_set ?_ GE199.out) | exact HB.out)⟩⟩
            · rw [if_neg c21] at H
              have c21b0 : decide ((a0_2.size : Int) < 1) = false := decide_eq_false c21
              have c21b1 : decide (a0_2.size < 1) = false := decide_eq_false (by omega)
              clear c21
              (first | rw [c21b0] | (simp only [i64_w, i32_w]; rw [c21b0]) | skip)
              have H' := Aside0.mk H
              clear H
              have hcz23_0 : wc.cell? ⟨gb199, 0, none⟩ = some (.string a0_0) := (blk_cell BK199.out 0).trans rfl
              have hcz23_1 : wc.cell? ⟨gb199, 1, none⟩ = some (.string a0_1) := (blk_cell BK199.out 1).trans rfl
              have hcz23_2 : wc.cell? ⟨gb199, 2, none⟩ = some (.string a0_2) := (blk_cell BK199.out 2).trans rfl
              have hcz23_3 : wc.cell? ⟨gb199, 3, none⟩ = some (.string a0_3) := (blk_cell BK199.out 3).trans rfl
              have hcz23_4 : wc.cell? ⟨gb199, 4, none⟩ = some (.string a0_4) := (blk_cell BK199.out 4).trans rfl
              have hcz23_5 : wc.cell? ⟨gb199, 5, none⟩ = some (.int .i64 a0_5) := (blk_cell BK199.out 5).trans rfl
              have hfz23_0 := blk_frozen BK199.out 0
              have hfz23_1 := blk_frozen BK199.out 1
              have hfz23_2 := blk_frozen BK199.out 2
              have hfz23_3 := blk_frozen BK199.out 3
              have hfz23_4 := blk_frozen BK199.out 4
              have hfz23_5 := blk_frozen BK199.out 5
              go_wp2
              go_meet
              case rel => exact ⟨_, (decide ((a0_2.size : Int) > 32)), (by first | rfl | (simp; done) | (simp [*]; done)), H', ⟨by have := HJ1.out; first | omega | exact Nat.le_refl _⟩, ⟨by (with_reducible repeat (first | refine blk_drewN ?_ _ | refine blk_drew ?_ | refine blk_alloc ?_ _)); exact BK199.out⟩, ⟨by repeat (first | (with_reducible first | exact HB.out | apply below_alloc | apply pw_below_drewN | apply below_drew1 | refine below_set ?_ GE199.out) | exact HB.out)⟩⟩
          case rest =>
            clear HC19
            try clear c1
            try clear c2
            try clear p2
            try clear c3
            try clear c5
            try clear c7
            try clear c8
            try clear c8b0
            try clear c8b1
            try clear c10
            try clear c10b0
            try clear c10b1
            try clear c15
            try clear c17
            try clear c17b0
            try clear c21
            try clear c21b0
            try clear c21b1
            try clear hcz11_0
            try clear hcz11_1
            try clear hcz11_2
            try clear hcz11_3
            try clear hcz11_4
            try clear hcz11_5
            try clear hcz12_0
            try clear hcz12_1
            try clear hcz12_2
            try clear hcz12_3
            try clear hcz12_4
            try clear hcz12_5
            try clear hcz13_0
            try clear hcz13_1
            try clear hcz13_2
            try clear hcz13_3
            try clear hcz13_4
            try clear hcz13_5
            try clear hcz14_0
            try clear hcz14_1
            try clear hcz14_2
            try clear hcz14_3
            try clear hcz14_4
            try clear hcz14_5
            try clear hcz18_0
            try clear hcz18_1
            try clear hcz18_2
            try clear hcz18_3
            try clear hcz18_4
            try clear hcz18_5
            try clear hcz20_0
            try clear hcz20_1
            try clear hcz20_2
            try clear hcz20_3
            try clear hcz20_4
            try clear hcz20_5
            try clear hcz22_0
            try clear hcz22_1
            try clear hcz22_2
            try clear hcz22_3
            try clear hcz22_4
            try clear hcz22_5
            try clear hcz23_0
            try clear hcz23_1
            try clear hcz23_2
            try clear hcz23_3
            try clear hcz23_4
            try clear hcz23_5
            try clear hcz9_0
            try clear hcz9_1
            try clear hcz9_2
            try clear hcz9_3
            try clear hcz9_4
            try clear hcz9_5
            try clear hfz11_0
            try clear hfz11_1
            try clear hfz11_2
            try clear hfz11_3
            try clear hfz11_4
            try clear hfz11_5
            try clear hfz12_0
            try clear hfz12_1
            try clear hfz12_2
            try clear hfz12_3
            try clear hfz12_4
            try clear hfz12_5
            try clear hfz13_0
            try clear hfz13_1
            try clear hfz13_2
            try clear hfz13_3
            try clear hfz13_4
            try clear hfz13_5
            try clear hfz14_0
            try clear hfz14_1
            try clear hfz14_2
            try clear hfz14_3
            try clear hfz14_4
            try clear hfz14_5
            try clear hfz18_0
            try clear hfz18_1
            try clear hfz18_2
            try clear hfz18_3
            try clear hfz18_4
            try clear hfz18_5
            try clear hfz20_0
            try clear hfz20_1
            try clear hfz20_2
            try clear hfz20_3
            try clear hfz20_4
            try clear hfz20_5
            try clear hfz22_0
            try clear hfz22_1
            try clear hfz22_2
            try clear hfz22_3
            try clear hfz22_4
            try clear hfz22_5
            try clear hfz23_0
            try clear hfz23_1
            try clear hfz23_2
            try clear hfz23_3
            try clear hfz23_4
            try clear hfz23_5
            try clear hfz9_0
            try clear hfz9_1
            try clear hfz9_2
            try clear hfz9_3
            try clear hfz9_4
            try clear hfz9_5
            try clear p2
            obtain ⟨kq, x54_18, rfl, HA, HJ18, BK199, HB⟩ := hcut
            cases kq with
            | zero => exact absurd HA.out (by simp [cashierref18_Check.j1])
            | succ kj18 =>
              have H := HA.out
              clear HA
              simp only [cashierref18_Check.j1] at H
              by_cases c24 : x54_18 = true
              · subst c24
                have H1 : (some 2) = some r := by rw [if_pos rfl] at H; exact H
                clear H
                have H := H1
                clear H1
                obtain rfl := Option.some.inj H
                go_wp2
                go_ret
                exact ⟨by first | rfl | (simp [errW_none, errW_some] <;> rfl) | (simp [*, errW_none, errW_some] <;> rfl), by repeat (first | (with_reducible first | exact HB.out | apply below_alloc | apply pw_below_drewN | apply below_drew1 | refine below_set ?_ GE199.out) | exact HB.out)⟩
              · replace c24 := Bool.eq_false_iff.mpr c24
                subst c24
                have H1 : (cashierref18_Check.l0 kj18 0 a0_0 a0_1 a0_2 a0_3 a0_4 a0_5) = some r := by rw [if_neg (show ¬ (false = true) by decide)] at H; exact H
                clear H
                have H := H1
                clear H1
                have H' := Aside0.mk H
                clear H
                go_wp2
                go_loopg [3] kj18 (fun kq v3 w' => ∃ (x3_3 : Int), v3 = .int .i64 x3_3 ∧ Aside0 (cashierref18_Check.l0 kq x3_3 a0_0 a0_1 a0_2 a0_3 a0_4 a0_5 = some r) ∧ Aside0 (kq ≤ kj18) ∧ Aside0 (w'.heap[gb199]? = some (.cells #[.string a0_0, .string a0_1, .string a0_2, .string a0_3, .string a0_4, .int .i64 a0_5] 29 (0, 0))) ∧ Aside0 (Below w.heap.size w w'))
                case atStart => exact ⟨(0), (by first | rfl | (simp; done) | (simp [*]; done)), H', ⟨Nat.le_refl _⟩, ⟨by (with_reducible repeat (first | refine blk_drewN ?_ _ | refine blk_drew ?_ | refine blk_alloc ?_ _)); exact BK199.out⟩, ⟨by repeat (first | (with_reducible first | exact HB.out | apply below_alloc | apply pw_below_drewN | apply below_drew1 | refine below_set ?_ GE199.out) | exact HB.out)⟩⟩
                case round =>
                  clear H'
                  try clear c1
                  try clear c2
                  try clear p2
                  try clear c3
                  try clear c5
                  try clear c7
                  try clear c8
                  try clear c8b0
                  try clear c8b1
                  try clear c10
                  try clear c10b0
                  try clear c10b1
                  try clear c15
                  try clear c17
                  try clear c17b0
                  try clear c21
                  try clear c21b0
                  try clear c21b1
                  try clear c24
                  try clear hcz11_0
                  try clear hcz11_1
                  try clear hcz11_2
                  try clear hcz11_3
                  try clear hcz11_4
                  try clear hcz11_5
                  try clear hcz12_0
                  try clear hcz12_1
                  try clear hcz12_2
                  try clear hcz12_3
                  try clear hcz12_4
                  try clear hcz12_5
                  try clear hcz13_0
                  try clear hcz13_1
                  try clear hcz13_2
                  try clear hcz13_3
                  try clear hcz13_4
                  try clear hcz13_5
                  try clear hcz14_0
                  try clear hcz14_1
                  try clear hcz14_2
                  try clear hcz14_3
                  try clear hcz14_4
                  try clear hcz14_5
                  try clear hcz18_0
                  try clear hcz18_1
                  try clear hcz18_2
                  try clear hcz18_3
                  try clear hcz18_4
                  try clear hcz18_5
                  try clear hcz20_0
                  try clear hcz20_1
                  try clear hcz20_2
                  try clear hcz20_3
                  try clear hcz20_4
                  try clear hcz20_5
                  try clear hcz22_0
                  try clear hcz22_1
                  try clear hcz22_2
                  try clear hcz22_3
                  try clear hcz22_4
                  try clear hcz22_5
                  try clear hcz23_0
                  try clear hcz23_1
                  try clear hcz23_2
                  try clear hcz23_3
                  try clear hcz23_4
                  try clear hcz23_5
                  try clear hcz9_0
                  try clear hcz9_1
                  try clear hcz9_2
                  try clear hcz9_3
                  try clear hcz9_4
                  try clear hcz9_5
                  try clear hfz11_0
                  try clear hfz11_1
                  try clear hfz11_2
                  try clear hfz11_3
                  try clear hfz11_4
                  try clear hfz11_5
                  try clear hfz12_0
                  try clear hfz12_1
                  try clear hfz12_2
                  try clear hfz12_3
                  try clear hfz12_4
                  try clear hfz12_5
                  try clear hfz13_0
                  try clear hfz13_1
                  try clear hfz13_2
                  try clear hfz13_3
                  try clear hfz13_4
                  try clear hfz13_5
                  try clear hfz14_0
                  try clear hfz14_1
                  try clear hfz14_2
                  try clear hfz14_3
                  try clear hfz14_4
                  try clear hfz14_5
                  try clear hfz18_0
                  try clear hfz18_1
                  try clear hfz18_2
                  try clear hfz18_3
                  try clear hfz18_4
                  try clear hfz18_5
                  try clear hfz20_0
                  try clear hfz20_1
                  try clear hfz20_2
                  try clear hfz20_3
                  try clear hfz20_4
                  try clear hfz20_5
                  try clear hfz22_0
                  try clear hfz22_1
                  try clear hfz22_2
                  try clear hfz22_3
                  try clear hfz22_4
                  try clear hfz22_5
                  try clear hfz23_0
                  try clear hfz23_1
                  try clear hfz23_2
                  try clear hfz23_3
                  try clear hfz23_4
                  try clear hfz23_5
                  try clear hfz9_0
                  try clear hfz9_1
                  try clear hfz9_2
                  try clear hfz9_3
                  try clear hfz9_4
                  try clear hfz9_5
                  try clear p2
                  obtain ⟨x3_3, rfl, HA, HK3, BK199, HB⟩ := hrel
                  cases gk with
                  | zero => exact absurd HA.out (by simp [cashierref18_Check.l0])
                  | succ k3 =>
                    have H := HA.out
                    clear HA
                    simp only [cashierref18_Check.l0] at H
                    by_cases c25 : x3_3 < (a0_2.size : Int)
                    · rw [if_pos c25] at H
                      have c25b0 : decide (x3_3 < (a0_2.size : Int)) = true := decide_eq_true c25
                      clear c25
                      by_cases c26 : 0 ≤ x3_3
                      · rw [if_pos c26] at H
                        have c26b0 : decide (0 ≤ x3_3) = true := decide_eq_true c26
                        clear c26
                        by_cases c28 : (bt a0_2 x3_3) < 33
                        · rw [if_pos c28] at H
                          have c28b0 : decide ((bt a0_2 x3_3) < 33) = true := decide_eq_true c28
                          clear c28
                          obtain rfl := Option.some.inj H
                          have hcz29_0 : wr.cell? ⟨gb199, 0, none⟩ = some (.string a0_0) := (blk_cell BK199.out 0).trans rfl
                          have hcz29_1 : wr.cell? ⟨gb199, 1, none⟩ = some (.string a0_1) := (blk_cell BK199.out 1).trans rfl
                          have hcz29_2 : wr.cell? ⟨gb199, 2, none⟩ = some (.string a0_2) := (blk_cell BK199.out 2).trans rfl
                          have hcz29_3 : wr.cell? ⟨gb199, 3, none⟩ = some (.string a0_3) := (blk_cell BK199.out 3).trans rfl
                          have hcz29_4 : wr.cell? ⟨gb199, 4, none⟩ = some (.string a0_4) := (blk_cell BK199.out 4).trans rfl
                          have hcz29_5 : wr.cell? ⟨gb199, 5, none⟩ = some (.int .i64 a0_5) := (blk_cell BK199.out 5).trans rfl
                          have hfz29_0 := blk_frozen BK199.out 0
                          have hfz29_1 := blk_frozen BK199.out 1
                          have hfz29_2 := blk_frozen BK199.out 2
                          have hfz29_3 := blk_frozen BK199.out 3
                          have hfz29_4 := blk_frozen BK199.out 4
                          have hfz29_5 := blk_frozen BK199.out 5
                          have p27 : 0 ≤ (x3_3 : Int) := of_decide_eq_true (by first | (with_reducible assumption) | assumption)
                          have q27 : x3_3 < (a0_2.size : Int) := of_decide_eq_true (by first | (with_reducible assumption) | assumption)
                          have hx27 := bt_at a0_2 x3_3
                          replace p27 := eq_true p27
                          replace q27 := eq_true q27
                          go_wp2
                          go_ret
                          exact ⟨by first | rfl | (simp [errW_none, errW_some] <;> rfl) | (simp [*, errW_none, errW_some] <;> rfl), by repeat (first | (with_reducible first | exact HB.out | apply below_alloc | apply pw_below_drewN | apply below_drew1 | refine below_set ?_ GE199.out) | exact HB.out)⟩
                        · rw [if_neg c28] at H
                          have c28b0 : decide ((bt a0_2 x3_3) < 33) = false := decide_eq_false c28
                          clear c28
                          by_cases c31 : (bt a0_2 x3_3) > 126
                          · rw [if_pos c31] at H
                            have c31b0 : decide (126 < (bt a0_2 x3_3)) = true := decide_eq_true c31
                            clear c31
                            obtain rfl := Option.some.inj H
                            have hcz32_0 : wr.cell? ⟨gb199, 0, none⟩ = some (.string a0_0) := (blk_cell BK199.out 0).trans rfl
                            have hcz32_1 : wr.cell? ⟨gb199, 1, none⟩ = some (.string a0_1) := (blk_cell BK199.out 1).trans rfl
                            have hcz32_2 : wr.cell? ⟨gb199, 2, none⟩ = some (.string a0_2) := (blk_cell BK199.out 2).trans rfl
                            have hcz32_3 : wr.cell? ⟨gb199, 3, none⟩ = some (.string a0_3) := (blk_cell BK199.out 3).trans rfl
                            have hcz32_4 : wr.cell? ⟨gb199, 4, none⟩ = some (.string a0_4) := (blk_cell BK199.out 4).trans rfl
                            have hcz32_5 : wr.cell? ⟨gb199, 5, none⟩ = some (.int .i64 a0_5) := (blk_cell BK199.out 5).trans rfl
                            have hfz32_0 := blk_frozen BK199.out 0
                            have hfz32_1 := blk_frozen BK199.out 1
                            have hfz32_2 := blk_frozen BK199.out 2
                            have hfz32_3 := blk_frozen BK199.out 3
                            have hfz32_4 := blk_frozen BK199.out 4
                            have hfz32_5 := blk_frozen BK199.out 5
                            have p27 : 0 ≤ (x3_3 : Int) := of_decide_eq_true (by first | (with_reducible assumption) | assumption)
                            have q27 : x3_3 < (a0_2.size : Int) := of_decide_eq_true (by first | (with_reducible assumption) | assumption)
                            have hx27 := bt_at a0_2 x3_3
                            replace p27 := eq_true p27
                            replace q27 := eq_true q27
                            have p30 : 0 ≤ (x3_3 : Int) := of_decide_eq_true (by first | (with_reducible assumption) | assumption)
                            have q30 : x3_3 < (a0_2.size : Int) := of_decide_eq_true (by first | (with_reducible assumption) | assumption)
                            have hx30 := bt_at a0_2 x3_3
                            replace p30 := eq_true p30
                            replace q30 := eq_true q30
                            go_wp2
                            go_ret
                            exact ⟨by first | rfl | (simp [errW_none, errW_some] <;> rfl) | (simp [*, errW_none, errW_some] <;> rfl), by repeat (first | (with_reducible first | exact HB.out | apply below_alloc | apply pw_below_drewN | apply below_drew1 | refine below_set ?_ GE199.out) | exact HB.out)⟩
                          · rw [if_neg c31] at H
                            have c31b0 : decide (126 < (bt a0_2 x3_3)) = false := decide_eq_false c31
                            clear c31
                            have H' := Aside0.mk H
                            clear H
                            have hcz33_0 : wr.cell? ⟨gb199, 0, none⟩ = some (.string a0_0) := (blk_cell BK199.out 0).trans rfl
                            have hcz33_1 : wr.cell? ⟨gb199, 1, none⟩ = some (.string a0_1) := (blk_cell BK199.out 1).trans rfl
                            have hcz33_2 : wr.cell? ⟨gb199, 2, none⟩ = some (.string a0_2) := (blk_cell BK199.out 2).trans rfl
                            have hcz33_3 : wr.cell? ⟨gb199, 3, none⟩ = some (.string a0_3) := (blk_cell BK199.out 3).trans rfl
                            have hcz33_4 : wr.cell? ⟨gb199, 4, none⟩ = some (.string a0_4) := (blk_cell BK199.out 4).trans rfl
                            have hcz33_5 : wr.cell? ⟨gb199, 5, none⟩ = some (.int .i64 a0_5) := (blk_cell BK199.out 5).trans rfl
                            have hfz33_0 := blk_frozen BK199.out 0
                            have hfz33_1 := blk_frozen BK199.out 1
                            have hfz33_2 := blk_frozen BK199.out 2
                            have hfz33_3 := blk_frozen BK199.out 3
                            have hfz33_4 := blk_frozen BK199.out 4
                            have hfz33_5 := blk_frozen BK199.out 5
                            have p27 : 0 ≤ (x3_3 : Int) := of_decide_eq_true (by first | (with_reducible assumption) | assumption)
                            have q27 : x3_3 < (a0_2.size : Int) := of_decide_eq_true (by first | (with_reducible assumption) | assumption)
                            have hx27 := bt_at a0_2 x3_3
                            replace p27 := eq_true p27
                            replace q27 := eq_true q27
                            have p30 : 0 ≤ (x3_3 : Int) := of_decide_eq_true (by first | (with_reducible assumption) | assumption)
                            have q30 : x3_3 < (a0_2.size : Int) := of_decide_eq_true (by first | (with_reducible assumption) | assumption)
                            have hx30 := bt_at a0_2 x3_3
                            replace p30 := eq_true p30
                            replace q30 := eq_true q30
                            go_wp2
                            go_roundg k3
                            case measure => have := HJ1.out; have := HJ18.out; have := HK3.out; omega
                            case rel => exact ⟨(wrap64 (x3_3 + 1)), (by first | rfl | (simp; done) | (simp [*]; done)), H', ⟨by have := HJ1.out; have := HJ18.out; have := HK3.out; omega⟩, ⟨by (with_reducible repeat (first | refine blk_drewN ?_ _ | refine blk_drew ?_ | refine blk_alloc ?_ _)); exact BK199.out⟩, ⟨by repeat (first | (with_reducible first | exact HB.out | apply below_alloc | apply pw_below_drewN | apply below_drew1 | refine below_set ?_ GE199.out) | exact HB.out)⟩⟩
                      · rw [if_neg c26] at H
                        exact absurd H (by simp)
                    · rw [if_neg c25] at H
                      have c25b0 : decide (x3_3 < (a0_2.size : Int)) = false := decide_eq_false c25
                      clear c25
                      replace H := Option.bind_eq_some_iff.mp H
                      obtain ⟨⟨t203, t204⟩, A340, H⟩ := H
                      replace H : ((cashierref17_Parse.f k3 a0_4).bind fun bt207 => (if t204 = true then (if bt207.2 = true then ((cashierref17_Cmp.f k3 t203 bt207.1).bind fun t211 => (cashierref18_Check.j3 k3 (decide (t211 > 0)) a0_0 a0_1 a0_2 a0_3 a0_4 a0_5)) else (cashierref18_Check.j3 k3 true a0_0 a0_1 a0_2 a0_3 a0_4 a0_5)) else (cashierref18_Check.j3 k3 true a0_0 a0_1 a0_2 a0_3 a0_4 a0_5))) = some r := H
                      have A34 := Aside0.mk A340
                      clear A340
                      replace H := Option.bind_eq_some_iff.mp H
                      obtain ⟨⟨t207, t208⟩, A350, H⟩ := H
                      replace H : (if t204 = true then (if t208 = true then ((cashierref17_Cmp.f k3 t203 t207).bind fun t211 => (cashierref18_Check.j3 k3 (decide (t211 > 0)) a0_0 a0_1 a0_2 a0_3 a0_4 a0_5)) else (cashierref18_Check.j3 k3 true a0_0 a0_1 a0_2 a0_3 a0_4 a0_5)) else (cashierref18_Check.j3 k3 true a0_0 a0_1 a0_2 a0_3 a0_4 a0_5)) = some r := H
                      have A35 := Aside0.mk A350
                      clear A350
                      have HC36 := Aside0.mk H
                      clear H
                      have hcz37_0 : wr.cell? ⟨gb199, 0, none⟩ = some (.string a0_0) := (blk_cell BK199.out 0).trans rfl
                      have hcz37_1 : wr.cell? ⟨gb199, 1, none⟩ = some (.string a0_1) := (blk_cell BK199.out 1).trans rfl
                      have hcz37_2 : wr.cell? ⟨gb199, 2, none⟩ = some (.string a0_2) := (blk_cell BK199.out 2).trans rfl
                      have hcz37_3 : wr.cell? ⟨gb199, 3, none⟩ = some (.string a0_3) := (blk_cell BK199.out 3).trans rfl
                      have hcz37_4 : wr.cell? ⟨gb199, 4, none⟩ = some (.string a0_4) := (blk_cell BK199.out 4).trans rfl
                      have hcz37_5 : wr.cell? ⟨gb199, 5, none⟩ = some (.int .i64 a0_5) := (blk_cell BK199.out 5).trans rfl
                      have hfz37_0 := blk_frozen BK199.out 0
                      have hfz37_1 := blk_frozen BK199.out 1
                      have hfz37_2 := blk_frozen BK199.out 2
                      have hfz37_3 := blk_frozen BK199.out 3
                      have hfz37_4 := blk_frozen BK199.out 4
                      have hfz37_5 := blk_frozen BK199.out 5
                      go_upto_region 14 with (first | ((with_reducible refine gate_callee (f := 33) rfl ?_); refine goesL_ (some 77) rfl rfl Tryz.func33 (by kernel_rfl) rfl #[.string a0_3] rfl (by (try simp only [List.map_toArray, List.map_cons, List.map_nil]); first | done | rfl | (simp only [List.length_drop, List.length_take]; rfl)) ?_; (with_reducible refine (cashierref17_Parse.calls k3 a0_3 t203 t204 _ A34.out).mono ?_); rintro e w38 ⟨v205, rfl, ho0, hb⟩; refine ⟨_, rfl, ?_⟩; have n0_ := Aside0.mk (Kd.R_lower ho0 (below_size (by repeat (first | (with_reducible first | exact HB.out | apply below_alloc | apply pw_below_drewN | apply below_drew1 | refine below_set ?_ GE199.out) | exact HB.out)))); have n1_ := Aside0.mk (blk_below (g := gb199) (o := .cells #[.string a0_0, .string a0_1, .string a0_2, .string a0_3, .string a0_4, .int .i64 a0_5] 29 (0, 0)) (by (with_reducible repeat (first | refine blk_drewN ?_ _ | refine blk_drew ?_ | refine blk_alloc ?_ _)); exact BK199.out) hb); have n2_ := Aside0.mk (below_step (by repeat (first | (with_reducible first | exact HB.out | apply below_alloc | apply pw_below_drewN | apply below_drew1 | refine below_set ?_ GE199.out) | exact HB.out)) hb); clear BK199; clear HB; have HO206 := n0_; have BK199 := n1_; have HB := n2_; clear n0_ n1_ n2_; (try clear hb); (try clear hb2); (try clear hk); (try clear hi); (try clear ho0); have hcz39_0 : w38.cell? ⟨gb199, 0, none⟩ = some (.string a0_0) := (blk_cell BK199.out 0).trans rfl; have hcz39_1 : w38.cell? ⟨gb199, 1, none⟩ = some (.string a0_1) := (blk_cell BK199.out 1).trans rfl; have hcz39_2 : w38.cell? ⟨gb199, 2, none⟩ = some (.string a0_2) := (blk_cell BK199.out 2).trans rfl; have hcz39_3 : w38.cell? ⟨gb199, 3, none⟩ = some (.string a0_3) := (blk_cell BK199.out 3).trans rfl; have hcz39_4 : w38.cell? ⟨gb199, 4, none⟩ = some (.string a0_4) := (blk_cell BK199.out 4).trans rfl; have hcz39_5 : w38.cell? ⟨gb199, 5, none⟩ = some (.int .i64 a0_5) := (blk_cell BK199.out 5).trans rfl; have hfz39_0 := blk_frozen BK199.out 0; have hfz39_1 := blk_frozen BK199.out 1; have hfz39_2 := blk_frozen BK199.out 2; have hfz39_3 := blk_frozen BK199.out 3; have hfz39_4 := blk_frozen BK199.out 4; have hfz39_5 := blk_frozen BK199.out 5) | ((with_reducible refine gate_callee (f := 33) rfl ?_); refine goesL_ (some 83) rfl rfl Tryz.func33 (by kernel_rfl) rfl #[.string a0_4] rfl (by (try simp only [List.map_toArray, List.map_cons, List.map_nil]); first | done | rfl | (simp only [List.length_drop, List.length_take]; rfl)) ?_; (with_reducible refine (cashierref17_Parse.calls k3 a0_4 t207 t208 _ A35.out).mono ?_); rintro e w40 ⟨v209, rfl, ho0, hb⟩; refine ⟨_, rfl, ?_⟩; have n0_ := Aside0.mk (Kd.R_elder' (by (with_reducible repeat (first | apply Kd.R_alloc | apply Kd.R_drewN | apply Kd.R_drew)); exact HO206.out) (Kd.R_base ho0) hb); have n1_ := Aside0.mk (Kd.R_lower (Kd.R_new' ho0 (Kd.R_lt (by (with_reducible repeat (first | apply Kd.R_alloc | apply Kd.R_drewN | apply Kd.R_drew)); exact HO206.out))) (below_size (by repeat (first | (with_reducible first | exact HB.out | apply below_alloc | apply pw_below_drewN | apply below_drew1 | refine below_set ?_ GE199.out) | exact HB.out)))); have n2_ := Aside0.mk (blk_below (g := gb199) (o := .cells #[.string a0_0, .string a0_1, .string a0_2, .string a0_3, .string a0_4, .int .i64 a0_5] 29 (0, 0)) (by (with_reducible repeat (first | refine blk_drewN ?_ _ | refine blk_drew ?_ | refine blk_alloc ?_ _)); exact BK199.out) hb); have n3_ := Aside0.mk (below_step (by repeat (first | (with_reducible first | exact HB.out | apply below_alloc | apply pw_below_drewN | apply below_drew1 | refine below_set ?_ GE199.out) | exact HB.out)) hb); clear HO206; clear BK199; clear HB; have HO206 := n0_; have HO210 := n1_; have BK199 := n2_; have HB := n3_; clear n0_ n1_ n2_ n3_; (try clear hb); (try clear hb2); (try clear hk); (try clear hi); (try clear ho0)))
                      (try simp only [Act.put, List.setIfInBounds_toArray, List.set_cons_zero, List.set_cons_succ])
                      go_cut [97] (fun v97 wc => ∃ (kq : Nat) (x97_35 : Bool), v97 = .bool x97_35 ∧ Aside0 (cashierref18_Check.j3 kq x97_35 a0_0 a0_1 a0_2 a0_3 a0_4 a0_5 = some r) ∧ Aside0 (kq ≤ k3) ∧ Aside0 (wc.heap[gb199]? = some (.cells #[.string a0_0, .string a0_1, .string a0_2, .string a0_3, .string a0_4, .int .i64 a0_5] 29 (0, 0))) ∧ Aside0 (Below w.heap.size w wc))
                      case first =>
                        have H := HC36.out
                        clear HC36
                        by_cases c41 : t204 = true
                        · subst c41
                          have H1 : (if t208 = true then ((cashierref17_Cmp.f k3 t203 t207).bind fun t211 => (cashierref18_Check.j3 k3 (decide (t211 > 0)) a0_0 a0_1 a0_2 a0_3 a0_4 a0_5)) else (cashierref18_Check.j3 k3 true a0_0 a0_1 a0_2 a0_3 a0_4 a0_5)) = some r := by rw [if_pos rfl] at H; exact H
                          clear H
                          have H := H1
                          clear H1
                          by_cases c42 : t208 = true
                          · subst c42
                            have H1 : ((cashierref17_Cmp.f k3 t203 t207).bind fun t211 => (cashierref18_Check.j3 k3 (decide (t211 > 0)) a0_0 a0_1 a0_2 a0_3 a0_4 a0_5)) = some r := by rw [if_pos rfl] at H; exact H
                            clear H
                            have H := H1
                            clear H1
                            replace H := Option.bind_eq_some_iff.mp H
                            obtain ⟨t211, A430, H⟩ := H
                            replace H : (cashierref18_Check.j3 k3 (decide (t211 > 0)) a0_0 a0_1 a0_2 a0_3 a0_4 a0_5) = some r := H
                            have A43 := Aside0.mk A430
                            clear A430
                            have H' := Aside0.mk H
                            clear H
                            obtain ⟨Ao44, co44, eo44⟩ := Kd.R_slice HO206.out
                            subst eo44
                            obtain ⟨Ao45, co45, eo45⟩ := Kd.R_slice HO210.out
                            subst eo45
                            go_wp2_with (first | (go_at_call 34; (with_reducible refine (cashierref17_Cmp.calls k3 _ _ t203 _ _ t207 t211 _ ?side1 ?side2 ?side3 ?side4 A43.out).mono ?_); (case side1 => repeat (first | exact (Kd.R_reads' HO206.out).2.2 | (with_reducible refine Kd.C_alloc ?_ _) | (with_reducible refine Kd.C_drewN ?_ _) | (with_reducible refine Kd.C_drew ?_))); (case side2 => exact (Kd.R_reads' HO206.out).2.1); (case side3 => repeat (first | exact (Kd.R_reads' HO210.out).2.2 | (with_reducible refine Kd.C_alloc ?_ _) | (with_reducible refine Kd.C_drewN ?_ _) | (with_reducible refine Kd.C_drew ?_))); (case side4 => exact (Kd.R_reads' HO210.out).2.1); rintro e w' ⟨rfl, ⟨nd, rfl⟩⟩))
                            go_meet
                            case rel => exact ⟨_, (decide (t211 > 0)), (by first | rfl | (simp; done) | (simp [*]; done)), H', ⟨by have := HJ1.out; have := HJ18.out; have := HK3.out; first | omega | exact Nat.le_refl _⟩, ⟨by (with_reducible repeat (first | refine blk_drewN ?_ _ | refine blk_drew ?_ | refine blk_alloc ?_ _)); exact BK199.out⟩, ⟨by repeat (first | (with_reducible first | exact HB.out | apply below_alloc | apply pw_below_drewN | apply below_drew1 | refine below_set ?_ GE199.out) | exact HB.out)⟩⟩
                          · replace c42 := Bool.eq_false_iff.mpr c42
                            subst c42
                            have H1 : (cashierref18_Check.j3 k3 true a0_0 a0_1 a0_2 a0_3 a0_4 a0_5) = some r := by rw [if_neg (show ¬ (false = true) by decide)] at H; exact H
                            clear H
                            have H := H1
                            clear H1
                            have H' := Aside0.mk H
                            clear H
                            go_wp2
                            go_meet
                            case rel => exact ⟨_, (true), (by first | rfl | (simp; done) | (simp [*]; done)), H', ⟨by have := HJ1.out; have := HJ18.out; have := HK3.out; first | omega | exact Nat.le_refl _⟩, ⟨by (with_reducible repeat (first | refine blk_drewN ?_ _ | refine blk_drew ?_ | refine blk_alloc ?_ _)); exact BK199.out⟩, ⟨by repeat (first | (with_reducible first | exact HB.out | apply below_alloc | apply pw_below_drewN | apply below_drew1 | refine below_set ?_ GE199.out) | exact HB.out)⟩⟩
                        · replace c41 := Bool.eq_false_iff.mpr c41
                          subst c41
                          have H1 : (cashierref18_Check.j3 k3 true a0_0 a0_1 a0_2 a0_3 a0_4 a0_5) = some r := by rw [if_neg (show ¬ (false = true) by decide)] at H; exact H
                          clear H
                          have H := H1
                          clear H1
                          have H' := Aside0.mk H
                          clear H
                          go_wp2
                          go_meet
                          case rel => exact ⟨_, (true), (by first | rfl | (simp; done) | (simp [*]; done)), H', ⟨by have := HJ1.out; have := HJ18.out; have := HK3.out; first | omega | exact Nat.le_refl _⟩, ⟨by (with_reducible repeat (first | refine blk_drewN ?_ _ | refine blk_drew ?_ | refine blk_alloc ?_ _)); exact BK199.out⟩, ⟨by repeat (first | (with_reducible first | exact HB.out | apply below_alloc | apply pw_below_drewN | apply below_drew1 | refine below_set ?_ GE199.out) | exact HB.out)⟩⟩
                      case rest =>
                        clear HC36
                        try clear c1
                        try clear c2
                        try clear p2
                        try clear q2
                        try clear hx2
                        try clear c3
                        try clear p3
                        try clear q3
                        try clear hx3
                        try clear c4
                        try clear c5
                        try clear p6
                        try clear c7
                        try clear c8
                        try clear c8b0
                        try clear c8b1
                        try clear c10
                        try clear c10b0
                        try clear c10b1
                        try clear c15
                        try clear c17
                        try clear c17b0
                        try clear c21
                        try clear c21b0
                        try clear c21b1
                        try clear c24
                        try clear c25
                        try clear c25b0
                        try clear c26
                        try clear c26b0
                        try clear p27
                        try clear q27
                        try clear hx27
                        try clear c28
                        try clear c28b0
                        try clear p30
                        try clear q30
                        try clear hx30
                        try clear c31
                        try clear c31b0
                        try clear c32
                        try clear c33
                        try clear c41
                        try clear c42
                        try clear hcz11_0
                        try clear hcz11_1
                        try clear hcz11_2
                        try clear hcz11_3
                        try clear hcz11_4
                        try clear hcz11_5
                        try clear hcz12_0
                        try clear hcz12_1
                        try clear hcz12_2
                        try clear hcz12_3
                        try clear hcz12_4
                        try clear hcz12_5
                        try clear hcz13_0
                        try clear hcz13_1
                        try clear hcz13_2
                        try clear hcz13_3
                        try clear hcz13_4
                        try clear hcz13_5
                        try clear hcz14_0
                        try clear hcz14_1
                        try clear hcz14_2
                        try clear hcz14_3
                        try clear hcz14_4
                        try clear hcz14_5
                        try clear hcz18_0
                        try clear hcz18_1
                        try clear hcz18_2
                        try clear hcz18_3
                        try clear hcz18_4
                        try clear hcz18_5
                        try clear hcz20_0
                        try clear hcz20_1
                        try clear hcz20_2
                        try clear hcz20_3
                        try clear hcz20_4
                        try clear hcz20_5
                        try clear hcz22_0
                        try clear hcz22_1
                        try clear hcz22_2
                        try clear hcz22_3
                        try clear hcz22_4
                        try clear hcz22_5
                        try clear hcz23_0
                        try clear hcz23_1
                        try clear hcz23_2
                        try clear hcz23_3
                        try clear hcz23_4
                        try clear hcz23_5
                        try clear hcz29_0
                        try clear hcz29_1
                        try clear hcz29_2
                        try clear hcz29_3
                        try clear hcz29_4
                        try clear hcz29_5
                        try clear hcz32_0
                        try clear hcz32_1
                        try clear hcz32_2
                        try clear hcz32_3
                        try clear hcz32_4
                        try clear hcz32_5
                        try clear hcz33_0
                        try clear hcz33_1
                        try clear hcz33_2
                        try clear hcz33_3
                        try clear hcz33_4
                        try clear hcz33_5
                        try clear hcz37_0
                        try clear hcz37_1
                        try clear hcz37_2
                        try clear hcz37_3
                        try clear hcz37_4
                        try clear hcz37_5
                        try clear hcz39_0
                        try clear hcz39_1
                        try clear hcz39_2
                        try clear hcz39_3
                        try clear hcz39_4
                        try clear hcz39_5
                        try clear hcz9_0
                        try clear hcz9_1
                        try clear hcz9_2
                        try clear hcz9_3
                        try clear hcz9_4
                        try clear hcz9_5
                        try clear hfz11_0
                        try clear hfz11_1
                        try clear hfz11_2
                        try clear hfz11_3
                        try clear hfz11_4
                        try clear hfz11_5
                        try clear hfz12_0
                        try clear hfz12_1
                        try clear hfz12_2
                        try clear hfz12_3
                        try clear hfz12_4
                        try clear hfz12_5
                        try clear hfz13_0
                        try clear hfz13_1
                        try clear hfz13_2
                        try clear hfz13_3
                        try clear hfz13_4
                        try clear hfz13_5
                        try clear hfz14_0
                        try clear hfz14_1
                        try clear hfz14_2
                        try clear hfz14_3
                        try clear hfz14_4
                        try clear hfz14_5
                        try clear hfz18_0
                        try clear hfz18_1
                        try clear hfz18_2
                        try clear hfz18_3
                        try clear hfz18_4
                        try clear hfz18_5
                        try clear hfz20_0
                        try clear hfz20_1
                        try clear hfz20_2
                        try clear hfz20_3
                        try clear hfz20_4
                        try clear hfz20_5
                        try clear hfz22_0
                        try clear hfz22_1
                        try clear hfz22_2
                        try clear hfz22_3
                        try clear hfz22_4
                        try clear hfz22_5
                        try clear hfz23_0
                        try clear hfz23_1
                        try clear hfz23_2
                        try clear hfz23_3
                        try clear hfz23_4
                        try clear hfz23_5
                        try clear hfz29_0
                        try clear hfz29_1
                        try clear hfz29_2
                        try clear hfz29_3
                        try clear hfz29_4
                        try clear hfz29_5
                        try clear hfz32_0
                        try clear hfz32_1
                        try clear hfz32_2
                        try clear hfz32_3
                        try clear hfz32_4
                        try clear hfz32_5
                        try clear hfz33_0
                        try clear hfz33_1
                        try clear hfz33_2
                        try clear hfz33_3
                        try clear hfz33_4
                        try clear hfz33_5
                        try clear hfz37_0
                        try clear hfz37_1
                        try clear hfz37_2
                        try clear hfz37_3
                        try clear hfz37_4
                        try clear hfz37_5
                        try clear hfz39_0
                        try clear hfz39_1
                        try clear hfz39_2
                        try clear hfz39_3
                        try clear hfz39_4
                        try clear hfz39_5
                        try clear hfz9_0
                        try clear hfz9_1
                        try clear hfz9_2
                        try clear hfz9_3
                        try clear hfz9_4
                        try clear hfz9_5
                        try clear p2
                        try clear p27
                        try clear p30
                        try clear q27
                        try clear q30
                        obtain ⟨kq, x97_35, rfl, HA, HJ35, BK199, HB⟩ := hcut
                        cases kq with
                        | zero => exact absurd HA.out (by simp [cashierref18_Check.j3])
                        | succ kj35 =>
                          have H := HA.out
                          clear HA
                          simp only [cashierref18_Check.j3] at H
                          by_cases c46 : x97_35 = true
                          · subst c46
                            have H1 : (some 7) = some r := by rw [if_pos rfl] at H; exact H
                            clear H
                            have H := H1
                            clear H1
                            obtain rfl := Option.some.inj H
                            go_wp2
                            go_ret
                            exact ⟨by first | rfl | (simp [errW_none, errW_some] <;> rfl) | (simp [*, errW_none, errW_some] <;> rfl), by repeat (first | (with_reducible first | exact HB.out | apply below_alloc | apply pw_below_drewN | apply below_drew1 | refine below_set ?_ GE199.out) | exact HB.out)⟩
                          · replace c46 := Bool.eq_false_iff.mpr c46
                            subst c46
                            have H1 : (if a0_5 < 1 then (some 11) else (if a0_5 > 3 then (some 11) else (some 0))) = some r := by rw [if_neg (show ¬ (false = true) by decide)] at H; exact H
                            clear H
                            have H := H1
                            clear H1
                            by_cases c47 : a0_5 < 1
                            · rw [if_pos c47] at H
                              have c47b0 : decide (a0_5 < 1) = true := decide_eq_true c47
                              clear c47
                              obtain rfl := Option.some.inj H
                              have hcz48_0 : wc.cell? ⟨gb199, 0, none⟩ = some (.string a0_0) := (blk_cell BK199.out 0).trans rfl
                              have hcz48_1 : wc.cell? ⟨gb199, 1, none⟩ = some (.string a0_1) := (blk_cell BK199.out 1).trans rfl
                              have hcz48_2 : wc.cell? ⟨gb199, 2, none⟩ = some (.string a0_2) := (blk_cell BK199.out 2).trans rfl
                              have hcz48_3 : wc.cell? ⟨gb199, 3, none⟩ = some (.string a0_3) := (blk_cell BK199.out 3).trans rfl
                              have hcz48_4 : wc.cell? ⟨gb199, 4, none⟩ = some (.string a0_4) := (blk_cell BK199.out 4).trans rfl
                              have hcz48_5 : wc.cell? ⟨gb199, 5, none⟩ = some (.int .i64 a0_5) := (blk_cell BK199.out 5).trans rfl
                              have hfz48_0 := blk_frozen BK199.out 0
                              have hfz48_1 := blk_frozen BK199.out 1
                              have hfz48_2 := blk_frozen BK199.out 2
                              have hfz48_3 := blk_frozen BK199.out 3
                              have hfz48_4 := blk_frozen BK199.out 4
                              have hfz48_5 := blk_frozen BK199.out 5
                              go_wp2
                              go_ret
                              exact ⟨by first | rfl | (simp [errW_none, errW_some] <;> rfl) | (simp [*, errW_none, errW_some] <;> rfl), by repeat (first | (with_reducible first | exact HB.out | apply below_alloc | apply pw_below_drewN | apply below_drew1 | refine below_set ?_ GE199.out) | exact HB.out)⟩
                            · rw [if_neg c47] at H
                              have c47b0 : decide (a0_5 < 1) = false := decide_eq_false c47
                              clear c47
                              by_cases c49 : a0_5 > 3
                              · rw [if_pos c49] at H
                                have c49b0 : decide (3 < a0_5) = true := decide_eq_true c49
                                clear c49
                                obtain rfl := Option.some.inj H
                                have hcz50_0 : wc.cell? ⟨gb199, 0, none⟩ = some (.string a0_0) := (blk_cell BK199.out 0).trans rfl
                                have hcz50_1 : wc.cell? ⟨gb199, 1, none⟩ = some (.string a0_1) := (blk_cell BK199.out 1).trans rfl
                                have hcz50_2 : wc.cell? ⟨gb199, 2, none⟩ = some (.string a0_2) := (blk_cell BK199.out 2).trans rfl
                                have hcz50_3 : wc.cell? ⟨gb199, 3, none⟩ = some (.string a0_3) := (blk_cell BK199.out 3).trans rfl
                                have hcz50_4 : wc.cell? ⟨gb199, 4, none⟩ = some (.string a0_4) := (blk_cell BK199.out 4).trans rfl
                                have hcz50_5 : wc.cell? ⟨gb199, 5, none⟩ = some (.int .i64 a0_5) := (blk_cell BK199.out 5).trans rfl
                                have hfz50_0 := blk_frozen BK199.out 0
                                have hfz50_1 := blk_frozen BK199.out 1
                                have hfz50_2 := blk_frozen BK199.out 2
                                have hfz50_3 := blk_frozen BK199.out 3
                                have hfz50_4 := blk_frozen BK199.out 4
                                have hfz50_5 := blk_frozen BK199.out 5
                                go_wp2
                                go_ret
                                exact ⟨by first | rfl | (simp [errW_none, errW_some] <;> rfl) | (simp [*, errW_none, errW_some] <;> rfl), by repeat (first | (with_reducible first | exact HB.out | apply below_alloc | apply pw_below_drewN | apply below_drew1 | refine below_set ?_ GE199.out) | exact HB.out)⟩
                              · rw [if_neg c49] at H
                                have c49b0 : decide (3 < a0_5) = false := decide_eq_false c49
                                clear c49
                                obtain rfl := Option.some.inj H
                                have hcz51_0 : wc.cell? ⟨gb199, 0, none⟩ = some (.string a0_0) := (blk_cell BK199.out 0).trans rfl
                                have hcz51_1 : wc.cell? ⟨gb199, 1, none⟩ = some (.string a0_1) := (blk_cell BK199.out 1).trans rfl
                                have hcz51_2 : wc.cell? ⟨gb199, 2, none⟩ = some (.string a0_2) := (blk_cell BK199.out 2).trans rfl
                                have hcz51_3 : wc.cell? ⟨gb199, 3, none⟩ = some (.string a0_3) := (blk_cell BK199.out 3).trans rfl
                                have hcz51_4 : wc.cell? ⟨gb199, 4, none⟩ = some (.string a0_4) := (blk_cell BK199.out 4).trans rfl
                                have hcz51_5 : wc.cell? ⟨gb199, 5, none⟩ = some (.int .i64 a0_5) := (blk_cell BK199.out 5).trans rfl
                                have hfz51_0 := blk_frozen BK199.out 0
                                have hfz51_1 := blk_frozen BK199.out 1
                                have hfz51_2 := blk_frozen BK199.out 2
                                have hfz51_3 := blk_frozen BK199.out 3
                                have hfz51_4 := blk_frozen BK199.out 4
                                have hfz51_5 := blk_frozen BK199.out 5
                                go_wp2
                                go_ret
                                exact ⟨by first | rfl | (simp [errW_none, errW_some] <;> rfl) | (simp [*, errW_none, errW_some] <;> rfl), by repeat (first | (with_reducible first | exact HB.out | apply below_alloc | apply pw_below_drewN | apply below_drew1 | refine below_set ?_ GE199.out) | exact HB.out)⟩

/-! ### cashierref18_Has: function 13 -/
def cashierref18_Has.f (k : Nat) (a0_0 : ByteArray) (a0_1 : ByteArray) (a0_2 : ByteArray) (a0_3 : ByteArray) (a0_4 : ByteArray) (a0_5 : Int) (a1 : ByteArray) : Option (Bool) := (cashierref03_Is.f k a1).bind fun t254 => (if t254 = true then (if (a1.size : Int) = (a0_0.size : Int) then ((cashierref03_Cmp.f k a0_0 a1).bind fun t255 => (if t255 ≤ 0 then ((cashierref03_Cmp.f k a1 a0_1).bind fun t256 => (some (decide (t256 ≤ 0)))) else (some false))) else (some false)) else (some false))
theorem cashierref18_Has.mono : ∀ a0 a1 a2 a3 a4 a5 a6 k, LeO (cashierref18_Has.f k a0 a1 a2 a3 a4 a5 a6) (cashierref18_Has.f (k + 1) a0 a1 a2 a3 a4 a5 a6) := by
  intro a0 a1 a2 a3 a4 a5 a6 k
  unfold cashierref18_Has.f
  repeat' first
      | (with_reducible exact cashierref03_Cmp.mono _ _ _)
      | (with_reducible exact cashierref03_Is.mono _ _)
      | (with_reducible exact LeO.refl _)
      | (with_reducible exact LeO.none _)
      | (with_reducible refine LeO.ite ?_ ?_)
      | (with_reducible refine LeO.bind ?_ (fun _ => ?_))
      | exact cashierref03_Cmp.mono _ _ _
      | exact cashierref03_Is.mono _ _
      | exact LeO.none _
      | refine LeO.ite ?_ ?_
      | refine LeO.bind ?_ (fun _ => ?_)
set_option maxHeartbeats 8000000 in
set_option maxRecDepth 100000 in
theorem cashierref18_Has.calls (k : Nat) (a0_0 : ByteArray) (a0_1 : ByteArray) (a0_2 : ByteArray) (a0_3 : ByteArray) (a0_4 : ByteArray) (a0_5 : Int) (a1 : ByteArray) (r : Bool) (w : World) (h : cashierref18_Has.f k a0_0 a0_1 a0_2 a0_3 a0_4 a0_5 a1 = some r) :
    Calls Tryz.prog 13 #[.agg #[.string a0_0, .string a0_1, .string a0_2, .string a0_3, .string a0_4, .int .i64 a0_5], .string a1] w fun e w' => e = .returned (.bool r) ∧ Below w.heap.size w w' := by
  have hu29 := Tryz.underlying29
  have HB := Aside0.mk (Below.refl w.heap.size w)
  have H : ((cashierref03_Is.f k a1).bind fun t254 => (if t254 = true then (if (a1.size : Int) = (a0_0.size : Int) then ((cashierref03_Cmp.f k a0_0 a1).bind fun t255 => (if t255 ≤ 0 then ((cashierref03_Cmp.f k a1 a0_1).bind fun t256 => (some (decide (t256 ≤ 0)))) else (some false))) else (some false)) else (some false))) = some r := h
  clear h
  replace H := Option.bind_eq_some_iff.mp H
  obtain ⟨t254, A30, H⟩ := H
  replace H : (if t254 = true then (if (a1.size : Int) = (a0_0.size : Int) then ((cashierref03_Cmp.f k a0_0 a1).bind fun t255 => (if t255 ≤ 0 then ((cashierref03_Cmp.f k a1 a0_1).bind fun t256 => (some (decide (t256 ≤ 0)))) else (some false))) else (some false)) else (some false)) = some r := H
  have A3 := Aside0.mk A30
  clear A30
  by_cases c4 : t254 = true
  · subst c4
    have H1 : (if (a1.size : Int) = (a0_0.size : Int) then ((cashierref03_Cmp.f k a0_0 a1).bind fun t255 => (if t255 ≤ 0 then ((cashierref03_Cmp.f k a1 a0_1).bind fun t256 => (some (decide (t256 ≤ 0)))) else (some false))) else (some false)) = some r := by rw [if_pos rfl] at H; exact H
    clear H
    have H := H1
    clear H1
    by_cases c5 : (a1.size : Int) = (a0_0.size : Int)
    · rw [if_pos c5] at H
      have c5b0 : ((a1.size : Int) == (a0_0.size : Int)) = true := beq_iff_eq.mpr c5
      have c5b1 : ((a1.size : Int) != (a0_0.size : Int)) = false := bne_eq_false_iff_eq.mpr c5
      have c5b2 : (a1.size == a0_0.size) = true := by first | simpa using c5 | (simp at c5 ⊢; omega)
      clear c5
      replace H := Option.bind_eq_some_iff.mp H
      obtain ⟨t255, A60, H⟩ := H
      replace H : (if t255 ≤ 0 then ((cashierref03_Cmp.f k a1 a0_1).bind fun t256 => (some (decide (t256 ≤ 0)))) else (some false)) = some r := H
      have A6 := Aside0.mk A60
      clear A60
      by_cases c7 : t255 ≤ 0
      · rw [if_pos c7] at H
        have c7b0 : decide (t255 ≤ 0) = true := decide_eq_true c7
        clear c7
        replace H := Option.bind_eq_some_iff.mp H
        obtain ⟨t256, A80, H⟩ := H
        replace H : (some (decide (t256 ≤ 0))) = some r := H
        have A8 := Aside0.mk A80
        clear A80
        obtain rfl := Option.some.inj H
        go_enter Tryz.func13, Tryz.ntmps13
        go_wp2_with (first | ((with_reducible refine gate_dst (N := 2) rfl ?_); (try (refine gate_guard (by rfl) ?_; dsimp only)); refine box_event ?hg (N := 2) ?hd (cs := #[.string a0_0, .string a0_1, .string a0_2, .string a0_3, .string a0_4, .int .i64 a0_5]) (t := 29) ?hr ?_; (case hd => rfl); (case hg => rfl); (case hr => first | (go_simp; done) | (go_simp; rfl)); intro gb253 hg w9 hbox hb; have n0_ := Aside0.mk (below_step (by repeat (first | (with_reducible first | exact HB.out | apply below_alloc | apply pw_below_drewN | apply below_drew1) | exact HB.out)) hb); have n1_ := Aside0.mk (hbox); have n2_ := Aside0.mk ((by rw [hg]; exact (below_size (by repeat (first | (with_reducible first | exact HB.out | apply below_alloc | apply pw_below_drewN | apply below_drew1) | exact HB.out))) : w.heap.size ≤ gb253)); have n3_ := Aside0.mk ((by rw [hg]; exact (below_size (by repeat (first | (with_reducible first | exact HB.out | apply below_alloc | apply pw_below_drewN | apply below_drew1) | exact HB.out))) : w.heap.size ≤ gb253)); clear HB; have HB := n0_; have BK253 := n1_; have GW253 := n2_; have GE253 := n3_; clear n0_ n1_ n2_ n3_; clear hb hbox hg) | ((with_reducible refine gate_callee (f := 31) rfl ?_); refine goesL_ (some 6) rfl rfl Tryz.func31 (by kernel_rfl) rfl #[.string a1] rfl (by (try simp only [List.map_toArray, List.map_cons, List.map_nil]); first | done | rfl | (simp only [List.length_drop, List.length_take]; rfl)) ?_; (with_reducible refine (cashierref03_Is.calls k a1 true _ A3.out).mono ?_); rintro e w' ⟨rfl, ⟨nd, rfl⟩⟩; refine ⟨_, rfl, ?_⟩; have hcz10_0 : w9.cell? ⟨gb253, 0, none⟩ = some (.string a0_0) := (blk_cell BK253.out 0).trans rfl; have hcz10_1 : w9.cell? ⟨gb253, 1, none⟩ = some (.string a0_1) := (blk_cell BK253.out 1).trans rfl; have hcz10_2 : w9.cell? ⟨gb253, 2, none⟩ = some (.string a0_2) := (blk_cell BK253.out 2).trans rfl; have hcz10_3 : w9.cell? ⟨gb253, 3, none⟩ = some (.string a0_3) := (blk_cell BK253.out 3).trans rfl; have hcz10_4 : w9.cell? ⟨gb253, 4, none⟩ = some (.string a0_4) := (blk_cell BK253.out 4).trans rfl; have hcz10_5 : w9.cell? ⟨gb253, 5, none⟩ = some (.int .i64 a0_5) := (blk_cell BK253.out 5).trans rfl; have hfz10_0 := blk_frozen BK253.out 0; have hfz10_1 := blk_frozen BK253.out 1; have hfz10_2 := blk_frozen BK253.out 2; have hfz10_3 := blk_frozen BK253.out 3; have hfz10_4 := blk_frozen BK253.out 4; have hfz10_5 := blk_frozen BK253.out 5) | (go_at_call 32; (with_reducible refine (cashierref03_Cmp.calls k a0_0 a1 t255 _ A6.out).mono ?_); rintro e w' ⟨rfl, ⟨nd, rfl⟩⟩) | (go_at_call 32; (with_reducible refine (cashierref03_Cmp.calls k a1 a0_1 t256 _ A8.out).mono ?_); rintro e w' ⟨rfl, ⟨nd, rfl⟩⟩))
        go_ret
        exact ⟨by first | rfl | (simp [errW_none, errW_some] <;> rfl) | (simp [*, errW_none, errW_some] <;> rfl), by repeat (first | (with_reducible first | exact HB.out | apply below_alloc | apply pw_below_drewN | apply below_drew1 | refine below_set ?_ GE253.out) | exact HB.out)⟩
      · rw [if_neg c7] at H
        have c7b0 : decide (t255 ≤ 0) = false := decide_eq_false c7
        clear c7
        obtain rfl := Option.some.inj H
        go_enter Tryz.func13, Tryz.ntmps13
        go_wp2_with (first | ((with_reducible refine gate_dst (N := 2) rfl ?_); (try (refine gate_guard (by rfl) ?_; dsimp only)); refine box_event ?hg (N := 2) ?hd (cs := #[.string a0_0, .string a0_1, .string a0_2, .string a0_3, .string a0_4, .int .i64 a0_5]) (t := 29) ?hr ?_; (case hd => rfl); (case hg => rfl); (case hr => first | (go_simp; done) | (go_simp; rfl)); intro gb253 hg w11 hbox hb; have n0_ := Aside0.mk (below_step (by repeat (first | (with_reducible first | exact HB.out | apply below_alloc | apply pw_below_drewN | apply below_drew1) | exact HB.out)) hb); have n1_ := Aside0.mk (hbox); have n2_ := Aside0.mk ((by rw [hg]; exact (below_size (by repeat (first | (with_reducible first | exact HB.out | apply below_alloc | apply pw_below_drewN | apply below_drew1) | exact HB.out))) : w.heap.size ≤ gb253)); have n3_ := Aside0.mk ((by rw [hg]; exact (below_size (by repeat (first | (with_reducible first | exact HB.out | apply below_alloc | apply pw_below_drewN | apply below_drew1) | exact HB.out))) : w.heap.size ≤ gb253)); clear HB; have HB := n0_; have BK253 := n1_; have GW253 := n2_; have GE253 := n3_; clear n0_ n1_ n2_ n3_; clear hb hbox hg) | ((with_reducible refine gate_callee (f := 31) rfl ?_); refine goesL_ (some 6) rfl rfl Tryz.func31 (by kernel_rfl) rfl #[.string a1] rfl (by (try simp only [List.map_toArray, List.map_cons, List.map_nil]); first | done | rfl | (simp only [List.length_drop, List.length_take]; rfl)) ?_; (with_reducible refine (cashierref03_Is.calls k a1 true _ A3.out).mono ?_); rintro e w' ⟨rfl, ⟨nd, rfl⟩⟩; refine ⟨_, rfl, ?_⟩; have hcz12_0 : w11.cell? ⟨gb253, 0, none⟩ = some (.string a0_0) := (blk_cell BK253.out 0).trans rfl; have hcz12_1 : w11.cell? ⟨gb253, 1, none⟩ = some (.string a0_1) := (blk_cell BK253.out 1).trans rfl; have hcz12_2 : w11.cell? ⟨gb253, 2, none⟩ = some (.string a0_2) := (blk_cell BK253.out 2).trans rfl; have hcz12_3 : w11.cell? ⟨gb253, 3, none⟩ = some (.string a0_3) := (blk_cell BK253.out 3).trans rfl; have hcz12_4 : w11.cell? ⟨gb253, 4, none⟩ = some (.string a0_4) := (blk_cell BK253.out 4).trans rfl; have hcz12_5 : w11.cell? ⟨gb253, 5, none⟩ = some (.int .i64 a0_5) := (blk_cell BK253.out 5).trans rfl; have hfz12_0 := blk_frozen BK253.out 0; have hfz12_1 := blk_frozen BK253.out 1; have hfz12_2 := blk_frozen BK253.out 2; have hfz12_3 := blk_frozen BK253.out 3; have hfz12_4 := blk_frozen BK253.out 4; have hfz12_5 := blk_frozen BK253.out 5) | (go_at_call 32; (with_reducible refine (cashierref03_Cmp.calls k a0_0 a1 t255 _ A6.out).mono ?_); rintro e w' ⟨rfl, ⟨nd, rfl⟩⟩))
        go_ret
        exact ⟨by first | rfl | (simp [errW_none, errW_some] <;> rfl) | (simp [*, errW_none, errW_some] <;> rfl), by repeat (first | (with_reducible first | exact HB.out | apply below_alloc | apply pw_below_drewN | apply below_drew1 | refine below_set ?_ GE253.out) | exact HB.out)⟩
    · rw [if_neg c5] at H
      have c5b0 : ((a1.size : Int) == (a0_0.size : Int)) = false := beq_eq_false_iff_ne.mpr c5
      have c5b1 : ((a1.size : Int) != (a0_0.size : Int)) = true := bne_iff_ne.mpr c5
      have c5b2 : (a1.size == a0_0.size) = false := by first | simpa using c5 | (simp at c5 ⊢; omega)
      obtain rfl := Option.some.inj H
      go_enter Tryz.func13, Tryz.ntmps13
      go_wp2_with (first | ((with_reducible refine gate_dst (N := 2) rfl ?_); (try (refine gate_guard (by rfl) ?_; dsimp only)); refine box_event ?hg (N := 2) ?hd (cs := #[.string a0_0, .string a0_1, .string a0_2, .string a0_3, .string a0_4, .int .i64 a0_5]) (t := 29) ?hr ?_; (case hd => rfl); (case hg => rfl); (case hr => first | (go_simp; done) | (go_simp; rfl)); intro gb253 hg w13 hbox hb; have n0_ := Aside0.mk (below_step (by repeat (first | (with_reducible first | exact HB.out | apply below_alloc | apply pw_below_drewN | apply below_drew1) | exact HB.out)) hb); have n1_ := Aside0.mk (hbox); have n2_ := Aside0.mk ((by rw [hg]; exact (below_size (by repeat (first | (with_reducible first | exact HB.out | apply below_alloc | apply pw_below_drewN | apply below_drew1) | exact HB.out))) : w.heap.size ≤ gb253)); have n3_ := Aside0.mk ((by rw [hg]; exact (below_size (by repeat (first | (with_reducible first | exact HB.out | apply below_alloc | apply pw_below_drewN | apply below_drew1) | exact HB.out))) : w.heap.size ≤ gb253)); clear HB; have HB := n0_; have BK253 := n1_; have GW253 := n2_; have GE253 := n3_; clear n0_ n1_ n2_ n3_; clear hb hbox hg) | ((with_reducible refine gate_callee (f := 31) rfl ?_); refine goesL_ (some 6) rfl rfl Tryz.func31 (by kernel_rfl) rfl #[.string a1] rfl (by (try simp only [List.map_toArray, List.map_cons, List.map_nil]); first | done | rfl | (simp only [List.length_drop, List.length_take]; rfl)) ?_; (with_reducible refine (cashierref03_Is.calls k a1 true _ A3.out).mono ?_); rintro e w' ⟨rfl, ⟨nd, rfl⟩⟩; refine ⟨_, rfl, ?_⟩; have hcz14_0 : w13.cell? ⟨gb253, 0, none⟩ = some (.string a0_0) := (blk_cell BK253.out 0).trans rfl; have hcz14_1 : w13.cell? ⟨gb253, 1, none⟩ = some (.string a0_1) := (blk_cell BK253.out 1).trans rfl; have hcz14_2 : w13.cell? ⟨gb253, 2, none⟩ = some (.string a0_2) := (blk_cell BK253.out 2).trans rfl; have hcz14_3 : w13.cell? ⟨gb253, 3, none⟩ = some (.string a0_3) := (blk_cell BK253.out 3).trans rfl; have hcz14_4 : w13.cell? ⟨gb253, 4, none⟩ = some (.string a0_4) := (blk_cell BK253.out 4).trans rfl; have hcz14_5 : w13.cell? ⟨gb253, 5, none⟩ = some (.int .i64 a0_5) := (blk_cell BK253.out 5).trans rfl; have hfz14_0 := blk_frozen BK253.out 0; have hfz14_1 := blk_frozen BK253.out 1; have hfz14_2 := blk_frozen BK253.out 2; have hfz14_3 := blk_frozen BK253.out 3; have hfz14_4 := blk_frozen BK253.out 4; have hfz14_5 := blk_frozen BK253.out 5))
      go_ret
      exact ⟨by first | rfl | (simp [errW_none, errW_some] <;> rfl) | (simp [*, errW_none, errW_some] <;> rfl), by repeat (first | (with_reducible first | exact HB.out | apply below_alloc | apply pw_below_drewN | apply below_drew1 | refine below_set ?_ GE253.out) | exact HB.out)⟩
  · replace c4 := Bool.eq_false_iff.mpr c4
    subst c4
    have H1 : (some false) = some r := by rw [if_neg (show ¬ (false = true) by decide)] at H; exact H
    clear H
    have H := H1
    clear H1
    obtain rfl := Option.some.inj H
    go_enter Tryz.func13, Tryz.ntmps13
    go_wp2_with (first | ((with_reducible refine gate_dst (N := 2) rfl ?_); (try (refine gate_guard (by rfl) ?_; dsimp only)); refine box_event ?hg (N := 2) ?hd (cs := #[.string a0_0, .string a0_1, .string a0_2, .string a0_3, .string a0_4, .int .i64 a0_5]) (t := 29) ?hr ?_; (case hd => rfl); (case hg => rfl); (case hr => first | (go_simp; done) | (go_simp; rfl)); intro gb253 hg w15 hbox hb; have n0_ := Aside0.mk (below_step (by repeat (first | (with_reducible first | exact HB.out | apply below_alloc | apply pw_below_drewN | apply below_drew1) | exact HB.out)) hb); have n1_ := Aside0.mk (hbox); have n2_ := Aside0.mk ((by rw [hg]; exact (below_size (by repeat (first | (with_reducible first | exact HB.out | apply below_alloc | apply pw_below_drewN | apply below_drew1) | exact HB.out))) : w.heap.size ≤ gb253)); have n3_ := Aside0.mk ((by rw [hg]; exact (below_size (by repeat (first | (with_reducible first | exact HB.out | apply below_alloc | apply pw_below_drewN | apply below_drew1) | exact HB.out))) : w.heap.size ≤ gb253)); clear HB; have HB := n0_; have BK253 := n1_; have GW253 := n2_; have GE253 := n3_; clear n0_ n1_ n2_ n3_; clear hb hbox hg) | ((with_reducible refine gate_callee (f := 31) rfl ?_); refine goesL_ (some 6) rfl rfl Tryz.func31 (by kernel_rfl) rfl #[.string a1] rfl (by (try simp only [List.map_toArray, List.map_cons, List.map_nil]); first | done | rfl | (simp only [List.length_drop, List.length_take]; rfl)) ?_; (with_reducible refine (cashierref03_Is.calls k a1 false _ A3.out).mono ?_); rintro e w' ⟨rfl, ⟨nd, rfl⟩⟩; refine ⟨_, rfl, ?_⟩))
    go_ret
    exact ⟨by first | rfl | (simp [errW_none, errW_some] <;> rfl) | (simp [*, errW_none, errW_some] <;> rfl), by repeat (first | (with_reducible first | exact HB.out | apply below_alloc | apply pw_below_drewN | apply below_drew1 | refine below_set ?_ GE253.out) | exact HB.out)⟩

end Go.Proofs.YtiggnmhoececfaaGreatDoor.PRef

namespace Go.Proofs.YtiggnmhoececfaaGreatDoor
set_option linter.unusedVariables false
set_option linter.unusedSimpArgs false
open Go.RowKit Go.Proofs.YtiggnmhoececfaaGreatDoorW.PrintWords Go.Proofs.YtiggnmhoececfaaGreatDoorW.PrintLast Go.Proofs.YtiggnmhoececfaaGreatDoorW.PrintMore
open PRef

def strip : Bytes → Bytes
  | [] => []
  | c :: r => if c = 48 then strip r else c :: r
theorem strip_len (l : Bytes) : (strip l).length ≤ l.length := by
  induction l with
  | nil => exact Nat.le_refl _
  | cons c r ih => unfold strip; split <;> simp <;> omega

def ord3 (a b : Bytes) : Int := if bl a b = true then -1 else if bl b a = true then 1 else 0
def fin3 (a b : Bytes) : Int := if a.length < b.length then -1 else if a.length = b.length then ord3 a b else 1

theorem fin_strip : ∀ a b : Bytes, a.length = b.length → (∀ c, c ∈ a → 48 ≤ c.toNat) → (∀ c, c ∈ b → 48 ≤ c.toNat) → fin3 (strip a) (strip b) = ord3 a b
  | [], [], _, _, _ => rfl
  | [], _ :: _, h, _, _ => by simp at h
  | _ :: _, [], h, _, _ => by simp at h
  | x :: r, y :: s, h, ha, hb => by
    have hl : r.length = s.length := by simpa using h
    have ih := fin_strip r s hl (fun c hc => ha c (by simp [hc])) (fun c hc => hb c (by simp [hc]))
    have hx := ha x (by simp)
    have hy := hb y (by simp)
    have h48 : (48 : UInt8).toNat = 48 := rfl
    unfold strip
    by_cases x48 : x = 48
    · by_cases y48 : y = 48
      · rw [if_pos x48, if_pos y48, ih]
        subst x48 y48
        unfold ord3
        have e1 : ∀ r s : Bytes, bl (48 :: r) (48 :: s) = bl r s := fun r s => by
          show (if (48 : UInt8) < 48 then true else if (48 : UInt8) < 48 then false else bl r s) = _
          rw [if_neg (by decide), if_neg (by decide)]
        rw [e1, e1]
      · rw [if_pos x48, if_neg y48]
        have := strip_len r
        unfold fin3
        rw [if_pos (by simp; omega)]
        subst x48
        have hlt : (48 : UInt8) < y := by
          rw [UInt8.lt_iff_toNat_lt]
          have : y.toNat ≠ 48 := fun e => y48 (by rw [← UInt8.toNat_inj]; exact e)
          omega
        unfold ord3
        rw [show bl (48 :: r) (y :: s) = true by unfold bl; rw [if_pos hlt]]
        rfl
    · by_cases y48 : y = 48
      · rw [if_neg x48, if_pos y48]
        have := strip_len s
        unfold fin3
        rw [if_neg (by simp; omega), if_neg (by simp; omega)]
        subst y48
        have hlt : (48 : UInt8) < x := by
          rw [UInt8.lt_iff_toNat_lt]
          have : x.toNat ≠ 48 := fun e => x48 (by rw [← UInt8.toNat_inj]; exact e)
          omega
        have hge : ¬ x < (48 : UInt8) := by rw [UInt8.lt_iff_toNat_lt] at hlt ⊢; omega
        unfold ord3
        rw [show bl (x :: r) (48 :: s) = false by unfold bl; rw [if_neg hge, if_pos hlt], show bl (48 :: s) (x :: r) = true by unfold bl; rw [if_pos hlt]]
        rfl
      · rw [if_neg x48, if_neg y48]
        unfold fin3
        rw [if_neg (by simp; omega), if_pos (by simp; omega)]

theorem ext1 (y : ByteArray) (h : 0 < y.size) : (y.extract 1 y.size).data.toList = y.data.toList.drop 1 ∧ (y.extract 1 y.size).size = y.size - 1 := by
  have h1 : (y.extract 1 y.size).data.toList = y.data.toList.drop 1 := by
    rw [ByteArray.data_extract, Array.toList_extract, List.extract_eq_take_drop, List.take_of_length_le (by simp)]
  refine ⟨h1, ?_⟩
  have := congrArg List.length h1
  rw [Array.length_toList, List.length_drop, Array.length_toList] at this
  exact this

theorem cmp_fin (k : Nat) (x y : ByteArray) : cashierref03_Cmp.j3 (k + 1 + 1) x y = some (fin3 x.data.toList y.data.toList) := by
  have lx : x.data.toList.length = x.size := by simp
  have ly : y.data.toList.length = y.size := by simp
  rw [cashierref03_Cmp.j3]
  unfold fin3 ord3
  rw [lx, ly, ByteArray.toList_eq, ByteArray.toList_eq, bl_eq]
  by_cases h1 : x.size < y.size
  · rw [if_pos (by omega), if_pos h1, cashierref03_Cmp.j4, if_pos rfl]
  · rw [if_neg (by omega), if_neg h1]
    by_cases h2 : x.size = y.size
    · rw [if_pos (by omega), if_pos h2, cashierref03_Cmp.j4, ByteArray.toList_eq, ByteArray.toList_eq, bl_eq]
      by_cases h3 : bl x.data.toList y.data.toList = true
      · rw [if_pos h3, if_pos h3]
      · rw [if_neg h3, if_neg h3, if_neg (by omega)]
        by_cases h4 : bl y.data.toList x.data.toList = true
        · rw [if_pos h4, if_pos h4]
        · rw [if_neg h4, if_neg h4]
    · rw [if_neg (by omega), if_neg h2, cashierref03_Cmp.j4, if_neg (by simp), if_pos (by omega)]

theorem cmp_l1 (x : ByteArray) : ∀ (k : Nat) (y : ByteArray), y.size + 3 < k → cashierref03_Cmp.l1 k x y = some (fin3 x.data.toList (strip y.data.toList)) := by
  intro k
  induction k with
  | zero => intro y h; omega
  | succ k ih =>
    intro y h
    have ly : y.data.toList.length = y.size := by simp
    obtain ⟨k, rfl⟩ : ∃ k', k = k' + 1 + 1 := ⟨k - 2, by omega⟩
    unfold cashierref03_Cmp.l1
    by_cases h0 : 0 < y.size
    · obtain ⟨e1, e2⟩ := ext1 y h0
      rw [if_pos (by omega), if_pos (by omega), show (0 : Int) = ((0 : Nat) : Int) by rfl, bt_nat y 0 h0]
      have hd : y.data.toList = y.data.toList[0]'(by omega) :: y.data.toList.drop 1 := by
        have := drop_at (l := y.data.toList) (i := 0) (by omega)
        simpa using this
      generalize y.data.toList[0]'(by omega) = c at hd
      have hc48 : ((c.toNat : Int) = 48) ↔ c = 48 := by
        rw [← UInt8.toNat_inj]
        show _ ↔ c.toNat = 48
        omega
      by_cases h48 : c = 48
      · rw [if_pos (hc48.2 h48), if_pos (by omega), ih (y.extract 1 y.size) (by omega), e1]
        conv => rhs; rw [hd]
        rw [show strip (c :: y.data.toList.drop 1) = strip (y.data.toList.drop 1) by rw [strip, if_pos h48]]
      · rw [if_neg (fun e => h48 (hc48.1 e)), cmp_fin]
        congr 2
        rw [hd, strip, if_neg h48]
    · rw [if_neg (by omega), cmp_fin]
      have : y.data.toList = [] := by
        apply List.eq_nil_of_length_eq_zero; omega
      rw [this]
      rfl

theorem cmp_l0 (y : ByteArray) : ∀ (k : Nat) (x : ByteArray), x.size + y.size + 6 < k → cashierref03_Cmp.l0 k x y = some (fin3 (strip x.data.toList) (strip y.data.toList)) := by
  intro k
  induction k with
  | zero => intro x h; omega
  | succ k ih =>
    intro x h
    have lx : x.data.toList.length = x.size := by simp
    obtain ⟨k, rfl⟩ : ∃ k', k = k' + 1 := ⟨k - 1, by omega⟩
    unfold cashierref03_Cmp.l0
    by_cases h0 : 0 < x.size
    · obtain ⟨e1, e2⟩ := ext1 x h0
      rw [if_pos (by omega), if_pos (by omega), show (0 : Int) = ((0 : Nat) : Int) by rfl, bt_nat x 0 h0]
      have hd : x.data.toList = x.data.toList[0]'(by omega) :: x.data.toList.drop 1 := by
        have := drop_at (l := x.data.toList) (i := 0) (by omega)
        simpa using this
      generalize x.data.toList[0]'(by omega) = c at hd
      have hc48 : ((c.toNat : Int) = 48) ↔ c = 48 := by
        rw [← UInt8.toNat_inj]
        show _ ↔ c.toNat = 48
        omega
      by_cases h48 : c = 48
      · rw [if_pos (hc48.2 h48), if_pos (by omega), ih (x.extract 1 x.size) (by omega), e1]
        conv => rhs; rw [hd]
        rw [show strip (c :: x.data.toList.drop 1) = strip (x.data.toList.drop 1) by rw [strip, if_pos h48]]
      · rw [if_neg (fun e => h48 (hc48.1 e)), cashierref03_Cmp.j1, cmp_l1 x k y (by omega)]
        congr 2
        rw [hd, strip, if_neg h48]
    · rw [if_neg (by omega), cashierref03_Cmp.j1, cmp_l1 x k y (by omega)]
      have : x.data.toList = [] := by
        apply List.eq_nil_of_length_eq_zero; omega
      rw [this]
      rfl

/-- The document's Cmp, of digits in rows of one length. -/
theorem ref_cmp3 (x y : ByteArray) (hx : isNum x.data.toList = true) (hy : isNum y.data.toList = true) (hl : x.size = y.size) (k : Nat) (hk : x.size + y.size + 6 < k) : cashierref03_Cmp.f k x y = some (ord3 x.data.toList y.data.toList) := by
  have dig : ∀ l, isNum l = true → ∀ c, c ∈ l → 48 ≤ c.toNat := fun l hl c hc => by
    simp only [isNum, isDig, Bool.and_eq_true, List.all_eq_true] at hl
    have := (hl.1 c hc)
    simp only [Bool.and_eq_true, decide_eq_true_eq, UInt8.le_iff_toNat_le] at this
    exact this.1
  unfold cashierref03_Cmp.f
  rw [cmp_l0 y k x hk, fin_strip _ _ (by simpa using hl) (dig _ hx) (dig _ hy)]

end Go.Proofs.YtiggnmhoececfaaGreatDoor

namespace Go.Proofs.YtiggnmhoececfaaGreatDoor
set_option linter.unusedVariables false
set_option linter.unusedSimpArgs false
open Go.RowKit Go.Proofs.YtiggnmhoececfaaGreatDoorW.PrintWords Go.Proofs.YtiggnmhoececfaaGreatDoorW.PrintLast Go.Proofs.YtiggnmhoececfaaGreatDoorW.PrintMore
open PRef

theorem ord3_le (a b : Bytes) : decide (ord3 a b ≤ 0) = !(bl b a) := by
  unfold ord3
  cases h1 : bl a b with
  | true => rw [bl_asymm a b h1]; rfl
  | false => cases h2 : bl b a <;> rfl

theorem ord3_lt (a b : Bytes) : decide (ord3 a b < 0) = bl a b := by
  unfold ord3
  cases h1 : bl a b with
  | true => rfl
  | false => cases h2 : bl b a <;> rfl

theorem not_less (a b : Bytes) : (!(bl b a)) = (bl a b || a == b) := by
  cases h1 : bl a b with
  | true => rw [bl_asymm a b h1]; rfl
  | false =>
    cases h2 : bl b a with
    | true =>
      have : (a == b) = false := by
        rw [beq_eq_false_iff_ne]; rintro rfl; rw [h1] at h2; cases h2
      rw [this]; rfl
    | false => rw [bl_total a b h1 h2]; simp

def tailV (wi : Bool) (m : Int) : Int := if wi = true then (if m < 1 then 11 else if 3 < m then 11 else 0) else 7

theorem ref_j3 (k : Nat) (b : Bool) (f t n lo hi : ByteArray) (m : Int) : cashierref18_Check.j3 (k + 1) b f t n lo hi m = some (tailV (!b) m) := by
  rw [cashierref18_Check.j3]
  unfold tailV
  cases b
  · rw [if_neg (by simp)]
    show _ = some (if m < 1 then (11 : Int) else if 3 < m then 11 else 0)
    by_cases h1 : m < 1
    · rw [if_pos h1, if_pos h1]
    · rw [if_neg h1, if_neg h1]
      by_cases h3 : 3 < m
      · rw [if_pos (by omega), if_pos h3]
      · rw [if_neg (by omega), if_neg h3]
  · rw [if_pos rfl, if_neg (by simp)]

abbrev okByte (c : UInt8) : Bool := decide (33 ≤ c.toNat) && decide (c.toNat ≤ 126)

theorem ref_tail (f t n lo hi : ByteArray) (m : Int) (hlo : lo.size ≤ 1000) (hhi : hi.size ≤ 1000) (k : Nat) (hk : 5001 ≤ k) (hk2 : k ≤ 900000) (i : Int) (hi0 : ¬ i < (n.size : Int)) :
    cashierref18_Check.l0 (k + 1) i f t n lo hi m = some (tailV (within lo.data.toList lo.data.toList hi.data.toList) m) := by
  rw [cashierref18_Check.l0, if_neg hi0, ref_parse lo hlo k (by omega) hk2, ref_parse hi hhi k (by omega) hk2]
  simp only [Option.bind_some]
  unfold within
  obtain ⟨k, rfl⟩ : ∃ k', k = k' + 1 := ⟨k - 1, by omega⟩
  cases ha : verOf lo.data.toList with
  | none => rw [if_neg (by rw [ref_no _ ha]; simp), ref_j3]; rfl
  | some a =>
    rw [if_pos (by rw [ref_yes _ a ha])]
    cases hb : verOf hi.data.toList with
    | none => rw [if_neg (by rw [ref_no _ hb]; simp), ref_j3]; rfl
    | some b =>
      rw [if_pos (by rw [ref_yes _ b hb]), ref_yes _ a ha, ref_yes _ b hb]
      simp only [nums3]
      rw [ref_cmp _ _ _ _ _ _ (k + 1) (by omega)]
      simp only [Option.bind_some]
      rw [ref_j3]
      congr 2
      have h0 : lexc (verList a) (verList a) = 0 := (lexc_zero _ _ rfl).2 rfl
      show (!decide (lexc (verList a) (verList b) > 0)) = (decide (0 ≤ lexc (verList a) (verList a)) && decide (lexc (verList a) (verList b) ≤ 0))
      rw [h0]
      generalize lexc (verList a) (verList b) = q
      by_cases hq : q ≤ 0
      · rw [decide_eq_true hq, decide_eq_false (by omega)]; rfl
      · rw [decide_eq_false hq, decide_eq_true (by omega)]; rfl

theorem ref_acs (f t n lo hi : ByteArray) (m : Int) (hn : n.size ≤ 1000) (hlo : lo.size ≤ 1000) (hhi : hi.size ≤ 1000) : ∀ k i : Nat, i ≤ n.size → n.size - i + 5002 < k → k ≤ 900000 →
    cashierref18_Check.l0 k i f t n lo hi m = some (if (n.data.toList.drop i).all okByte = true then tailV (within lo.data.toList lo.data.toList hi.data.toList) m else 2) := by
  intro k
  induction k with
  | zero => intro i h1 h2; omega
  | succ k ih =>
    intro i h1 h2 h3
    have hsz : n.data.toList.length = n.size := by simp
    by_cases h : i < n.size
    · rw [cashierref18_Check.l0, if_pos (by omega), if_pos (by omega), bt_nat n i h, drop_at (by omega)]
      generalize n.data.toList[i]'(by omega) = c
      rw [List.all_cons]
      by_cases c1 : 33 ≤ c.toNat
      · by_cases c2 : c.toNat ≤ 126
        · rw [if_neg (by omega), if_neg (by omega), wrap64_of (by omega) (by omega), show ((i : Int) + 1) = ((i + 1 : Nat) : Int) by omega, ih (i + 1) (by omega) (by omega) (by omega)]
          rw [show okByte c = true by simp [c1, c2], Bool.true_and]
        · rw [if_neg (by omega), if_pos (by omega), show okByte c = false by simp [c2], Bool.false_and, if_neg (by simp)]
      · rw [if_pos (by omega), show okByte c = false by simp [c1], Bool.false_and, if_neg (by simp)]
    · rw [ref_tail f t n lo hi m hlo hhi k (by omega) (by omega) i (by omega), List.drop_eq_nil_of_le (by omega)]
      rfl

theorem ref_j0 (f t n lo hi : ByteArray) (m : Int) : ∀ k, cashierref18_Check.j0 (k + 1) true f t n lo hi m = some 4 := fun k => by
  rw [cashierref18_Check.j0, if_pos rfl]

theorem ref_check18 (f t n lo hi : ByteArray) (m : Int) (hf : f.size ≤ 1000) (ht : t.size ≤ 1000) (hn : n.size ≤ 1000) (hlo : lo.size ≤ 1000) (hhi : hi.size ≤ 1000) :
    cashierref18_Check.f 8000 f t n lo hi m = some (checkV f t n lo hi m) := by
  unfold cashierref18_Check.f checkV cardOk
  rw [ref_is_f f (by omega) 8000 (by omega), ref_is_f t (by omega) 8000 (by omega)]
  simp only [Option.bind_some]
  cases h1 : isNum f.data.toList with
  | false => rw [if_neg (by simp), ref_j0]; rfl
  | true =>
    rw [if_pos rfl]
    cases h2 : isNum t.data.toList with
    | false =>
      rw [if_neg (by simp), ref_j0]
      unfold chk
      simp
    | true =>
      rw [if_pos rfl]
      by_cases h13 : f.size < 13
      · rw [if_pos (by omega), ref_j0]
        unfold chk
        rw [decide_eq_false (by omega : ¬ 13 ≤ f.size)]
        rfl
      · rw [if_neg (by omega)]
        by_cases h19 : 19 < f.size
        · rw [if_pos (by omega), ref_j0]
          unfold chk
          rw [decide_eq_false (by omega : ¬ f.size ≤ 19)]
          simp
        · rw [if_neg (by omega)]
          by_cases hft : f.size = t.size
          · rw [show ((t.size : Int) != (f.size : Int)) = false by simp [hft]]
            rw [cashierref18_Check.j0, if_neg (by simp), ref_cmp3 t f h2 h1 (by omega) _ (by omega)]
            simp only [Option.bind_some]
            unfold chk
            rw [decide_eq_true (by omega : 13 ≤ f.size), decide_eq_true (by omega : f.size ≤ 19), decide_eq_true (by omega : 13 ≤ t.size), decide_eq_true (by omega : t.size ≤ 19), decide_eq_true hft]
            rw [ByteArray.toList_eq, ByteArray.toList_eq, bl_eq, ← ord3_lt]
            simp only [Bool.and_self, if_true]
            by_cases hl : ord3 t.data.toList f.data.toList < 0
            · rw [if_pos hl, decide_eq_true hl]
              rfl
            · rw [if_neg hl, decide_eq_false hl]
              show _ = some (if namedOk n = true then tailV (within lo.data.toList lo.data.toList hi.data.toList) m else 2)
              unfold namedOk
              have hsz : n.data.toList.length = n.size := by simp
              by_cases n1 : n.size < 1
              · rw [if_pos (by omega), cashierref18_Check.j1, if_pos rfl]
                have : n.data.toList = [] := by apply List.eq_nil_of_length_eq_zero; omega
                rw [this]
                rfl
              · have hne : n.data.toList.isEmpty = false := by
                  cases hl : n.data.toList with
                  | nil => rw [hl] at hsz; simp at hsz; omega
                  | cons _ _ => rfl
                rw [if_neg (by omega), cashierref18_Check.j1, hne]
                by_cases n32 : n.size ≤ 32
                · rw [decide_eq_false (by omega : ¬ ((n.size : Int) > 32)), if_neg (by simp), decide_eq_true n32]
                  have := ref_acs f t n lo hi m hn hlo hhi 7998 0 (by omega) (by omega) (by omega)
                  rw [show ((0 : Nat) : Int) = 0 by rfl, List.drop_zero] at this
                  rw [this]
                  simp only [Bool.not_false, Bool.and_true, Bool.true_and]
                · rw [decide_eq_true (by omega : ((n.size : Int) > 32)), if_pos rfl, decide_eq_false n32]
                  simp
          · rw [show ((t.size : Int) != (f.size : Int)) = true by simp; omega, ref_j0]
            unfold chk
            rw [decide_eq_false hft]
            simp

end Go.Proofs.YtiggnmhoececfaaGreatDoor

namespace Go.Proofs.YtiggnmhoececfaaGreatDoor
set_option linter.unusedVariables false
set_option linter.unusedSimpArgs false
open Go.RowKit Go.Proofs.YtiggnmhoececfaaGreatDoorW.PrintWords Go.Proofs.YtiggnmhoececfaaGreatDoorW.PrintMore

end Go.Proofs.YtiggnmhoececfaaGreatDoor

namespace Go.Proofs.YtiggnmhoececfaaGreatDoor
set_option linter.unusedVariables false
set_option linter.unusedSimpArgs false
open Go.RowKit Go.Proofs.YtiggnmhoececfaaGreatDoorW.PrintWords Go.Proofs.YtiggnmhoececfaaGreatDoorW.PrintMore

theorem compare_bl : ∀ a b : Bytes, Lib.compareBytes a b = ord3 a b
  | [], [] => rfl
  | [], _ :: _ => rfl
  | _ :: _, [] => rfl
  | x :: r, y :: s => by
    have ih := compare_bl r s
    unfold Lib.compareBytes
    unfold ord3 at ih ⊢
    show (if x < y then -1 else if y < x then 1 else Lib.compareBytes r s) = (if (if x < y then true else if y < x then false else bl r s) = true then -1 else if (if y < x then true else if x < y then false else bl s r) = true then 1 else 0)
    by_cases h : x < y
    · rw [if_pos h, if_pos h]; rfl
    · rw [if_neg h, if_neg h]
      by_cases h' : y < x
      · rw [if_pos h', if_pos h', if_pos h']; rfl
      · rw [if_neg h', if_neg h', if_neg h', if_neg h, ih]

theorem chk_zero (p q s l nm wi : Bool) (m : Int) (h : chk p q s l nm wi m = 0) : p = true ∧ q = true ∧ s = true := by
  unfold chk at h
  cases p
  · simp at h
  · cases q
    · simp at h
    · cases s
      · simp at h
      · exact ⟨rfl, rfl, rfl⟩

end Go.Proofs.YtiggnmhoececfaaGreatDoor

namespace Go.Proofs.YtiggnmhoececfaaGreatDoor
set_option linter.unusedVariables false
set_option linter.unusedSimpArgs false
open Go.RowKit

/-- What place$1 answers of a range and a card. -/
def placeV (f t c : ByteArray) : Int := if rcmpV t c < 0 then -1 else if 0 < rcmpV f c then 1 else 0

/-- What a second range is told by a table of a first one. -/
def thereV (f t f' t' : ByteArray) : Bool := decide (placeV f t f' = 0) || (decide (placeV f t f' = 1) && decide (rcmpV f t' ≤ 0))

theorem rcmp_lt (a b : ByteArray) (h : a.size = b.size) : decide (rcmpV a b < 0) = bl a.data.toList b.data.toList := by
  unfold rcmpV
  rw [if_pos h, compare_bl, ord3_lt]
theorem rcmp_le (a b : ByteArray) (h : a.size = b.size) : decide (rcmpV a b ≤ 0) = !(bl b.data.toList a.data.toList) := by
  unfold rcmpV
  rw [if_pos h, compare_bl, ord3_le]

/-- not greater -/
def le (a b : Bytes) : Bool := !(bl b a)

theorem bl_trans : ∀ a b c : Bytes, bl a b = true → bl b c = true → bl a c = true
  | _, _, [], _, h => by
    exfalso
    rename_i b _
    cases b <;> simp [bl] at h
  | [], _, _ :: _, _, _ => rfl
  | _ :: _, [], _ :: _, h, _ => by simp [bl] at h
  | x :: a, y :: b, z :: c, h1, h2 => by
    have ih := bl_trans a b c
    unfold bl at h1 h2 ⊢
    by_cases xy : x < y
    · by_cases yz : y < z
      · rw [if_pos (by rw [UInt8.lt_iff_toNat_lt] at xy yz ⊢; omega)]
      · rw [if_neg yz] at h2
        by_cases zy : z < y
        · rw [if_pos zy] at h2; cases h2
        · rw [if_pos (by rw [UInt8.lt_iff_toNat_lt] at xy yz zy ⊢; omega)]
    · rw [if_neg xy] at h1
      by_cases yx : y < x
      · rw [if_pos yx] at h1; cases h1
      · rw [if_neg yx] at h1
        by_cases yz : y < z
        · rw [if_pos (by rw [UInt8.lt_iff_toNat_lt] at xy yx yz ⊢; omega)]
        · rw [if_neg yz] at h2
          by_cases zy : z < y
          · rw [if_pos zy] at h2; cases h2
          · rw [if_neg zy] at h2
            rw [if_neg (by rw [UInt8.lt_iff_toNat_lt] at xy yx yz zy ⊢; omega), if_neg (by rw [UInt8.lt_iff_toNat_lt] at xy yx yz zy ⊢; omega)]
            exact ih h1 h2

theorem rcmp_far_lt (a b : ByteArray) (h : a.size < b.size) : rcmpV a b = -1 := by
  unfold rcmpV cmpZ
  rw [if_neg (by omega), if_pos (by omega)]
theorem rcmp_far_gt (a b : ByteArray) (h : b.size < a.size) : rcmpV a b = 1 := by
  unfold rcmpV cmpZ
  rw [if_neg (by omega), if_neg (by omega), if_pos (by omega)]

end Go.Proofs.YtiggnmhoececfaaGreatDoor

namespace Go.Proofs.YtiggnmhoececfaaGreatDoor
set_option linter.unusedVariables false
set_option linter.unusedSimpArgs false
open Go.RowKit Go.Proofs.YtiggnmhoececfaaGreatDoorW.PrintWords

set_option maxHeartbeats 800000 in
theorem place1_any (f t n lo hi c : ByteArray) (m : Int) (w : World) :
    Calls Tryz.prog 56 #[rangeV f t n lo hi m, .string c] w fun e w' => e = .returned (.int .i64 (placeV f t c)) ∧ Below w.heap.size w w' := by
  have HC := Lib.hid (CellsAt.new w (rangeC f t n lo hi m) 23)
  have c0 := HC.out.get (j := 0) rfl
  have c1 := HC.out.get (j := 1) rfl
  have HB := Lib.hid (below_alloc (Below.refl w.heap.size w) (.cells (rangeC f t n lo hi m).toArray 23))
  have P1 := Lib.hid (fun W => rcmp_any t c W)
  have P2 := Lib.hid (fun W => rcmp_any f c W)
  unfold placeV
  by_cases a : rcmpV t c < 0
  · rw [if_pos a]
    have k1 := decide_eq_true a
    clear a
    go_enter Tryz.func56, Tryz.ntmps56
    go_wp2_with (go_at_call 11; first | (with_reducible refine (P1.out _).mono ?_; rintro e w' ⟨rfl, rfl⟩) | (with_reducible refine (P2.out _).mono ?_; rintro e w' ⟨rfl, rfl⟩))
    go_ret
    exact ⟨rfl, HB.out⟩
  · rw [if_neg a]
    have k1 := decide_eq_false a
    clear a
    by_cases b : 0 < rcmpV f c
    · rw [if_pos b]
      have k2 := decide_eq_true b
      clear b
      go_enter Tryz.func56, Tryz.ntmps56
      go_wp2_with (go_at_call 11; first | (with_reducible refine (P1.out _).mono ?_; rintro e w' ⟨rfl, rfl⟩) | (with_reducible refine (P2.out _).mono ?_; rintro e w' ⟨rfl, rfl⟩))
      go_ret
      exact ⟨rfl, HB.out⟩
    · rw [if_neg b]
      have k2 := decide_eq_false b
      clear b
      go_enter Tryz.func56, Tryz.ntmps56
      go_wp2_with (go_at_call 11; first | (with_reducible refine (P1.out _).mono ?_; rintro e w' ⟨rfl, rfl⟩) | (with_reducible refine (P2.out _).mono ?_; rintro e w' ⟨rfl, rfl⟩))
      go_ret
      exact ⟨rfl, HB.out⟩

end Go.Proofs.YtiggnmhoececfaaGreatDoor

namespace Go.Proofs.YtiggnmhoececfaaGreatDoor
set_option linter.unusedVariables false
set_option linter.unusedSimpArgs false
open Go.RowKit Go.Proofs.YtiggnmhoececfaaGreatDoorW.PrintWords

structure Rng where
  f : ByteArray
  t : ByteArray
  n : ByteArray
  lo : ByteArray
  hi : ByteArray
  m : Int

abbrev Rng.v (r : Rng) : Value := rangeV r.f r.t r.n r.lo r.hi r.m

/-- The cells of block b hold these ranges. -/
structure RngAt (W : World) (b j : Nat) (r : Rng) : Prop where
  c0 : W.cell? ⟨b, j * 6, none⟩ = some (.string r.f)
  c1 : W.cell? ⟨b, j * 6 + 1, none⟩ = some (.string r.t)
  c2 : W.cell? ⟨b, j * 6 + 2, none⟩ = some (.string r.n)
  c3 : W.cell? ⟨b, j * 6 + 3, none⟩ = some (.string r.lo)
  c4 : W.cell? ⟨b, j * 6 + 4, none⟩ = some (.string r.hi)
  c5 : W.cell? ⟨b, j * 6 + 5, none⟩ = some (.int .i64 r.m)

def RngsAt (W : World) (b : Nat) (l : List Rng) : Prop := ∀ j (h : j < l.length), RngAt W b j l[j]

theorem RngAt.below {w w1 : World} {b j : Nat} {r : Rng} (h : RngAt w b j r) (hb : Below w.heap.size w w1) : RngAt w1 b j r :=
  ⟨cellBelow hb h.c0, cellBelow hb h.c1, cellBelow hb h.c2, cellBelow hb h.c3, cellBelow hb h.c4, cellBelow hb h.c5⟩
theorem RngsAt.below {w w1 : World} {b : Nat} {l : List Rng} (h : RngsAt w b l) (hb : Below w.heap.size w w1) : RngsAt w1 b l := fun j hj => (h j hj).below hb

def bsGo (l : List Rng) (c : ByteArray) (i j : Nat) : Nat :=
  if h : i < j then
    if placeV (l.getD ((i + j) / 2) ⟨c, c, c, c, c, 0⟩).f (l.getD ((i + j) / 2) ⟨c, c, c, c, c, 0⟩).t c < 0 then bsGo l c ((i + j) / 2 + 1) j else bsGo l c i ((i + j) / 2)
  else i
termination_by j - i
decreasing_by all_goals omega

def bsHit (l : List Rng) (c : ByteArray) (i : Nat) : Bool := if h : i < l.length then decide (placeV l[i].f l[i].t c = 0) else false

set_option maxHeartbeats 2000000 in
set_option maxRecDepth 100000 in
theorem bsearch_any (l : List Rng) (c : ByteArray) (b cap : Nat) (w : World) (hl : l.length ≤ 1000) (hc : RngsAt w b l) :
    Calls Tryz.prog 55 #[.slice (some ⟨b, 0, none⟩) l.length cap, .string c, .func (.func 56) #[] #[]] w fun e w' =>
      e = .returned (.tuple #[.int .i64 (bsGo l c 0 l.length : Nat), .bool (bsHit l c (bsGo l c 0 l.length))]) ∧ Below w.heap.size w w' := by
  go_enter Tryz.func55, Tryz.ntmps55
  go_wp2
  go_loopw [9, 10] (fun vi vj wr => ∃ i j : Nat, vi = .int .i64 i ∧ vj = .int .i64 j ∧ i ≤ j ∧ j ≤ l.length ∧ bsGo l c i j = bsGo l c 0 l.length ∧ Below w.heap.size w wr) (fun vi vj _ => (intOf vj).toNat - (intOf vi).toNat)
  case atStart => exact ⟨0, l.length, rfl, rfl, by omega, by omega, rfl, Below.refl _ _⟩
  case round =>
    obtain ⟨i, j, rfl, rfl, hij, hj, hgo, hb⟩ := hrel
    by_cases h : i < j
    · have hgo2 := hgo
      rw [bsGo, dif_pos h] at hgo2
      have hh : (i + j) / 2 < l.length := by omega
      have cc := (hc.below hb) _ hh
      obtain ⟨k0, k1, k2, k3, k4, k5⟩ := cc
      have hd : l.getD ((i + j) / 2) ⟨c, c, c, c, c, 0⟩ = l[(i + j) / 2] := by simp [List.getD, hh]
      rw [hd] at hgo2
      have hp := fun W => place1_any l[(i + j) / 2].f l[(i + j) / 2].t l[(i + j) / 2].n l[(i + j) / 2].lo l[(i + j) / 2].hi c l[(i + j) / 2].m W
      have HB := Lib.hid hb
      have HCC := Lib.hid hc
      clear hgo hd hb hc
      have hm1 : (i + j) / 2 < j := by omega
      have hm2 : i ≤ (i + j) / 2 := by omega
      by_cases hlt : placeV l[(i + j) / 2].f l[(i + j) / 2].t c < 0
      · rw [if_pos hlt] at hgo2
        have k9 := decide_eq_true hlt
        have HGO := Lib.hid hgo2
        clear hgo2 hlt
        have HP := Lib.hid hp
        clear hp
        go_wp2_with (go_at_call 56; go_must (refine (HP.out _).mono ?_); rintro e w1 ⟨rfl, hb1⟩)
        go_roundw
        case rel => exact ⟨(i + j) / 2 + 1, j, by simp, rfl, by omega, hj, HGO.out, below_step HB.out hb1⟩
        case measure => simp [intOf]; omega
      · rw [if_neg hlt] at hgo2
        have k9 := decide_eq_false hlt
        have HGO := Lib.hid hgo2
        clear hgo2 hlt
        have HP := Lib.hid hp
        clear hp
        go_wp2_with (go_at_call 56; go_must (refine (HP.out _).mono ?_); rintro e w1 ⟨rfl, hb1⟩)
        go_roundw
        case rel => exact ⟨i, (i + j) / 2, rfl, by simp, by omega, by omega, HGO.out, below_step HB.out hb1⟩
        case measure => simp [intOf]; omega
    · obtain rfl : i = j := by omega
      have hfin : bsGo l c 0 l.length = i := by rw [← hgo, bsGo, dif_neg h]
      have HFIN := Lib.hid hfin
      clear hgo hfin h
      have HB := Lib.hid hb
      by_cases hi : i < l.length
      · have k8 : decide ((i : Int) < (l.length : Int)) = true := decide_eq_true (by omega)
        have cc := (hc.below hb) _ hi
        obtain ⟨k0, k1, k2, k3, k4, k5⟩ := cc
        have HP := Lib.hid (fun W => place1_any l[i].f l[i].t l[i].n l[i].lo l[i].hi c l[i].m W)
        clear hb hc
        go_wp2_with (go_at_call 56; go_must (refine (HP.out _).mono ?_); rintro e w1 ⟨rfl, hb1⟩)
        go_ret2
        exact ⟨by rw [HFIN.out]; unfold bsHit; rw [dif_pos hi]; first | rfl | simp, below_step HB.out hb1⟩
      · have k8 : decide ((i : Int) < (l.length : Int)) = false := decide_eq_false (by omega)
        clear hb hc
        go_wp2
        go_ret2
        exact ⟨by rw [HFIN.out]; unfold bsHit; rw [dif_neg hi]; rfl, HB.out⟩

end Go.Proofs.YtiggnmhoececfaaGreatDoor

namespace Go.Proofs.YtiggnmhoececfaaGreatDoor
set_option linter.unusedVariables false
set_option linter.unusedSimpArgs false
open Go.RowKit Go.Proofs.YtiggnmhoececfaaGreatDoorW.PrintWords

def Rng.cells (r : Rng) : List Value := rangeC r.f r.t r.n r.lo r.hi r.m
def rcells (l : List Rng) : List Value := l.flatMap Rng.cells
theorem Rng.cells_len (r : Rng) : r.cells.length = 6 := rfl
theorem rcells_cons (r : Rng) (l : List Rng) : rcells (r :: l) = r.cells ++ rcells l := rfl
theorem rcells_app (a b : List Rng) : rcells (a ++ b) = rcells a ++ rcells b := by simp [rcells]
theorem rcells_one (r : Rng) : rcells [r] = r.cells := by simp [rcells]
theorem rcells_len : ∀ l : List Rng, (rcells l).length = l.length * 6
  | [] => rfl
  | r :: l => by rw [rcells_cons, List.length_append, rcells_len l, Rng.cells_len, List.length_cons]; omega
theorem rcells_take : ∀ (l : List Rng) (i : Nat), (rcells l).take (i * 6) = rcells (l.take i)
  | [], i => by simp [rcells]
  | r :: l, 0 => by simp [rcells]
  | r :: l, i + 1 => by
    rw [List.take_succ_cons, rcells_cons, rcells_cons, List.take_append, Rng.cells_len, List.take_of_length_le (by rw [Rng.cells_len]; omega), show (i + 1) * 6 - 6 = i * 6 by omega, rcells_take l i]
theorem rcells_drop : ∀ (l : List Rng) (i : Nat), (rcells l).drop (i * 6) = rcells (l.drop i)
  | [], i => by simp [rcells]
  | r :: l, 0 => by simp [rcells]
  | r :: l, i + 1 => by
    rw [List.drop_succ_cons, rcells_cons, List.drop_append, Rng.cells_len, List.drop_of_length_le (by rw [Rng.cells_len]; omega), show (i + 1) * 6 - 6 = i * 6 by omega, rcells_drop l i, List.nil_append]
theorem rcells_at : ∀ (l : List Rng) (j k : Nat) (h : j < l.length), k < 6 → (rcells l)[j * 6 + k]? = l[j].cells[k]?
  | r :: l, 0, k, _, hk => by rw [rcells_cons, List.getElem?_append_left (by rw [Rng.cells_len]; omega)]; simp
  | r :: l, j + 1, k, h, hk => by
    rw [rcells_cons, List.getElem?_append_right (by rw [Rng.cells_len]; omega), Rng.cells_len, show (j + 1) * 6 + k - 6 = j * 6 + k by omega, rcells_at l j k (by simpa using h) hk]
    simp
theorem rcells_oneCell (l : List Rng) : ∀ u ∈ rcells l, u.oneCell' = true := by
  intro u hu
  unfold rcells at hu
  obtain ⟨r, _, hr⟩ := List.mem_flatMap.1 hu
  unfold Rng.cells at hr
  simp only [List.mem_cons, List.not_mem_nil, or_false] at hr
  rcases hr with rfl | rfl | rfl | rfl | rfl | rfl <;> rfl

/-- A slice of ranges that may be read. -/
def Tab (w : World) (v : Value) (l : List Rng) : Prop :=
  (v = .slice none 0 0 ∧ l = []) ∨ ∃ g cap, v = .slice (some ⟨g, 0, none⟩) l.length cap ∧ l.length ≤ cap ∧ cap ≤ maxLen ∧ g < w.heap.size ∧ ∀ j u, (rcells l)[j]? = some u → w.cell? ⟨g, j, none⟩ = some u

theorem Tab.below {w w1 : World} {v : Value} {l : List Rng} (h : Tab w v l) (hb : Below w.heap.size w w1) : Tab w1 v l := by
  rcases h with h | ⟨g, cap, rfl, h1, h2, h3, h4⟩
  · exact .inl h
  · exact .inr ⟨g, cap, rfl, h1, h2, Nat.lt_of_lt_of_le h3 hb.size, fun j u hj => cellBelow hb (h4 j u hj)⟩

theorem Tab.of_owns {w : World} {base : Nat} {v : Value} {l : List Rng} (h : w.ownsRow base 23 6 v l.length (rcells l)) : Tab w v l := by
  have hlt := h.lt
  have hcl := fun g hg => h.cells (g := g) hg
  obtain ⟨_, ⟨rfl, h0⟩ | ⟨g, cap, cur, rfl, hb, hh, hc, hm, hs, hx⟩⟩ := h
  · exact .inl ⟨rfl, List.length_eq_zero_iff.1 h0⟩
  · exact .inr ⟨g, cap, rfl, hc, hm, (hlt g rfl).2, fun j u hj => by have := hcl g rfl j u hj; rwa [Lib.add_plain, Nat.zero_add] at this⟩

theorem Tab.rngs {w : World} {b : Nat} {l : List Rng} (h : ∀ j u, (rcells l)[j]? = some u → w.cell? ⟨b, j, none⟩ = some u) : RngsAt w b l := fun j hj =>
  ⟨h (j * 6) _ ((rcells_at l j 0 hj (by omega)).trans rfl), h (j * 6 + 1) _ ((rcells_at l j 1 hj (by omega)).trans rfl), h (j * 6 + 2) _ ((rcells_at l j 2 hj (by omega)).trans rfl), h (j * 6 + 3) _ ((rcells_at l j 3 hj (by omega)).trans rfl), h (j * 6 + 4) _ ((rcells_at l j 4 hj (by omega)).trans rfl), h (j * 6 + 5) _ ((rcells_at l j 5 hj (by omega)).trans rfl)⟩

theorem Tab.slice {w : World} {v : Value} {l : List Rng} (h : Tab w v l) : ∃ A c, v = .slice A l.length c := by
  rcases h with ⟨rfl, rfl⟩ | ⟨g, cap, rfl, _⟩
  · exact ⟨none, 0, rfl⟩
  · exact ⟨_, _, rfl⟩

theorem Tab.far {w : World} {v : Value} {l : List Rng} (h : Tab w v l) {p : Addr} (hp : v.ownBlock ≠ some p.block) (u : Value) : Tab (w.setCell p u) v l := by
  rcases h with h | ⟨g, cap, rfl, h1, h2, h3, h4⟩
  · exact .inl h
  · refine .inr ⟨g, cap, rfl, h1, h2, by simpa [World.setCell] using h3, fun j x hj => ?_⟩
    exact (World.cell?_of_block (a := ⟨g, j, none⟩) (Below.heap_setCell w p u g (fun e => hp (by rw [← e]; rfl)))).trans (h4 j x hj)

end Go.Proofs.YtiggnmhoececfaaGreatDoor
