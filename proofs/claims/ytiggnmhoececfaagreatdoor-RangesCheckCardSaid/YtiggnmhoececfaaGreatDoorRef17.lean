/- The document's answers of chapters 3 and 17: plain laws. -/
import Derived.Test.YtiggnmhoececfaaGreatDoorPlain17
import Derived.Test.YtiggnmhoececfaaGreatDoorPrintB
namespace Go.Proofs.YtiggnmhoececfaaGreatDoor
set_option linter.unusedVariables false
set_option linter.unusedSimpArgs false
open Go.RowKit Go.Proofs.YtiggnmhoececfaaGreatDoorW.PrintWords Go.Proofs.YtiggnmhoececfaaGreatDoorW.PrintLast Go.Proofs.YtiggnmhoececfaaGreatDoorW.PrintMore
open PRef

theorem wrap64_of {x : Int} (h0 : -9223372036854775808 ≤ x) (h1 : x ≤ 9223372036854775807) : wrap64 x = x := by
  unfold wrap64
  omega
theorem wrapU_of {x : Int} (h0 : 0 ≤ x) (h1 : x ≤ 18446744073709551615) : IntKind.u64.wrap x = x := by
  rw [IntKind.wrap_u64]; omega

theorem bt_nat (s : ByteArray) (i : Nat) (h : i < s.size) : bt s (i : Int) = ((s.data.toList[i]'(by simpa using h)).toNat : Int) := by
  unfold bt
  rw [dif_pos (by simpa using h)]
  rfl

theorem drop_at {l : Bytes} {i : Nat} (h : i < l.length) : l.drop i = l[i] :: l.drop (i + 1) := List.drop_eq_getElem_cons h

theorem ref_is (s : ByteArray) (hs : s.size ≤ 1000000) : ∀ k i : Nat, i ≤ s.size → s.size - i < k → cashierref03_Is.l0 k s i = some (isDig (s.data.toList.drop i) && decide ((s.size : Int) > 0)) := by
  intro k
  induction k with
  | zero => intro i hi hk; omega
  | succ k ih =>
    intro i hi hk
    unfold cashierref03_Is.l0
    have hsz : s.data.toList.length = s.size := by simp
    by_cases h : i < s.size
    · rw [if_pos (by omega), if_pos (by omega), bt_nat s i h, drop_at (by omega)]
      have h4 : (48 : UInt8).toNat = 48 := rfl
      have h5 : (57 : UInt8).toNat = 57 := rfl
      generalize s.data.toList[i]'(by omega) = c
      have hall : isDig (c :: s.data.toList.drop (i + 1)) = ((decide (48 ≤ c.toNat) && decide (c.toNat ≤ 57)) && isDig (s.data.toList.drop (i + 1))) := by
        simp only [isDig, List.all_cons, UInt8.le_iff_toNat_le, h4, h5]
      rw [hall]
      by_cases h1 : 48 ≤ c.toNat
      · by_cases h2 : c.toNat ≤ 57
        · rw [if_neg (by omega), if_neg (by omega), wrap64_of (by omega) (by omega), show ((i : Int) + 1) = ((i + 1 : Nat) : Int) by omega, ih (i + 1) (by omega) (by omega), decide_eq_true h1, decide_eq_true h2]
          rfl
        · rw [if_neg (by omega), if_pos (by omega), decide_eq_false h2, Bool.and_false]
          rfl
      · rw [if_pos (by omega), decide_eq_false h1]
        rfl
    · rw [if_neg (by omega), List.drop_eq_nil_of_le (by omega)]
      simp [isDig]

theorem ref_is_f (s : ByteArray) (hs : s.size ≤ 1000000) (k : Nat) (hk : s.size < k) : cashierref03_Is.f k s = some (isNum s.data.toList) := by
  unfold cashierref03_Is.f
  have := ref_is s hs k 0 (by omega) (by omega)
  rw [show ((0 : Nat) : Int) = 0 by rfl] at this
  rw [this]
  congr 1
  unfold isNum
  rw [List.drop_zero]
  congr 1
  have hsz : s.data.toList.length = s.size := by simp
  cases hl : s.data.toList with
  | nil => rw [hl] at hsz; simp at hsz; simp [← hsz]
  | cons a r => rw [hl] at hsz; simp at hsz; simp; omega

/-- What Number answers, where it is asked of anything at all. -/
theorem ref_num (s : ByteArray) (hs : s.size ≤ 1000000) : ∀ (k i n : Nat), i ≤ s.size → n ≤ 18446744073709551615 → s.size - i < k →
    ∃ r, cashierref03_Number.l0 k s n i = some r ∧ (isDig (s.data.toList.drop i) = true → (numFrom n (s.data.toList.drop i) ≤ 18446744073709551615 → r = (((numFrom n (s.data.toList.drop i) : Nat) : Int), true)) ∧ (18446744073709551615 < numFrom n (s.data.toList.drop i) → r = (0, false))) := by
  intro k
  induction k with
  | zero => intro i n hi hn hk; omega
  | succ k ih =>
    intro i n hi hn hk
    have hsz : s.data.toList.length = s.size := by simp
    unfold cashierref03_Number.l0
    by_cases h : i < s.size
    · rw [if_pos (by omega), if_pos (by omega), bt_nat s i h, drop_at (by omega)]
      have hc := (s.data.toList[i]'(by omega)).toNat_lt
      generalize s.data.toList[i]'(by omega) = c at hc ⊢
      have hb : 0 ≤ ((c.toNat : Int) - 48) % 256 ∧ ((c.toNat : Int) - 48) % 256 < 256 := by omega
      generalize hd : ((c.toNat : Int) - 48) % 256 = d at hb ⊢
      by_cases h1 : (n : Int) > (18446744073709551615 - d) / 10
      · rw [if_pos h1]
        refine ⟨_, rfl, fun hdig => ⟨fun hle => ?_, fun _ => rfl⟩⟩
        exfalso
        simp only [isDig, List.all_cons, Bool.and_eq_true, decide_eq_true_eq, UInt8.le_iff_toNat_le] at hdig
        have h4 : (48 : UInt8).toNat = 48 := rfl
        have h5 : (57 : UInt8).toNat = 57 := rfl
        have := numFrom_ge (s.data.toList.drop (i + 1)) (n * 10 + (c.toNat - 48))
        simp only [numFrom, List.foldl_cons] at hle this
        omega
      · rw [if_neg h1]
        have hw : IntKind.u64.wrap (IntKind.u64.wrap ((n : Int) * 10) + d) = ((n * 10 + d.toNat : Nat) : Int) := by
          rw [wrapU_of (x := (n : Int) * 10) (by omega) (by omega), wrapU_of (by omega) (by omega)]; omega
        rw [hw, wrap64_of (by omega) (by omega), show ((i : Int) + 1) = ((i + 1 : Nat) : Int) by omega]
        obtain ⟨r, hr, hr'⟩ := ih (i + 1) (n * 10 + d.toNat) (by omega) (by omega) (by omega)
        refine ⟨r, hr, fun hdig => ?_⟩
        have hdig' := hdig
        simp only [isDig, List.all_cons, Bool.and_eq_true, decide_eq_true_eq, UInt8.le_iff_toNat_le] at hdig'
        have h4 : (48 : UInt8).toNat = 48 := rfl
        have h5 : (57 : UInt8).toNat = 57 := rfl
        have hdn : d.toNat = c.toNat - 48 := by omega
        have := hr' (by simp only [isDig] at hdig ⊢; exact hdig'.2)
        rw [hdn] at this
        exact this
    · rw [if_neg (by omega), List.drop_eq_nil_of_le (by omega)]
      exact ⟨_, rfl, fun _ => ⟨fun _ => rfl, fun hx => by simp [numFrom] at hx; omega⟩⟩

theorem ref_num_f (s : ByteArray) (hs : s.size ≤ 1000000) (k : Nat) (hk : s.size < k) :
    ∃ r, cashierref03_Number.f k s = some r ∧ (isDig s.data.toList = true → (numOf s.data.toList ≤ 18446744073709551615 → r = (((numOf s.data.toList : Nat) : Int), true)) ∧ (18446744073709551615 < numOf s.data.toList → r = (0, false))) := by
  have := ref_num s hs k 0 0 (by omega) (by omega) (by omega)
  rw [List.drop_zero] at this
  exact this

theorem strOf_dec (d : Nat) (h : d < 10) (acc : ByteArray) : (strOfNums [(IntKind.u64.wrap (48 + (d : Int))) % 256] ++ acc).data.toList = UInt8.ofNat (48 + d) :: acc.data.toList := by
  rw [wrapU_of (by omega) (by omega), show ((48 + (d : Int)) % 256) = ((48 + d : Nat) : Int) by omega]
  rw [ByteArray.data_append, Array.toList_append, strOfNums_data]
  rfl

theorem strOf_size (d : Int) (acc : ByteArray) : (strOfNums [d] ++ acc).size = 1 + acc.size := by
  rw [ByteArray.size_append, strOfNums_size]; rfl

theorem ref_dec : ∀ (k n : Nat) (acc : ByteArray), n < 10 ^ k → n ≤ 18446744073709551615 → acc.size + k ≤ 1000000 → 1 ≤ k →
    cashierref03_Dec.l0 k n acc = some ⟨(Lib.decDigits n ++ acc.data.toList).toArray⟩ := by
  intro k
  induction k with
  | zero => intro n acc _ _ _ h; omega
  | succ k ih =>
    intro n acc hn hu hs _
    unfold cashierref03_Dec.l0
    simp only [Option.bind_some]
    have hm : Int.tmod (n : Int) 10 = ((n % 10 : Nat) : Int) := by rw [Int.tmod_eq_emod_of_nonneg (by omega)]; omega
    have hdv : IntKind.u64.wrap (Int.tdiv (n : Int) 10) = ((n / 10 : Nat) : Int) := by
      rw [Int.tdiv_eq_ediv_of_nonneg (by omega), wrapU_of (by omega) (by omega)]; omega
    rw [hm, hdv]
    have hlen : (strOfNums [(IntKind.u64.wrap (48 + ((n % 10 : Nat) : Int))) % 256]).size = 1 := by rw [strOfNums_size]; rfl
    rw [if_pos (by rw [hlen]; omega)]
    have hl := strOf_dec (n % 10) (by omega) acc
    have hz := strOf_size ((IntKind.u64.wrap (48 + ((n % 10 : Nat) : Int))) % 256) acc
    generalize strOfNums [(IntKind.u64.wrap (48 + ((n % 10 : Nat) : Int))) % 256] ++ acc = nx at hl hz
    by_cases h0 : n / 10 = 0
    · rw [if_pos (by omega)]
      congr 1
      rw [Lib.decDigits, dif_pos (by omega), List.singleton_append]
      rw [show n % 10 = n by omega] at hl
      rw [← hl]
    · rw [if_neg (by omega)]
      rw [ih (n / 10) nx (by rw [Nat.pow_succ] at hn; omega) (by omega) (by omega) (by
        cases k with
        | zero => simp at hn; omega
        | succ _ => omega)]
      rw [hl]
      conv => rhs; rw [Lib.decDigits, dif_neg (by omega)]
      simp

theorem ref_dec_f (k n : Nat) (hn : n ≤ 65535) (hk : 5 ≤ k) (hk2 : k ≤ 1000000) : cashierref03_Dec.f k n = some ⟨(Lib.decDigits n).toArray⟩ := by
  unfold cashierref03_Dec.f
  have h5 : 10 ^ 5 ≤ 10 ^ k := Nat.pow_le_pow_right (by omega) hk
  rw [ref_dec k n _ (by omega) (by omega) (by have : (⟨#[]⟩ : ByteArray).size = 0 := rfl; omega) (by omega)]
  simp

/-- What Parse answers. -/
def refP (out : List Int) (parts : List Bytes) : List Int × Bool :=
  if parts.all okPart = true then (out ++ parts.map (fun p => ((numOf p : Nat) : Int)), ((out.length + parts.length : Nat) : Int) == 3) else ([], false)

/-- One part's check. -/
theorem ref_check (s : ByteArray) (out : List Int) (t : ByteArray) (i : Int) (k : Nat) (ht : t.size ≤ 1000) (hk : t.size < k) (hk5 : 5 ≤ k) (hk2 : k ≤ 1000000) (hout : out.length < 100000) :
    cashierref17_Parse.j1 (k + 1) s out t i false = if okPart t.data.toList = true then cashierref17_Parse.l0 k s (out ++ [((numOf t.data.toList : Nat) : Int)]) ⟨#[]⟩ (wrap64 (i + 1)) else some ([], false) := by
  unfold cashierref17_Parse.j1
  rw [if_neg (by simp)]
  obtain ⟨r, hr, hr'⟩ := ref_num_f t (by omega) k hk
  rw [hr, ref_is_f t (by omega) k hk]
  simp only [Option.bind_some]
  unfold okPart
  by_cases hn : isNum t.data.toList = true
  · rw [if_pos hn, hn]
    have hd : isDig t.data.toList = true := by simp only [isNum, Bool.and_eq_true] at hn; exact hn.1
    have hr2 := hr' hd
    by_cases hle : numOf t.data.toList ≤ 18446744073709551615
    · obtain rfl := hr2.1 hle
      simp only [if_true]
      by_cases h16 : numOf t.data.toList ≤ 65535
      · rw [if_neg (by omega), ref_dec_f k _ h16 hk5 hk2, decide_eq_true h16]
        simp only [Option.bind_some, Bool.true_and]
        have hw : wrap64 ((numOf t.data.toList : Nat) : Int) = ((numOf t.data.toList : Nat) : Int) := wrap64_of (by omega) (by omega)
        rw [hw]
        have hx : (ByteArray.mk (Lib.decDigits (numOf t.data.toList)).toArray).toList = Lib.decDigits (numOf t.data.toList) := by simp
        have hy : t.toList = t.data.toList := ByteArray.toList_eq t
        rw [hx, hy]
        by_cases he : Lib.decDigits (numOf t.data.toList) = t.data.toList
        · rw [if_pos he, if_pos (by omega), if_pos (by simp [he])]
        · rw [if_neg he, if_neg (by simp [he])]
      · rw [if_pos (by omega), decide_eq_false h16]
        simp
    · obtain rfl := hr2.2 (by omega)
      simp only [Bool.false_eq_true, if_false]
      rw [decide_eq_false (by omega : ¬ numOf t.data.toList ≤ 65535)]
      simp
  · rw [if_neg hn]
    simp [hn]

theorem split1_prefix (t r : Bytes) (ht : ∀ x, x ∈ t → x ≠ 46) : split1 46 (t ++ 46 :: r) = t :: split1 46 r := split1_hit 46 t r ht

theorem refP_step (out : List Int) (t : Bytes) (r : List Bytes) : refP out (t :: r) = if okPart t = true then refP (out ++ [((numOf t : Nat) : Int)]) r else ([], false) := by
  unfold refP
  by_cases h : okPart t = true
  · rw [if_pos h]
    simp only [List.all_cons, h, Bool.true_and]
    by_cases h2 : r.all okPart = true
    · rw [if_pos h2, if_pos h2]
      simp only [List.length_cons, List.length_append, List.length_nil, List.append_assoc, List.map_cons, List.singleton_append]
      rw [show out.length + (r.length + 1) = out.length + (0 + 1) + r.length by omega]
    · rw [if_neg h2, if_neg h2]
  · rw [if_neg h, if_neg (by simp [h])]

theorem ref_end (s : ByteArray) (hs : s.size ≤ 1000) (k : Nat) (out : List Int) (t : ByteArray) (hk : 2000 < k) (hk2 : k ≤ 900000) (hout : out.length ≤ 2000) (ht : t.size ≤ s.size)
    (hd : ∀ x, x ∈ t.data.toList → x ≠ 46) : cashierref17_Parse.l0 k s out t (s.size : Nat) = some (refP out (split1 46 (t.data.toList ++ s.data.toList.drop s.size))) := by
  obtain ⟨k, rfl⟩ : ∃ k', k = k' + 1 + 1 + 1 := ⟨k - 3, by omega⟩
  have hsz : s.data.toList.length = s.size := by simp
  rw [cashierref17_Parse.l0, if_pos (by omega), if_neg (by omega), ref_check s out t _ (k + 1) (by omega) (by omega) (by omega) (by omega) (by omega)]
  rw [List.drop_eq_nil_of_le (by omega), List.append_nil, split1_none _ _ hd, refP_step]
  by_cases h : okPart t.data.toList = true
  · rw [if_pos h, if_pos h, cashierref17_Parse.l0, wrap64_of (by omega) (by omega), if_neg (by omega)]
    congr 1
    simp [refP]
  · rw [if_neg h, if_neg h]

theorem extract_one (s : ByteArray) (i : Nat) (h : i < s.size) : (s.extract i (i + 1)).data.toList = [s.data.toList[i]'(by simpa using h)] := by
  rw [ByteArray.data_extract, Array.toList_extract]
  rw [List.extract_eq_take_drop, show i + 1 - i = 1 by omega, drop_at (by simpa using h)]
  rfl

theorem ref_loop (s : ByteArray) (hs : s.size ≤ 1000) : ∀ (n k i : Nat) (out : List Int) (t : ByteArray), s.size - i ≤ n → i ≤ s.size → 2 * n + 2000 < k → k ≤ 900000 → out.length + (s.size - i) ≤ 2000 → t.size ≤ i →
    (∀ x, x ∈ t.data.toList → x ≠ 46) → cashierref17_Parse.l0 k s out t i = some (refP out (split1 46 (t.data.toList ++ s.data.toList.drop i))) := by
  intro n
  induction n with
  | zero =>
    intro k i out t hi hi2 hk hk2 hout ht hd
    obtain rfl : i = s.size := by omega
    exact ref_end s hs k out t (by omega) hk2 (by omega) ht hd
  | succ n ih =>
    intro k i out t hi hi2 hk hk2 hout ht hd
    by_cases h : i < s.size
    · obtain ⟨k, rfl⟩ : ∃ k', k = k' + 1 + 1 := ⟨k - 2, by omega⟩
      have hsz : s.data.toList.length = s.size := by simp
      have hx := extract_one s i h
      rw [cashierref17_Parse.l0, if_pos (by omega), if_pos (by omega), if_pos (by omega), bt_nat s i h, drop_at (by omega)]
      generalize s.data.toList[i]'(by omega) = c at hx ⊢
      by_cases h46 : c = 46
      · subst h46
        rw [show (((46 : UInt8).toNat : Int) != 46) = false by rfl, ref_check s out t _ k (by omega) (by omega) (by omega) (by omega) (by omega), split1_prefix _ _ hd, refP_step]
        by_cases hok : okPart t.data.toList = true
        · rw [if_pos hok, if_pos hok, wrap64_of (by omega) (by omega), show ((i : Int) + 1) = ((i + 1 : Nat) : Int) by omega]
          have := ih k (i + 1) (out ++ [((numOf t.data.toList : Nat) : Int)]) ⟨#[]⟩ (by omega) (by omega) (by omega) (by omega) (by simp; omega) (by simp [ByteArray.size]) (by simp)
          simpa using this
        · rw [if_neg hok, if_neg hok]
      · have hne : ((c.toNat : Int) != 46) = true := by
          rw [bne_iff_ne]
          intro e
          apply h46
          rw [← UInt8.toNat_inj]
          show c.toNat = 46
          omega
        rw [hne, cashierref17_Parse.j1, if_pos rfl, if_pos (by omega), wrap64_of (by omega) (by omega), if_pos (by omega), if_pos (by omega)]
        rw [show ((i : Int) + 1).toNat = i + 1 by omega, show (i : Int).toNat = i by omega]
        have hsx : (s.extract i (i + 1)).size = 1 := by
          have := congrArg List.length hx
          rw [Array.length_toList] at this
          exact this
        have hts : (t ++ s.extract i (i + 1)).size = t.size + 1 := by rw [ByteArray.size_append, hsx]
        have htl : (t ++ s.extract i (i + 1)).data.toList = t.data.toList ++ [c] := by rw [ByteArray.data_append, Array.toList_append, hx]
        rw [if_pos (by rw [hsx]; omega)]
        generalize t ++ s.extract i (i + 1) = t' at hts htl ⊢
        rw [show ((i : Int) + 1) = ((i + 1 : Nat) : Int) by omega, ih k (i + 1) out t' (by omega) (by omega) (by omega) (by omega) (by omega) (by omega) (by
          rw [htl]; intro x hx
          rcases List.mem_append.1 hx with hx | hx
          · exact hd x hx
          · obtain rfl : x = c := by simpa using hx
            exact h46)]
        rw [htl, List.append_assoc, List.singleton_append]
    · obtain rfl : i = s.size := by omega
      exact ref_end s hs k out t (by omega) hk2 (by omega) ht hd

/-- The document's Parse. -/
theorem ref_parse (s : ByteArray) (hs : s.size ≤ 1000) (k : Nat) (hk : 5000 ≤ k) (hk2 : k ≤ 900000) : cashierref17_Parse.f k s = some (refP [] (split1 46 s.data.toList)) := by
  have := ref_loop s hs 1000 k 0 [] ⟨#[]⟩ (by omega) (by omega) (by omega) hk2 (by simp; omega) (by simp [ByteArray.size]) (by simp)
  unfold cashierref17_Parse.f
  simpa using this

/-- The document's Cmp. -/
theorem ref_cmp (a b c x y z : Nat) (k : Nat) (hk : 5 ≤ k) : cashierref17_Cmp.f k [(a : Int), (b : Int), (c : Int)] [(x : Int), (y : Int), (z : Int)] = some (lexc [a, b, c] [x, y, z]) := by
  obtain ⟨k, rfl⟩ : ∃ k', k = k' + 1 + 1 + 1 + 1 := ⟨k - 4, by omega⟩
  have w0 : wrap64 (0 + 1) = 1 := wrap64_of (by omega) (by omega)
  have w1 : wrap64 (1 + 1) = 2 := wrap64_of (by omega) (by omega)
  have w2 : wrap64 (2 + 1) = 3 := wrap64_of (by omega) (by omega)
  simp only [cashierref17_Cmp.f, cashierref17_Cmp.l0, rd, lexc, w0, w1, w2, List.length_cons, List.length_nil]
  simp
  split
  · rfl
  · split
    · rfl
    · split
      · rfl
      · split
        · rfl
        · split
          · rfl
          · split <;> rfl

end Go.Proofs.YtiggnmhoececfaaGreatDoor
