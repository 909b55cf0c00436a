/- A card's number. -/
import Derived.Test.YtiggnmhoececfaaGreatDoorLuhn
namespace Go.Proofs.YtiggnmhoececfaaGreatDoor
set_option linter.unusedVariables false
set_option linter.unusedSimpArgs false
open Go.RowKit Go.Proofs.YtiggnmhoececfaaGreatDoorW.PrintWords

def luhn (l : Bytes) : Bool := isNum l && ((wts l false).sum % 10 == 0)

theorem weights_any (s : ByteArray) (dbl : Bool) (w : World) :
    Calls Tryz.prog 102 #[.string s, .bool dbl] w fun e w' => e = .returned (.func (.func 122) #[] #[.pointer (some ⟨w.heap.size, 0, none⟩), .pointer (some ⟨w.heap.size + 1, 0, none⟩)]) ∧ w' = allocs w [.cells #[.string s] 9, .cells #[.bool dbl] 4] := by
  go_enter Tryz.func102, Tryz.ntmps102
  go_wp2
  go_ret
  exact ⟨rfl, rfl⟩

set_option maxHeartbeats 800000 in
/-- digits.Luhn -/
theorem luhn_any (s : ByteArray) (hs : s.size ≤ 1000000) (w : World) :
    Calls Tryz.prog 88 #[.string s] w fun e w' => e = .returned (.bool (luhn s.data.toList)) ∧ Below w.heap.size w w' := by
  have h1 := is_any s w
  cases h : isNum s.data.toList with
  | false =>
    have hv : luhn s.data.toList = false := by unfold luhn; rw [h]; rfl
    rw [hv]; rw [h] at h1
    have H1 := Lib.hid h1
    clear h1 h hv
    go_enter Tryz.func88, Tryz.ntmps88
    go_wp2_with (go_at_call 37; go_must (refine H1.out.mono ?_); rintro e w1 ⟨rfl, hb⟩)
    go_ret
    exact ⟨rfl, hb⟩
  | true =>
    have hd : isDig s.data.toList = true := by unfold isNum at h; simp only [Bool.and_eq_true] at h; exact h.1
    have hv : luhn s.data.toList = ((wts s.data.toList false).sum % 10 == 0) := by unfold luhn; rw [h]; rfl
    have hle : (wts s.data.toList false).sum ≤ 10000000 := by
      have hw : ∀ (l : List Nat), (∀ x, x ∈ l → x ≤ 9) → l.sum ≤ 9 * l.length := by
        intro l
        induction l with
        | nil => simp
        | cons x l ih =>
          intro hx
          have := ih (fun y hy => hx y (by simp [hy]))
          have := hx x (by simp)
          simp only [List.sum_cons, List.length_cons]; omega
      have := hw (wts s.data.toList false) (by
        intro x hx
        simp only [wts, List.mem_map, List.mem_range] at hx
        obtain ⟨k, hk, rfl⟩ := hx
        unfold wtAt
        refine wv_le _ _ ?_
        have hg := dig_at hd (s.data.toList.length - 1 - k) (by omega)
        rw [List.getD_eq_getElem?_getD, List.getElem?_eq_getElem (by omega)]
        simp only [Option.getD_some]
        omega)
      have h2 : (wts s.data.toList false).length = s.size := by simp [wts]
      omega
    rw [h] at h1
    have hsum := fun (w1 : World) (hb : Below w.heap.size w w1) => sum_weights w1.heap.size (w1.heap.size + 1) (by omega) s false hs hd (allocs w1 [.cells #[.string s] 9, .cells #[.bool false] 4]) (allocs_get w1 _ 0 _ rfl) (allocs_get w1 _ 1 _ rfl) w1.heap.size (by omega) (by rw [allocs_size]; omega)
    obtain ⟨t, ht⟩ : ∃ t, (wts s.data.toList false).sum = t := ⟨_, rfl⟩
    rw [ht] at hle hv hsum
    have hmod : (IntKind.i64.wrap ((t : Int).tmod 10)) = ((t % 10 : Nat) : Int) := by
      rw [Int.tmod_eq_emod_of_nonneg (by omega)]; simp [IntKind.wrap, IntKind.bits, IntKind.signed]; omega
    have H1 := Lib.hid h1
    have HV := Lib.hid hv
    have HS := Lib.hid hsum
    clear h1 hv hsum h hd ht
    go_enter Tryz.func88, Tryz.ntmps88
    go_wp2_with (first
      | (go_at_call 37; go_must (refine H1.out.mono ?_); rintro e w1 ⟨rfl, hb⟩)
      | (go_at_call 102; go_must (refine (weights_any _ _ _).mono ?_); rintro e w2 ⟨rfl, rfl⟩)
      | (go_at_call 101; go_must (refine (HS.out w1 hb).mono ?_); rintro e w3 ⟨rfl, hb3⟩; have hb4 := below_step hb ((allocs_below w1 _).trans hb3)))
    go_ret
    refine ⟨ret_bool ?_, hb4⟩
    rw [HV.out]
    rw [Bool.eq_iff_iff, beq_iff_eq, beq_iff_eq]; omega

/-- digits.Card: what is wrong with a card's number. -/
def cardE (l : Bytes) : Int := if isNum l = false then 4 else if l.length < 13 then 3 else if 19 < l.length then 5 else if luhn l = false then 25 else 0

set_option maxHeartbeats 800000 in
/-- digits.Card -/
theorem card_any (s : ByteArray) (hs : s.size ≤ 1000000) (w : World) :
    Calls Tryz.prog 77 #[.string s] w fun e w' => e = .returned (.int .i64 (cardE s.data.toList)) ∧ Below w.heap.size w w' := by
  have hsz : s.data.toList.length = s.size := by simp
  have h1 := is_any s w
  have h2 := fun w1 => luhn_any s hs w1
  cases h : isNum s.data.toList with
  | false =>
    have hv : cardE s.data.toList = 4 := by unfold cardE; rw [if_pos h]
    rw [hv]; rw [h] at h1
    have H1 := Lib.hid h1
    clear h1 h hv h2 hsz
    go_enter Tryz.func77, Tryz.ntmps77
    go_wp2_with (go_at_call 37; go_must (refine H1.out.mono ?_); rintro e w1 ⟨rfl, hb⟩)
    go_ret
    exact ⟨rfl, hb⟩
  | true =>
    rw [h] at h1
    by_cases h13 : s.size < 13
    · have hv : cardE s.data.toList = 3 := by unfold cardE; rw [if_neg (by rw [h]; decide), if_pos (by omega)]
      rw [hv]
      have H1 := Lib.hid h1
      clear h1 h hv h2 hsz
      have h13' : decide ((s.size : Int) < 13) = true := by simp; omega
      go_enter Tryz.func77, Tryz.ntmps77
      go_wp2_with (go_at_call 37; go_must (refine H1.out.mono ?_); rintro e w1 ⟨rfl, hb⟩)
      go_ret
      exact ⟨rfl, hb⟩
    · have h13' : decide ((s.size : Int) < 13) = false := by simp; omega
      by_cases h19 : 19 < s.size
      · have hv : cardE s.data.toList = 5 := by unfold cardE; rw [if_neg (by rw [h]; decide), if_neg (by omega), if_pos (by omega)]
        rw [hv]
        have H1 := Lib.hid h1
        clear h1 h hv h2 hsz
        have h19' : decide ((19 : Int) < (s.size : Int)) = true := by simp; omega
        go_enter Tryz.func77, Tryz.ntmps77
        go_wp2_with (go_at_call 37; go_must (refine H1.out.mono ?_); rintro e w1 ⟨rfl, hb⟩)
        go_ret
        exact ⟨rfl, hb⟩
      · have h19' : decide ((19 : Int) < (s.size : Int)) = false := by simp; omega
        cases hl : luhn s.data.toList with
        | false =>
          have hv : cardE s.data.toList = 25 := by unfold cardE; rw [if_neg (by rw [h]; decide), if_neg (by omega), if_neg (by omega), if_pos hl]
          rw [hv]; rw [hl] at h2
          have H1 := Lib.hid h1
          have H2 := Lib.hid h2
          clear h1 h hv h2 hsz hl
          go_enter Tryz.func77, Tryz.ntmps77
          go_wp2_with (first | (go_at_call 37; go_must (refine H1.out.mono ?_); rintro e w1 ⟨rfl, hb⟩) | (go_at_call 88; go_must (refine (H2.out _).mono ?_); rintro e w2 ⟨rfl, hb2⟩; have hb3 := below_step hb hb2))
          go_ret
          exact ⟨rfl, hb3⟩
        | true =>
          have hv : cardE s.data.toList = 0 := by unfold cardE; rw [if_neg (by rw [h]; decide), if_neg (by omega), if_neg (by omega), if_neg (by rw [hl]; decide)]
          rw [hv]; rw [hl] at h2
          have H1 := Lib.hid h1
          have H2 := Lib.hid h2
          clear h1 h hv h2 hsz hl
          go_enter Tryz.func77, Tryz.ntmps77
          go_wp2_with (first | (go_at_call 37; go_must (refine H1.out.mono ?_); rintro e w1 ⟨rfl, hb⟩) | (go_at_call 88; go_must (refine (H2.out _).mono ?_); rintro e w2 ⟨rfl, hb2⟩; have hb3 := below_step hb hb2))
          go_ret
          exact ⟨rfl, hb3⟩

end Go.Proofs.YtiggnmhoececfaaGreatDoor
