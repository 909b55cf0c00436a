/- One range: what its checks tell. -/
import Derived.Test.YtiggnmhoececfaaGreatDoorLaw17
import Derived.Test.YtiggnmhoececfaaGreatDoorLess
import Derived.Test.YtiggnmhoececfaaGreatDoorPrintA
import Derived.Test.YtiggnmhoececfaaGreatDoorPrintE
import Derived.Laws.Cover1
namespace Go.Proofs.YtiggnmhoececfaaGreatDoor
set_option linter.unusedVariables false
set_option linter.unusedSimpArgs false
open Go.RowKit Go.Proofs.YtiggnmhoececfaaGreatDoorW.PrintWords

/-- ranges.card -/
def cardOk (s : ByteArray) : Bool := isNum s.data.toList && decide (13 ≤ s.size) && decide (s.size ≤ 19)

set_option maxHeartbeats 800000 in
theorem rcard_any (s : ByteArray) (w : World) :
    Calls Tryz.prog 28 #[.string s] w fun e w' => e = .returned (.bool (cardOk s)) ∧ Below w.heap.size w w' := by
  have h1 := is_any s w
  cases hn : isNum s.data.toList with
  | false =>
    rw [show cardOk s = false by unfold cardOk; rw [hn]; rfl]
    rw [hn] at h1
    have H1 := Lib.hid h1
    clear h1 hn
    go_enter Tryz.func28, Tryz.ntmps28
    go_wp2_with (go_at_call 37; go_must (refine H1.out.mono ?_); rintro e w1 ⟨rfl, hb⟩)
    go_ret
    exact ⟨rfl, hb⟩
  | true =>
    rw [hn] at h1
    have H1 := Lib.hid h1
    by_cases h13 : 13 ≤ s.size
    · by_cases h19 : s.size ≤ 19
      · rw [show cardOk s = true by unfold cardOk; rw [hn, decide_eq_true h13, decide_eq_true h19]; rfl]
        have k1 : decide ((13 : Int) ≤ (s.size : Int)) = true := decide_eq_true (by omega)
        have k2 : decide ((s.size : Int) ≤ 19) = true := decide_eq_true (by omega)
        clear h1 hn h13 h19
        go_enter Tryz.func28, Tryz.ntmps28
        go_wp2_with (go_at_call 37; go_must (refine H1.out.mono ?_); rintro e w1 ⟨rfl, hb⟩)
        go_ret
        exact ⟨rfl, hb⟩
      · rw [show cardOk s = false by unfold cardOk; rw [decide_eq_false h19]; simp]
        have k1 : decide ((13 : Int) ≤ (s.size : Int)) = true := decide_eq_true (by omega)
        have k2 : decide ((s.size : Int) ≤ 19) = false := decide_eq_false (by omega)
        clear h1 hn h13 h19
        go_enter Tryz.func28, Tryz.ntmps28
        go_wp2_with (go_at_call 37; go_must (refine H1.out.mono ?_); rintro e w1 ⟨rfl, hb⟩)
        go_ret
        exact ⟨rfl, hb⟩
    · rw [show cardOk s = false by unfold cardOk; rw [decide_eq_false h13]; simp]
      have k1 : decide ((13 : Int) ≤ (s.size : Int)) = false := decide_eq_false (by omega)
      clear h1 hn h13
      go_enter Tryz.func28, Tryz.ntmps28
      go_wp2_with (go_at_call 37; go_must (refine H1.out.mono ?_); rintro e w1 ⟨rfl, hb⟩)
      go_ret
      exact ⟨rfl, hb⟩

theorem cmpInt_nan (x : Int) (w : World) : Calls Tryz.prog 53 #[.int .i64 x] w fun e w' => e = .returned (.bool false) ∧ w = w' := by
  have h : (x != x) = false := by simp
  go_enter Tryz.func53, Tryz.ntmps53
  go_wp2
  go_ret
  exact ⟨rfl, rfl⟩

def cmpZ (x y : Int) : Int := if x < y then -1 else if y < x then 1 else 0

theorem cmpInt_any (x y : Int) (w : World) : Calls Tryz.prog 35 #[.int .i64 x, .int .i64 y] w fun e w' => e = .returned (.int .i64 (cmpZ x y)) ∧ w = w' := by
  have HX := Lib.hid (cmpInt_nan x w)
  have HY := Lib.hid (cmpInt_nan y w)
  by_cases a : x < y
  · rw [show cmpZ x y = -1 by unfold cmpZ; rw [if_pos a]]
    go_enter Tryz.func35, Tryz.ntmps35
    go_wp2_with (go_at_call 53; first | (with_reducible refine HX.out.mono ?_; rintro e w' ⟨rfl, rfl⟩) | (with_reducible refine HY.out.mono ?_; rintro e w' ⟨rfl, rfl⟩))
    go_ret
    exact ⟨rfl, rfl⟩
  · by_cases b : y < x
    · rw [show cmpZ x y = 1 by unfold cmpZ; rw [if_neg a, if_pos b]]
      go_enter Tryz.func35, Tryz.ntmps35
      go_wp2_with (go_at_call 53; first | (with_reducible refine HX.out.mono ?_; rintro e w' ⟨rfl, rfl⟩) | (with_reducible refine HY.out.mono ?_; rintro e w' ⟨rfl, rfl⟩))
      go_ret
      exact ⟨rfl, rfl⟩
    · rw [show cmpZ x y = 0 by unfold cmpZ; rw [if_neg a, if_neg b]]
      go_enter Tryz.func35, Tryz.ntmps35
      go_wp2_with (go_at_call 53; first | (with_reducible refine HX.out.mono ?_; rintro e w' ⟨rfl, rfl⟩) | (with_reducible refine HY.out.mono ?_; rintro e w' ⟨rfl, rfl⟩))
      go_ret
      exact ⟨rfl, rfl⟩

/-- ranges.Cmp -/
def rcmpV (a b : ByteArray) : Int := if a.size = b.size then Lib.compareBytes a.data.toList b.data.toList else cmpZ a.size b.size

theorem rcmp_any (a b : ByteArray) (w : World) : Calls Tryz.prog 11 #[.string a, .string b] w fun e w' => e = .returned (.int .i64 (rcmpV a b)) ∧ w' = w := by
  by_cases h : a.size = b.size
  · have hv : rcmpV a b = Lib.compareBytes a.data.toList b.data.toList := by unfold rcmpV; rw [if_pos h]
    rw [hv]
    clear hv
    have H1 := Lib.hid (Tryz.strings_Compare a b w)
    have k1 : ((a.size : Int) != (b.size : Int)) = false := by simp [h]
    clear h
    go_enter Tryz.func11, Tryz.ntmps11
    go_wp2_with (go_at_call 36; go_must (refine H1.out.mono ?_); rintro e w' ⟨rfl, rfl⟩)
    go_ret
    exact ⟨rfl, rfl⟩
  · have hv : rcmpV a b = cmpZ a.size b.size := by unfold rcmpV; rw [if_neg h]
    rw [hv]
    clear hv
    have H1 := Lib.hid (fun w => cmpInt_any a.size b.size w)
    have k1 : ((a.size : Int) != (b.size : Int)) = true := by simp; omega
    clear h
    go_enter Tryz.func11, Tryz.ntmps11
    go_wp2_with (go_at_call 35; go_must (refine (H1.out _).mono ?_); rintro e w' ⟨rfl, rfl⟩)
    go_ret
    exact ⟨rfl, rfl⟩

/-- a range, as a value -/
abbrev rangeV (f t n lo hi : ByteArray) (m : Int) : Value := .agg #[.string f, .string t, .string n, .string lo, .string hi, .int .i64 m]
abbrev rangeC (f t n lo hi : ByteArray) (m : Int) : List Value := [.string f, .string t, .string n, .string lo, .string hi, .int .i64 m]

/-- ranges.Range.Has -/
def hasV (f t c : ByteArray) : Bool := isNum c.data.toList && (decide (c.size = f.size) && (!(Op.bytesLess c.toList f.toList) && (Op.bytesLess c.toList t.toList || c.toList == t.toList)))

set_option maxHeartbeats 1600000 in
theorem has_any (f t n lo hi c : ByteArray) (m : Int) (w : World) :
    Calls Tryz.prog 12 #[rangeV f t n lo hi m, .string c] w fun e w' => e = .returned (.bool (hasV f t c)) ∧ Below w.heap.size w w' := by
  have hC := CellsAt.new w (rangeC f t n lo hi m) 23
  have HC := Lib.hid hC
  have HB := Lib.hid (below_alloc (Below.refl w.heap.size w) (.cells (rangeC f t n lo hi m).toArray 23))
  have h1 := is_any c (w.alloc (.cells (rangeC f t n lo hi m).toArray 23))
  unfold hasV
  cases hn : isNum c.data.toList with
  | false =>
    rw [hn] at h1
    have H1 := Lib.hid h1
    clear h1 hn hC
    go_enter Tryz.func12, Tryz.ntmps12
    go_wp2_with (go_at_call 37; go_must (refine H1.out.mono ?_); rintro e w1 ⟨rfl, hb⟩)
    go_ret
    exact ⟨rfl, below_step HB.out hb⟩
  | true =>
    rw [hn] at h1
    have H1 := Lib.hid h1
    clear h1 hn hC
    by_cases hs : c.size = f.size
    · have k1 : ((c.size : Int) == (f.size : Int)) = true := by simp [hs]
      rw [decide_eq_true hs]
      clear hs
      cases hl : Op.bytesLess c.toList f.toList with
      | true =>
        go_enter Tryz.func12, Tryz.ntmps12
        go_wp2_with (go_at_call 37; go_must (refine H1.out.mono ?_); rintro e w1 ⟨rfl, hb⟩; have c0 := (HC.out.below hb).get (j := 0) rfl; have c1 := (HC.out.below hb).get (j := 1) rfl)
        go_ret
        exact ⟨rfl, below_step HB.out hb⟩
      | false =>
        have hrest : ∀ q : Bool, (true && (true && (!false && q))) = q := by decide
        rw [hrest]
        clear hrest
        cases hq1 : Op.bytesLess c.toList t.toList with
        | true =>
          go_enter Tryz.func12, Tryz.ntmps12
          go_wp2_with (go_at_call 37; go_must (refine H1.out.mono ?_); rintro e w1 ⟨rfl, hb⟩; have c0 := (HC.out.below hb).get (j := 0) rfl; have c1 := (HC.out.below hb).get (j := 1) rfl)
          go_ret
          exact ⟨rfl, below_step HB.out hb⟩
        | false =>
          cases hq2 : (c.toList == t.toList) with
          | true =>
            go_enter Tryz.func12, Tryz.ntmps12
            go_wp2_with (go_at_call 37; go_must (refine H1.out.mono ?_); rintro e w1 ⟨rfl, hb⟩; have c0 := (HC.out.below hb).get (j := 0) rfl; have c1 := (HC.out.below hb).get (j := 1) rfl)
            go_ret
            exact ⟨rfl, below_step HB.out hb⟩
          | false =>
            go_enter Tryz.func12, Tryz.ntmps12
            go_wp2_with (go_at_call 37; go_must (refine H1.out.mono ?_); rintro e w1 ⟨rfl, hb⟩; have c0 := (HC.out.below hb).get (j := 0) rfl; have c1 := (HC.out.below hb).get (j := 1) rfl)
            go_ret
            exact ⟨rfl, below_step HB.out hb⟩
    · have k1 : ((c.size : Int) == (f.size : Int)) = false := by simp; omega
      rw [decide_eq_false hs]
      clear hs
      go_enter Tryz.func12, Tryz.ntmps12
      go_wp2_with (go_at_call 37; go_must (refine H1.out.mono ?_); rintro e w1 ⟨rfl, hb⟩; have c0 := (HC.out.below hb).get (j := 0) rfl; have c1 := (HC.out.below hb).get (j := 1) rfl)
      go_ret
      exact ⟨rfl, below_step HB.out hb⟩

end Go.Proofs.YtiggnmhoececfaaGreatDoor
