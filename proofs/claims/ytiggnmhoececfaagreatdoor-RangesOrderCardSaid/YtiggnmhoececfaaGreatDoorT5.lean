/- Texts taken together: Law17, Less, PrintE, Ranges, Plain17, PrintB. -/
import Derived.Test.YtiggnmhoececfaaGreatDoorT1
import Derived.Test.YtiggnmhoececfaaGreatDoorT4
import Derived.Laws.Cover1

namespace Go.Proofs.YtiggnmhoececfaaGreatDoor
set_option linter.unusedVariables false
set_option linter.unusedSimpArgs false
open Go.RowKit Go.Proofs.YtiggnmhoececfaaGreatDoorW.PrintWords

set_option maxRecDepth 100000 in
theorem best_1 : bestOf [50, 46, 48, 46, 48] [50, 46, 49, 46, 57] knownV = [50, 46, 49, 46, 48] := by decide +kernel

set_option maxHeartbeats 800000 in
theorem awake17_any (w : World) (hG : Glob w) :
    Calls Tryz.prog 48 #[] w fun e w' => e = .returned (.bool true) ∧ Below w.heap.size w w' := by
  have h1 := best_any [50, 46, 48, 46, 48] [50, 46, 49, 46, 57] (by decide) (by decide) w hG
  rw [best_1] at h1
  have h2 := fun w1 hG1 => Awake03_any w1 hG1
  have H1 := Lib.hid h1
  have H2 := Lib.hid h2
  clear h1 h2
  go_enter Tryz.func48, Tryz.ntmps48
  go_wp2_with (first
    | (go_at_call 60; go_must (refine H1.out.mono ?_); rintro e w1 ⟨rfl, hb⟩)
    | (go_at_call 61; go_must (refine (H2.out w1 (hG.below hb)).mono ?_); rintro e w2 ⟨rfl, hb2⟩; have hb3 := below_step hb hb2))
  go_ret
  exact ⟨rfl, hb3⟩

end Go.Proofs.YtiggnmhoececfaaGreatDoor

namespace Go.Proofs.YtiggnmhoececfaaGreatDoor
set_option linter.unusedVariables false
set_option linter.unusedSimpArgs false
open Go.RowKit

/-- bytes in order, spelled out -/
def bl : Bytes → Bytes → Bool
  | _, [] => false
  | [], _ :: _ => true
  | a :: r, b :: s => if a < b then true else if b < a then false else bl r s

theorem bl_eq : ∀ x y : Bytes, Op.bytesLess x y = bl x y
  | [], [] => by simp [Op.bytesLess, bl]
  | _ :: _, [] => by simp [Op.bytesLess, bl]
  | [], _ :: _ => by simp [Op.bytesLess, bl]
  | a :: x, b :: y => by
    rw [Op.bytesLess, bl_eq x y]
    show _ = (if a < b then true else if b < a then false else bl x y)
    by_cases h1 : a < b
    · simp [h1]
    · by_cases h2 : b < a
      · have h3 : a ≠ b := by rintro rfl; exact h1 h2
        simp [h1, h2, h3]
      · have h3 : a = b := by
          rw [← UInt8.toNat_inj]
          rw [UInt8.lt_iff_toNat_lt] at h1 h2
          omega
        subst h3
        simp [h1]

theorem bl_total : ∀ x y : Bytes, bl x y = false → bl y x = false → x = y := by
  intro x
  induction x with
  | nil => intro y h1 h2; cases y with
    | nil => rfl
    | cons b s => simp [bl] at h1
  | cons a r ih =>
    intro y h1 h2
    cases y with
    | nil => simp [bl] at h2
    | cons b s =>
      unfold bl at h1 h2
      by_cases h : a < b
      · rw [if_pos h] at h1; cases h1
      · by_cases h' : b < a
        · rw [if_pos h'] at h2; cases h2
        · rw [if_neg h, if_neg h'] at h1
          rw [if_neg h', if_neg h] at h2
          have hab : a = b := by
            rw [← UInt8.toNat_inj]
            rw [UInt8.lt_iff_toNat_lt] at h h'
            omega
          rw [hab, ih s h1 h2]

theorem bl_asymm : ∀ x y : Bytes, bl x y = true → bl y x = false := by
  intro x
  induction x with
  | nil => intro y h; cases y <;> rfl
  | cons a r ih =>
    intro y h1
    cases y with
    | nil => simp [bl] at h1
    | cons b s =>
      unfold bl at h1 ⊢
      by_cases h : a < b
      · have h' : ¬ b < a := by rw [UInt8.lt_iff_toNat_lt] at h ⊢; omega
        rw [if_neg h', if_pos h]
      · rw [if_neg h] at h1
        by_cases h' : b < a
        · rw [if_pos h'] at h1; cases h1
        · rw [if_neg h'] at h1
          rw [if_neg h', if_neg h]
          exact ih s h1

theorem bl_irrefl : ∀ x : Bytes, bl x x = false := by
  intro x
  induction x with
  | nil => rfl
  | cons a r ih => unfold bl; rw [if_neg (by rw [UInt8.lt_iff_toNat_lt]; omega), if_neg (by rw [UInt8.lt_iff_toNat_lt]; omega)]; exact ih

theorem less_flip {x y : Bytes} (h : Op.bytesLess y x = true) : Op.bytesLess x y = false ∧ (x == y) = false := by
  rw [bl_eq] at h ⊢
  refine ⟨bl_asymm y x h, ?_⟩
  rw [beq_eq_false_iff_ne]
  rintro rfl
  rw [bl_irrefl] at h
  cases h

theorem less_not {x y : Bytes} (h : Op.bytesLess y x = false) : (Op.bytesLess x y = true ∧ (x == y) = false) ∨ (Op.bytesLess x y = false ∧ (x == y) = true) := by
  cases h2 : Op.bytesLess x y with
  | true => exact .inl ⟨rfl, (by
      have := (less_flip (x := y) (y := x) h2).2
      rw [beq_eq_false_iff_ne] at this ⊢
      exact fun e => this e.symm)⟩
  | false =>
    rw [bl_eq] at h h2
    exact .inr ⟨rfl, by rw [bl_total x y h2 h]; exact beq_self_eq_true _⟩

end Go.Proofs.YtiggnmhoececfaaGreatDoor

namespace Go.Proofs.YtiggnmhoececfaaGreatDoor.PRef
open Go.Proofs.YtiggnmhoececfaaGreatDoor.PRangesTurn
open Go.RowKit Go.Proofs.YtiggnmhoececfaaGreatDoorW.PrintWords Go.Proofs.YtiggnmhoececfaaGreatDoorW.PrintLast Go.Proofs.YtiggnmhoececfaaGreatDoorW.PrintMore
attribute [local go_sem] max2_int min2_int max_two min_two max_three min_three max_four min_four   -- for this text's walks alone
set_option linter.unusedVariables false
set_option linter.unusedSimpArgs false

/-! ### ranges_named: function 29 -/
def ranges_named.l0 : Nat → ByteArray → Int → Int → Option (Bool)
  | 0, _, _, _ => none
  | k + 1, x0, x5, x6 => if x6 < x5 then (if 0 ≤ x6 then (if x6 < (x0.size : Int) then (if (bt x0 x6) < 33 then (some false) else (if (bt x0 x6) > 126 then (some false) else (ranges_named.l0 k x0 x5 (wrap64 (x6 + 1))))) else (none)) else (none)) else (if x0.toList = ([] : List UInt8) then (some false) else (some (decide ((x0.size : Int) ≤ 32))))
def ranges_named.f (k : Nat) (a0 : ByteArray) : Option (Bool) := ranges_named.l0 k a0 (a0.size : Int) 0
theorem ranges_named.mono_l : ∀ k, (∀ y0 y1 y2, LeO (ranges_named.l0 k y0 y1 y2) (ranges_named.l0 (k + 1) y0 y1 y2))
  | 0 => fun _ _ _ r h => by simp [ranges_named.l0] at h
  | k + 1 => by
    have ih0 := ranges_named.mono_l k
    · intro y0 y1 y2
      unfold ranges_named.l0
      repeat' first
      | (with_reducible exact ih0 _ _ _)
      | (with_reducible exact LeO.refl _)
      | (with_reducible exact LeO.none _)
      | (with_reducible refine LeO.ite ?_ ?_)
      | (with_reducible refine LeO.bind ?_ (fun _ => ?_))
      | exact ih0 _ _ _
      | exact LeO.none _
      | refine LeO.ite ?_ ?_
      | refine LeO.bind ?_ (fun _ => ?_)
theorem ranges_named.mono : ∀ a0 k, LeO (ranges_named.f k a0) (ranges_named.f (k + 1) a0) := by
  intro a0 k
  have ih0 := ranges_named.mono_l k
  unfold ranges_named.f
  repeat' first
      | (with_reducible exact ih0 _ _ _)
      | (with_reducible exact LeO.refl _)
      | (with_reducible exact LeO.none _)
      | (with_reducible refine LeO.ite ?_ ?_)
      | (with_reducible refine LeO.bind ?_ (fun _ => ?_))
      | exact ih0 _ _ _
      | exact LeO.none _
      | refine LeO.ite ?_ ?_
      | refine LeO.bind ?_ (fun _ => ?_)
set_option maxHeartbeats 8000000 in
set_option maxRecDepth 100000 in
theorem ranges_named.calls (k : Nat) (a0 : ByteArray) (r : Bool) (w : World) (h : ranges_named.f k a0 = some r) :
    Calls Tryz.prog 29 #[.string a0] w fun e w' => e = .returned (.bool r) ∧ Drawn0 w w' := by
  have H : (ranges_named.l0 k a0 (a0.size : Int) 0) = some r := h
  clear h
  have H' := Aside0.mk H
  clear H
  go_enter Tryz.func29, Tryz.ntmps29
  go_wp2
  go_loopg [6] k (fun kq v6 w' => ∃ (x6_1 : Int), v6 = .int .i64 x6_1 ∧ Aside0 (ranges_named.l0 kq a0 (a0.size : Int) x6_1 = some r) ∧ Aside0 (kq ≤ k) ∧ Drawn0 w w')
  case atStart => exact ⟨(0), (by first | rfl | (simp; done) | (simp [*]; done)), H', ⟨Nat.le_refl _⟩, by repeat (first | exact Drawn0.refl _ | apply Drawn0.step)⟩
  case round =>
    clear H'
    obtain ⟨x6_1, rfl, HA, HK1, ⟨m1, rfl⟩⟩ := hrel
    cases gk with
    | zero => exact absurd HA.out (by simp [ranges_named.l0])
    | succ k1 =>
      have H := HA.out
      clear HA
      simp only [ranges_named.l0] at H
      by_cases c2 : x6_1 < (a0.size : Int)
      · rw [if_pos c2] at H
        have c2b0 : decide (x6_1 < (a0.size : Int)) = true := decide_eq_true c2
        clear c2
        by_cases c3 : 0 ≤ x6_1
        · rw [if_pos c3] at H
          have c3b0 : decide (0 ≤ x6_1) = true := decide_eq_true c3
          clear c3
          by_cases c4 : x6_1 < (a0.size : Int)
          · rw [if_pos c4] at H
            have c4b0 : decide (x6_1 < (a0.size : Int)) = true := decide_eq_true c4
            clear c4
            by_cases c6 : (bt a0 x6_1) < 33
            · rw [if_pos c6] at H
              have c6b0 : decide ((bt a0 x6_1) < 33) = true := decide_eq_true c6
              clear c6
              obtain rfl := Option.some.inj H
              have p5 : 0 ≤ (x6_1 : Int) := of_decide_eq_true (by first | (with_reducible assumption) | assumption)
              have q5 : x6_1 < (a0.size : Int) := of_decide_eq_true (by first | (with_reducible assumption) | assumption)
              have hx5 := bt_at a0 x6_1
              replace p5 := eq_true p5
              replace q5 := eq_true q5
              go_wp2
              go_ret
              exact ⟨by first | rfl | (simp; done) | (simp [*]; done), by repeat (first | exact Drawn0.refl _ | apply Drawn0.step)⟩
            · rw [if_neg c6] at H
              have c6b0 : decide ((bt a0 x6_1) < 33) = false := decide_eq_false c6
              clear c6
              by_cases c8 : (bt a0 x6_1) > 126
              · rw [if_pos c8] at H
                have c8b0 : decide (126 < (bt a0 x6_1)) = true := decide_eq_true c8
                clear c8
                obtain rfl := Option.some.inj H
                have p5 : 0 ≤ (x6_1 : Int) := of_decide_eq_true (by first | (with_reducible assumption) | assumption)
                have q5 : x6_1 < (a0.size : Int) := of_decide_eq_true (by first | (with_reducible assumption) | assumption)
                have hx5 := bt_at a0 x6_1
                replace p5 := eq_true p5
                replace q5 := eq_true q5
                have p7 : 0 ≤ (x6_1 : Int) := of_decide_eq_true (by first | (with_reducible assumption) | assumption)
                have q7 : x6_1 < (a0.size : Int) := of_decide_eq_true (by first | (with_reducible assumption) | assumption)
                have hx7 := bt_at a0 x6_1
                replace p7 := eq_true p7
                replace q7 := eq_true q7
                go_wp2
                go_ret
                exact ⟨by first | rfl | (simp; done) | (simp [*]; done), by repeat (first | exact Drawn0.refl _ | apply Drawn0.step)⟩
              · rw [if_neg c8] at H
                have c8b0 : decide (126 < (bt a0 x6_1)) = false := decide_eq_false c8
                clear c8
                have H' := Aside0.mk H
                clear H
                have p5 : 0 ≤ (x6_1 : Int) := of_decide_eq_true (by first | (with_reducible assumption) | assumption)
                have q5 : x6_1 < (a0.size : Int) := of_decide_eq_true (by first | (with_reducible assumption) | assumption)
                have hx5 := bt_at a0 x6_1
                replace p5 := eq_true p5
                replace q5 := eq_true q5
                have p7 : 0 ≤ (x6_1 : Int) := of_decide_eq_true (by first | (with_reducible assumption) | assumption)
                have q7 : x6_1 < (a0.size : Int) := of_decide_eq_true (by first | (with_reducible assumption) | assumption)
                have hx7 := bt_at a0 x6_1
                replace p7 := eq_true p7
                replace q7 := eq_true q7
                go_wp2
                go_roundg k1
                case measure => have := HK1.out; omega
                case rel => exact ⟨(wrap64 (x6_1 + 1)), (by first | rfl | (simp; done) | (simp [*]; done)), H', ⟨by have := HK1.out; omega⟩, by repeat (first | exact Drawn0.refl _ | apply Drawn0.step)⟩
          · rw [if_neg c4] at H
            exact absurd H (by simp)
        · rw [if_neg c3] at H
          exact absurd H (by simp)
      · rw [if_neg c2] at H
        have c2b0 : decide (x6_1 < (a0.size : Int)) = false := decide_eq_false c2
        clear c2
        by_cases c9 : a0.toList = ([] : List UInt8)
        · rw [if_pos c9] at H
          have c9b0 : (a0.toList == ([] : List UInt8)) = true := beq_iff_eq.mpr c9
          have c9b1 : (a0.toList != ([] : List UInt8)) = false := bne_eq_false_iff_eq.mpr c9
          clear c9
          obtain rfl := Option.some.inj H
          go_wp2
          go_ret
          exact ⟨by first | rfl | (simp; done) | (simp [*]; done), by repeat (first | exact Drawn0.refl _ | apply Drawn0.step)⟩
        · rw [if_neg c9] at H
          have c9b0 : (a0.toList == ([] : List UInt8)) = false := beq_eq_false_iff_ne.mpr c9
          have c9b1 : (a0.toList != ([] : List UInt8)) = true := bne_iff_ne.mpr c9
          obtain rfl := Option.some.inj H
          go_wp2
          go_ret
          exact ⟨by first | rfl | (simp; done) | (simp [*]; done), by repeat (first | exact Drawn0.refl _ | apply Drawn0.step)⟩

end Go.Proofs.YtiggnmhoececfaaGreatDoor.PRef

namespace Go.Proofs.YtiggnmhoececfaaGreatDoor
set_option linter.unusedVariables false
set_option linter.unusedSimpArgs false
open Go.RowKit Go.Proofs.YtiggnmhoececfaaGreatDoorW.PrintWords

/-- ranges.card -/
def cardOk (s : ByteArray) : Bool := isNum s.data.toList && decide (13 ≤ s.size) && decide (s.size ≤ 19)

set_option maxHeartbeats 800000 in
theorem rcard_any (s : ByteArray) (w : World) :
    Calls Tryz.prog 28 #[.string s] w fun e w' => e = .returned (.bool (cardOk s)) ∧ Below w.heap.size w w' := by
  have h1 := is_any s w
  cases hn : isNum s.data.toList with
  | false =>
    rw [show cardOk s = false by unfold cardOk; rw [hn]; rfl]
    rw [hn] at h1
    have H1 := Lib.hid h1
    clear h1 hn
    go_enter Tryz.func28, Tryz.ntmps28
    go_wp2_with (go_at_call 37; go_must (refine H1.out.mono ?_); rintro e w1 ⟨rfl, hb⟩)
    go_ret
    exact ⟨rfl, hb⟩
  | true =>
    rw [hn] at h1
    have H1 := Lib.hid h1
    by_cases h13 : 13 ≤ s.size
    · by_cases h19 : s.size ≤ 19
      · rw [show cardOk s = true by unfold cardOk; rw [hn, decide_eq_true h13, decide_eq_true h19]; rfl]
        have k1 : decide ((13 : Int) ≤ (s.size : Int)) = true := decide_eq_true (by omega)
        have k2 : decide ((s.size : Int) ≤ 19) = true := decide_eq_true (by omega)
        clear h1 hn h13 h19
        go_enter Tryz.func28, Tryz.ntmps28
        go_wp2_with (go_at_call 37; go_must (refine H1.out.mono ?_); rintro e w1 ⟨rfl, hb⟩)
        go_ret
        exact ⟨rfl, hb⟩
      · rw [show cardOk s = false by unfold cardOk; rw [decide_eq_false h19]; simp]
        have k1 : decide ((13 : Int) ≤ (s.size : Int)) = true := decide_eq_true (by omega)
        have k2 : decide ((s.size : Int) ≤ 19) = false := decide_eq_false (by omega)
        clear h1 hn h13 h19
        go_enter Tryz.func28, Tryz.ntmps28
        go_wp2_with (go_at_call 37; go_must (refine H1.out.mono ?_); rintro e w1 ⟨rfl, hb⟩)
        go_ret
        exact ⟨rfl, hb⟩
    · rw [show cardOk s = false by unfold cardOk; rw [decide_eq_false h13]; simp]
      have k1 : decide ((13 : Int) ≤ (s.size : Int)) = false := decide_eq_false (by omega)
      clear h1 hn h13
      go_enter Tryz.func28, Tryz.ntmps28
      go_wp2_with (go_at_call 37; go_must (refine H1.out.mono ?_); rintro e w1 ⟨rfl, hb⟩)
      go_ret
      exact ⟨rfl, hb⟩

theorem cmpInt_nan (x : Int) (w : World) : Calls Tryz.prog 53 #[.int .i64 x] w fun e w' => e = .returned (.bool false) ∧ w = w' := by
  have h : (x != x) = false := by simp
  go_enter Tryz.func53, Tryz.ntmps53
  go_wp2
  go_ret
  exact ⟨rfl, rfl⟩

def cmpZ (x y : Int) : Int := if x < y then -1 else if y < x then 1 else 0

theorem cmpInt_any (x y : Int) (w : World) : Calls Tryz.prog 35 #[.int .i64 x, .int .i64 y] w fun e w' => e = .returned (.int .i64 (cmpZ x y)) ∧ w = w' := by
  have HX := Lib.hid (cmpInt_nan x w)
  have HY := Lib.hid (cmpInt_nan y w)
  by_cases a : x < y
  · rw [show cmpZ x y = -1 by unfold cmpZ; rw [if_pos a]]
    go_enter Tryz.func35, Tryz.ntmps35
    go_wp2_with (go_at_call 53; first | (with_reducible refine HX.out.mono ?_; rintro e w' ⟨rfl, rfl⟩) | (with_reducible refine HY.out.mono ?_; rintro e w' ⟨rfl, rfl⟩))
    go_ret
    exact ⟨rfl, rfl⟩
  · by_cases b : y < x
    · rw [show cmpZ x y = 1 by unfold cmpZ; rw [if_neg a, if_pos b]]
      go_enter Tryz.func35, Tryz.ntmps35
      go_wp2_with (go_at_call 53; first | (with_reducible refine HX.out.mono ?_; rintro e w' ⟨rfl, rfl⟩) | (with_reducible refine HY.out.mono ?_; rintro e w' ⟨rfl, rfl⟩))
      go_ret
      exact ⟨rfl, rfl⟩
    · rw [show cmpZ x y = 0 by unfold cmpZ; rw [if_neg a, if_neg b]]
      go_enter Tryz.func35, Tryz.ntmps35
      go_wp2_with (go_at_call 53; first | (with_reducible refine HX.out.mono ?_; rintro e w' ⟨rfl, rfl⟩) | (with_reducible refine HY.out.mono ?_; rintro e w' ⟨rfl, rfl⟩))
      go_ret
      exact ⟨rfl, rfl⟩

/-- ranges.Cmp -/
def rcmpV (a b : ByteArray) : Int := if a.size = b.size then Lib.compareBytes a.data.toList b.data.toList else cmpZ a.size b.size

theorem rcmp_any (a b : ByteArray) (w : World) : Calls Tryz.prog 11 #[.string a, .string b] w fun e w' => e = .returned (.int .i64 (rcmpV a b)) ∧ w' = w := by
  by_cases h : a.size = b.size
  · have hv : rcmpV a b = Lib.compareBytes a.data.toList b.data.toList := by unfold rcmpV; rw [if_pos h]
    rw [hv]
    clear hv
    have H1 := Lib.hid (Tryz.strings_Compare a b w)
    have k1 : ((a.size : Int) != (b.size : Int)) = false := by simp [h]
    clear h
    go_enter Tryz.func11, Tryz.ntmps11
    go_wp2_with (go_at_call 36; go_must (refine H1.out.mono ?_); rintro e w' ⟨rfl, rfl⟩)
    go_ret
    exact ⟨rfl, rfl⟩
  · have hv : rcmpV a b = cmpZ a.size b.size := by unfold rcmpV; rw [if_neg h]
    rw [hv]
    clear hv
    have H1 := Lib.hid (fun w => cmpInt_any a.size b.size w)
    have k1 : ((a.size : Int) != (b.size : Int)) = true := by simp; omega
    clear h
    go_enter Tryz.func11, Tryz.ntmps11
    go_wp2_with (go_at_call 35; go_must (refine (H1.out _).mono ?_); rintro e w' ⟨rfl, rfl⟩)
    go_ret
    exact ⟨rfl, rfl⟩

/-- a range, as a value -/
abbrev rangeV (f t n lo hi : ByteArray) (m : Int) : Value := .agg #[.string f, .string t, .string n, .string lo, .string hi, .int .i64 m]
abbrev rangeC (f t n lo hi : ByteArray) (m : Int) : List Value := [.string f, .string t, .string n, .string lo, .string hi, .int .i64 m]

/-- ranges.Range.Has -/
def hasV (f t c : ByteArray) : Bool := isNum c.data.toList && (decide (c.size = f.size) && (!(Op.bytesLess c.toList f.toList) && (Op.bytesLess c.toList t.toList || c.toList == t.toList)))

set_option maxHeartbeats 1600000 in
theorem has_any (f t n lo hi c : ByteArray) (m : Int) (w : World) :
    Calls Tryz.prog 12 #[rangeV f t n lo hi m, .string c] w fun e w' => e = .returned (.bool (hasV f t c)) ∧ Below w.heap.size w w' := by
  have hC := CellsAt.new w (rangeC f t n lo hi m) 23
  have HC := Lib.hid hC
  have HB := Lib.hid (below_alloc (Below.refl w.heap.size w) (.cells (rangeC f t n lo hi m).toArray 23))
  have h1 := is_any c (w.alloc (.cells (rangeC f t n lo hi m).toArray 23))
  unfold hasV
  cases hn : isNum c.data.toList with
  | false =>
    rw [hn] at h1
    have H1 := Lib.hid h1
    clear h1 hn hC
    go_enter Tryz.func12, Tryz.ntmps12
    go_wp2_with (go_at_call 37; go_must (refine H1.out.mono ?_); rintro e w1 ⟨rfl, hb⟩)
    go_ret
    exact ⟨rfl, below_step HB.out hb⟩
  | true =>
    rw [hn] at h1
    have H1 := Lib.hid h1
    clear h1 hn hC
    by_cases hs : c.size = f.size
    · have k1 : ((c.size : Int) == (f.size : Int)) = true := by simp [hs]
      rw [decide_eq_true hs]
      clear hs
      cases hl : Op.bytesLess c.toList f.toList with
      | true =>
        go_enter Tryz.func12, Tryz.ntmps12
        go_wp2_with (go_at_call 37; go_must (refine H1.out.mono ?_); rintro e w1 ⟨rfl, hb⟩; have c0 := (HC.out.below hb).get (j := 0) rfl; have c1 := (HC.out.below hb).get (j := 1) rfl)
        go_ret
        exact ⟨rfl, below_step HB.out hb⟩
      | false =>
        have hrest : ∀ q : Bool, (true && (true && (!false && q))) = q := by decide
        rw [hrest]
        clear hrest
        cases hq1 : Op.bytesLess c.toList t.toList with
        | true =>
          go_enter Tryz.func12, Tryz.ntmps12
          go_wp2_with (go_at_call 37; go_must (refine H1.out.mono ?_); rintro e w1 ⟨rfl, hb⟩; have c0 := (HC.out.below hb).get (j := 0) rfl; have c1 := (HC.out.below hb).get (j := 1) rfl)
          go_ret
          exact ⟨rfl, below_step HB.out hb⟩
        | false =>
          cases hq2 : (c.toList == t.toList) with
          | true =>
            go_enter Tryz.func12, Tryz.ntmps12
            go_wp2_with (go_at_call 37; go_must (refine H1.out.mono ?_); rintro e w1 ⟨rfl, hb⟩; have c0 := (HC.out.below hb).get (j := 0) rfl; have c1 := (HC.out.below hb).get (j := 1) rfl)
            go_ret
            exact ⟨rfl, below_step HB.out hb⟩
          | false =>
            go_enter Tryz.func12, Tryz.ntmps12
            go_wp2_with (go_at_call 37; go_must (refine H1.out.mono ?_); rintro e w1 ⟨rfl, hb⟩; have c0 := (HC.out.below hb).get (j := 0) rfl; have c1 := (HC.out.below hb).get (j := 1) rfl)
            go_ret
            exact ⟨rfl, below_step HB.out hb⟩
    · have k1 : ((c.size : Int) == (f.size : Int)) = false := by simp; omega
      rw [decide_eq_false hs]
      clear hs
      go_enter Tryz.func12, Tryz.ntmps12
      go_wp2_with (go_at_call 37; go_must (refine H1.out.mono ?_); rintro e w1 ⟨rfl, hb⟩; have c0 := (HC.out.below hb).get (j := 0) rfl; have c1 := (HC.out.below hb).get (j := 1) rfl)
      go_ret
      exact ⟨rfl, below_step HB.out hb⟩

end Go.Proofs.YtiggnmhoececfaaGreatDoor

namespace Go.Proofs.YtiggnmhoececfaaGreatDoor
set_option linter.unusedVariables false
set_option linter.unusedSimpArgs false
open Go.RowKit

theorem lexc_flip : ∀ l r : List Nat, l.length = r.length → lexc r l = - lexc l r
  | [], [], _ => rfl
  | [], _ :: _, h => by simp at h
  | _ :: _, [], h => by simp at h
  | x :: l, y :: r, h => by
    have ih := lexc_flip l r (by simpa using h)
    simp only [lexc]
    split <;> split <;> (try split) <;> first | omega | rfl | exact ih

theorem lexc_zero : ∀ l r : List Nat, l.length = r.length → (lexc l r = 0 ↔ l = r)
  | [], [], _ => by simp [lexc]
  | [], _ :: _, h => by simp at h
  | _ :: _, [], h => by simp at h
  | x :: l, y :: r, h => by
    have ih := lexc_zero l r (by simpa using h)
    simp only [lexc, List.cons.injEq]
    split
    · constructor
      · intro h; omega
      · rintro ⟨h, _⟩; omega
    · split
      · constructor
        · intro h; omega
        · rintro ⟨h, _⟩; omega
      · rw [ih]
        constructor
        · intro h; exact ⟨by omega, h⟩
        · exact fun h => h.2

end Go.Proofs.YtiggnmhoececfaaGreatDoor

namespace Go.Proofs.YtiggnmhoececfaaGreatDoor.PRef
open Go.Proofs.YtiggnmhoececfaaGreatDoor.PRangesTurn
open Go.RowKit Go.Proofs.YtiggnmhoececfaaGreatDoorW.PrintWords Go.Proofs.YtiggnmhoececfaaGreatDoorW.PrintLast Go.Proofs.YtiggnmhoececfaaGreatDoorW.PrintMore
attribute [local go_sem] max2_int min2_int max_two min_two max_three min_three max_four min_four   -- for this text's walks alone
set_option linter.unusedVariables false
set_option linter.unusedSimpArgs false

/-! ### cashierref17_Parse: function 33 -/
mutual
def cashierref17_Parse.l0 : Nat → ByteArray → List Int → ByteArray → Int → Option (List Int × Bool)
  | 0, _, _, _, _ => none
  | k + 1, x0, x4, x5, x6 => if x6 ≤ (x0.size : Int) then (if x6 < (x0.size : Int) then (if 0 ≤ x6 then (cashierref17_Parse.j1 k x0 x4 x5 x6 ((bt x0 x6) != 46)) else (none)) else (cashierref17_Parse.j1 k x0 x4 x5 x6 false)) else (some (x4, ((x4.length : Int) == 3)))
def cashierref17_Parse.j1 : Nat → ByteArray → List Int → ByteArray → Int → Bool → Option (List Int × Bool)
  | 0, _, _, _, _, _ => none
  | k + 1, x0, x4, x5, x6, x24 => if x24 = true then (if 0 ≤ x6 then (if x6 ≤ (wrap64 (x6 + 1)) then (if (wrap64 (x6 + 1)) ≤ (x0.size : Int) then (if x5.size + (x0.extract (x6 : Int).toNat ((wrap64 (x6 + 1)) : Int).toNat).size ≤ 9223372036854775807 then (cashierref17_Parse.l0 k x0 x4 (x5 ++ (x0.extract (x6 : Int).toNat ((wrap64 (x6 + 1)) : Int).toNat)) (wrap64 (x6 + 1))) else (none)) else (none)) else (none)) else (none)) else ((cashierref03_Number.f k x5).bind fun bt188 => ((cashierref03_Is.f k x5).bind fun t190 => (if t190 = true then (if bt188.2 = true then (if bt188.1 > 65535 then (some (([] : List Int), false)) else ((cashierref03_Dec.f k bt188.1).bind fun t191 => (if t191.toList = x5.toList then (if x4.length < 17592186044416 then (cashierref17_Parse.l0 k x0 (x4 ++ [wrap64 (bt188.1)]) (⟨#[]⟩ : ByteArray) (wrap64 (x6 + 1))) else (none)) else (some (([] : List Int), false))))) else (some (([] : List Int), false))) else (some (([] : List Int), false)))))
end
def cashierref17_Parse.f (k : Nat) (a0 : ByteArray) : Option (List Int × Bool) := cashierref17_Parse.l0 k a0 ([] : List Int) (⟨#[]⟩ : ByteArray) 0
theorem cashierref17_Parse.mono_l : ∀ k, (∀ y0 y1 y2 y3, LeO (cashierref17_Parse.l0 k y0 y1 y2 y3) (cashierref17_Parse.l0 (k + 1) y0 y1 y2 y3)) ∧ (∀ y0 y1 y2 y3 y4, LeO (cashierref17_Parse.j1 k y0 y1 y2 y3 y4) (cashierref17_Parse.j1 (k + 1) y0 y1 y2 y3 y4))
  | 0 => ⟨fun _ _ _ _ r h => by simp [cashierref17_Parse.l0] at h, fun _ _ _ _ _ r h => by simp [cashierref17_Parse.j1] at h⟩
  | k + 1 => by
    obtain ⟨ih0, ih1⟩ := cashierref17_Parse.mono_l k
    refine ⟨?_, ?_⟩
    · intro y0 y1 y2 y3
      unfold cashierref17_Parse.l0
      repeat' first
      | (with_reducible exact ih0 _ _ _ _)
      | (with_reducible exact ih1 _ _ _ _ _)
      | (with_reducible exact cashierref03_Dec.mono _ _)
      | (with_reducible exact cashierref03_Is.mono _ _)
      | (with_reducible exact cashierref03_Number.mono _ _)
      | (with_reducible exact LeO.refl _)
      | (with_reducible exact LeO.none _)
      | (with_reducible refine LeO.ite ?_ ?_)
      | (with_reducible refine LeO.bind ?_ (fun _ => ?_))
      | exact ih0 _ _ _ _
      | exact ih1 _ _ _ _ _
      | exact cashierref03_Dec.mono _ _
      | exact cashierref03_Is.mono _ _
      | exact cashierref03_Number.mono _ _
      | exact LeO.none _
      | refine LeO.ite ?_ ?_
      | refine LeO.bind ?_ (fun _ => ?_)
    · intro y0 y1 y2 y3 y4
      unfold cashierref17_Parse.j1
      repeat' first
      | (with_reducible exact ih0 _ _ _ _)
      | (with_reducible exact ih1 _ _ _ _ _)
      | (with_reducible exact cashierref03_Dec.mono _ _)
      | (with_reducible exact cashierref03_Is.mono _ _)
      | (with_reducible exact cashierref03_Number.mono _ _)
      | (with_reducible exact LeO.refl _)
      | (with_reducible exact LeO.none _)
      | (with_reducible refine LeO.ite ?_ ?_)
      | (with_reducible refine LeO.bind ?_ (fun _ => ?_))
      | exact ih0 _ _ _ _
      | exact ih1 _ _ _ _ _
      | exact cashierref03_Dec.mono _ _
      | exact cashierref03_Is.mono _ _
      | exact cashierref03_Number.mono _ _
      | exact LeO.none _
      | refine LeO.ite ?_ ?_
      | refine LeO.bind ?_ (fun _ => ?_)
theorem cashierref17_Parse.mono : ∀ a0 k, LeO (cashierref17_Parse.f k a0) (cashierref17_Parse.f (k + 1) a0) := by
  intro a0 k
  obtain ⟨ih0, ih1⟩ := cashierref17_Parse.mono_l k
  unfold cashierref17_Parse.f
  repeat' first
      | (with_reducible exact ih0 _ _ _ _)
      | (with_reducible exact ih1 _ _ _ _ _)
      | (with_reducible exact cashierref03_Dec.mono _ _)
      | (with_reducible exact cashierref03_Is.mono _ _)
      | (with_reducible exact cashierref03_Number.mono _ _)
      | (with_reducible exact LeO.refl _)
      | (with_reducible exact LeO.none _)
      | (with_reducible refine LeO.ite ?_ ?_)
      | (with_reducible refine LeO.bind ?_ (fun _ => ?_))
      | exact ih0 _ _ _ _
      | exact ih1 _ _ _ _ _
      | exact cashierref03_Dec.mono _ _
      | exact cashierref03_Is.mono _ _
      | exact cashierref03_Number.mono _ _
      | exact LeO.none _
      | refine LeO.ite ?_ ?_
      | refine LeO.bind ?_ (fun _ => ?_)
set_option maxHeartbeats 8000000 in
set_option maxRecDepth 100000 in
theorem cashierref17_Parse.calls (k : Nat) (a0 : ByteArray) (r1 : List Int) (r2 : Bool) (w : World) (h : cashierref17_Parse.f k a0 = some (r1, r2)) :
    Calls Tryz.prog 33 #[.string a0] w fun e w' => ∃ v0_ : Value, e = .returned (.tuple #[v0_, .bool r2]) ∧ Kd.R (Kd.int .i64) 3 w' w.heap.size (fun _ => True) v0_ r1 ∧ Below w.heap.size w w' := by
  have HB := Aside0.mk (Below.refl w.heap.size w)
  have H : (cashierref17_Parse.l0 k a0 ([] : List Int) (⟨#[]⟩ : ByteArray) 0) = some (r1, r2) := h
  clear h
  have H' := Aside0.mk H
  clear H
  go_enter Tryz.func33, Tryz.ntmps33
  go_wp2
  go_loopg [4, 5, 6] k (fun kq v4 v5 v6 w' => ∃ (x4_1 : List Int) (x5_1 : ByteArray) (x6_1 : Int), v5 = .string x5_1 ∧ v6 = .int .i64 x6_1 ∧ Aside0 (cashierref17_Parse.l0 kq a0 x4_1 x5_1 x6_1 = some (r1, r2)) ∧ Aside0 (kq ≤ k) ∧ Aside0 (Kd.R (Kd.int .i64) 3 w' w.heap.size (fun _ => True) v4 x4_1) ∧ Aside0 (Below w.heap.size w w'))
  case atStart => exact ⟨(([] : List Int)), ((⟨#[]⟩ : ByteArray)), (0), (by first | rfl | (simp; done) | (simp [*]; done)), (by first | rfl | (simp; done) | (simp [*]; done)), H', ⟨Nat.le_refl _⟩, ⟨by first | exact Kd.R_nil _ _ _ _ _ | exact Kd.N_nil _ _ _ _ _ | exact Kd.V_nil _ _ _ _ _ | exact Kd.Q_nil _ _ _ _ _ | exact Kd.S_nil _ _ _ _ _⟩, ⟨by repeat (first | (with_reducible first | exact HB.out | apply below_alloc | apply pw_below_drewN | apply below_drew1) | exact HB.out)⟩⟩
  case round =>
    clear H'
    obtain ⟨x4_1, x5_1, x6_1, rfl, rfl, HA, HK1, HO_4, HB⟩ := hrel
    cases gk with
    | zero => exact absurd HA.out (by simp [cashierref17_Parse.l0])
    | succ k1 =>
      have H := HA.out
      clear HA
      simp only [cashierref17_Parse.l0] at H
      by_cases c2 : x6_1 ≤ (a0.size : Int)
      · rw [if_pos c2] at H
        have c2b0 : decide (x6_1 ≤ (a0.size : Int)) = true := decide_eq_true c2
        clear c2
        have HC3 := Aside0.mk H
        clear H
        go_upto_region 6 with (fail)
        go_cut [24] (fun v24 wc => ∃ (kq : Nat) (x24_2 : Bool), v24 = .bool x24_2 ∧ Aside0 (cashierref17_Parse.j1 kq a0 x4_1 x5_1 x6_1 x24_2 = some (r1, r2)) ∧ Aside0 (kq ≤ k1) ∧ Aside0 (Kd.R (Kd.int .i64) 3 wc w.heap.size (fun _ => True) u4 x4_1) ∧ Aside0 (Below w.heap.size w wc))
        case first =>
          have H := HC3.out
          clear HC3
          by_cases c4 : x6_1 < (a0.size : Int)
          · rw [if_pos c4] at H
            have c4b0 : decide (x6_1 < (a0.size : Int)) = true := decide_eq_true c4
            clear c4
            (first | rw [c4b0] | (simp only [i64_w, i32_w]; rw [c4b0]) | skip)
            by_cases c5 : 0 ≤ x6_1
            · rw [if_pos c5] at H
              have c5b0 : decide (0 ≤ x6_1) = true := decide_eq_true c5
              clear c5
              have H' := Aside0.mk H
              clear H
              have p6 : 0 ≤ (x6_1 : Int) := of_decide_eq_true (by first | (with_reducible assumption) | assumption)
              have q6 : x6_1 < (a0.size : Int) := of_decide_eq_true (by first | (with_reducible assumption) | assumption)
              have hx6 := bt_at a0 x6_1
              replace p6 := eq_true p6
              replace q6 := eq_true q6
              go_wp2
              go_meet
              case rel => exact ⟨_, (((bt a0 x6_1) != 46)), (by first | rfl | (simp; done) | (simp [*]; done)), H', ⟨by have := HK1.out; first | omega | exact Nat.le_refl _⟩, ⟨by (with_reducible repeat (first | apply Kd.R_alloc | apply Kd.R_drewN | apply Kd.R_drew)); exact HO_4.out⟩, ⟨by repeat (first | (with_reducible first | exact HB.out | apply below_alloc | apply pw_below_drewN | apply below_drew1) | exact HB.out)⟩⟩
            · rw [if_neg c5] at H
              exact absurd H (by simp)
          · rw [if_neg c4] at H
            have c4b0 : decide (x6_1 < (a0.size : Int)) = false := decide_eq_false c4
            clear c4
            (first | rw [c4b0] | (simp only [i64_w, i32_w]; rw [c4b0]) | skip)
            have H' := Aside0.mk H
            clear H
            go_wp2
            go_meet
            case rel => exact ⟨_, (false), (by first | rfl | (simp; done) | (simp [*]; done)), H', ⟨by have := HK1.out; first | omega | exact Nat.le_refl _⟩, ⟨by (with_reducible repeat (first | apply Kd.R_alloc | apply Kd.R_drewN | apply Kd.R_drew)); exact HO_4.out⟩, ⟨by repeat (first | (with_reducible first | exact HB.out | apply below_alloc | apply pw_below_drewN | apply below_drew1) | exact HB.out)⟩⟩
        case rest =>
          clear HC3
          try clear c2
          try clear c2b0
          try clear p2
          try clear c3
          try clear c4
          try clear c4b0
          try clear c5
          try clear c5b0
          try clear p6
          try clear q6
          try clear hx6
          try clear p6
          try clear q6
          obtain ⟨kq, x24_2, rfl, HA, HJ2, HO_4, HB⟩ := hcut
          cases kq with
          | zero => exact absurd HA.out (by simp [cashierref17_Parse.j1])
          | succ kj2 =>
            have H := HA.out
            clear HA
            simp only [cashierref17_Parse.j1] at H
            by_cases c7 : x24_2 = true
            · subst c7
              have H1 : (if 0 ≤ x6_1 then (if x6_1 ≤ (wrap64 (x6_1 + 1)) then (if (wrap64 (x6_1 + 1)) ≤ (a0.size : Int) then (if x5_1.size + (a0.extract (x6_1 : Int).toNat ((wrap64 (x6_1 + 1)) : Int).toNat).size ≤ 9223372036854775807 then (cashierref17_Parse.l0 kj2 a0 x4_1 (x5_1 ++ (a0.extract (x6_1 : Int).toNat ((wrap64 (x6_1 + 1)) : Int).toNat)) (wrap64 (x6_1 + 1))) else (none)) else (none)) else (none)) else (none)) = some (r1, r2) := by rw [if_pos rfl] at H; exact H
              clear H
              have H := H1
              clear H1
              by_cases c8 : 0 ≤ x6_1
              · rw [if_pos c8] at H
                have c8b0 := eq_true c8
                have c8b1 : decide (0 ≤ x6_1) = true := decide_eq_true c8
                clear c8
                by_cases c9 : x6_1 ≤ (wrap64 (x6_1 + 1))
                · rw [if_pos c9] at H
                  have c9b0 := eq_true c9
                  have c9b1 : decide (x6_1 ≤ (wrap64 (x6_1 + 1))) = true := decide_eq_true c9
                  by_cases c10 : (wrap64 (x6_1 + 1)) ≤ (a0.size : Int)
                  · rw [if_pos c10] at H
                    have c10b0 := eq_true c10
                    have c10b1 : decide ((wrap64 (x6_1 + 1)) ≤ (a0.size : Int)) = true := decide_eq_true c10
                    by_cases c11 : x5_1.size + (a0.extract (x6_1 : Int).toNat ((wrap64 (x6_1 + 1)) : Int).toNat).size ≤ 9223372036854775807
                    · rw [if_pos c11] at H
                      have c11b0 := eq_true c11
                      have c11b1 : decide (x5_1.size + (a0.extract (x6_1 : Int).toNat ((wrap64 (x6_1 + 1)) : Int).toNat).size ≤ 9223372036854775807) = true := decide_eq_true c11
                      try have c11b2 : (9223372036854775807 < x5_1.size + (a0.extract (x6_1 : Int).toNat ((wrap64 (x6_1 + 1)) : Int).toNat).size) = False := eq_false (Nat.not_lt.2 c11)
                      have H' := Aside0.mk H
                      clear H
                      go_wp2
                      go_roundg kj2
                      case measure => have := HK1.out; have := HJ2.out; omega
                      case rel => exact ⟨(x4_1), (x5_1 ++ (a0.extract (x6_1 : Int).toNat ((wrap64 (x6_1 + 1)) : Int).toNat)), (wrap64 (x6_1 + 1)), (by first | rfl | (simp; done) | (simp [*]; done)), (by first | rfl | (simp; done) | (simp [*]; done)), H', ⟨by have := HK1.out; have := HJ2.out; omega⟩, ⟨by (with_reducible repeat (first | apply Kd.R_alloc | apply Kd.R_drewN | apply Kd.R_drew)); exact HO_4.out⟩, ⟨by repeat (first | (with_reducible first | exact HB.out | apply below_alloc | apply pw_below_drewN | apply below_drew1) | exact HB.out)⟩⟩
                    · rw [if_neg c11] at H
                      exact absurd H (by simp)
                  · rw [if_neg c10] at H
                    exact absurd H (by simp)
                · rw [if_neg c9] at H
                  exact absurd H (by simp)
              · rw [if_neg c8] at H
                exact absurd H (by simp)
            · replace c7 := Bool.eq_false_iff.mpr c7
              subst c7
              have H1 : ((cashierref03_Number.f kj2 x5_1).bind fun bt188 => ((cashierref03_Is.f kj2 x5_1).bind fun t190 => (if t190 = true then (if bt188.2 = true then (if bt188.1 > 65535 then (some (([] : List Int), false)) else ((cashierref03_Dec.f kj2 bt188.1).bind fun t191 => (if t191.toList = x5_1.toList then (if x4_1.length < 17592186044416 then (cashierref17_Parse.l0 kj2 a0 (x4_1 ++ [wrap64 (bt188.1)]) (⟨#[]⟩ : ByteArray) (wrap64 (x6_1 + 1))) else (none)) else (some (([] : List Int), false))))) else (some (([] : List Int), false))) else (some (([] : List Int), false))))) = some (r1, r2) := by rw [if_neg (show ¬ (false = true) by decide)] at H; exact H
              clear H
              have H := H1
              clear H1
              replace H := Option.bind_eq_some_iff.mp H
              obtain ⟨⟨t188, t189⟩, A120, H⟩ := H
              replace H : ((cashierref03_Is.f kj2 x5_1).bind fun t190 => (if t190 = true then (if t189 = true then (if t188 > 65535 then (some (([] : List Int), false)) else ((cashierref03_Dec.f kj2 t188).bind fun t191 => (if t191.toList = x5_1.toList then (if x4_1.length < 17592186044416 then (cashierref17_Parse.l0 kj2 a0 (x4_1 ++ [wrap64 (t188)]) (⟨#[]⟩ : ByteArray) (wrap64 (x6_1 + 1))) else (none)) else (some (([] : List Int), false))))) else (some (([] : List Int), false))) else (some (([] : List Int), false)))) = some (r1, r2) := H
              have A12 := Aside0.mk A120
              clear A120
              replace H := Option.bind_eq_some_iff.mp H
              obtain ⟨t190, A130, H⟩ := H
              replace H : (if t190 = true then (if t189 = true then (if t188 > 65535 then (some (([] : List Int), false)) else ((cashierref03_Dec.f kj2 t188).bind fun t191 => (if t191.toList = x5_1.toList then (if x4_1.length < 17592186044416 then (cashierref17_Parse.l0 kj2 a0 (x4_1 ++ [wrap64 (t188)]) (⟨#[]⟩ : ByteArray) (wrap64 (x6_1 + 1))) else (none)) else (some (([] : List Int), false))))) else (some (([] : List Int), false))) else (some (([] : List Int), false))) = some (r1, r2) := H
              have A13 := Aside0.mk A130
              clear A130
              by_cases c14 : t190 = true
              · subst c14
                have H1 : (if t189 = true then (if t188 > 65535 then (some (([] : List Int), false)) else ((cashierref03_Dec.f kj2 t188).bind fun t191 => (if t191.toList = x5_1.toList then (if x4_1.length < 17592186044416 then (cashierref17_Parse.l0 kj2 a0 (x4_1 ++ [wrap64 (t188)]) (⟨#[]⟩ : ByteArray) (wrap64 (x6_1 + 1))) else (none)) else (some (([] : List Int), false))))) else (some (([] : List Int), false))) = some (r1, r2) := by rw [if_pos rfl] at H; exact H
                clear H
                have H := H1
                clear H1
                by_cases c15 : t189 = true
                · subst c15
                  have H1 : (if t188 > 65535 then (some (([] : List Int), false)) else ((cashierref03_Dec.f kj2 t188).bind fun t191 => (if t191.toList = x5_1.toList then (if x4_1.length < 17592186044416 then (cashierref17_Parse.l0 kj2 a0 (x4_1 ++ [wrap64 (t188)]) (⟨#[]⟩ : ByteArray) (wrap64 (x6_1 + 1))) else (none)) else (some (([] : List Int), false))))) = some (r1, r2) := by rw [if_pos rfl] at H; exact H
                  clear H
                  have H := H1
                  clear H1
                  by_cases c16 : t188 > 65535
                  · rw [if_pos c16] at H
                    have c16b0 : decide (65535 < t188) = true := decide_eq_true c16
                    clear c16
                    simp only [Option.some.injEq, Prod.mk.injEq] at H
                    obtain ⟨rfl, rfl⟩ := H
                    go_wp2_with (first | ((with_reducible refine gate_callee (f := 51) rfl ?_); refine goesL_ (some 34) rfl rfl Tryz.func51 (by kernel_rfl) rfl #[.string x5_1] rfl (by (try simp only [List.map_toArray, List.map_cons, List.map_nil]); first | done | rfl | (simp only [List.length_drop, List.length_take]; rfl)) ?_; (with_reducible refine (cashierref03_Number.calls kj2 x5_1 t188 true _ A12.out).mono ?_); rintro e w' ⟨rfl, ⟨nd, rfl⟩⟩; refine ⟨_, rfl, ?_⟩) | ((with_reducible refine gate_callee (f := 31) rfl ?_); refine goesL_ (some 38) rfl rfl Tryz.func31 (by kernel_rfl) rfl #[.string x5_1] rfl (by (try simp only [List.map_toArray, List.map_cons, List.map_nil]); first | done | rfl | (simp only [List.length_drop, List.length_take]; rfl)) ?_; (with_reducible refine (cashierref03_Is.calls kj2 x5_1 true _ A13.out).mono ?_); rintro e w' ⟨rfl, ⟨nd, rfl⟩⟩; refine ⟨_, rfl, ?_⟩))
                    go_ret2
                    exact ⟨_, by first | rfl | (simp [errW_none, errW_some] <;> rfl) | (simp [*, errW_none, errW_some] <;> rfl), by first | exact Kd.R_nil _ _ _ _ _ | exact Kd.N_nil _ _ _ _ _ | exact Kd.V_nil _ _ _ _ _ | exact Kd.Q_nil _ _ _ _ _ | exact Kd.S_nil _ _ _ _ _, by repeat (first | (with_reducible first | exact HB.out | apply below_alloc | apply pw_below_drewN | apply below_drew1) | exact HB.out)⟩
                  · rw [if_neg c16] at H
                    have c16b0 : decide (65535 < t188) = false := decide_eq_false c16
                    clear c16
                    replace H := Option.bind_eq_some_iff.mp H
                    obtain ⟨t191, A170, H⟩ := H
                    replace H : (if t191.toList = x5_1.toList then (if x4_1.length < 17592186044416 then (cashierref17_Parse.l0 kj2 a0 (x4_1 ++ [wrap64 (t188)]) (⟨#[]⟩ : ByteArray) (wrap64 (x6_1 + 1))) else (none)) else (some (([] : List Int), false))) = some (r1, r2) := H
                    have A17 := Aside0.mk A170
                    clear A170
                    by_cases c18 : t191.toList = x5_1.toList
                    · rw [if_pos c18] at H
                      have c18b0 : (t191.toList == x5_1.toList) = true := beq_iff_eq.mpr c18
                      have c18b1 : (t191.toList != x5_1.toList) = false := bne_eq_false_iff_eq.mpr c18
                      clear c18
                      by_cases c19 : x4_1.length < 17592186044416
                      · rw [if_pos c19] at H
                        have LMc19 := Aside0.mk c19
                        clear c19
                        obtain ⟨y192, hy192⟩ : ∃ y_ : List Int, y_ = (x4_1 ++ [wrap64 (t188)]) := ⟨_, rfl⟩
                        replace H : (cashierref17_Parse.l0 kj2 a0 y192 (⟨#[]⟩ : ByteArray) (wrap64 (x6_1 + 1))) = some (r1, r2) := by first | (rw [hy192]; with_reducible exact H) | (have H2_ := (Option.bind_some _ _).symm.trans H; rw [hy192]; with_reducible exact H2_) | (have H2_ := (Option.bind_some _ _).symm.trans H; with_reducible exact H2_) | with_reducible exact H | (rw [hy192]; exact H) | exact H
                        have Ny192 := Aside0.mk hy192
                        clear hy192
                        have H' := Aside0.mk H
                        clear H
                        go_wp2_with (first | ((with_reducible refine gate_callee (f := 51) rfl ?_); refine goesL_ (some 34) rfl rfl Tryz.func51 (by kernel_rfl) rfl #[.string x5_1] rfl (by (try simp only [List.map_toArray, List.map_cons, List.map_nil]); first | done | rfl | (simp only [List.length_drop, List.length_take]; rfl)) ?_; (with_reducible refine (cashierref03_Number.calls kj2 x5_1 t188 true _ A12.out).mono ?_); rintro e w' ⟨rfl, ⟨nd, rfl⟩⟩; refine ⟨_, rfl, ?_⟩) | ((with_reducible refine gate_callee (f := 31) rfl ?_); refine goesL_ (some 38) rfl rfl Tryz.func31 (by kernel_rfl) rfl #[.string x5_1] rfl (by (try simp only [List.map_toArray, List.map_cons, List.map_nil]); first | done | rfl | (simp only [List.length_drop, List.length_take]; rfl)) ?_; (with_reducible refine (cashierref03_Is.calls kj2 x5_1 true _ A13.out).mono ?_); rintro e w' ⟨rfl, ⟨nd, rfl⟩⟩; refine ⟨_, rfl, ?_⟩) | (go_at_call 52; (with_reducible refine (cashierref03_Dec.calls kj2 t188 t191 _ A17.out).mono ?_); rintro e w20 ⟨rfl, hb⟩; have n0_ := Aside0.mk (Kd.R_below (by (with_reducible repeat (first | apply Kd.R_alloc | apply Kd.R_drewN | apply Kd.R_drew)); exact HO_4.out) hb); have n1_ := Aside0.mk (below_step (by repeat (first | (with_reducible first | exact HB.out | apply below_alloc | apply pw_below_drewN | apply below_drew1) | exact HB.out)) hb); clear HO_4; clear HB; have HO_4 := n0_; have HB := n1_; clear n0_ n1_; (try clear hb); (try clear hb2); (try clear hk); (try clear hi)) | ((with_reducible refine gate_builtin (b := .append) (xs := #[.tmp 54, .tmp 57]) rfl ?_); at_builtin; refine Kd.R_append (Kd.int .i64) (w0 := w) w.heap.size rfl (.tmp 54) (.tmp 57) 60 3 (.int .i64 0) 8 rfl Tryz.underlying60 info3 rfl (by decide) (by omega) u4 x4_1 (wrap64 (t188)) [.int .i64 (wrap64 (t188))] (fun _ => True) (fun _ => False) rfl rfl ?aP (fun _ hk => hk.elim) ?aF ?aO ?aB ?aS ?aL ?_; (case aP => exact rfl); (case aB => exact (by repeat (first | (with_reducible first | exact HB.out | apply below_alloc | apply pw_below_drewN | apply below_drew1) | exact HB.out))); (case aF => exact (fun _ _ => trivial)); (case aO => exact (by (with_reducible repeat (first | apply Kd.R_alloc | apply Kd.R_drewN | apply Kd.R_drew)); exact HO_4.out)); (case aS => exact (below_size (by repeat (first | (with_reducible first | exact HB.out | apply below_alloc | apply pw_below_drewN | apply below_drew1) | exact HB.out)))); (case aL => have := LMc19.out; omega); intro v193 w21 ho hb hg hat; rw [← Ny192.out] at ho; have n0_ := Aside0.mk (hb); have n1_ := Aside0.mk (ho); clear HB; clear HO_4; have HB := n0_; have HO194 := n1_; clear n0_ n1_; clear ho hb hg hat))
                        go_roundg kj2
                        case measure => have := HK1.out; have := HJ2.out; omega
                        case rel => exact ⟨(y192), ((⟨#[]⟩ : ByteArray)), (wrap64 (x6_1 + 1)), (by first | rfl | (simp; done) | (simp [*]; done)), (by first | rfl | (simp; done) | (simp [*]; done)), H', ⟨by have := HK1.out; have := HJ2.out; omega⟩, ⟨by (with_reducible repeat (first | apply Kd.R_alloc | apply Kd.R_drewN | apply Kd.R_drew)); exact HO194.out⟩, ⟨by repeat (first | (with_reducible first | exact HB.out | apply below_alloc | apply pw_below_drewN | apply below_drew1) | exact HB.out)⟩⟩
                      · rw [if_neg c19] at H
                        exact absurd H (by simp)
                    · rw [if_neg c18] at H
                      have c18b0 : (t191.toList == x5_1.toList) = false := beq_eq_false_iff_ne.mpr c18
                      have c18b1 : (t191.toList != x5_1.toList) = true := bne_iff_ne.mpr c18
                      simp only [Option.some.injEq, Prod.mk.injEq] at H
                      obtain ⟨rfl, rfl⟩ := H
                      go_wp2_with (first | ((with_reducible refine gate_callee (f := 51) rfl ?_); refine goesL_ (some 34) rfl rfl Tryz.func51 (by kernel_rfl) rfl #[.string x5_1] rfl (by (try simp only [List.map_toArray, List.map_cons, List.map_nil]); first | done | rfl | (simp only [List.length_drop, List.length_take]; rfl)) ?_; (with_reducible refine (cashierref03_Number.calls kj2 x5_1 t188 true _ A12.out).mono ?_); rintro e w' ⟨rfl, ⟨nd, rfl⟩⟩; refine ⟨_, rfl, ?_⟩) | ((with_reducible refine gate_callee (f := 31) rfl ?_); refine goesL_ (some 38) rfl rfl Tryz.func31 (by kernel_rfl) rfl #[.string x5_1] rfl (by (try simp only [List.map_toArray, List.map_cons, List.map_nil]); first | done | rfl | (simp only [List.length_drop, List.length_take]; rfl)) ?_; (with_reducible refine (cashierref03_Is.calls kj2 x5_1 true _ A13.out).mono ?_); rintro e w' ⟨rfl, ⟨nd, rfl⟩⟩; refine ⟨_, rfl, ?_⟩) | (go_at_call 52; (with_reducible refine (cashierref03_Dec.calls kj2 t188 t191 _ A17.out).mono ?_); rintro e w22 ⟨rfl, hb⟩; have n0_ := Aside0.mk (Kd.R_below (by (with_reducible repeat (first | apply Kd.R_alloc | apply Kd.R_drewN | apply Kd.R_drew)); exact HO_4.out) hb); have n1_ := Aside0.mk (below_step (by repeat (first | (with_reducible first | exact HB.out | apply below_alloc | apply pw_below_drewN | apply below_drew1) | exact HB.out)) hb); clear HO_4; clear HB; have HO_4 := n0_; have HB := n1_; clear n0_ n1_; (try clear hb); (try clear hb2); (try clear hk); (try clear hi)))
                      go_ret2
                      exact ⟨_, by first | rfl | (simp [errW_none, errW_some] <;> rfl) | (simp [*, errW_none, errW_some] <;> rfl), by first | exact Kd.R_nil _ _ _ _ _ | exact Kd.N_nil _ _ _ _ _ | exact Kd.V_nil _ _ _ _ _ | exact Kd.Q_nil _ _ _ _ _ | exact Kd.S_nil _ _ _ _ _, by repeat (first | (with_reducible first | exact HB.out | apply below_alloc | apply pw_below_drewN | apply below_drew1) | exact HB.out)⟩
                · replace c15 := Bool.eq_false_iff.mpr c15
                  subst c15
                  have H1 : (some (([] : List Int), false)) = some (r1, r2) := by rw [if_neg (show ¬ (false = true) by decide)] at H; exact H
                  clear H
                  have H := H1
                  clear H1
                  simp only [Option.some.injEq, Prod.mk.injEq] at H
                  obtain ⟨rfl, rfl⟩ := H
                  go_wp2_with (first | ((with_reducible refine gate_callee (f := 51) rfl ?_); refine goesL_ (some 34) rfl rfl Tryz.func51 (by kernel_rfl) rfl #[.string x5_1] rfl (by (try simp only [List.map_toArray, List.map_cons, List.map_nil]); first | done | rfl | (simp only [List.length_drop, List.length_take]; rfl)) ?_; (with_reducible refine (cashierref03_Number.calls kj2 x5_1 t188 false _ A12.out).mono ?_); rintro e w' ⟨rfl, ⟨nd, rfl⟩⟩; refine ⟨_, rfl, ?_⟩) | ((with_reducible refine gate_callee (f := 31) rfl ?_); refine goesL_ (some 38) rfl rfl Tryz.func31 (by kernel_rfl) rfl #[.string x5_1] rfl (by (try simp only [List.map_toArray, List.map_cons, List.map_nil]); first | done | rfl | (simp only [List.length_drop, List.length_take]; rfl)) ?_; (with_reducible refine (cashierref03_Is.calls kj2 x5_1 true _ A13.out).mono ?_); rintro e w' ⟨rfl, ⟨nd, rfl⟩⟩; refine ⟨_, rfl, ?_⟩))
                  go_ret2
                  exact ⟨_, by first | rfl | (simp [errW_none, errW_some] <;> rfl) | (simp [*, errW_none, errW_some] <;> rfl), by first | exact Kd.R_nil _ _ _ _ _ | exact Kd.N_nil _ _ _ _ _ | exact Kd.V_nil _ _ _ _ _ | exact Kd.Q_nil _ _ _ _ _ | exact Kd.S_nil _ _ _ _ _, by repeat (first | (with_reducible first | exact HB.out | apply below_alloc | apply pw_below_drewN | apply below_drew1) | exact HB.out)⟩
              · replace c14 := Bool.eq_false_iff.mpr c14
                subst c14
                have H1 : (some (([] : List Int), false)) = some (r1, r2) := by rw [if_neg (show ¬ (false = true) by decide)] at H; exact H
                clear H
                have H := H1
                clear H1
                simp only [Option.some.injEq, Prod.mk.injEq] at H
                obtain ⟨rfl, rfl⟩ := H
                go_wp2_with (first | ((with_reducible refine gate_callee (f := 51) rfl ?_); refine goesL_ (some 34) rfl rfl Tryz.func51 (by kernel_rfl) rfl #[.string x5_1] rfl (by (try simp only [List.map_toArray, List.map_cons, List.map_nil]); first | done | rfl | (simp only [List.length_drop, List.length_take]; rfl)) ?_; (with_reducible refine (cashierref03_Number.calls kj2 x5_1 t188 t189 _ A12.out).mono ?_); rintro e w' ⟨rfl, ⟨nd, rfl⟩⟩; refine ⟨_, rfl, ?_⟩) | ((with_reducible refine gate_callee (f := 31) rfl ?_); refine goesL_ (some 38) rfl rfl Tryz.func31 (by kernel_rfl) rfl #[.string x5_1] rfl (by (try simp only [List.map_toArray, List.map_cons, List.map_nil]); first | done | rfl | (simp only [List.length_drop, List.length_take]; rfl)) ?_; (with_reducible refine (cashierref03_Is.calls kj2 x5_1 false _ A13.out).mono ?_); rintro e w' ⟨rfl, ⟨nd, rfl⟩⟩; refine ⟨_, rfl, ?_⟩))
                go_ret2
                exact ⟨_, by first | rfl | (simp [errW_none, errW_some] <;> rfl) | (simp [*, errW_none, errW_some] <;> rfl), by first | exact Kd.R_nil _ _ _ _ _ | exact Kd.N_nil _ _ _ _ _ | exact Kd.V_nil _ _ _ _ _ | exact Kd.Q_nil _ _ _ _ _ | exact Kd.S_nil _ _ _ _ _, by repeat (first | (with_reducible first | exact HB.out | apply below_alloc | apply pw_below_drewN | apply below_drew1) | exact HB.out)⟩
      · rw [if_neg c2] at H
        have c2b0 : decide (x6_1 ≤ (a0.size : Int)) = false := decide_eq_false c2
        clear c2
        simp only [Option.some.injEq, Prod.mk.injEq] at H
        obtain ⟨rfl, rfl⟩ := H
        obtain ⟨Ao23, co23, eo23⟩ := Kd.R_slice HO_4.out
        subst eo23
        go_wp2
        go_ret2
        exact ⟨_, by first | rfl | (simp [errW_none, errW_some] <;> rfl) | (simp [*, errW_none, errW_some] <;> rfl), by (with_reducible repeat (first | apply Kd.R_alloc | apply Kd.R_drewN | apply Kd.R_drew)); exact HO_4.out, by repeat (first | (with_reducible first | exact HB.out | apply below_alloc | apply pw_below_drewN | apply below_drew1) | exact HB.out)⟩

/-! ### cashierref17_Cmp: function 34 -/
def cashierref17_Cmp.l0 : Nat → List Int → List Int → Int → Option (Int)
  | 0, _, _, _ => none
  | k + 1, x0, x1, x5 => if x5 < 3 then (if 0 ≤ x5 then (if x5 < (x0.length : Int) then (if x5 < (x1.length : Int) then (if (rd x0 x5) < (rd x1 x5) then (some (-1)) else (if (rd x0 x5) > (rd x1 x5) then (some 1) else (cashierref17_Cmp.l0 k x0 x1 (wrap64 (x5 + 1))))) else (none)) else (none)) else (none)) else (some 0)
def cashierref17_Cmp.f (k : Nat) (l0 : List Int) (l1 : List Int) : Option (Int) := cashierref17_Cmp.l0 k l0 l1 0
theorem cashierref17_Cmp.mono_l : ∀ k, (∀ y0 y1 y2, LeO (cashierref17_Cmp.l0 k y0 y1 y2) (cashierref17_Cmp.l0 (k + 1) y0 y1 y2))
  | 0 => fun _ _ _ r h => by simp [cashierref17_Cmp.l0] at h
  | k + 1 => by
    have ih0 := cashierref17_Cmp.mono_l k
    · intro y0 y1 y2
      unfold cashierref17_Cmp.l0
      repeat' first
      | (with_reducible exact ih0 _ _ _)
      | (with_reducible exact LeO.refl _)
      | (with_reducible exact LeO.none _)
      | (with_reducible refine LeO.ite ?_ ?_)
      | (with_reducible refine LeO.bind ?_ (fun _ => ?_))
      | exact ih0 _ _ _
      | exact LeO.none _
      | refine LeO.ite ?_ ?_
      | refine LeO.bind ?_ (fun _ => ?_)
theorem cashierref17_Cmp.mono : ∀ a0 a1 k, LeO (cashierref17_Cmp.f k a0 a1) (cashierref17_Cmp.f (k + 1) a0 a1) := by
  intro a0 a1 k
  have ih0 := cashierref17_Cmp.mono_l k
  unfold cashierref17_Cmp.f
  repeat' first
      | (with_reducible exact ih0 _ _ _)
      | (with_reducible exact LeO.refl _)
      | (with_reducible exact LeO.none _)
      | (with_reducible refine LeO.ite ?_ ?_)
      | (with_reducible refine LeO.bind ?_ (fun _ => ?_))
      | exact ih0 _ _ _
      | exact LeO.none _
      | refine LeO.ite ?_ ?_
      | refine LeO.bind ?_ (fun _ => ?_)
set_option maxHeartbeats 8000000 in
set_option maxRecDepth 100000 in
theorem cashierref17_Cmp.calls (k : Nat) (A0 : Option Addr) (c0 : Nat) (l0 : List Int) (A1 : Option Addr) (c1 : Nat) (l1 : List Int) (r : Int) (w : World) (hr0 : Kd.C (Kd.int .i64) w A0 l0.length l0) (hc0 : l0.length ≤ c0) (hr1 : Kd.C (Kd.int .i64) w A1 l1.length l1) (hc1 : l1.length ≤ c1) (h : cashierref17_Cmp.f k l0 l1 = some r) :
    Calls Tryz.prog 34 #[.slice A0 l0.length c0, .slice A1 l1.length c1] w fun e w' => e = .returned (.int .i64 r) ∧ Drawn0 w w' := by
  have HR0 := Aside0.mk hr0
  have HC0 := Aside0.mk hc0
  clear hr0 hc0
  have HR1 := Aside0.mk hr1
  have HC1 := Aside0.mk hc1
  clear hr1 hc1
  have H : (cashierref17_Cmp.l0 k l0 l1 0) = some r := h
  clear h
  have H' := Aside0.mk H
  clear H
  go_enter Tryz.func34, Tryz.ntmps34
  go_wp2
  repeat (go_quiet (fail); try go_wp2)
  go_loopg [5] k (fun kq v5 w' => ∃ (x5_1 : Int), v5 = .int .i64 x5_1 ∧ Aside0 (cashierref17_Cmp.l0 kq l0 l1 x5_1 = some r) ∧ Aside0 (kq ≤ k) ∧ Drawn0 w w')
  case atStart => exact ⟨(0), (by first | rfl | (simp; done) | (simp [*]; done)), H', ⟨Nat.le_refl _⟩, by repeat (first | exact Drawn0.refl _ | apply Drawn0.step)⟩
  case round =>
    clear H'
    try clear c1
    try clear p2
    obtain ⟨x5_1, rfl, HA, HK1, ⟨m1, rfl⟩⟩ := hrel
    cases gk with
    | zero => exact absurd HA.out (by simp [cashierref17_Cmp.l0])
    | succ k1 =>
      have H := HA.out
      clear HA
      simp only [cashierref17_Cmp.l0] at H
      by_cases c3 : x5_1 < 3
      · rw [if_pos c3] at H
        have c3b0 : decide (x5_1 < 3) = true := decide_eq_true c3
        clear c3
        by_cases c4 : 0 ≤ x5_1
        · rw [if_pos c4] at H
          have c4b0 : decide (0 ≤ x5_1) = true := decide_eq_true c4
          clear c4
          by_cases c5 : x5_1 < (l0.length : Int)
          · rw [if_pos c5] at H
            have c5b0 : decide (x5_1 < (l0.length : Int)) = true := decide_eq_true c5
            clear c5
            by_cases c6 : x5_1 < (l1.length : Int)
            · rw [if_pos c6] at H
              have c6b0 : decide (x5_1 < (l1.length : Int)) = true := decide_eq_true c6
              clear c6
              by_cases c7 : (rd l0 x5_1) < (rd l1 x5_1)
              · rw [if_pos c7] at H
                have c7b0 : decide ((rd l0 x5_1) < (rd l1 x5_1)) = true := decide_eq_true c7
                clear c7
                obtain rfl := Option.some.inj H
                have p195 : 0 ≤ (x5_1 : Int) := of_decide_eq_true (by first | (with_reducible assumption) | assumption)
                have q195 : x5_1 < (l0.length : Int) := of_decide_eq_true (by first | (with_reducible assumption) | assumption)
                obtain ⟨ad195, e195, hx195_0⟩ := Kd.at_int HR0.out x5_1 p195 q195
                cases e195
                replace p195 := eq_true p195
                replace q195 := eq_true q195
                have p196 : 0 ≤ (x5_1 : Int) := of_decide_eq_true (by first | (with_reducible assumption) | assumption)
                have q196 : x5_1 < (l1.length : Int) := of_decide_eq_true (by first | (with_reducible assumption) | assumption)
                obtain ⟨ad196, e196, hx196_0⟩ := Kd.at_int HR1.out x5_1 p196 q196
                cases e196
                replace p196 := eq_true p196
                replace q196 := eq_true q196
                go_wp2
                repeat (go_quiet (fail); try go_wp2)
                go_ret
                exact ⟨by first | rfl | (simp; done) | (simp [*]; done), by repeat (first | exact Drawn0.refl _ | apply Drawn0.step)⟩
              · rw [if_neg c7] at H
                have c7b0 : decide ((rd l0 x5_1) < (rd l1 x5_1)) = false := decide_eq_false c7
                clear c7
                by_cases c8 : (rd l0 x5_1) > (rd l1 x5_1)
                · rw [if_pos c8] at H
                  have c8b0 : decide ((rd l1 x5_1) < (rd l0 x5_1)) = true := decide_eq_true c8
                  clear c8
                  obtain rfl := Option.some.inj H
                  have p195 : 0 ≤ (x5_1 : Int) := of_decide_eq_true (by first | (with_reducible assumption) | assumption)
                  have q195 : x5_1 < (l0.length : Int) := of_decide_eq_true (by first | (with_reducible assumption) | assumption)
                  obtain ⟨ad195, e195, hx195_0⟩ := Kd.at_int HR0.out x5_1 p195 q195
                  cases e195
                  replace p195 := eq_true p195
                  replace q195 := eq_true q195
                  have p196 : 0 ≤ (x5_1 : Int) := of_decide_eq_true (by first | (with_reducible assumption) | assumption)
                  have q196 : x5_1 < (l1.length : Int) := of_decide_eq_true (by first | (with_reducible assumption) | assumption)
                  obtain ⟨ad196, e196, hx196_0⟩ := Kd.at_int HR1.out x5_1 p196 q196
                  cases e196
                  replace p196 := eq_true p196
                  replace q196 := eq_true q196
                  have p197 : 0 ≤ (x5_1 : Int) := of_decide_eq_true (by first | (with_reducible assumption) | assumption)
                  have q197 : x5_1 < (l0.length : Int) := of_decide_eq_true (by first | (with_reducible assumption) | assumption)
                  obtain ⟨ad197, e197, hx197_0⟩ := Kd.at_int HR0.out x5_1 p197 q197
                  obtain rfl : ad195 = ad197 := (by injection e197)
                  replace p197 := eq_true p197
                  replace q197 := eq_true q197
                  have p198 : 0 ≤ (x5_1 : Int) := of_decide_eq_true (by first | (with_reducible assumption) | assumption)
                  have q198 : x5_1 < (l1.length : Int) := of_decide_eq_true (by first | (with_reducible assumption) | assumption)
                  obtain ⟨ad198, e198, hx198_0⟩ := Kd.at_int HR1.out x5_1 p198 q198
                  obtain rfl : ad196 = ad198 := (by injection e198)
                  replace p198 := eq_true p198
                  replace q198 := eq_true q198
                  go_wp2
                  repeat (go_quiet (fail); try go_wp2)
                  go_ret
                  exact ⟨by first | rfl | (simp; done) | (simp [*]; done), by repeat (first | exact Drawn0.refl _ | apply Drawn0.step)⟩
                · rw [if_neg c8] at H
                  have c8b0 : decide ((rd l1 x5_1) < (rd l0 x5_1)) = false := decide_eq_false c8
                  clear c8
                  have H' := Aside0.mk H
                  clear H
                  have p195 : 0 ≤ (x5_1 : Int) := of_decide_eq_true (by first | (with_reducible assumption) | assumption)
                  have q195 : x5_1 < (l0.length : Int) := of_decide_eq_true (by first | (with_reducible assumption) | assumption)
                  obtain ⟨ad195, e195, hx195_0⟩ := Kd.at_int HR0.out x5_1 p195 q195
                  cases e195
                  replace p195 := eq_true p195
                  replace q195 := eq_true q195
                  have p196 : 0 ≤ (x5_1 : Int) := of_decide_eq_true (by first | (with_reducible assumption) | assumption)
                  have q196 : x5_1 < (l1.length : Int) := of_decide_eq_true (by first | (with_reducible assumption) | assumption)
                  obtain ⟨ad196, e196, hx196_0⟩ := Kd.at_int HR1.out x5_1 p196 q196
                  cases e196
                  replace p196 := eq_true p196
                  replace q196 := eq_true q196
                  have p197 : 0 ≤ (x5_1 : Int) := of_decide_eq_true (by first | (with_reducible assumption) | assumption)
                  have q197 : x5_1 < (l0.length : Int) := of_decide_eq_true (by first | (with_reducible assumption) | assumption)
                  obtain ⟨ad197, e197, hx197_0⟩ := Kd.at_int HR0.out x5_1 p197 q197
                  obtain rfl : ad195 = ad197 := (by injection e197)
                  replace p197 := eq_true p197
                  replace q197 := eq_true q197
                  have p198 : 0 ≤ (x5_1 : Int) := of_decide_eq_true (by first | (with_reducible assumption) | assumption)
                  have q198 : x5_1 < (l1.length : Int) := of_decide_eq_true (by first | (with_reducible assumption) | assumption)
                  obtain ⟨ad198, e198, hx198_0⟩ := Kd.at_int HR1.out x5_1 p198 q198
                  obtain rfl : ad196 = ad198 := (by injection e198)
                  replace p198 := eq_true p198
                  replace q198 := eq_true q198
                  go_wp2
                  repeat (go_quiet (fail); try go_wp2)
                  go_roundg k1
                  case measure => have := HK1.out; omega
                  case rel => exact ⟨(wrap64 (x5_1 + 1)), (by first | rfl | (simp; done) | (simp [*]; done)), H', ⟨by have := HK1.out; omega⟩, by repeat (first | exact Drawn0.refl _ | apply Drawn0.step)⟩
            · rw [if_neg c6] at H
              exact absurd H (by simp)
          · rw [if_neg c5] at H
            exact absurd H (by simp)
        · rw [if_neg c4] at H
          exact absurd H (by simp)
      · rw [if_neg c3] at H
        have c3b0 : decide (x5_1 < 3) = false := decide_eq_false c3
        clear c3
        obtain rfl := Option.some.inj H
        go_wp2
        repeat (go_quiet (fail); try go_wp2)
        go_ret
        exact ⟨by first | rfl | (simp; done) | (simp [*]; done), by repeat (first | exact Drawn0.refl _ | apply Drawn0.step)⟩

end Go.Proofs.YtiggnmhoececfaaGreatDoor.PRef
