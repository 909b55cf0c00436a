/- Texts taken together, trimmed. -/
import Derived.Test.YtfocognhcljhpaaGreatDoorR1
import Derived.Test.YtfocognhcljhpaaGreatDoorR3
import Derived.Test.YtfocognhcljhpaaGreatDoorR4
import Derived.Shelf.SlSortCmp.NoneTotal
set_option linter.unusedVariables false
set_option linter.unusedSimpArgs false
namespace Go.Proofs.YtfocognhcljhpaaGreatDoor.PRef
open Go.Proofs.YtfocognhcljhpaaGreatDoor.PPrintRows
open Go.RowKit Go.Proofs.YtfocognhcljhpaaGreatDoorW.PrintWords Go.Proofs.YtfocognhcljhpaaGreatDoorW.PrintLast Go.Proofs.YtfocognhcljhpaaGreatDoorW.PrintMore
attribute [local go_sem] max2_int min2_int max_two min_two max_three min_three max_four min_four   -- for this text's walks alone
def stringslite_HasPrefix.f (a0 : ByteArray) (a1 : ByteArray) : Option (Bool) := if (a0.size : Int) ≥ (a1.size : Int) then (if 0 ≤ (a1.size : Int) then (if (a1.size : Int) ≤ (a0.size : Int) then (some ((a0.extract 0 ((a1.size : Int) : Int).toNat).toList == a1.toList)) else (none)) else (none)) else (some false)
set_option maxHeartbeats 8000000 in
set_option maxRecDepth 100000 in
theorem stringslite_HasPrefix.calls (a0 : ByteArray) (a1 : ByteArray) (r : Bool) (w : World) (h : stringslite_HasPrefix.f a0 a1 = some r) :
  Calls Tryz.prog 130 #[.string a0, .string a1] w fun e w' => e = .returned (.bool r) ∧ Drawn0 w w' := by
 have H : (if (a0.size : Int) ≥ (a1.size : Int) then (if 0 ≤ (a1.size : Int) then (if (a1.size : Int) ≤ (a0.size : Int) then (some ((a0.extract 0 ((a1.size : Int) : Int).toNat).toList == a1.toList)) else (none)) else (none)) else (some false)) = some r := h
 clear h
 by_cases c3 : (a0.size : Int) ≥ (a1.size : Int)
 ·rw [if_pos c3] at H
  have c3b0 : decide ((a1.size : Int) ≤ (a0.size : Int)) = true := decide_eq_true c3
  have c3b1 : decide (a1.size ≤ a0.size) = true := decide_eq_true (Int.ofNat_le.mp c3)
  clear c3
  by_cases c4 : 0 ≤ (a1.size : Int)
  ·rw [if_pos c4] at H
   have c4b0 := eq_true c4
   have c4b1 : decide (0 ≤ (a1.size : Int)) = true := decide_eq_true c4
   clear c4
   by_cases c5 : (a1.size : Int) ≤ (a0.size : Int)
   ·rw [if_pos c5] at H
    have c5b0 := eq_true c5
    have c5b1 : decide ((a1.size : Int) ≤ (a0.size : Int)) = true := decide_eq_true c5
    clear c5
    obtain rfl := Option.some.inj H
    go_enter Tryz.func130, Tryz.ntmps130
    go_wp2
    go_ret
    exact ⟨by first | rfl | (simp; done) | (simp [*]; done), by repeat (first | exact Drawn0.refl _ | apply Drawn0.step)⟩
   ·rw [if_neg c5] at H
    exact absurd H (by simp)
  ·rw [if_neg c4] at H
   exact absurd H (by simp)
 ·rw [if_neg c3] at H
  have c3b0 : decide ((a1.size : Int) ≤ (a0.size : Int)) = false := decide_eq_false c3
  have c3b1 : decide (a1.size ≤ a0.size) = false := decide_eq_false (fun h => c3 (Int.ofNat_le.mpr h))
  clear c3
  obtain rfl := Option.some.inj H
  go_enter Tryz.func130, Tryz.ntmps130
  go_wp2
  go_ret
  exact ⟨by first | rfl | (simp; done) | (simp [*]; done), by repeat (first | exact Drawn0.refl _ | apply Drawn0.step)⟩
def strings_HasPrefix.f (a0 : ByteArray) (a1 : ByteArray) : Option (Bool) := (stringslite_HasPrefix.f a0 a1).bind fun t101 => (some t101)
set_option maxHeartbeats 8000000 in
set_option maxRecDepth 100000 in
theorem strings_HasPrefix.calls (a0 : ByteArray) (a1 : ByteArray) (r : Bool) (w : World) (h : strings_HasPrefix.f a0 a1 = some r) :
  Calls Tryz.prog 112 #[.string a0, .string a1] w fun e w' => e = .returned (.bool r) ∧ Drawn0 w w' := by
 have H : ((stringslite_HasPrefix.f a0 a1).bind fun t101 => (some t101)) = some r := h
 clear h
 replace H := Option.bind_eq_some_iff.mp H
 obtain ⟨t101, A30, H⟩ := H
 replace H : (some t101) = some r := H
 have A3 := Aside0.mk A30
 clear A30
 obtain rfl := Option.some.inj H
 go_enter Tryz.func112, Tryz.ntmps112
 go_wp2_with (first | ((with_reducible refine gate_callee (f := 130) rfl ?_); refine goesL_ (some 7) rfl rfl Tryz.func130 (by kernel_rfl) rfl #[.string a0, .string a1] rfl (by (try simp only [List.map_toArray, List.map_cons, List.map_nil]); first | done | rfl | (simp only [List.length_drop, List.length_take]; rfl)) ?_; (with_reducible refine (stringslite_HasPrefix.calls a0 a1 t101 _ A3.out).mono ?_); rintro e w' ⟨rfl, ⟨nd, rfl⟩⟩; refine ⟨_, rfl, ?_⟩))
 go_ret
 exact ⟨by first | rfl | (simp; done) | (simp [*]; done), by repeat (first | exact Drawn0.refl _ | apply Drawn0.step)⟩
def json_digits.l0 : Nat → ByteArray → Int → Int → Option (Int)
 | 0, _, _, _ => none
 | k + 1, x0, x1, x5 => if (wrap64 (x1 + x5)) < (x0.size : Int) then (if 0 ≤ (wrap64 (x1 + x5)) then (if (bt x0 (wrap64 (x1 + x5))) ≥ 48 then (if (bt x0 (wrap64 (x1 + x5))) ≤ 57 then (json_digits.l0 k x0 x1 (wrap64 (x5 + 1))) else (some x5)) else (some x5)) else (none)) else (some x5)
def json_digits.f (k : Nat) (a0 : ByteArray) (a1 : Int) : Option (Int) := json_digits.l0 k a0 a1 0
set_option maxHeartbeats 8000000 in
set_option maxRecDepth 100000 in
theorem json_digits.calls (k : Nat) (a0 : ByteArray) (a1 : Int) (r : Int) (w : World) (h : json_digits.f k a0 a1 = some r) :
  Calls Tryz.prog 132 #[.string a0, .int .i64 a1] w fun e w' => e = .returned (.int .i64 r) ∧ Drawn0 w w' := by
 have H : (json_digits.l0 k a0 a1 0) = some r := h
 clear h
 have H' := Aside0.mk H
 clear H
 go_enter Tryz.func132, Tryz.ntmps132
 go_wp2
 go_loopg [5] k (fun kq v5 w' => ∃ (x5_1 : Int), v5 = .int .i64 x5_1 ∧ Aside0 (json_digits.l0 kq a0 a1 x5_1 = some r) ∧ Aside0 (kq ≤ k) ∧ Drawn0 w w')
 case atStart => exact ⟨(0), (by first | rfl | (simp; done) | (simp [*]; done)), H', ⟨Nat.le_refl _⟩, by repeat (first | exact Drawn0.refl _ | apply Drawn0.step)⟩
 case round =>
  clear H'
  try clear c1
  try clear p2
  obtain ⟨x5_1, rfl, HA, HK1, ⟨m1, rfl⟩⟩ := hrel
  cases gk with
  | zero => exact absurd HA.out (by simp [json_digits.l0])
  | succ k1 =>
   have H := HA.out
   clear HA
   simp only [json_digits.l0] at H
   by_cases c3 : (wrap64 (a1 + x5_1)) < (a0.size : Int)
   ·rw [if_pos c3] at H
    have c3b0 : decide ((wrap64 (a1 + x5_1)) < (a0.size : Int)) = true := decide_eq_true c3
    clear c3
    obtain ⟨ji4, hji4⟩ : ∃ j_ : Int, (wrap64 (a1 + x5_1)) = j_ := ⟨_, rfl⟩
    replace H : (if 0 ≤ (ji4) then (if (bt a0 (ji4)) ≥ 48 then (if (bt a0 (ji4)) ≤ 57 then (json_digits.l0 k1 a0 a1 (wrap64 (x5_1 + 1))) else (some x5_1)) else (some x5_1)) else (none)) = some r := by first | (rw [hji4] at H; exact H) | (simp only [hji4] at H ⊢; exact H)
    (try rw [hji4] at c3b0)
    have hji4w : (IntKind.i64.wrap (a1 + x5_1)) = ji4 := (i64_w _).trans hji4
    by_cases c5 : 0 ≤ (ji4)
    ·rw [if_pos c5] at H
     have c5b0 : decide (0 ≤ (ji4)) = true := decide_eq_true c5
     clear c5
     by_cases c7 : (bt a0 (ji4)) ≥ 48
     ·rw [if_pos c7] at H
      have c7b0 : decide (48 ≤ (bt a0 (ji4))) = true := decide_eq_true c7
      clear c7
      by_cases c9 : (bt a0 (ji4)) ≤ 57
      ·rw [if_pos c9] at H
       have c9b0 : decide ((bt a0 (ji4)) ≤ 57) = true := decide_eq_true c9
       clear c9
       have H' := Aside0.mk H
       clear H
       have p6 : 0 ≤ ((ji4) : Int) := of_decide_eq_true (by first | (with_reducible assumption) | assumption)
       have q6 : (ji4) < (a0.size : Int) := of_decide_eq_true (by first | (with_reducible assumption) | assumption)
       have hx6 := bt_at a0 (ji4)
       replace p6 := eq_true p6
       replace q6 := eq_true q6
       have p8 : 0 ≤ ((ji4) : Int) := of_decide_eq_true (by first | (with_reducible assumption) | assumption)
       have q8 : (ji4) < (a0.size : Int) := of_decide_eq_true (by first | (with_reducible assumption) | assumption)
       have hx8 := bt_at a0 (ji4)
       replace p8 := eq_true p8
       replace q8 := eq_true q8
       go_wp2
       go_roundg k1
       case measure => have := HK1.out; omega
       case rel => exact ⟨(wrap64 (x5_1 + 1)), (by first | rfl | (simp; done) | (simp; exact isEmpty_ne _) | (simp [*]; done)), (by first | exact H' | (simp only [hji4]; exact H')), ⟨by have := HK1.out; omega⟩, by repeat (first | exact Drawn0.refl _ | apply Drawn0.step)⟩
      ·rw [if_neg c9] at H
       have c9b0 : decide ((bt a0 (ji4)) ≤ 57) = false := decide_eq_false c9
       clear c9
       obtain rfl := Option.some.inj H
       have p6 : 0 ≤ ((ji4) : Int) := of_decide_eq_true (by first | (with_reducible assumption) | assumption)
       have q6 : (ji4) < (a0.size : Int) := of_decide_eq_true (by first | (with_reducible assumption) | assumption)
       have hx6 := bt_at a0 (ji4)
       replace p6 := eq_true p6
       replace q6 := eq_true q6
       have p8 : 0 ≤ ((ji4) : Int) := of_decide_eq_true (by first | (with_reducible assumption) | assumption)
       have q8 : (ji4) < (a0.size : Int) := of_decide_eq_true (by first | (with_reducible assumption) | assumption)
       have hx8 := bt_at a0 (ji4)
       replace p8 := eq_true p8
       replace q8 := eq_true q8
       go_wp2
       go_ret
       exact ⟨by first | rfl | (simp; done) | (simp only [← hji4] <;> (first | rfl | simp)) | (simp [*]; done), by repeat (first | exact Drawn0.refl _ | apply Drawn0.step)⟩
     ·rw [if_neg c7] at H
      have c7b0 : decide (48 ≤ (bt a0 (ji4))) = false := decide_eq_false c7
      clear c7
      obtain rfl := Option.some.inj H
      have p6 : 0 ≤ ((ji4) : Int) := of_decide_eq_true (by first | (with_reducible assumption) | assumption)
      have q6 : (ji4) < (a0.size : Int) := of_decide_eq_true (by first | (with_reducible assumption) | assumption)
      have hx6 := bt_at a0 (ji4)
      replace p6 := eq_true p6
      replace q6 := eq_true q6
      go_wp2
      go_ret
      exact ⟨by first | rfl | (simp; done) | (simp only [← hji4] <;> (first | rfl | simp)) | (simp [*]; done), by repeat (first | exact Drawn0.refl _ | apply Drawn0.step)⟩
    ·rw [if_neg c5] at H
     exact absurd H (by simp)
   ·rw [if_neg c3] at H
    have c3b0 : decide ((wrap64 (a1 + x5_1)) < (a0.size : Int)) = false := decide_eq_false c3
    clear c3
    obtain rfl := Option.some.inj H
    go_wp2
    go_ret
    exact ⟨by first | rfl | (simp; done) | (simp [*]; done), by repeat (first | exact Drawn0.refl _ | apply Drawn0.step)⟩
mutual
def json_numeral.j0 : Nat → ByteArray → Int → Option (Int)
 | 0, _, _ => none
 | k + 1, x0, x3 => (json_digits.f k x0 x3).bind fun t103 => (if t103 = 0 then (json_numeral.j1 k x0 x3 t103 true) else (if t103 > 1 then (if 0 ≤ x3 then (if x3 < (x0.size : Int) then (json_numeral.j1 k x0 x3 t103 ((bt x0 x3) == 48)) else (none)) else (none)) else (json_numeral.j1 k x0 x3 t103 false)))
def json_numeral.j1 : Nat → ByteArray → Int → Int → Bool → Option (Int)
 | 0, _, _, _, _ => none
 | k + 1, x0, x3, x4, x23 => if x23 = true then (some 0) else (if (wrap64 (x3 + x4)) < (x0.size : Int) then (if 0 ≤ (wrap64 (x3 + x4)) then (json_numeral.j2 k x0 (wrap64 (x3 + x4)) ((bt x0 (wrap64 (x3 + x4))) == 46)) else (none)) else (json_numeral.j2 k x0 (wrap64 (x3 + x4)) false))
def json_numeral.j2 : Nat → ByteArray → Int → Bool → Option (Int)
 | 0, _, _, _ => none
 | k + 1, x0, x3, x36 => if x36 = true then ((json_digits.f k x0 (wrap64 (x3 + 1))).bind fun t104 => (if t104 = 0 then (some 0) else (json_numeral.j3 k x0 (wrap64 (x3 + (wrap64 (1 + t104))))))) else (json_numeral.j3 k x0 x3)
def json_numeral.j3 : Nat → ByteArray → Int → Option (Int)
 | 0, _, _ => none
 | k + 1, x0, x3 => if x3 < (x0.size : Int) then (if 0 ≤ x3 then (if (bt x0 x3) = 101 then (json_numeral.j4 k x0 x3 true) else (json_numeral.j4 k x0 x3 ((bt x0 x3) == 69))) else (none)) else (json_numeral.j4 k x0 x3 false)
def json_numeral.j4 : Nat → ByteArray → Int → Bool → Option (Int)
 | 0, _, _, _ => none
 | k + 1, x0, x3, x62 => if x62 = true then (if (wrap64 (x3 + 1)) < (x0.size : Int) then (if 0 ≤ (wrap64 (x3 + 1)) then (if (bt x0 (wrap64 (x3 + 1))) = 43 then (json_numeral.j5 k x0 (wrap64 (x3 + 1)) true) else (json_numeral.j5 k x0 (wrap64 (x3 + 1)) ((bt x0 (wrap64 (x3 + 1))) == 45))) else (none)) else (json_numeral.j5 k x0 (wrap64 (x3 + 1)) false)) else (some x3)
def json_numeral.j5 : Nat → ByteArray → Int → Bool → Option (Int)
 | 0, _, _, _ => none
 | k + 1, x0, x3, x80 => if x80 = true then ((json_digits.f k x0 (wrap64 (x3 + 1))).bind fun t105 => (if t105 = 0 then (some 0) else (some (wrap64 ((wrap64 (x3 + 1)) + t105))))) else ((json_digits.f k x0 x3).bind fun t106 => (if t106 = 0 then (some 0) else (some (wrap64 (x3 + t106)))))
end
def json_numeral.f (k : Nat) (a0 : ByteArray) : Option (Int) := (strings_HasPrefix.f a0 (⟨#[45]⟩ : ByteArray)).bind fun t102 => (if t102 = true then (json_numeral.j0 k a0 (0 + 1)) else (json_numeral.j0 k a0 0))
set_option maxHeartbeats 8000000 in
set_option maxRecDepth 100000 in
theorem json_numeral.calls (k : Nat) (a0 : ByteArray) (r : Int) (w : World) (h : json_numeral.f k a0 = some r) :
  Calls Tryz.prog 114 #[.string a0] w fun e w' => e = .returned (.int .i64 r) ∧ Drawn0 w w' := by
 have H : ((strings_HasPrefix.f a0 (⟨#[45]⟩ : ByteArray)).bind fun t102 => (if t102 = true then (json_numeral.j0 k a0 (0 + 1)) else (json_numeral.j0 k a0 0))) = some r := h
 clear h
 replace H := Option.bind_eq_some_iff.mp H
 obtain ⟨t102, A20, H⟩ := H
 replace H : (if t102 = true then (json_numeral.j0 k a0 (0 + 1)) else (json_numeral.j0 k a0 0)) = some r := H
 have A2 := Aside0.mk A20
 clear A20
 have HC3 := Aside0.mk H
 clear H
 go_enter Tryz.func114, Tryz.ntmps114
 go_upto_if 6 with (first | ((with_reducible refine gate_callee (f := 112) rfl ?_); refine goesL_ (some 6) rfl rfl Tryz.func112 (by kernel_rfl) rfl #[.string a0, .string (⟨#[45]⟩ : ByteArray)] rfl (by (try simp only [List.map_toArray, List.map_cons, List.map_nil]); first | done | rfl | (simp only [List.length_drop, List.length_take]; rfl)) ?_; (with_reducible refine (strings_HasPrefix.calls a0 (⟨#[45]⟩ : ByteArray) t102 _ A2.out).mono ?_); rintro e w' ⟨rfl, ⟨nd, rfl⟩⟩; refine ⟨_, rfl, ?_⟩))
 (try simp only [Act.put, List.setIfInBounds_toArray, List.set_cons_zero, List.set_cons_succ])
 go_cut [3] (fun v3 wc => ∃ (kq : Nat) (x3_2 : Int), v3 = .int .i64 x3_2 ∧ Aside0 (json_numeral.j0 kq a0 x3_2 = some r) ∧ Aside0 (kq ≤ k) ∧ Drawn0 w wc)
 case first =>
  have H := HC3.out
  clear HC3
  by_cases c4 : t102 = true
  ·subst c4
   have H1 : (json_numeral.j0 k a0 (0 + 1)) = some r := by rw [if_pos rfl] at H; exact H
   clear H
   have H := H1
   clear H1
   have H' := Aside0.mk H
   clear H
   go_wp2
   go_meet
   case rel => exact ⟨_, (0 + 1), (by first | rfl | (simp; done) | (simp; exact isEmpty_ne _) | (simp [*]; done)), H', ⟨by first | omega | exact Nat.le_refl _⟩, by repeat (first | exact Drawn0.refl _ | apply Drawn0.step)⟩
  ·replace c4 := Bool.eq_false_iff.mpr c4
   subst c4
   have H1 : (json_numeral.j0 k a0 0) = some r := by rw [if_neg (show ¬ (false = true) by decide)] at H; exact H
   clear H
   have H := H1
   clear H1
   have H' := Aside0.mk H
   clear H
   go_wp2
   go_meet
   case rel => exact ⟨_, (0), (by first | rfl | (simp; done) | (simp; exact isEmpty_ne _) | (simp [*]; done)), H', ⟨by first | omega | exact Nat.le_refl _⟩, by repeat (first | exact Drawn0.refl _ | apply Drawn0.step)⟩
 case rest =>
  clear HC3
  try clear c1
  try clear p2
  try clear c4
  obtain ⟨kq, x3_2, rfl, HA, HJ2, ⟨mc2, rfl⟩⟩ := hcut
  cases kq with
  | zero => exact absurd HA.out (by simp [json_numeral.j0])
  | succ kj2 =>
   have H := HA.out
   clear HA
   simp only [json_numeral.j0] at H
   replace H := Option.bind_eq_some_iff.mp H
   obtain ⟨t103, A50, H⟩ := H
   replace H : (if t103 = 0 then (json_numeral.j1 kj2 a0 x3_2 t103 true) else (if t103 > 1 then (if 0 ≤ x3_2 then (if x3_2 < (a0.size : Int) then (json_numeral.j1 kj2 a0 x3_2 t103 ((bt a0 x3_2) == 48)) else (none)) else (none)) else (json_numeral.j1 kj2 a0 x3_2 t103 false))) = some r := H
   have A5 := Aside0.mk A50
   clear A50
   have HC6 := Aside0.mk H
   clear H
   go_upto_region 5 with (first | ((with_reducible refine gate_callee (f := 132) rfl ?_); refine goesL_ (some 11) rfl rfl Tryz.func132 (by kernel_rfl) rfl #[.string a0, .int .i64 x3_2] rfl (by (try simp only [List.map_toArray, List.map_cons, List.map_nil]); first | done | rfl | (simp only [List.length_drop, List.length_take]; rfl)) ?_; (with_reducible refine (json_digits.calls kj2 a0 x3_2 t103 _ A5.out).mono ?_); rintro e w' ⟨rfl, ⟨nd, rfl⟩⟩; refine ⟨_, rfl, ?_⟩))
   (try simp only [Act.put, List.setIfInBounds_toArray, List.set_cons_zero, List.set_cons_succ])
   go_cut [23] (fun v23 wc => ∃ (kq : Nat) (x23_5 : Bool), v23 = .bool x23_5 ∧ Aside0 (json_numeral.j1 kq a0 x3_2 t103 x23_5 = some r) ∧ Aside0 (kq ≤ kj2) ∧ Drawn0 w wc)
   case first =>
    have H := HC6.out
    clear HC6
    by_cases c7 : t103 = 0
    ·rw [if_pos c7] at H
     have c7b0 : (t103 == 0) = true := beq_iff_eq.mpr c7
     have c7b1 : (t103 != 0) = false := bne_eq_false_iff_eq.mpr c7
     clear c7
     (first | rw [c7b0] | (simp only [i64_w, i32_w]; rw [c7b0]) | skip)
     have H' := Aside0.mk H
     clear H
     go_wp2
     go_meet
     case rel => exact ⟨_, (true), (by first | rfl | (simp; done) | (simp; exact isEmpty_ne _) | (simp [*]; done)), H', ⟨by have := HJ2.out; first | omega | exact Nat.le_refl _⟩, by repeat (first | exact Drawn0.refl _ | apply Drawn0.step)⟩
    ·rw [if_neg c7] at H
     have c7b0 : (t103 == 0) = false := beq_eq_false_iff_ne.mpr c7
     have c7b1 : (t103 != 0) = true := bne_iff_ne.mpr c7
     (first | rw [c7b0] | (simp only [i64_w, i32_w]; rw [c7b0]) | skip)
     by_cases c8 : t103 > 1
     ·rw [if_pos c8] at H
      have c8b0 : decide (1 < t103) = true := decide_eq_true c8
      clear c8
      by_cases c9 : 0 ≤ x3_2
      ·rw [if_pos c9] at H
       have c9b0 : decide (0 ≤ x3_2) = true := decide_eq_true c9
       clear c9
       by_cases c10 : x3_2 < (a0.size : Int)
       ·rw [if_pos c10] at H
        have c10b0 : decide (x3_2 < (a0.size : Int)) = true := decide_eq_true c10
        clear c10
        have H' := Aside0.mk H
        clear H
        have p11 : 0 ≤ (x3_2 : Int) := of_decide_eq_true (by first | (with_reducible assumption) | assumption)
        have q11 : x3_2 < (a0.size : Int) := of_decide_eq_true (by first | (with_reducible assumption) | assumption)
        have hx11 := bt_at a0 x3_2
        replace p11 := eq_true p11
        replace q11 := eq_true q11
        go_wp2
        go_meet
        case rel => exact ⟨_, (((bt a0 x3_2) == 48)), (by first | rfl | (simp; done) | (simp; exact isEmpty_ne _) | (simp [*]; done)), H', ⟨by have := HJ2.out; first | omega | exact Nat.le_refl _⟩, by repeat (first | exact Drawn0.refl _ | apply Drawn0.step)⟩
       ·rw [if_neg c10] at H
        exact absurd H (by simp)
      ·rw [if_neg c9] at H
       exact absurd H (by simp)
     ·rw [if_neg c8] at H
      have c8b0 : decide (1 < t103) = false := decide_eq_false c8
      clear c8
      have H' := Aside0.mk H
      clear H
      go_wp2
      go_meet
      case rel => exact ⟨_, (false), (by first | rfl | (simp; done) | (simp; exact isEmpty_ne _) | (simp [*]; done)), H', ⟨by have := HJ2.out; first | omega | exact Nat.le_refl _⟩, by repeat (first | exact Drawn0.refl _ | apply Drawn0.step)⟩
   case rest =>
    clear HC6
    try clear c1
    try clear p1
    try clear q1
    try clear hx1
    try clear c2
    try clear p2
    try clear c4
    try clear c7
    try clear c7b0
    try clear c7b1
    try clear c8
    try clear c8b0
    try clear c9
    try clear c9b0
    try clear c10
    try clear c10b0
    try clear c11
    try clear p11
    try clear q11
    try clear hx11
    try clear p11
    try clear p2
    try clear q11
    obtain ⟨kq, x23_5, rfl, HA, HJ5, ⟨mc5, rfl⟩⟩ := hcut
    cases kq with
    | zero => exact absurd HA.out (by simp [json_numeral.j1])
    | succ kj5 =>
     have H := HA.out
     clear HA
     simp only [json_numeral.j1] at H
     by_cases c12 : x23_5 = true
     ·subst c12
      have H1 : (some 0) = some r := by rw [if_pos rfl] at H; exact H
      clear H
      have H := H1
      clear H1
      obtain rfl := Option.some.inj H
      go_wp2
      go_ret
      exact ⟨by first | rfl | (simp; done) | (simp [*]; done), by repeat (first | exact Drawn0.refl _ | apply Drawn0.step)⟩
     ·replace c12 := Bool.eq_false_iff.mpr c12
      subst c12
      have H1 : (if (wrap64 (x3_2 + t103)) < (a0.size : Int) then (if 0 ≤ (wrap64 (x3_2 + t103)) then (json_numeral.j2 kj5 a0 (wrap64 (x3_2 + t103)) ((bt a0 (wrap64 (x3_2 + t103))) == 46)) else (none)) else (json_numeral.j2 kj5 a0 (wrap64 (x3_2 + t103)) false)) = some r := by rw [if_neg (show ¬ (false = true) by decide)] at H; exact H
      clear H
      have H := H1
      clear H1
      have HC13 := Aside0.mk H
      clear H
      go_upto_region 8 with (fail)
      go_cut [36] (fun v36 wc => ∃ (kq : Nat) (x36_12 : Bool), v36 = .bool x36_12 ∧ Aside0 (json_numeral.j2 kq a0 (wrap64 (x3_2 + t103)) x36_12 = some r) ∧ Aside0 (kq ≤ kj5) ∧ Drawn0 w wc)
      case first =>
       have H := HC13.out
       clear HC13
       by_cases c14 : (wrap64 (x3_2 + t103)) < (a0.size : Int)
       ·rw [if_pos c14] at H
        have c14b0 : decide ((wrap64 (x3_2 + t103)) < (a0.size : Int)) = true := decide_eq_true c14
        clear c14
        (first | rw [c14b0] | (simp only [i64_w, i32_w]; rw [c14b0]) | skip)
        obtain ⟨ji15, hji15⟩ : ∃ j_ : Int, (wrap64 (x3_2 + t103)) = j_ := ⟨_, rfl⟩
        replace H : (if 0 ≤ (ji15) then (json_numeral.j2 kj5 a0 ji15 ((bt a0 (ji15)) == 46)) else (none)) = some r := by first | (rw [hji15] at H; exact H) | (simp only [hji15] at H ⊢; exact H)
        (try rw [hji15] at c14b0)
        have hji15w : (IntKind.i64.wrap (x3_2 + t103)) = ji15 := (i64_w _).trans hji15
        by_cases c16 : 0 ≤ (ji15)
        ·rw [if_pos c16] at H
         have c16b0 : decide (0 ≤ (ji15)) = true := decide_eq_true c16
         clear c16
         have H' := Aside0.mk H
         clear H
         have p17 : 0 ≤ ((ji15) : Int) := of_decide_eq_true (by first | (with_reducible assumption) | assumption)
         have q17 : (ji15) < (a0.size : Int) := of_decide_eq_true (by first | (with_reducible assumption) | assumption)
         have hx17 := bt_at a0 (ji15)
         replace p17 := eq_true p17
         replace q17 := eq_true q17
         go_wp2
         go_meet
         case rel => exact ⟨_, (((bt a0 (ji15)) == 46)), (by first | rfl | (simp; done) | (simp; exact isEmpty_ne _) | (simp only [← hji15] <;> (first | rfl | simp)) | (simp [*]; done)), (by first | exact H' | (simp only [hji15]; exact H')), ⟨by have := HJ2.out; have := HJ5.out; first | omega | exact Nat.le_refl _⟩, by repeat (first | exact Drawn0.refl _ | apply Drawn0.step)⟩
        ·rw [if_neg c16] at H
         exact absurd H (by simp)
       ·rw [if_neg c14] at H
        have c14b0 : decide ((wrap64 (x3_2 + t103)) < (a0.size : Int)) = false := decide_eq_false c14
        clear c14
        (first | rw [c14b0] | (simp only [i64_w, i32_w]; rw [c14b0]) | skip)
        have H' := Aside0.mk H
        clear H
        go_wp2
        go_meet
        case rel => exact ⟨_, (false), (by first | rfl | (simp; done) | (simp; exact isEmpty_ne _) | (simp [*]; done)), (by first | exact H' | (simp only [hji15]; exact H')), ⟨by have := HJ2.out; have := HJ5.out; first | omega | exact Nat.le_refl _⟩, by repeat (first | exact Drawn0.refl _ | apply Drawn0.step)⟩
      case rest =>
       clear HC13
       try clear c1
       try clear p1
       try clear q1
       try clear hx1
       try clear c2
       try clear p2
       try clear c4
       try clear c5
       try clear p6
       try clear c7
       try clear c7b0
       try clear c7b1
       try clear c8
       try clear c8b0
       try clear c9
       try clear c9b0
       try clear c10
       try clear c10b0
       try clear c11
       try clear p11
       try clear q11
       try clear hx11
       try clear c12
       try clear c13
       try clear c14
       try clear c14b0
       try clear c16
       try clear c16b0
       try clear p17
       try clear q17
       try clear hx17
       try clear p1
       try clear p11
       try clear p17
       try clear p2
       try clear q1
       try clear q11
       try clear q17
       obtain ⟨kq, x36_12, rfl, HA, HJ12, ⟨mc12, rfl⟩⟩ := hcut
       cases kq with
       | zero => exact absurd HA.out (by simp [json_numeral.j2])
       | succ kj12 =>
        have H := HA.out
        clear HA
        simp only [json_numeral.j2] at H
        have HC18 := Aside0.mk H
        clear H
        go_upto_if 36 with (fail)
        go_cut [3] (fun v3 wc => ∃ (kq : Nat) (x3_17 : Int), v3 = .int .i64 x3_17 ∧ Aside0 (json_numeral.j3 kq a0 x3_17 = some r) ∧ Aside0 (kq ≤ kj12) ∧ Drawn0 w wc)
        case first =>
         have H := HC18.out
         clear HC18
         by_cases c19 : x36_12 = true
         ·subst c19
          have H1 : ((json_digits.f kj12 a0 (wrap64 ((wrap64 (x3_2 + t103)) + 1))).bind fun t104 => (if t104 = 0 then (some 0) else (json_numeral.j3 kj12 a0 (wrap64 ((wrap64 (x3_2 + t103)) + (wrap64 (1 + t104))))))) = some r := by rw [if_pos rfl] at H; exact H
          clear H
          have H := H1
          clear H1
          replace H := Option.bind_eq_some_iff.mp H
          obtain ⟨t104, A200, H⟩ := H
          replace H : (if t104 = 0 then (some 0) else (json_numeral.j3 kj12 a0 (wrap64 ((wrap64 (x3_2 + t103)) + (wrap64 (1 + t104)))))) = some r := H
          have A20 := Aside0.mk A200
          clear A200
          by_cases c21 : t104 = 0
          ·rw [if_pos c21] at H
           have c21b0 : (t104 == 0) = true := beq_iff_eq.mpr c21
           have c21b1 : (t104 != 0) = false := bne_eq_false_iff_eq.mpr c21
           clear c21
           (first | rw [c21b0] | (simp only [i64_w, i32_w]; rw [c21b0]) | skip)
           obtain rfl := Option.some.inj H
           go_wp2_with (first | ((with_reducible refine gate_callee (f := 132) rfl ?_); refine goesL_ (some 40) rfl rfl Tryz.func132 (by kernel_rfl) rfl #[.string a0, .int .i64 (wrap64 ((wrap64 (x3_2 + t103)) + 1))] rfl (by (try simp only [List.map_toArray, List.map_cons, List.map_nil]); first | done | rfl | (simp only [List.length_drop, List.length_take]; rfl)) ?_; (with_reducible refine (json_digits.calls kj12 a0 (wrap64 ((wrap64 (x3_2 + t103)) + 1)) t104 _ A20.out).mono ?_); rintro e w' ⟨rfl, ⟨nd, rfl⟩⟩; refine ⟨_, rfl, ?_⟩))
           go_ret
           exact ⟨by first | rfl | (simp; done) | (simp [*]; done), by repeat (first | exact Drawn0.refl _ | apply Drawn0.step)⟩
          ·rw [if_neg c21] at H
           have c21b0 : (t104 == 0) = false := beq_eq_false_iff_ne.mpr c21
           have c21b1 : (t104 != 0) = true := bne_iff_ne.mpr c21
           (first | rw [c21b0] | (simp only [i64_w, i32_w]; rw [c21b0]) | skip)
           have H' := Aside0.mk H
           clear H
           go_wp2_with (first | ((with_reducible refine gate_callee (f := 132) rfl ?_); refine goesL_ (some 40) rfl rfl Tryz.func132 (by kernel_rfl) rfl #[.string a0, .int .i64 (wrap64 ((wrap64 (x3_2 + t103)) + 1))] rfl (by (try simp only [List.map_toArray, List.map_cons, List.map_nil]); first | done | rfl | (simp only [List.length_drop, List.length_take]; rfl)) ?_; (with_reducible refine (json_digits.calls kj12 a0 (wrap64 ((wrap64 (x3_2 + t103)) + 1)) t104 _ A20.out).mono ?_); rintro e w' ⟨rfl, ⟨nd, rfl⟩⟩; refine ⟨_, rfl, ?_⟩))
           go_meet
           case rel => exact ⟨_, (wrap64 ((wrap64 (x3_2 + t103)) + (wrap64 (1 + t104)))), (by first | rfl | (simp; done) | (simp; exact isEmpty_ne _) | (simp [*]; done)), (by first | exact H' | (simp only [hji15]; exact H')), ⟨by have := HJ2.out; have := HJ5.out; have := HJ12.out; first | omega | exact Nat.le_refl _⟩, by repeat (first | exact Drawn0.refl _ | apply Drawn0.step)⟩
         ·replace c19 := Bool.eq_false_iff.mpr c19
          subst c19
          have H1 : (json_numeral.j3 kj12 a0 (wrap64 (x3_2 + t103))) = some r := by rw [if_neg (show ¬ (false = true) by decide)] at H; exact H
          clear H
          have H := H1
          clear H1
          have H' := Aside0.mk H
          clear H
          go_wp2
          go_meet
          case rel => exact ⟨_, ((wrap64 (x3_2 + t103))), (by first | rfl | (simp; done) | (simp; exact isEmpty_ne _) | (simp [*]; done)), (by first | exact H' | (simp only [hji15]; exact H')), ⟨by have := HJ2.out; have := HJ5.out; have := HJ12.out; first | omega | exact Nat.le_refl _⟩, by repeat (first | exact Drawn0.refl _ | apply Drawn0.step)⟩
        case rest =>
         clear HC18
         try clear c1
         try clear p1
         try clear q1
         try clear hx1
         try clear c2
         try clear p2
         try clear c4
         try clear c5
         try clear p6
         try clear c7
         try clear c7b0
         try clear c7b1
         try clear c8
         try clear c8b0
         try clear c9
         try clear c9b0
         try clear c10
         try clear c10b0
         try clear c11
         try clear p11
         try clear q11
         try clear hx11
         try clear c12
         try clear c13
         try clear c14
         try clear c14b0
         try clear c16
         try clear c16b0
         try clear p17
         try clear q17
         try clear hx17
         try clear c19
         try clear c21
         try clear c21b0
         try clear c21b1
         try clear p1
         try clear p11
         try clear p17
         try clear p2
         try clear p6
         try clear q1
         try clear q11
         try clear q17
         obtain ⟨kq, x3_17, rfl, HA, HJ17, ⟨mc17, rfl⟩⟩ := hcut
         cases kq with
         | zero => exact absurd HA.out (by simp [json_numeral.j3])
         | succ kj17 =>
          have H := HA.out
          clear HA
          simp only [json_numeral.j3] at H
          have HC22 := Aside0.mk H
          clear H
          go_upto_region 13 with (fail)
          go_cut [62] (fun v62 wc => ∃ (kq : Nat) (x62_21 : Bool), v62 = .bool x62_21 ∧ Aside0 (json_numeral.j4 kq a0 x3_17 x62_21 = some r) ∧ Aside0 (kq ≤ kj17) ∧ Drawn0 w wc)
          case first =>
           have H := HC22.out
           clear HC22
           by_cases c23 : x3_17 < (a0.size : Int)
           ·rw [if_pos c23] at H
            have c23b0 : decide (x3_17 < (a0.size : Int)) = true := decide_eq_true c23
            clear c23
            (first | rw [c23b0] | (simp only [i64_w, i32_w]; rw [c23b0]) | skip)
            by_cases c24 : 0 ≤ x3_17
            ·rw [if_pos c24] at H
             have c24b0 : decide (0 ≤ x3_17) = true := decide_eq_true c24
             clear c24
             by_cases c26 : (bt a0 x3_17) = 101
             ·rw [if_pos c26] at H
              have c26b0 : ((bt a0 x3_17) == 101) = true := beq_iff_eq.mpr c26
              have c26b1 : ((bt a0 x3_17) != 101) = false := bne_eq_false_iff_eq.mpr c26
              clear c26
              have H' := Aside0.mk H
              clear H
              have p25 : 0 ≤ (x3_17 : Int) := of_decide_eq_true (by first | (with_reducible assumption) | assumption)
              have q25 : x3_17 < (a0.size : Int) := of_decide_eq_true (by first | (with_reducible assumption) | assumption)
              have hx25 := bt_at a0 x3_17
              replace p25 := eq_true p25
              replace q25 := eq_true q25
              go_wp2
              go_meet
              case rel => exact ⟨_, (true), (by first | rfl | (simp; done) | (simp; exact isEmpty_ne _) | (simp [*]; done)), (by first | exact H' | (simp only [hji15]; exact H')), ⟨by have := HJ2.out; have := HJ5.out; have := HJ12.out; have := HJ17.out; first | omega | exact Nat.le_refl _⟩, by repeat (first | exact Drawn0.refl _ | apply Drawn0.step)⟩
             ·rw [if_neg c26] at H
              have c26b0 : ((bt a0 x3_17) == 101) = false := beq_eq_false_iff_ne.mpr c26
              have c26b1 : ((bt a0 x3_17) != 101) = true := bne_iff_ne.mpr c26
              have H' := Aside0.mk H
              clear H
              have p25 : 0 ≤ (x3_17 : Int) := of_decide_eq_true (by first | (with_reducible assumption) | assumption)
              have q25 : x3_17 < (a0.size : Int) := of_decide_eq_true (by first | (with_reducible assumption) | assumption)
              have hx25 := bt_at a0 x3_17
              replace p25 := eq_true p25
              replace q25 := eq_true q25
              have p27 : 0 ≤ (x3_17 : Int) := of_decide_eq_true (by first | (with_reducible assumption) | assumption)
              have q27 : x3_17 < (a0.size : Int) := of_decide_eq_true (by first | (with_reducible assumption) | assumption)
              have hx27 := bt_at a0 x3_17
              replace p27 := eq_true p27
              replace q27 := eq_true q27
              go_wp2
              go_meet
              case rel => exact ⟨_, (((bt a0 x3_17) == 69)), (by first | rfl | (simp; done) | (simp; exact isEmpty_ne _) | (simp [*]; done)), (by first | exact H' | (simp only [hji15]; exact H')), ⟨by have := HJ2.out; have := HJ5.out; have := HJ12.out; have := HJ17.out; first | omega | exact Nat.le_refl _⟩, by repeat (first | exact Drawn0.refl _ | apply Drawn0.step)⟩
            ·rw [if_neg c24] at H
             exact absurd H (by simp)
           ·rw [if_neg c23] at H
            have c23b0 : decide (x3_17 < (a0.size : Int)) = false := decide_eq_false c23
            clear c23
            (first | rw [c23b0] | (simp only [i64_w, i32_w]; rw [c23b0]) | skip)
            have H' := Aside0.mk H
            clear H
            go_wp2
            go_meet
            case rel => exact ⟨_, (false), (by first | rfl | (simp; done) | (simp; exact isEmpty_ne _) | (simp [*]; done)), (by first | exact H' | (simp only [hji15]; exact H')), ⟨by have := HJ2.out; have := HJ5.out; have := HJ12.out; have := HJ17.out; first | omega | exact Nat.le_refl _⟩, by repeat (first | exact Drawn0.refl _ | apply Drawn0.step)⟩
          case rest =>
           clear HC22
           try clear c1
           try clear p1
           try clear q1
           try clear hx1
           try clear c2
           try clear p2
           try clear q2
           try clear hx2
           try clear c4
           try clear c5
           try clear p6
           try clear c7
           try clear c7b0
           try clear c7b1
           try clear c8
           try clear c8b0
           try clear c9
           try clear c9b0
           try clear c10
           try clear c10b0
           try clear c11
           try clear p11
           try clear q11
           try clear hx11
           try clear c12
           try clear c13
           try clear c14
           try clear c14b0
           try clear c16
           try clear c16b0
           try clear c17
           try clear p17
           try clear q17
           try clear hx17
           try clear c19
           try clear c21
           try clear c21b0
           try clear c21b1
           try clear c23
           try clear c23b0
           try clear c24
           try clear c24b0
           try clear p25
           try clear q25
           try clear hx25
           try clear c26
           try clear c26b0
           try clear c26b1
           try clear p27
           try clear q27
           try clear hx27
           try clear p1
           try clear p11
           try clear p17
           try clear p2
           try clear p25
           try clear p27
           try clear p6
           try clear q1
           try clear q11
           try clear q17
           try clear q25
           try clear q27
           obtain ⟨kq, x62_21, rfl, HA, HJ21, ⟨mc21, rfl⟩⟩ := hcut
           cases kq with
           | zero => exact absurd HA.out (by simp [json_numeral.j4])
           | succ kj21 =>
            have H := HA.out
            clear HA
            simp only [json_numeral.j4] at H
            by_cases c28 : x62_21 = true
            ·subst c28
             have H1 : (if (wrap64 (x3_17 + 1)) < (a0.size : Int) then (if 0 ≤ (wrap64 (x3_17 + 1)) then (if (bt a0 (wrap64 (x3_17 + 1))) = 43 then (json_numeral.j5 kj21 a0 (wrap64 (x3_17 + 1)) true) else (json_numeral.j5 kj21 a0 (wrap64 (x3_17 + 1)) ((bt a0 (wrap64 (x3_17 + 1))) == 45))) else (none)) else (json_numeral.j5 kj21 a0 (wrap64 (x3_17 + 1)) false)) = some r := by rw [if_pos rfl] at H; exact H
             clear H
             have H := H1
             clear H1
             have HC29 := Aside0.mk H
             clear H
             go_upto_region 15 with (fail)
             go_cut [80] (fun v80 wc => ∃ (kq : Nat) (x80_28 : Bool), v80 = .bool x80_28 ∧ Aside0 (json_numeral.j5 kq a0 (wrap64 (x3_17 + 1)) x80_28 = some r) ∧ Aside0 (kq ≤ kj21) ∧ Drawn0 w wc)
             case first =>
              have H := HC29.out
              clear HC29
              by_cases c30 : (wrap64 (x3_17 + 1)) < (a0.size : Int)
              ·rw [if_pos c30] at H
               have c30b0 : decide ((wrap64 (x3_17 + 1)) < (a0.size : Int)) = true := decide_eq_true c30
               clear c30
               (first | rw [c30b0] | (simp only [i64_w, i32_w]; rw [c30b0]) | skip)
               obtain ⟨ji31, hji31⟩ : ∃ j_ : Int, (wrap64 (x3_17 + 1)) = j_ := ⟨_, rfl⟩
               replace H : (if 0 ≤ (ji31) then (if (bt a0 (ji31)) = 43 then (json_numeral.j5 kj21 a0 ji31 true) else (json_numeral.j5 kj21 a0 ji31 ((bt a0 (ji31)) == 45))) else (none)) = some r := by first | (rw [hji31] at H; exact H) | (simp only [hji31] at H ⊢; exact H)
               (try rw [hji31] at c30b0)
               have hji31w : (IntKind.i64.wrap (x3_17 + 1)) = ji31 := (i64_w _).trans hji31
               by_cases c32 : 0 ≤ (ji31)
               ·rw [if_pos c32] at H
                have c32b0 : decide (0 ≤ (ji31)) = true := decide_eq_true c32
                clear c32
                by_cases c34 : (bt a0 (ji31)) = 43
                ·rw [if_pos c34] at H
                 have c34b0 : ((bt a0 (ji31)) == 43) = true := beq_iff_eq.mpr c34
                 have c34b1 : ((bt a0 (ji31)) != 43) = false := bne_eq_false_iff_eq.mpr c34
                 clear c34
                 have H' := Aside0.mk H
                 clear H
                 have p33 : 0 ≤ ((ji31) : Int) := of_decide_eq_true (by first | (with_reducible assumption) | assumption)
                 have q33 : (ji31) < (a0.size : Int) := of_decide_eq_true (by first | (with_reducible assumption) | assumption)
                 have hx33 := bt_at a0 (ji31)
                 replace p33 := eq_true p33
                 replace q33 := eq_true q33
                 go_wp2
                 go_meet
                 case rel => exact ⟨_, (true), (by first | rfl | (simp; done) | (simp; exact isEmpty_ne _) | (simp [*]; done)), (by first | exact H' | (simp only [hji31]; exact H')), ⟨by have := HJ2.out; have := HJ5.out; have := HJ12.out; have := HJ17.out; have := HJ21.out; first | omega | exact Nat.le_refl _⟩, by repeat (first | exact Drawn0.refl _ | apply Drawn0.step)⟩
                ·rw [if_neg c34] at H
                 have c34b0 : ((bt a0 (ji31)) == 43) = false := beq_eq_false_iff_ne.mpr c34
                 have c34b1 : ((bt a0 (ji31)) != 43) = true := bne_iff_ne.mpr c34
                 have H' := Aside0.mk H
                 clear H
                 have p33 : 0 ≤ ((ji31) : Int) := of_decide_eq_true (by first | (with_reducible assumption) | assumption)
                 have q33 : (ji31) < (a0.size : Int) := of_decide_eq_true (by first | (with_reducible assumption) | assumption)
                 have hx33 := bt_at a0 (ji31)
                 replace p33 := eq_true p33
                 replace q33 := eq_true q33
                 have p35 : 0 ≤ ((ji31) : Int) := of_decide_eq_true (by first | (with_reducible assumption) | assumption)
                 have q35 : (ji31) < (a0.size : Int) := of_decide_eq_true (by first | (with_reducible assumption) | assumption)
                 have hx35 := bt_at a0 (ji31)
                 replace p35 := eq_true p35
                 replace q35 := eq_true q35
                 go_wp2
                 go_meet
                 case rel => exact ⟨_, (((bt a0 (ji31)) == 45)), (by first | rfl | (simp; done) | (simp; exact isEmpty_ne _) | (simp only [← hji31] <;> (first | rfl | simp)) | (simp [*]; done)), (by first | exact H' | (simp only [hji31]; exact H')), ⟨by have := HJ2.out; have := HJ5.out; have := HJ12.out; have := HJ17.out; have := HJ21.out; first | omega | exact Nat.le_refl _⟩, by repeat (first | exact Drawn0.refl _ | apply Drawn0.step)⟩
               ·rw [if_neg c32] at H
                exact absurd H (by simp)
              ·rw [if_neg c30] at H
               have c30b0 : decide ((wrap64 (x3_17 + 1)) < (a0.size : Int)) = false := decide_eq_false c30
               clear c30
               (first | rw [c30b0] | (simp only [i64_w, i32_w]; rw [c30b0]) | skip)
               have H' := Aside0.mk H
               clear H
               go_wp2
               go_meet
               case rel => exact ⟨_, (false), (by first | rfl | (simp; done) | (simp; exact isEmpty_ne _) | (simp [*]; done)), (by first | exact H' | (simp only [hji31]; exact H')), ⟨by have := HJ2.out; have := HJ5.out; have := HJ12.out; have := HJ17.out; have := HJ21.out; first | omega | exact Nat.le_refl _⟩, by repeat (first | exact Drawn0.refl _ | apply Drawn0.step)⟩
             case rest =>
              clear HC29
              try clear c1
              try clear p1
              try clear q1
              try clear hx1
              try clear c2
              try clear p2
              try clear q2
              try clear hx2
              try clear c3
              try clear p3
              try clear q3
              try clear hx3
              try clear c4
              try clear c5
              try clear p6
              try clear c7
              try clear c7b0
              try clear c7b1
              try clear c8
              try clear c8b0
              try clear c9
              try clear c9b0
              try clear c10
              try clear c10b0
              try clear c11
              try clear p11
              try clear q11
              try clear hx11
              try clear c12
              try clear c13
              try clear c14
              try clear c14b0
              try clear c16
              try clear c16b0
              try clear c17
              try clear p17
              try clear q17
              try clear hx17
              try clear c19
              try clear c21
              try clear c21b0
              try clear c21b1
              try clear c23
              try clear c23b0
              try clear c24
              try clear c24b0
              try clear p25
              try clear q25
              try clear hx25
              try clear c26
              try clear c26b0
              try clear c26b1
              try clear p27
              try clear q27
              try clear hx27
              try clear c28
              try clear c30
              try clear c30b0
              try clear c32
              try clear c32b0
              try clear p33
              try clear q33
              try clear hx33
              try clear c34
              try clear c34b0
              try clear c34b1
              try clear p35
              try clear q35
              try clear hx35
              try clear p1
              try clear p11
              try clear p17
              try clear p2
              try clear p25
              try clear p27
              try clear p33
              try clear p35
              try clear p6
              try clear q1
              try clear q11
              try clear q17
              try clear q2
              try clear q25
              try clear q27
              try clear q33
              try clear q35
              obtain ⟨kq, x80_28, rfl, HA, HJ28, ⟨mc28, rfl⟩⟩ := hcut
              cases kq with
              | zero => exact absurd HA.out (by simp [json_numeral.j5])
              | succ kj28 =>
               have H := HA.out
               clear HA
               simp only [json_numeral.j5] at H
               by_cases c36 : x80_28 = true
               ·subst c36
                have H1 : ((json_digits.f kj28 a0 (wrap64 ((wrap64 (x3_17 + 1)) + 1))).bind fun t105 => (if t105 = 0 then (some 0) else (some (wrap64 ((wrap64 ((wrap64 (x3_17 + 1)) + 1)) + t105))))) = some r := by rw [if_pos rfl] at H; exact H
                clear H
                have H := H1
                clear H1
                replace H := Option.bind_eq_some_iff.mp H
                obtain ⟨t105, A370, H⟩ := H
                replace H : (if t105 = 0 then (some 0) else (some (wrap64 ((wrap64 ((wrap64 (x3_17 + 1)) + 1)) + t105)))) = some r := H
                have A37 := Aside0.mk A370
                clear A370
                by_cases c38 : t105 = 0
                ·rw [if_pos c38] at H
                 have c38b0 : (t105 == 0) = true := beq_iff_eq.mpr c38
                 have c38b1 : (t105 != 0) = false := bne_eq_false_iff_eq.mpr c38
                 clear c38
                 obtain rfl := Option.some.inj H
                 go_wp2_with (first | ((with_reducible refine gate_callee (f := 132) rfl ?_); refine goesL_ (some 85) rfl rfl Tryz.func132 (by kernel_rfl) rfl #[.string a0, .int .i64 (wrap64 ((wrap64 (x3_17 + 1)) + 1))] rfl (by (try simp only [List.map_toArray, List.map_cons, List.map_nil]); first | done | rfl | (simp only [List.length_drop, List.length_take]; rfl)) ?_; (with_reducible refine (json_digits.calls kj28 a0 (wrap64 ((wrap64 (x3_17 + 1)) + 1)) t105 _ A37.out).mono ?_); rintro e w' ⟨rfl, ⟨nd, rfl⟩⟩; refine ⟨_, rfl, ?_⟩))
                 go_ret
                 exact ⟨by first | rfl | (simp; done) | (simp [*]; done), by repeat (first | exact Drawn0.refl _ | apply Drawn0.step)⟩
                ·rw [if_neg c38] at H
                 have c38b0 : (t105 == 0) = false := beq_eq_false_iff_ne.mpr c38
                 have c38b1 : (t105 != 0) = true := bne_iff_ne.mpr c38
                 obtain rfl := Option.some.inj H
                 go_wp2_with (first | ((with_reducible refine gate_callee (f := 132) rfl ?_); refine goesL_ (some 85) rfl rfl Tryz.func132 (by kernel_rfl) rfl #[.string a0, .int .i64 (wrap64 ((wrap64 (x3_17 + 1)) + 1))] rfl (by (try simp only [List.map_toArray, List.map_cons, List.map_nil]); first | done | rfl | (simp only [List.length_drop, List.length_take]; rfl)) ?_; (with_reducible refine (json_digits.calls kj28 a0 (wrap64 ((wrap64 (x3_17 + 1)) + 1)) t105 _ A37.out).mono ?_); rintro e w' ⟨rfl, ⟨nd, rfl⟩⟩; refine ⟨_, rfl, ?_⟩))
                 go_ret
                 exact ⟨by first | rfl | (simp; done) | (simp [*]; done), by repeat (first | exact Drawn0.refl _ | apply Drawn0.step)⟩
               ·replace c36 := Bool.eq_false_iff.mpr c36
                subst c36
                have H1 : ((json_digits.f kj28 a0 (wrap64 (x3_17 + 1))).bind fun t106 => (if t106 = 0 then (some 0) else (some (wrap64 ((wrap64 (x3_17 + 1)) + t106))))) = some r := by rw [if_neg (show ¬ (false = true) by decide)] at H; exact H
                clear H
                have H := H1
                clear H1
                replace H := Option.bind_eq_some_iff.mp H
                obtain ⟨t106, A390, H⟩ := H
                replace H : (if t106 = 0 then (some 0) else (some (wrap64 ((wrap64 (x3_17 + 1)) + t106)))) = some r := H
                have A39 := Aside0.mk A390
                clear A390
                by_cases c40 : t106 = 0
                ·rw [if_pos c40] at H
                 have c40b0 : (t106 == 0) = true := beq_iff_eq.mpr c40
                 have c40b1 : (t106 != 0) = false := bne_eq_false_iff_eq.mpr c40
                 clear c40
                 obtain rfl := Option.some.inj H
                 go_wp2_with (first | ((with_reducible refine gate_callee (f := 132) rfl ?_); refine goesL_ (some 85) rfl rfl Tryz.func132 (by kernel_rfl) rfl #[.string a0, .int .i64 (wrap64 (x3_17 + 1))] rfl (by (try simp only [List.map_toArray, List.map_cons, List.map_nil]); first | done | rfl | (simp only [List.length_drop, List.length_take]; rfl)) ?_; (with_reducible refine (json_digits.calls kj28 a0 (wrap64 (x3_17 + 1)) t106 _ A39.out).mono ?_); rintro e w' ⟨rfl, ⟨nd, rfl⟩⟩; refine ⟨_, rfl, ?_⟩))
                 go_ret
                 exact ⟨by first | rfl | (simp; done) | (simp [*]; done), by repeat (first | exact Drawn0.refl _ | apply Drawn0.step)⟩
                ·rw [if_neg c40] at H
                 have c40b0 : (t106 == 0) = false := beq_eq_false_iff_ne.mpr c40
                 have c40b1 : (t106 != 0) = true := bne_iff_ne.mpr c40
                 obtain rfl := Option.some.inj H
                 go_wp2_with (first | ((with_reducible refine gate_callee (f := 132) rfl ?_); refine goesL_ (some 85) rfl rfl Tryz.func132 (by kernel_rfl) rfl #[.string a0, .int .i64 (wrap64 (x3_17 + 1))] rfl (by (try simp only [List.map_toArray, List.map_cons, List.map_nil]); first | done | rfl | (simp only [List.length_drop, List.length_take]; rfl)) ?_; (with_reducible refine (json_digits.calls kj28 a0 (wrap64 (x3_17 + 1)) t106 _ A39.out).mono ?_); rintro e w' ⟨rfl, ⟨nd, rfl⟩⟩; refine ⟨_, rfl, ?_⟩))
                 go_ret
                 exact ⟨by first | rfl | (simp; done) | (simp [*]; done), by repeat (first | exact Drawn0.refl _ | apply Drawn0.step)⟩
            ·replace c28 := Bool.eq_false_iff.mpr c28
             subst c28
             have H1 : (some x3_17) = some r := by rw [if_neg (show ¬ (false = true) by decide)] at H; exact H
             clear H
             have H := H1
             clear H1
             obtain rfl := Option.some.inj H
             go_wp2
             go_ret
             exact ⟨by first | rfl | (simp; done) | (simp [*]; done), by repeat (first | exact Drawn0.refl _ | apply Drawn0.step)⟩
def json_Numeral.f (k : Nat) (a0 : ByteArray) : Option (Bool) := if a0.toList = ([] : List UInt8) then (some false) else ((json_numeral.f k a0).bind fun t107 => (some (t107 == (a0.size : Int))))
set_option maxHeartbeats 8000000 in
set_option maxRecDepth 100000 in
theorem json_Numeral.calls (k : Nat) (a0 : ByteArray) (r : Bool) (w : World) (h : json_Numeral.f k a0 = some r) :
  Calls Tryz.prog 105 #[.string a0] w fun e w' => e = .returned (.bool r) ∧ Drawn0 w w' := by
 have H : (if a0.toList = ([] : List UInt8) then (some false) else ((json_numeral.f k a0).bind fun t107 => (some (t107 == (a0.size : Int))))) = some r := h
 clear h
 by_cases c2 : a0.toList = ([] : List UInt8)
 ·rw [if_pos c2] at H
  have c2b0 : (a0.toList == ([] : List UInt8)) = true := beq_iff_eq.mpr c2
  have c2b1 : (a0.toList != ([] : List UInt8)) = false := bne_eq_false_iff_eq.mpr c2
  clear c2
  obtain rfl := Option.some.inj H
  go_enter Tryz.func105, Tryz.ntmps105
  go_wp2
  go_ret
  exact ⟨by first | rfl | (simp; done) | (simp [*]; done), by repeat (first | exact Drawn0.refl _ | apply Drawn0.step)⟩
 ·rw [if_neg c2] at H
  have c2b0 : (a0.toList == ([] : List UInt8)) = false := beq_eq_false_iff_ne.mpr c2
  have c2b1 : (a0.toList != ([] : List UInt8)) = true := bne_iff_ne.mpr c2
  replace H := Option.bind_eq_some_iff.mp H
  obtain ⟨t107, A30, H⟩ := H
  replace H : (some (t107 == (a0.size : Int))) = some r := H
  have A3 := Aside0.mk A30
  clear A30
  obtain rfl := Option.some.inj H
  go_enter Tryz.func105, Tryz.ntmps105
  go_wp2_with (first | (go_at_call 114; (with_reducible refine (json_numeral.calls k a0 t107 _ A3.out).mono ?_); rintro e w' ⟨rfl, ⟨nd, rfl⟩⟩))
  go_ret
  exact ⟨by first | rfl | (simp; done) | (simp [*]; done), by repeat (first | exact Drawn0.refl _ | apply Drawn0.step)⟩
mutual
def json_shaped.j0 : Nat → Bool → Int → ByteArray → ByteArray → Int → Int → Option (Bool)
 | 0, _, _, _, _, _, _ => none
 | k + 1, x6, x110000, x110001, x110002, x110003, x110004 => if x110000 < 1 then (json_shaped.j1 k x6 true x110000 x110001 x110002 x110003 x110004) else (json_shaped.j1 k x6 (decide (x110000 > 7)) x110000 x110001 x110002 x110003 x110004)
def json_shaped.j1 : Nat → Bool → Bool → Int → ByteArray → ByteArray → Int → Int → Option (Bool)
 | 0, _, _, _, _, _, _, _ => none
 | k + 1, x6, x29, x110000, x110001, x110002, x110003, x110004 => if x29 = true then (some false) else (if x6 = true then (json_shaped.j2 k false x110000 x110001 x110002 x110003 x110004) else (json_shaped.j2 k (x110001.toList != ([] : List UInt8)) x110000 x110001 x110002 x110003 x110004))
def json_shaped.j2 : Nat → Bool → Int → ByteArray → ByteArray → Int → Int → Option (Bool)
 | 0, _, _, _, _, _, _ => none
 | k + 1, x38, x110000, x110001, x110002, x110003, x110004 => if x38 = true then (some false) else (if x110000 = 4 then ((json_Numeral.f k x110002).bind fun t111 => (some t111)) else (if x110000 = 5 then (some true) else (some (x110002.toList == ([] : List UInt8)))))
end
def json_shaped.f (k : Nat) (l0 : List (S48)) (a1 : Int) : Option (Bool) := if 0 ≤ a1 then (if a1 < (l0.length : Int) then (if ((rd_T48 l0 a1).f3) ≥ 0 then (if ((rd_T48 l0 a1).f3) < a1 then (if 0 ≤ ((rd_T48 l0 a1).f3) then (if ((rd_T48 l0 a1).f3) < (l0.length : Int) then (json_shaped.j0 k (((rd_T48 l0 ((rd_T48 l0 a1).f3)).f0) == 7) ((rd_T48 l0 a1).f0) ((rd_T48 l0 a1).f1) ((rd_T48 l0 a1).f2) ((rd_T48 l0 a1).f3) ((rd_T48 l0 a1).f4)) else (none)) else (none)) else (json_shaped.j0 k false ((rd_T48 l0 a1).f0) ((rd_T48 l0 a1).f1) ((rd_T48 l0 a1).f2) ((rd_T48 l0 a1).f3) ((rd_T48 l0 a1).f4))) else (json_shaped.j0 k false ((rd_T48 l0 a1).f0) ((rd_T48 l0 a1).f1) ((rd_T48 l0 a1).f2) ((rd_T48 l0 a1).f3) ((rd_T48 l0 a1).f4))) else (none)) else (none)
set_option maxHeartbeats 8000000 in
set_option maxRecDepth 100000 in
theorem json_shaped.calls (k : Nat) (A0 : Option Addr) (c0 : Nat) (l0 : List (S48)) (a1 : Int) (r : Bool) (w : World) (hr0 : Kd.C k48 w A0 l0.length l0) (hc0 : l0.length ≤ c0) (h : json_shaped.f k l0 a1 = some r) :
  Calls Tryz.prog 83 #[.slice A0 l0.length c0, .int .i64 a1] w fun e w' => e = .returned (.bool r) ∧ Below w.heap.size w w' := by
 have hu48 := Tryz.underlying48
 have HR0 := Aside0.mk hr0
 have HC0 := Aside0.mk hc0
 clear hr0 hc0
 have HB := Aside0.mk (Below.refl w.heap.size w)
 have H : (if 0 ≤ a1 then (if a1 < (l0.length : Int) then (if ((rd_T48 l0 a1).f3) ≥ 0 then (if ((rd_T48 l0 a1).f3) < a1 then (if 0 ≤ ((rd_T48 l0 a1).f3) then (if ((rd_T48 l0 a1).f3) < (l0.length : Int) then (json_shaped.j0 k (((rd_T48 l0 ((rd_T48 l0 a1).f3)).f0) == 7) ((rd_T48 l0 a1).f0) ((rd_T48 l0 a1).f1) ((rd_T48 l0 a1).f2) ((rd_T48 l0 a1).f3) ((rd_T48 l0 a1).f4)) else (none)) else (none)) else (json_shaped.j0 k false ((rd_T48 l0 a1).f0) ((rd_T48 l0 a1).f1) ((rd_T48 l0 a1).f2) ((rd_T48 l0 a1).f3) ((rd_T48 l0 a1).f4))) else (json_shaped.j0 k false ((rd_T48 l0 a1).f0) ((rd_T48 l0 a1).f1) ((rd_T48 l0 a1).f2) ((rd_T48 l0 a1).f3) ((rd_T48 l0 a1).f4))) else (none)) else (none)) = some r := h
 clear h
 by_cases c3 : 0 ≤ a1
 ·rw [if_pos c3] at H
  have c3b0 : decide (0 ≤ a1) = true := decide_eq_true c3
  clear c3
  by_cases c4 : a1 < (l0.length : Int)
  ·rw [if_pos c4] at H
   have c4b0 : decide (a1 < (l0.length : Int)) = true := decide_eq_true c4
   clear c4
   have HC5 := Aside0.mk H
   clear H
   have p108 : 0 ≤ (a1 : Int) := of_decide_eq_true (by first | (with_reducible assumption) | assumption)
   have q108 : a1 < (l0.length : Int) := of_decide_eq_true (by first | (with_reducible assumption) | assumption)
   obtain ⟨ad108, e108, hx108_0, hx108_1, hx108_2, hx108_3, hx108_4⟩ := at_T48 HR0.out a1 p108 q108
   cases e108
   replace p108 := eq_true p108
   replace q108 := eq_true q108
   go_enter Tryz.func83, Tryz.ntmps83
   go_upto_region 2 with (first | ((with_reducible refine gate_dst (N := 5) rfl ?_); refine box_event ?hg (N := 5) ?hd (cs := #[.int .i64 0, .string (⟨#[]⟩ : ByteArray), .string (⟨#[]⟩ : ByteArray), .int .i64 0, .int .i64 0]) (t := 48) ?hr ?_; (case hd => rfl); (case hg => rfl); (case hr => first | (go_simp; done) | (go_simp; rfl)); intro gb109 hg w6 hbox hb; have n0_ := Aside0.mk (below_step (by repeat (first | (with_reducible first | exact HB.out | apply below_alloc | apply pw_below_drewN | apply below_drew1) | exact HB.out)) hb); have n1_ := Aside0.mk (hbox); have n2_ := Aside0.mk ((by rw [hg]; exact (below_size (by repeat (first | (with_reducible first | exact HB.out | apply below_alloc | apply pw_below_drewN | apply below_drew1) | exact HB.out))) : w.heap.size ≤ gb109)); have n3_ := Aside0.mk ((by rw [hg]; exact (below_size (by repeat (first | (with_reducible first | exact HB.out | apply below_alloc | apply pw_below_drewN | apply below_drew1) | exact HB.out))) : w.heap.size ≤ gb109)); clear HB; have HB := n0_; have BK109 := n1_; have GW109 := n2_; have GE109 := n3_; clear n0_ n1_ n2_ n3_; clear hb hbox hg; have hcz7_0 : w6.cell? ⟨gb109, 0, none⟩ = some (.int .i64 0) := (blk_cell BK109.out 0).trans rfl; have hcz7_1 : w6.cell? ⟨gb109, 1, none⟩ = some (.string (⟨#[]⟩ : ByteArray)) := (blk_cell BK109.out 1).trans rfl; have hcz7_2 : w6.cell? ⟨gb109, 2, none⟩ = some (.string (⟨#[]⟩ : ByteArray)) := (blk_cell BK109.out 2).trans rfl; have hcz7_3 : w6.cell? ⟨gb109, 3, none⟩ = some (.int .i64 0) := (blk_cell BK109.out 3).trans rfl; have hcz7_4 : w6.cell? ⟨gb109, 4, none⟩ = some (.int .i64 0) := (blk_cell BK109.out 4).trans rfl; have hfz7_0 := blk_frozen BK109.out 0; have hfz7_1 := blk_frozen BK109.out 1; have hfz7_2 := blk_frozen BK109.out 2; have hfz7_3 := blk_frozen BK109.out 3; have hfz7_4 := blk_frozen BK109.out 4))
   (try simp only [Act.put, List.setIfInBounds_toArray, List.set_cons_zero, List.set_cons_succ])
   go_cut [6] (fun v6 wc => ∃ (kq : Nat) (x6_4 : Bool), v6 = .bool x6_4 ∧ Aside0 (json_shaped.j0 kq x6_4 ((rd_T48 l0 a1).f0) ((rd_T48 l0 a1).f1) ((rd_T48 l0 a1).f2) ((rd_T48 l0 a1).f3) ((rd_T48 l0 a1).f4) = some r) ∧ Aside0 (kq ≤ k) ∧ Aside0 (wc.heap[gb109]? = some (.cells #[.int .i64 ((rd_T48 l0 a1).f0), .string ((rd_T48 l0 a1).f1), .string ((rd_T48 l0 a1).f2), .int .i64 ((rd_T48 l0 a1).f3), .int .i64 ((rd_T48 l0 a1).f4)] 48 (0, 0))) ∧ Aside0 (Below w.heap.size w wc))
   case first =>
    have H := HC5.out
    clear HC5
    by_cases c8 : ((rd_T48 l0 a1).f3) ≥ 0
    ·rw [if_pos c8] at H
     have c8b0 : decide (0 ≤ ((rd_T48 l0 a1).f3)) = true := decide_eq_true c8
     clear c8
     (first | rw [c8b0] | (simp only [i64_w, i32_w]; rw [c8b0]) | skip)
     by_cases c9 : ((rd_T48 l0 a1).f3) < a1
     ·rw [if_pos c9] at H
      have c9b0 : decide (((rd_T48 l0 a1).f3) < a1) = true := decide_eq_true c9
      clear c9
      by_cases c10 : 0 ≤ ((rd_T48 l0 a1).f3)
      ·rw [if_pos c10] at H
       have c10b0 : decide (0 ≤ ((rd_T48 l0 a1).f3)) = true := decide_eq_true c10
       clear c10
       by_cases c11 : ((rd_T48 l0 a1).f3) < (l0.length : Int)
       ·rw [if_pos c11] at H
        have c11b0 : decide (((rd_T48 l0 a1).f3) < (l0.length : Int)) = true := decide_eq_true c11
        clear c11
        have H' := Aside0.mk H
        clear H
        have hcz12_0 : w6.cell? ⟨gb109, 0, none⟩ = some (.int .i64 0) := (blk_cell BK109.out 0).trans rfl
        have hcz12_1 : w6.cell? ⟨gb109, 1, none⟩ = some (.string (⟨#[]⟩ : ByteArray)) := (blk_cell BK109.out 1).trans rfl
        have hcz12_2 : w6.cell? ⟨gb109, 2, none⟩ = some (.string (⟨#[]⟩ : ByteArray)) := (blk_cell BK109.out 2).trans rfl
        have hcz12_3 : w6.cell? ⟨gb109, 3, none⟩ = some (.int .i64 0) := (blk_cell BK109.out 3).trans rfl
        have hcz12_4 : w6.cell? ⟨gb109, 4, none⟩ = some (.int .i64 0) := (blk_cell BK109.out 4).trans rfl
        have hfz12_0 := blk_frozen BK109.out 0
        have hfz12_1 := blk_frozen BK109.out 1
        have hfz12_2 := blk_frozen BK109.out 2
        have hfz12_3 := blk_frozen BK109.out 3
        have hfz12_4 := blk_frozen BK109.out 4
        have p110 : 0 ≤ (((rd_T48 l0 a1).f3) : Int) := of_decide_eq_true (by first | (with_reducible assumption) | assumption)
        have q110 : ((rd_T48 l0 a1).f3) < (l0.length : Int) := of_decide_eq_true (by first | (with_reducible assumption) | assumption)
        obtain ⟨ad110, e110, hx110_0, hx110_1, hx110_2, hx110_3, hx110_4⟩ := at_T48 HR0.out ((rd_T48 l0 a1).f3) p110 q110
        obtain rfl : ad108 = ad110 := (by injection e110)
        have hn110_0 : ad108.block ≠ gb109 := Nat.ne_of_lt (Nat.lt_of_lt_of_le (by have := World.block_lt_of_cell? _ _ hx110_0; first | rwa [add_block] at this | exact this) GW109.out)
        have hn110_1 : ad108.block ≠ gb109 := Nat.ne_of_lt (Nat.lt_of_lt_of_le (by have := World.block_lt_of_cell? _ _ hx110_0; first | rwa [add_block] at this | exact this) GW109.out)
        have hn110_2 : ad108.block ≠ gb109 := Nat.ne_of_lt (Nat.lt_of_lt_of_le (by have := World.block_lt_of_cell? _ _ hx110_0; first | rwa [add_block] at this | exact this) GW109.out)
        have hn110_3 : ad108.block ≠ gb109 := Nat.ne_of_lt (Nat.lt_of_lt_of_le (by have := World.block_lt_of_cell? _ _ hx110_0; first | rwa [add_block] at this | exact this) GW109.out)
        have hn110_4 : ad108.block ≠ gb109 := Nat.ne_of_lt (Nat.lt_of_lt_of_le (by have := World.block_lt_of_cell? _ _ hx110_0; first | rwa [add_block] at this | exact this) GW109.out)
        replace hx110_0 := (HB.out.cell (World.block_lt_of_cell? w _ hx110_0)).trans hx110_0
        replace hx110_1 := (HB.out.cell (World.block_lt_of_cell? w _ hx110_1)).trans hx110_1
        replace hx110_2 := (HB.out.cell (World.block_lt_of_cell? w _ hx110_2)).trans hx110_2
        replace hx110_3 := (HB.out.cell (World.block_lt_of_cell? w _ hx110_3)).trans hx110_3
        replace hx110_4 := (HB.out.cell (World.block_lt_of_cell? w _ hx110_4)).trans hx110_4
        replace hx110_0 := (cell_far (p := ⟨gb109, 0, none⟩) (by first | (rw [add_block]; exact hn110_0) | (show (Addr.add _ _).block ≠ _; rw [add_block]; exact hn110_0) | exact hn110_0) (.int .i64 ((rd_T48 l0 a1).f0))).trans hx110_0
        replace hx110_1 := (cell_far (p := ⟨gb109, 0, none⟩) (by first | (rw [add_block]; exact hn110_0) | (show (Addr.add _ _).block ≠ _; rw [add_block]; exact hn110_0) | exact hn110_0) (.int .i64 ((rd_T48 l0 a1).f0))).trans hx110_1
        replace hx110_2 := (cell_far (p := ⟨gb109, 0, none⟩) (by first | (rw [add_block]; exact hn110_0) | (show (Addr.add _ _).block ≠ _; rw [add_block]; exact hn110_0) | exact hn110_0) (.int .i64 ((rd_T48 l0 a1).f0))).trans hx110_2
        replace hx110_3 := (cell_far (p := ⟨gb109, 0, none⟩) (by first | (rw [add_block]; exact hn110_0) | (show (Addr.add _ _).block ≠ _; rw [add_block]; exact hn110_0) | exact hn110_0) (.int .i64 ((rd_T48 l0 a1).f0))).trans hx110_3
        replace hx110_4 := (cell_far (p := ⟨gb109, 0, none⟩) (by first | (rw [add_block]; exact hn110_0) | (show (Addr.add _ _).block ≠ _; rw [add_block]; exact hn110_0) | exact hn110_0) (.int .i64 ((rd_T48 l0 a1).f0))).trans hx110_4
        replace hx110_0 := (cell_far (p := ⟨gb109, 1, none⟩) (by first | (rw [add_block]; exact hn110_1) | (show (Addr.add _ _).block ≠ _; rw [add_block]; exact hn110_1) | exact hn110_1) (.string ((rd_T48 l0 a1).f1))).trans hx110_0
        replace hx110_1 := (cell_far (p := ⟨gb109, 1, none⟩) (by first | (rw [add_block]; exact hn110_1) | (show (Addr.add _ _).block ≠ _; rw [add_block]; exact hn110_1) | exact hn110_1) (.string ((rd_T48 l0 a1).f1))).trans hx110_1
        replace hx110_2 := (cell_far (p := ⟨gb109, 1, none⟩) (by first | (rw [add_block]; exact hn110_1) | (show (Addr.add _ _).block ≠ _; rw [add_block]; exact hn110_1) | exact hn110_1) (.string ((rd_T48 l0 a1).f1))).trans hx110_2
        replace hx110_3 := (cell_far (p := ⟨gb109, 1, none⟩) (by first | (rw [add_block]; exact hn110_1) | (show (Addr.add _ _).block ≠ _; rw [add_block]; exact hn110_1) | exact hn110_1) (.string ((rd_T48 l0 a1).f1))).trans hx110_3
        replace hx110_4 := (cell_far (p := ⟨gb109, 1, none⟩) (by first | (rw [add_block]; exact hn110_1) | (show (Addr.add _ _).block ≠ _; rw [add_block]; exact hn110_1) | exact hn110_1) (.string ((rd_T48 l0 a1).f1))).trans hx110_4
        replace hx110_0 := (cell_far (p := ⟨gb109, 2, none⟩) (by first | (rw [add_block]; exact hn110_2) | (show (Addr.add _ _).block ≠ _; rw [add_block]; exact hn110_2) | exact hn110_2) (.string ((rd_T48 l0 a1).f2))).trans hx110_0
        replace hx110_1 := (cell_far (p := ⟨gb109, 2, none⟩) (by first | (rw [add_block]; exact hn110_2) | (show (Addr.add _ _).block ≠ _; rw [add_block]; exact hn110_2) | exact hn110_2) (.string ((rd_T48 l0 a1).f2))).trans hx110_1
        replace hx110_2 := (cell_far (p := ⟨gb109, 2, none⟩) (by first | (rw [add_block]; exact hn110_2) | (show (Addr.add _ _).block ≠ _; rw [add_block]; exact hn110_2) | exact hn110_2) (.string ((rd_T48 l0 a1).f2))).trans hx110_2
        replace hx110_3 := (cell_far (p := ⟨gb109, 2, none⟩) (by first | (rw [add_block]; exact hn110_2) | (show (Addr.add _ _).block ≠ _; rw [add_block]; exact hn110_2) | exact hn110_2) (.string ((rd_T48 l0 a1).f2))).trans hx110_3
        replace hx110_4 := (cell_far (p := ⟨gb109, 2, none⟩) (by first | (rw [add_block]; exact hn110_2) | (show (Addr.add _ _).block ≠ _; rw [add_block]; exact hn110_2) | exact hn110_2) (.string ((rd_T48 l0 a1).f2))).trans hx110_4
        replace hx110_0 := (cell_far (p := ⟨gb109, 3, none⟩) (by first | (rw [add_block]; exact hn110_3) | (show (Addr.add _ _).block ≠ _; rw [add_block]; exact hn110_3) | exact hn110_3) (.int .i64 ((rd_T48 l0 a1).f3))).trans hx110_0
        replace hx110_1 := (cell_far (p := ⟨gb109, 3, none⟩) (by first | (rw [add_block]; exact hn110_3) | (show (Addr.add _ _).block ≠ _; rw [add_block]; exact hn110_3) | exact hn110_3) (.int .i64 ((rd_T48 l0 a1).f3))).trans hx110_1
        replace hx110_2 := (cell_far (p := ⟨gb109, 3, none⟩) (by first | (rw [add_block]; exact hn110_3) | (show (Addr.add _ _).block ≠ _; rw [add_block]; exact hn110_3) | exact hn110_3) (.int .i64 ((rd_T48 l0 a1).f3))).trans hx110_2
        replace hx110_3 := (cell_far (p := ⟨gb109, 3, none⟩) (by first | (rw [add_block]; exact hn110_3) | (show (Addr.add _ _).block ≠ _; rw [add_block]; exact hn110_3) | exact hn110_3) (.int .i64 ((rd_T48 l0 a1).f3))).trans hx110_3
        replace hx110_4 := (cell_far (p := ⟨gb109, 3, none⟩) (by first | (rw [add_block]; exact hn110_3) | (show (Addr.add _ _).block ≠ _; rw [add_block]; exact hn110_3) | exact hn110_3) (.int .i64 ((rd_T48 l0 a1).f3))).trans hx110_4
        replace hx110_0 := (cell_far (p := ⟨gb109, 4, none⟩) (by first | (rw [add_block]; exact hn110_4) | (show (Addr.add _ _).block ≠ _; rw [add_block]; exact hn110_4) | exact hn110_4) (.int .i64 ((rd_T48 l0 a1).f4))).trans hx110_0
        replace hx110_1 := (cell_far (p := ⟨gb109, 4, none⟩) (by first | (rw [add_block]; exact hn110_4) | (show (Addr.add _ _).block ≠ _; rw [add_block]; exact hn110_4) | exact hn110_4) (.int .i64 ((rd_T48 l0 a1).f4))).trans hx110_1
        replace hx110_2 := (cell_far (p := ⟨gb109, 4, none⟩) (by first | (rw [add_block]; exact hn110_4) | (show (Addr.add _ _).block ≠ _; rw [add_block]; exact hn110_4) | exact hn110_4) (.int .i64 ((rd_T48 l0 a1).f4))).trans hx110_2
        replace hx110_3 := (cell_far (p := ⟨gb109, 4, none⟩) (by first | (rw [add_block]; exact hn110_4) | (show (Addr.add _ _).block ≠ _; rw [add_block]; exact hn110_4) | exact hn110_4) (.int .i64 ((rd_T48 l0 a1).f4))).trans hx110_3
        replace hx110_4 := (cell_far (p := ⟨gb109, 4, none⟩) (by first | (rw [add_block]; exact hn110_4) | (show (Addr.add _ _).block ≠ _; rw [add_block]; exact hn110_4) | exact hn110_4) (.int .i64 ((rd_T48 l0 a1).f4))).trans hx110_4
        clear hn110_0
        clear hn110_1
        clear hn110_2
        clear hn110_3
        clear hn110_4
        replace p110 := eq_true p110
        replace q110 := eq_true q110
        go_wp2
        go_meet
        case rel => exact ⟨_, ((((rd_T48 l0 ((rd_T48 l0 a1).f3)).f0) == 7)), (by first | rfl | (simp; done) | (simp; exact isEmpty_ne _) | (simp [*]; done)), H', ⟨by first | omega | exact Nat.le_refl _⟩, ⟨by (with_reducible repeat (first | refine blk_drewN ?_ _ | refine blk_drew ?_ | refine blk_alloc ?_ _)); refine blk_put (cs := #[.int .i64 ((rd_T48 l0 a1).f0), .string ((rd_T48 l0 a1).f1), .string ((rd_T48 l0 a1).f2), .int .i64 ((rd_T48 l0 a1).f3), .int .i64 0]) ?_ 4 _ rfl; (with_reducible repeat (first | refine blk_drewN ?_ _ | refine blk_drew ?_ | refine blk_alloc ?_ _)); refine blk_put (cs := #[.int .i64 ((rd_T48 l0 a1).f0), .string ((rd_T48 l0 a1).f1), .string ((rd_T48 l0 a1).f2), .int .i64 0, .int .i64 0]) ?_ 3 _ rfl; (with_reducible repeat (first | refine blk_drewN ?_ _ | refine blk_drew ?_ | refine blk_alloc ?_ _)); refine blk_put (cs := #[.int .i64 ((rd_T48 l0 a1).f0), .string ((rd_T48 l0 a1).f1), .string (⟨#[]⟩ : ByteArray), .int .i64 0, .int .i64 0]) ?_ 2 _ rfl; (with_reducible repeat (first | refine blk_drewN ?_ _ | refine blk_drew ?_ | refine blk_alloc ?_ _)); refine blk_put (cs := #[.int .i64 ((rd_T48 l0 a1).f0), .string (⟨#[]⟩ : ByteArray), .string (⟨#[]⟩ : ByteArray), .int .i64 0, .int .i64 0]) ?_ 1 _ rfl; (with_reducible repeat (first | refine blk_drewN ?_ _ | refine blk_drew ?_ | refine blk_alloc ?_ _)); refine blk_put (cs := #[.int .i64 0, .string (⟨#[]⟩ : ByteArray), .string (⟨#[]⟩ : ByteArray), .int .i64 0, .int .i64 0]) ?_ 0 _ rfl; (with_reducible repeat (first | refine blk_drewN ?_ _ | refine blk_drew ?_ | refine blk_alloc ?_ _)); exact BK109.out⟩, ⟨by repeat (first | (with_reducible first | exact HB.out | apply below_alloc | apply pw_below_drewN | apply below_drew1 | refine below_set ?_ GE109.out) | exact HB.out)⟩⟩
       ·rw [if_neg c11] at H
        exact absurd H (by simp)
      ·rw [if_neg c10] at H
       exact absurd H (by simp)
     ·rw [if_neg c9] at H
      have c9b0 : decide (((rd_T48 l0 a1).f3) < a1) = false := decide_eq_false c9
      clear c9
      have H' := Aside0.mk H
      clear H
      have hcz13_0 : w6.cell? ⟨gb109, 0, none⟩ = some (.int .i64 0) := (blk_cell BK109.out 0).trans rfl
      have hcz13_1 : w6.cell? ⟨gb109, 1, none⟩ = some (.string (⟨#[]⟩ : ByteArray)) := (blk_cell BK109.out 1).trans rfl
      have hcz13_2 : w6.cell? ⟨gb109, 2, none⟩ = some (.string (⟨#[]⟩ : ByteArray)) := (blk_cell BK109.out 2).trans rfl
      have hcz13_3 : w6.cell? ⟨gb109, 3, none⟩ = some (.int .i64 0) := (blk_cell BK109.out 3).trans rfl
      have hcz13_4 : w6.cell? ⟨gb109, 4, none⟩ = some (.int .i64 0) := (blk_cell BK109.out 4).trans rfl
      have hfz13_0 := blk_frozen BK109.out 0
      have hfz13_1 := blk_frozen BK109.out 1
      have hfz13_2 := blk_frozen BK109.out 2
      have hfz13_3 := blk_frozen BK109.out 3
      have hfz13_4 := blk_frozen BK109.out 4
      go_wp2
      go_meet
      case rel => exact ⟨_, (false), (by first | rfl | (simp; done) | (simp; exact isEmpty_ne _) | (simp [*]; done)), H', ⟨by first | omega | exact Nat.le_refl _⟩, ⟨by (with_reducible repeat (first | refine blk_drewN ?_ _ | refine blk_drew ?_ | refine blk_alloc ?_ _)); refine blk_put (cs := #[.int .i64 ((rd_T48 l0 a1).f0), .string ((rd_T48 l0 a1).f1), .string ((rd_T48 l0 a1).f2), .int .i64 ((rd_T48 l0 a1).f3), .int .i64 0]) ?_ 4 _ rfl; (with_reducible repeat (first | refine blk_drewN ?_ _ | refine blk_drew ?_ | refine blk_alloc ?_ _)); refine blk_put (cs := #[.int .i64 ((rd_T48 l0 a1).f0), .string ((rd_T48 l0 a1).f1), .string ((rd_T48 l0 a1).f2), .int .i64 0, .int .i64 0]) ?_ 3 _ rfl; (with_reducible repeat (first | refine blk_drewN ?_ _ | refine blk_drew ?_ | refine blk_alloc ?_ _)); refine blk_put (cs := #[.int .i64 ((rd_T48 l0 a1).f0), .string ((rd_T48 l0 a1).f1), .string (⟨#[]⟩ : ByteArray), .int .i64 0, .int .i64 0]) ?_ 2 _ rfl; (with_reducible repeat (first | refine blk_drewN ?_ _ | refine blk_drew ?_ | refine blk_alloc ?_ _)); refine blk_put (cs := #[.int .i64 ((rd_T48 l0 a1).f0), .string (⟨#[]⟩ : ByteArray), .string (⟨#[]⟩ : ByteArray), .int .i64 0, .int .i64 0]) ?_ 1 _ rfl; (with_reducible repeat (first | refine blk_drewN ?_ _ | refine blk_drew ?_ | refine blk_alloc ?_ _)); refine blk_put (cs := #[.int .i64 0, .string (⟨#[]⟩ : ByteArray), .string (⟨#[]⟩ : ByteArray), .int .i64 0, .int .i64 0]) ?_ 0 _ rfl; (with_reducible repeat (first | refine blk_drewN ?_ _ | refine blk_drew ?_ | refine blk_alloc ?_ _)); exact BK109.out⟩, ⟨by repeat (first | (with_reducible first | exact HB.out | apply below_alloc | apply pw_below_drewN | apply below_drew1 | refine below_set ?_ GE109.out) | exact HB.out)⟩⟩
    ·rw [if_neg c8] at H
     have c8b0 : decide (0 ≤ ((rd_T48 l0 a1).f3)) = false := decide_eq_false c8
     clear c8
     (first | rw [c8b0] | (simp only [i64_w, i32_w]; rw [c8b0]) | skip)
     have H' := Aside0.mk H
     clear H
     have hcz14_0 : w6.cell? ⟨gb109, 0, none⟩ = some (.int .i64 0) := (blk_cell BK109.out 0).trans rfl
     have hcz14_1 : w6.cell? ⟨gb109, 1, none⟩ = some (.string (⟨#[]⟩ : ByteArray)) := (blk_cell BK109.out 1).trans rfl
     have hcz14_2 : w6.cell? ⟨gb109, 2, none⟩ = some (.string (⟨#[]⟩ : ByteArray)) := (blk_cell BK109.out 2).trans rfl
     have hcz14_3 : w6.cell? ⟨gb109, 3, none⟩ = some (.int .i64 0) := (blk_cell BK109.out 3).trans rfl
     have hcz14_4 : w6.cell? ⟨gb109, 4, none⟩ = some (.int .i64 0) := (blk_cell BK109.out 4).trans rfl
     have hfz14_0 := blk_frozen BK109.out 0
     have hfz14_1 := blk_frozen BK109.out 1
     have hfz14_2 := blk_frozen BK109.out 2
     have hfz14_3 := blk_frozen BK109.out 3
     have hfz14_4 := blk_frozen BK109.out 4
     go_wp2
     go_meet
     case rel => exact ⟨_, (false), (by first | rfl | (simp; done) | (simp; exact isEmpty_ne _) | (simp [*]; done)), H', ⟨by first | omega | exact Nat.le_refl _⟩, ⟨by (with_reducible repeat (first | refine blk_drewN ?_ _ | refine blk_drew ?_ | refine blk_alloc ?_ _)); refine blk_put (cs := #[.int .i64 ((rd_T48 l0 a1).f0), .string ((rd_T48 l0 a1).f1), .string ((rd_T48 l0 a1).f2), .int .i64 ((rd_T48 l0 a1).f3), .int .i64 0]) ?_ 4 _ rfl; (with_reducible repeat (first | refine blk_drewN ?_ _ | refine blk_drew ?_ | refine blk_alloc ?_ _)); refine blk_put (cs := #[.int .i64 ((rd_T48 l0 a1).f0), .string ((rd_T48 l0 a1).f1), .string ((rd_T48 l0 a1).f2), .int .i64 0, .int .i64 0]) ?_ 3 _ rfl; (with_reducible repeat (first | refine blk_drewN ?_ _ | refine blk_drew ?_ | refine blk_alloc ?_ _)); refine blk_put (cs := #[.int .i64 ((rd_T48 l0 a1).f0), .string ((rd_T48 l0 a1).f1), .string (⟨#[]⟩ : ByteArray), .int .i64 0, .int .i64 0]) ?_ 2 _ rfl; (with_reducible repeat (first | refine blk_drewN ?_ _ | refine blk_drew ?_ | refine blk_alloc ?_ _)); refine blk_put (cs := #[.int .i64 ((rd_T48 l0 a1).f0), .string (⟨#[]⟩ : ByteArray), .string (⟨#[]⟩ : ByteArray), .int .i64 0, .int .i64 0]) ?_ 1 _ rfl; (with_reducible repeat (first | refine blk_drewN ?_ _ | refine blk_drew ?_ | refine blk_alloc ?_ _)); refine blk_put (cs := #[.int .i64 0, .string (⟨#[]⟩ : ByteArray), .string (⟨#[]⟩ : ByteArray), .int .i64 0, .int .i64 0]) ?_ 0 _ rfl; (with_reducible repeat (first | refine blk_drewN ?_ _ | refine blk_drew ?_ | refine blk_alloc ?_ _)); exact BK109.out⟩, ⟨by repeat (first | (with_reducible first | exact HB.out | apply below_alloc | apply pw_below_drewN | apply below_drew1 | refine below_set ?_ GE109.out) | exact HB.out)⟩⟩
   case rest =>
    clear HC5
    try clear c1
    try clear p1
    try clear q1
    try clear hx1
    try clear p2
    try clear c3
    try clear c3b0
    try clear c4
    try clear c4b0
    try clear c8
    try clear c8b0
    try clear c9
    try clear c9b0
    try clear c10
    try clear c10b0
    try clear p10
    try clear q10
    try clear hx10
    try clear c11
    try clear c11b0
    try clear p11
    try clear q11
    try clear hx11
    try clear hcz12_0
    try clear hcz12_1
    try clear hcz12_2
    try clear hcz12_3
    try clear hcz12_4
    try clear hcz13_0
    try clear hcz13_1
    try clear hcz13_2
    try clear hcz13_3
    try clear hcz13_4
    try clear hcz14_0
    try clear hcz14_1
    try clear hcz14_2
    try clear hcz14_3
    try clear hcz14_4
    try clear hcz7_0
    try clear hcz7_1
    try clear hcz7_2
    try clear hcz7_3
    try clear hcz7_4
    try clear hfz12_0
    try clear hfz12_1
    try clear hfz12_2
    try clear hfz12_3
    try clear hfz12_4
    try clear hfz13_0
    try clear hfz13_1
    try clear hfz13_2
    try clear hfz13_3
    try clear hfz13_4
    try clear hfz14_0
    try clear hfz14_1
    try clear hfz14_2
    try clear hfz14_3
    try clear hfz14_4
    try clear hfz7_0
    try clear hfz7_1
    try clear hfz7_2
    try clear hfz7_3
    try clear hfz7_4
    try clear hx108_0
    try clear hx108_1
    try clear hx108_2
    try clear hx108_3
    try clear hx108_4
    try clear hx110_0
    try clear hx110_1
    try clear hx110_2
    try clear hx110_3
    try clear hx110_4
    try clear p108
    try clear p110
    try clear q108
    try clear q110
    obtain ⟨kq, x6_4, rfl, HA, HJ4, BK109, HB⟩ := hcut
    cases kq with
    | zero => exact absurd HA.out (by simp [json_shaped.j0])
    | succ kj4 =>
     have H := HA.out
     clear HA
     simp only [json_shaped.j0] at H
     have HC15 := Aside0.mk H
     clear H
     go_upto_region 3 with (fail)
     go_cut [29] (fun v29 wc => ∃ (kq : Nat) (x29_14 : Bool), v29 = .bool x29_14 ∧ Aside0 (json_shaped.j1 kq x6_4 x29_14 ((rd_T48 l0 a1).f0) ((rd_T48 l0 a1).f1) ((rd_T48 l0 a1).f2) ((rd_T48 l0 a1).f3) ((rd_T48 l0 a1).f4) = some r) ∧ Aside0 (kq ≤ kj4) ∧ Aside0 (wc.heap[gb109]? = some (.cells #[.int .i64 ((rd_T48 l0 a1).f0), .string ((rd_T48 l0 a1).f1), .string ((rd_T48 l0 a1).f2), .int .i64 ((rd_T48 l0 a1).f3), .int .i64 ((rd_T48 l0 a1).f4)] 48 (0, 0))) ∧ Aside0 (Below w.heap.size w wc))
     case first =>
      have H := HC15.out
      clear HC15
      by_cases c16 : ((rd_T48 l0 a1).f0) < 1
      ·rw [if_pos c16] at H
       have c16b0 : decide (((rd_T48 l0 a1).f0) < 1) = true := decide_eq_true c16
       clear c16
       (first | rw [c16b0] | (simp only [i64_w, i32_w]; rw [c16b0]) | skip)
       have H' := Aside0.mk H
       clear H
       have hcz17_0 : wc.cell? ⟨gb109, 0, none⟩ = some (.int .i64 ((rd_T48 l0 a1).f0)) := (blk_cell BK109.out 0).trans rfl
       have hcz17_1 : wc.cell? ⟨gb109, 1, none⟩ = some (.string ((rd_T48 l0 a1).f1)) := (blk_cell BK109.out 1).trans rfl
       have hcz17_2 : wc.cell? ⟨gb109, 2, none⟩ = some (.string ((rd_T48 l0 a1).f2)) := (blk_cell BK109.out 2).trans rfl
       have hcz17_3 : wc.cell? ⟨gb109, 3, none⟩ = some (.int .i64 ((rd_T48 l0 a1).f3)) := (blk_cell BK109.out 3).trans rfl
       have hcz17_4 : wc.cell? ⟨gb109, 4, none⟩ = some (.int .i64 ((rd_T48 l0 a1).f4)) := (blk_cell BK109.out 4).trans rfl
       have hfz17_0 := blk_frozen BK109.out 0
       have hfz17_1 := blk_frozen BK109.out 1
       have hfz17_2 := blk_frozen BK109.out 2
       have hfz17_3 := blk_frozen BK109.out 3
       have hfz17_4 := blk_frozen BK109.out 4
       go_wp2
       go_meet
       case rel => exact ⟨_, (true), (by first | rfl | (simp; done) | (simp; exact isEmpty_ne _) | (simp [*]; done)), H', ⟨by have := HJ4.out; first | omega | exact Nat.le_refl _⟩, ⟨by (with_reducible repeat (first | refine blk_drewN ?_ _ | refine blk_drew ?_ | refine blk_alloc ?_ _)); exact BK109.out⟩, ⟨by repeat (first | (with_reducible first | exact HB.out | apply below_alloc | apply pw_below_drewN | apply below_drew1 | refine below_set ?_ GE109.out) | exact HB.out)⟩⟩
      ·rw [if_neg c16] at H
       have c16b0 : decide (((rd_T48 l0 a1).f0) < 1) = false := decide_eq_false c16
       clear c16
       (first | rw [c16b0] | (simp only [i64_w, i32_w]; rw [c16b0]) | skip)
       have H' := Aside0.mk H
       clear H
       have hcz18_0 : wc.cell? ⟨gb109, 0, none⟩ = some (.int .i64 ((rd_T48 l0 a1).f0)) := (blk_cell BK109.out 0).trans rfl
       have hcz18_1 : wc.cell? ⟨gb109, 1, none⟩ = some (.string ((rd_T48 l0 a1).f1)) := (blk_cell BK109.out 1).trans rfl
       have hcz18_2 : wc.cell? ⟨gb109, 2, none⟩ = some (.string ((rd_T48 l0 a1).f2)) := (blk_cell BK109.out 2).trans rfl
       have hcz18_3 : wc.cell? ⟨gb109, 3, none⟩ = some (.int .i64 ((rd_T48 l0 a1).f3)) := (blk_cell BK109.out 3).trans rfl
       have hcz18_4 : wc.cell? ⟨gb109, 4, none⟩ = some (.int .i64 ((rd_T48 l0 a1).f4)) := (blk_cell BK109.out 4).trans rfl
       have hfz18_0 := blk_frozen BK109.out 0
       have hfz18_1 := blk_frozen BK109.out 1
       have hfz18_2 := blk_frozen BK109.out 2
       have hfz18_3 := blk_frozen BK109.out 3
       have hfz18_4 := blk_frozen BK109.out 4
       go_wp2
       go_meet
       case rel => exact ⟨_, (decide (((rd_T48 l0 a1).f0) > 7)), (by first | rfl | (simp; done) | (simp; exact isEmpty_ne _) | (simp [*]; done)), H', ⟨by have := HJ4.out; first | omega | exact Nat.le_refl _⟩, ⟨by (with_reducible repeat (first | refine blk_drewN ?_ _ | refine blk_drew ?_ | refine blk_alloc ?_ _)); exact BK109.out⟩, ⟨by repeat (first | (with_reducible first | exact HB.out | apply below_alloc | apply pw_below_drewN | apply below_drew1 | refine below_set ?_ GE109.out) | exact HB.out)⟩⟩
     case rest =>
      clear HC15
      try clear c1
      try clear p1
      try clear q1
      try clear hx1
      try clear p2
      try clear c3
      try clear c3b0
      try clear c4
      try clear c4b0
      try clear c8
      try clear c8b0
      try clear c9
      try clear c9b0
      try clear c10
      try clear c10b0
      try clear p10
      try clear q10
      try clear hx10
      try clear c11
      try clear c11b0
      try clear p11
      try clear q11
      try clear hx11
      try clear c16
      try clear c16b0
      try clear hcz12_0
      try clear hcz12_1
      try clear hcz12_2
      try clear hcz12_3
      try clear hcz12_4
      try clear hcz13_0
      try clear hcz13_1
      try clear hcz13_2
      try clear hcz13_3
      try clear hcz13_4
      try clear hcz14_0
      try clear hcz14_1
      try clear hcz14_2
      try clear hcz14_3
      try clear hcz14_4
      try clear hcz17_0
      try clear hcz17_1
      try clear hcz17_2
      try clear hcz17_3
      try clear hcz17_4
      try clear hcz18_0
      try clear hcz18_1
      try clear hcz18_2
      try clear hcz18_3
      try clear hcz18_4
      try clear hcz7_0
      try clear hcz7_1
      try clear hcz7_2
      try clear hcz7_3
      try clear hcz7_4
      try clear hfz12_0
      try clear hfz12_1
      try clear hfz12_2
      try clear hfz12_3
      try clear hfz12_4
      try clear hfz13_0
      try clear hfz13_1
      try clear hfz13_2
      try clear hfz13_3
      try clear hfz13_4
      try clear hfz14_0
      try clear hfz14_1
      try clear hfz14_2
      try clear hfz14_3
      try clear hfz14_4
      try clear hfz17_0
      try clear hfz17_1
      try clear hfz17_2
      try clear hfz17_3
      try clear hfz17_4
      try clear hfz18_0
      try clear hfz18_1
      try clear hfz18_2
      try clear hfz18_3
      try clear hfz18_4
      try clear hfz7_0
      try clear hfz7_1
      try clear hfz7_2
      try clear hfz7_3
      try clear hfz7_4
      try clear hx108_0
      try clear hx108_1
      try clear hx108_2
      try clear hx108_3
      try clear hx108_4
      try clear hx110_0
      try clear hx110_1
      try clear hx110_2
      try clear hx110_3
      try clear hx110_4
      try clear p1
      try clear p10
      try clear p108
      try clear p11
      try clear p110
      try clear p2
      try clear q1
      try clear q10
      try clear q108
      try clear q11
      try clear q110
      obtain ⟨kq, x29_14, rfl, HA, HJ14, BK109, HB⟩ := hcut
      cases kq with
      | zero => exact absurd HA.out (by simp [json_shaped.j1])
      | succ kj14 =>
       have H := HA.out
       clear HA
       simp only [json_shaped.j1] at H
       by_cases c19 : x29_14 = true
       ·subst c19
        have H1 : (some false) = some r := by rw [if_pos rfl] at H; exact H
        clear H
        have H := H1
        clear H1
        obtain rfl := Option.some.inj H
        go_wp2
        go_ret
        exact ⟨by first | rfl | (simp [errW_none, errW_some] <;> rfl) | (simp [*, errW_none, errW_some] <;> rfl), by repeat (first | (with_reducible first | exact HB.out | apply below_alloc | apply pw_below_drewN | apply below_drew1 | refine below_set ?_ GE109.out) | exact HB.out)⟩
       ·replace c19 := Bool.eq_false_iff.mpr c19
        subst c19
        have H1 : (if x6_4 = true then (json_shaped.j2 kj14 false ((rd_T48 l0 a1).f0) ((rd_T48 l0 a1).f1) ((rd_T48 l0 a1).f2) ((rd_T48 l0 a1).f3) ((rd_T48 l0 a1).f4)) else (json_shaped.j2 kj14 (((rd_T48 l0 a1).f1).toList != ([] : List UInt8)) ((rd_T48 l0 a1).f0) ((rd_T48 l0 a1).f1) ((rd_T48 l0 a1).f2) ((rd_T48 l0 a1).f3) ((rd_T48 l0 a1).f4))) = some r := by rw [if_neg (show ¬ (false = true) by decide)] at H; exact H
        clear H
        have H := H1
        clear H1
        have HC20 := Aside0.mk H
        clear H
        go_upto_region 5 with (fail)
        go_cut [38] (fun v38 wc => ∃ (kq : Nat) (x38_19 : Bool), v38 = .bool x38_19 ∧ Aside0 (json_shaped.j2 kq x38_19 ((rd_T48 l0 a1).f0) ((rd_T48 l0 a1).f1) ((rd_T48 l0 a1).f2) ((rd_T48 l0 a1).f3) ((rd_T48 l0 a1).f4) = some r) ∧ Aside0 (kq ≤ kj14) ∧ Aside0 (wc.heap[gb109]? = some (.cells #[.int .i64 ((rd_T48 l0 a1).f0), .string ((rd_T48 l0 a1).f1), .string ((rd_T48 l0 a1).f2), .int .i64 ((rd_T48 l0 a1).f3), .int .i64 ((rd_T48 l0 a1).f4)] 48 (0, 0))) ∧ Aside0 (Below w.heap.size w wc))
        case first =>
         have H := HC20.out
         clear HC20
         by_cases c21 : x6_4 = true
         ·subst c21
          have H1 : (json_shaped.j2 kj14 false ((rd_T48 l0 a1).f0) ((rd_T48 l0 a1).f1) ((rd_T48 l0 a1).f2) ((rd_T48 l0 a1).f3) ((rd_T48 l0 a1).f4)) = some r := by rw [if_pos rfl] at H; exact H
          clear H
          have H := H1
          clear H1
          have H' := Aside0.mk H
          clear H
          go_wp2
          go_meet
          case rel => exact ⟨_, (false), (by first | rfl | (simp; done) | (simp; exact isEmpty_ne _) | (simp [*]; done)), H', ⟨by have := HJ4.out; have := HJ14.out; first | omega | exact Nat.le_refl _⟩, ⟨by (with_reducible repeat (first | refine blk_drewN ?_ _ | refine blk_drew ?_ | refine blk_alloc ?_ _)); exact BK109.out⟩, ⟨by repeat (first | (with_reducible first | exact HB.out | apply below_alloc | apply pw_below_drewN | apply below_drew1 | refine below_set ?_ GE109.out) | exact HB.out)⟩⟩
         ·replace c21 := Bool.eq_false_iff.mpr c21
          subst c21
          have H1 : (json_shaped.j2 kj14 (((rd_T48 l0 a1).f1).toList != ([] : List UInt8)) ((rd_T48 l0 a1).f0) ((rd_T48 l0 a1).f1) ((rd_T48 l0 a1).f2) ((rd_T48 l0 a1).f3) ((rd_T48 l0 a1).f4)) = some r := by rw [if_neg (show ¬ (false = true) by decide)] at H; exact H
          clear H
          have H := H1
          clear H1
          have H' := Aside0.mk H
          clear H
          have hcz22_0 : wc.cell? ⟨gb109, 0, none⟩ = some (.int .i64 ((rd_T48 l0 a1).f0)) := (blk_cell BK109.out 0).trans rfl
          have hcz22_1 : wc.cell? ⟨gb109, 1, none⟩ = some (.string ((rd_T48 l0 a1).f1)) := (blk_cell BK109.out 1).trans rfl
          have hcz22_2 : wc.cell? ⟨gb109, 2, none⟩ = some (.string ((rd_T48 l0 a1).f2)) := (blk_cell BK109.out 2).trans rfl
          have hcz22_3 : wc.cell? ⟨gb109, 3, none⟩ = some (.int .i64 ((rd_T48 l0 a1).f3)) := (blk_cell BK109.out 3).trans rfl
          have hcz22_4 : wc.cell? ⟨gb109, 4, none⟩ = some (.int .i64 ((rd_T48 l0 a1).f4)) := (blk_cell BK109.out 4).trans rfl
          have hfz22_0 := blk_frozen BK109.out 0
          have hfz22_1 := blk_frozen BK109.out 1
          have hfz22_2 := blk_frozen BK109.out 2
          have hfz22_3 := blk_frozen BK109.out 3
          have hfz22_4 := blk_frozen BK109.out 4
          go_wp2
          go_meet
          case rel => exact ⟨_, ((((rd_T48 l0 a1).f1).toList != ([] : List UInt8))), (by first | rfl | (simp; done) | (simp; exact isEmpty_ne _) | (simp [*]; done)), H', ⟨by have := HJ4.out; have := HJ14.out; first | omega | exact Nat.le_refl _⟩, ⟨by (with_reducible repeat (first | refine blk_drewN ?_ _ | refine blk_drew ?_ | refine blk_alloc ?_ _)); exact BK109.out⟩, ⟨by repeat (first | (with_reducible first | exact HB.out | apply below_alloc | apply pw_below_drewN | apply below_drew1 | refine below_set ?_ GE109.out) | exact HB.out)⟩⟩
        case rest =>
         clear HC20
         try clear c1
         try clear p1
         try clear q1
         try clear hx1
         try clear c2
         try clear p2
         try clear c3
         try clear c3b0
         try clear c4
         try clear c4b0
         try clear c8
         try clear c8b0
         try clear c9
         try clear c9b0
         try clear c10
         try clear c10b0
         try clear p10
         try clear q10
         try clear hx10
         try clear c11
         try clear c11b0
         try clear p11
         try clear q11
         try clear hx11
         try clear c16
         try clear c16b0
         try clear c19
         try clear c21
         try clear hcz12_0
         try clear hcz12_1
         try clear hcz12_2
         try clear hcz12_3
         try clear hcz12_4
         try clear hcz13_0
         try clear hcz13_1
         try clear hcz13_2
         try clear hcz13_3
         try clear hcz13_4
         try clear hcz14_0
         try clear hcz14_1
         try clear hcz14_2
         try clear hcz14_3
         try clear hcz14_4
         try clear hcz17_0
         try clear hcz17_1
         try clear hcz17_2
         try clear hcz17_3
         try clear hcz17_4
         try clear hcz18_0
         try clear hcz18_1
         try clear hcz18_2
         try clear hcz18_3
         try clear hcz18_4
         try clear hcz22_0
         try clear hcz22_1
         try clear hcz22_2
         try clear hcz22_3
         try clear hcz22_4
         try clear hcz7_0
         try clear hcz7_1
         try clear hcz7_2
         try clear hcz7_3
         try clear hcz7_4
         try clear hfz12_0
         try clear hfz12_1
         try clear hfz12_2
         try clear hfz12_3
         try clear hfz12_4
         try clear hfz13_0
         try clear hfz13_1
         try clear hfz13_2
         try clear hfz13_3
         try clear hfz13_4
         try clear hfz14_0
         try clear hfz14_1
         try clear hfz14_2
         try clear hfz14_3
         try clear hfz14_4
         try clear hfz17_0
         try clear hfz17_1
         try clear hfz17_2
         try clear hfz17_3
         try clear hfz17_4
         try clear hfz18_0
         try clear hfz18_1
         try clear hfz18_2
         try clear hfz18_3
         try clear hfz18_4
         try clear hfz22_0
         try clear hfz22_1
         try clear hfz22_2
         try clear hfz22_3
         try clear hfz22_4
         try clear hfz7_0
         try clear hfz7_1
         try clear hfz7_2
         try clear hfz7_3
         try clear hfz7_4
         try clear hx108_0
         try clear hx108_1
         try clear hx108_2
         try clear hx108_3
         try clear hx108_4
         try clear hx110_0
         try clear hx110_1
         try clear hx110_2
         try clear hx110_3
         try clear hx110_4
         try clear p1
         try clear p10
         try clear p108
         try clear p11
         try clear p110
         try clear p2
         try clear q1
         try clear q10
         try clear q108
         try clear q11
         try clear q110
         obtain ⟨kq, x38_19, rfl, HA, HJ19, BK109, HB⟩ := hcut
         cases kq with
         | zero => exact absurd HA.out (by simp [json_shaped.j2])
         | succ kj19 =>
          have H := HA.out
          clear HA
          simp only [json_shaped.j2] at H
          by_cases c23 : x38_19 = true
          ·subst c23
           have H1 : (some false) = some r := by rw [if_pos rfl] at H; exact H
           clear H
           have H := H1
           clear H1
           obtain rfl := Option.some.inj H
           go_wp2
           go_ret
           exact ⟨by first | rfl | (simp [errW_none, errW_some] <;> rfl) | (simp [*, errW_none, errW_some] <;> rfl), by repeat (first | (with_reducible first | exact HB.out | apply below_alloc | apply pw_below_drewN | apply below_drew1 | refine below_set ?_ GE109.out) | exact HB.out)⟩
          ·replace c23 := Bool.eq_false_iff.mpr c23
           subst c23
           have H1 : (if ((rd_T48 l0 a1).f0) = 4 then ((json_Numeral.f kj19 ((rd_T48 l0 a1).f2)).bind fun t111 => (some t111)) else (if ((rd_T48 l0 a1).f0) = 5 then (some true) else (some (((rd_T48 l0 a1).f2).toList == ([] : List UInt8))))) = some r := by rw [if_neg (show ¬ (false = true) by decide)] at H; exact H
           clear H
           have H := H1
           clear H1
           by_cases c24 : ((rd_T48 l0 a1).f0) = 4
           ·rw [if_pos c24] at H
            have c24b0 : (((rd_T48 l0 a1).f0) == 4) = true := beq_iff_eq.mpr c24
            have c24b1 : (((rd_T48 l0 a1).f0) != 4) = false := bne_eq_false_iff_eq.mpr c24
            clear c24
            replace H := Option.bind_eq_some_iff.mp H
            obtain ⟨t111, A250, H⟩ := H
            replace H : (some t111) = some r := H
            have A25 := Aside0.mk A250
            clear A250
            obtain rfl := Option.some.inj H
            have hcz26_0 : wc.cell? ⟨gb109, 0, none⟩ = some (.int .i64 ((rd_T48 l0 a1).f0)) := (blk_cell BK109.out 0).trans rfl
            have hcz26_1 : wc.cell? ⟨gb109, 1, none⟩ = some (.string ((rd_T48 l0 a1).f1)) := (blk_cell BK109.out 1).trans rfl
            have hcz26_2 : wc.cell? ⟨gb109, 2, none⟩ = some (.string ((rd_T48 l0 a1).f2)) := (blk_cell BK109.out 2).trans rfl
            have hcz26_3 : wc.cell? ⟨gb109, 3, none⟩ = some (.int .i64 ((rd_T48 l0 a1).f3)) := (blk_cell BK109.out 3).trans rfl
            have hcz26_4 : wc.cell? ⟨gb109, 4, none⟩ = some (.int .i64 ((rd_T48 l0 a1).f4)) := (blk_cell BK109.out 4).trans rfl
            have hfz26_0 := blk_frozen BK109.out 0
            have hfz26_1 := blk_frozen BK109.out 1
            have hfz26_2 := blk_frozen BK109.out 2
            have hfz26_3 := blk_frozen BK109.out 3
            have hfz26_4 := blk_frozen BK109.out 4
            go_wp2_with (first | ((with_reducible refine gate_callee (f := 105) rfl ?_); refine goesL_ (some 52) rfl rfl Tryz.func105 (by kernel_rfl) rfl #[.string ((rd_T48 l0 a1).f2)] rfl (by (try simp only [List.map_toArray, List.map_cons, List.map_nil]); first | done | rfl | (simp only [List.length_drop, List.length_take]; rfl)) ?_; (with_reducible refine (json_Numeral.calls kj19 ((rd_T48 l0 a1).f2) t111 _ A25.out).mono ?_); rintro e w' ⟨rfl, ⟨nd, rfl⟩⟩; refine ⟨_, rfl, ?_⟩))
            go_ret
            exact ⟨by first | rfl | (simp [errW_none, errW_some] <;> rfl) | (simp [*, errW_none, errW_some] <;> rfl), by repeat (first | (with_reducible first | exact HB.out | apply below_alloc | apply pw_below_drewN | apply below_drew1 | refine below_set ?_ GE109.out) | exact HB.out)⟩
           ·rw [if_neg c24] at H
            have c24b0 : (((rd_T48 l0 a1).f0) == 4) = false := beq_eq_false_iff_ne.mpr c24
            have c24b1 : (((rd_T48 l0 a1).f0) != 4) = true := bne_iff_ne.mpr c24
            by_cases c27 : ((rd_T48 l0 a1).f0) = 5
            ·rw [if_pos c27] at H
             have c27b0 : (((rd_T48 l0 a1).f0) == 5) = true := beq_iff_eq.mpr c27
             have c27b1 : (((rd_T48 l0 a1).f0) != 5) = false := bne_eq_false_iff_eq.mpr c27
             clear c27
             obtain rfl := Option.some.inj H
             have hcz28_0 : wc.cell? ⟨gb109, 0, none⟩ = some (.int .i64 ((rd_T48 l0 a1).f0)) := (blk_cell BK109.out 0).trans rfl
             have hcz28_1 : wc.cell? ⟨gb109, 1, none⟩ = some (.string ((rd_T48 l0 a1).f1)) := (blk_cell BK109.out 1).trans rfl
             have hcz28_2 : wc.cell? ⟨gb109, 2, none⟩ = some (.string ((rd_T48 l0 a1).f2)) := (blk_cell BK109.out 2).trans rfl
             have hcz28_3 : wc.cell? ⟨gb109, 3, none⟩ = some (.int .i64 ((rd_T48 l0 a1).f3)) := (blk_cell BK109.out 3).trans rfl
             have hcz28_4 : wc.cell? ⟨gb109, 4, none⟩ = some (.int .i64 ((rd_T48 l0 a1).f4)) := (blk_cell BK109.out 4).trans rfl
             have hfz28_0 := blk_frozen BK109.out 0
             have hfz28_1 := blk_frozen BK109.out 1
             have hfz28_2 := blk_frozen BK109.out 2
             have hfz28_3 := blk_frozen BK109.out 3
             have hfz28_4 := blk_frozen BK109.out 4
             go_wp2
             go_ret
             exact ⟨by first | rfl | (simp [errW_none, errW_some] <;> rfl) | (simp [*, errW_none, errW_some] <;> rfl), by repeat (first | (with_reducible first | exact HB.out | apply below_alloc | apply pw_below_drewN | apply below_drew1 | refine below_set ?_ GE109.out) | exact HB.out)⟩
            ·rw [if_neg c27] at H
             have c27b0 : (((rd_T48 l0 a1).f0) == 5) = false := beq_eq_false_iff_ne.mpr c27
             have c27b1 : (((rd_T48 l0 a1).f0) != 5) = true := bne_iff_ne.mpr c27
             obtain rfl := Option.some.inj H
             have hcz29_0 : wc.cell? ⟨gb109, 0, none⟩ = some (.int .i64 ((rd_T48 l0 a1).f0)) := (blk_cell BK109.out 0).trans rfl
             have hcz29_1 : wc.cell? ⟨gb109, 1, none⟩ = some (.string ((rd_T48 l0 a1).f1)) := (blk_cell BK109.out 1).trans rfl
             have hcz29_2 : wc.cell? ⟨gb109, 2, none⟩ = some (.string ((rd_T48 l0 a1).f2)) := (blk_cell BK109.out 2).trans rfl
             have hcz29_3 : wc.cell? ⟨gb109, 3, none⟩ = some (.int .i64 ((rd_T48 l0 a1).f3)) := (blk_cell BK109.out 3).trans rfl
             have hcz29_4 : wc.cell? ⟨gb109, 4, none⟩ = some (.int .i64 ((rd_T48 l0 a1).f4)) := (blk_cell BK109.out 4).trans rfl
             have hfz29_0 := blk_frozen BK109.out 0
             have hfz29_1 := blk_frozen BK109.out 1
             have hfz29_2 := blk_frozen BK109.out 2
             have hfz29_3 := blk_frozen BK109.out 3
             have hfz29_4 := blk_frozen BK109.out 4
             go_wp2
             go_ret
             exact ⟨by first | rfl | (simp [errW_none, errW_some] <;> rfl) | (simp [*, errW_none, errW_some] <;> rfl), by repeat (first | (with_reducible first | exact HB.out | apply below_alloc | apply pw_below_drewN | apply below_drew1 | refine below_set ?_ GE109.out) | exact HB.out)⟩
  ·rw [if_neg c4] at H
   exact absurd H (by simp)
 ·rw [if_neg c3] at H
  exact absurd H (by simp)
end Go.Proofs.YtfocognhcljhpaaGreatDoor.PRef
namespace Go.Proofs.YtfocognhcljhpaaGreatDoor
open Go.RowKit Go.Proofs.YtfocognhcljhpaaGreatDoorW.PrintWords Go.Proofs.YtfocognhcljhpaaGreatDoorW.PrintMore Go.Proofs.YtfocognhcljhpaaGreatDoor.PPrintRows Go.Proofs.YtfocognhcljhpaaGreatDoor.Tree
structure PS where
 a : Nat
 l : List Node
 st : List Nat
 ln : Bool
 dp : Nat
def PS.At (x : PS) (w : World) (p : Nat) (s : ByteArray) : Prop := PAt w p s x.a x.l x.st x.ln x.dp
structure PS.Ok (x : PS) (s : ByteArray) : Prop where
 size : s.size ≤ 400000
 a : x.a ≤ s.size
 l : x.l.length ≤ x.a
 st : x.st.length ≤ x.l.length
 dp : x.dp ≤ x.l.length
 top : ∀ j ∈ x.st, j < x.l.length
theorem PAt.move {w w' : World} {p : Nat} {s : ByteArray} {a a' : Nat} {l : List Node} {st : List Nat} {ln ln' : Bool} {dp : Nat} (h : PAt w p s a l st ln dp) (hM : PMv p w w') (hC : ∀ lv sv, PCell w p s a lv sv ln dp → PCell w' p s a' lv sv ln' dp) : PAt w' p s a' l st ln' dp := by
 obtain ⟨lv, sv, h1, h2, h3⟩ := h
 exact ⟨lv, sv, hC lv sv h1, h2.keep (fun k hk => hM.block k (row_lt h2 k hk) (fun e => row_ne h1 h2 (e ▸ hk))), h3.keep (fun k hk => hM.block k (open_lt h3 k hk) (fun e => open_ne h1 h3 (e ▸ hk)))⟩
theorem PS.At.drew {x : PS} {w : World} {p : Nat} {s : ByteArray} (h : x.At w p s) (n : Nat) : x.At (w.drewN n) p s := PAt.move h (drewN_pmv p w n) fun _ _ h => h
theorem PAt.lt {w : World} {p : Nat} {s : ByteArray} {a : Nat} {l : List Node} {st : List Nat} {ln : Bool} {dp : Nat} (h : PAt w p s a l st ln dp) : p < w.heap.size := by
 obtain ⟨lv, sv, h1, _⟩ := h
 exact blk_lt h1
theorem space_q {x : PS} {p : Nat} {s : ByteArray} (hxa : x.a ≤ s.size) (hxs : s.size ≤ 400000) (w : World) (h : x.At w p s) : Calls Tryz.prog 90 #[.pointer (some ⟨p, 0, none⟩)] w fun e w' => e = .returned (.tuple #[]) ∧ PS.At { x with a := spaceP s x.a } w' p s ∧ PKeep p w w' := by
 obtain ⟨lv, sv, h1, h2, h3⟩ := h
 refine (space_any p s x.a lv sv x.ln x.dp w h1 hxa (by omega)).mono ?_
 rintro e w' ⟨rfl, hc, hm⟩
 exact ⟨rfl, ⟨lv, sv, hc, h2.keep (fun k hk => hm.block k (row_lt h2 k hk) (fun e => row_ne h1 h2 (e ▸ hk))), h3.keep (fun k hk => hm.block k (open_lt h3 k hk) (fun e => open_ne h1 h3 (e ▸ hk)))⟩, .of_pmv hm⟩
theorem space_p {x : PS} {p : Nat} {s : ByteArray} (hx : x.Ok s) (w : World) (h : x.At w p s) : Calls Tryz.prog 90 #[.pointer (some ⟨p, 0, none⟩)] w fun e w' => e = .returned (.tuple #[]) ∧ PS.At { x with a := spaceP s x.a } w' p s ∧ PKeep p w w' := space_q hx.a hx.size w h
theorem take_q {x : PS} {p : Nat} {s : ByteArray} (hxa : x.a ≤ s.size) (hxs : s.size ≤ 400000) (c : Int) (w : World) (h : x.At w p s) : Calls Tryz.prog 94 #[.pointer (some ⟨p, 0, none⟩), .int .u8 c] w fun e w' => e = .returned (.bool (takeP s x.a c)) ∧ PS.At { x with a := if takeP s x.a c then x.a + 1 else x.a } w' p s ∧ PKeep p w w' := by
 obtain ⟨lv, sv, h1, h2, h3⟩ := h
 refine (take_any p s x.a lv sv x.ln x.dp c w h1 hxa (by omega)).mono ?_
 rintro e w' ⟨rfl, hc, hm⟩
 exact ⟨rfl, ⟨lv, sv, hc, h2.keep (fun k hk => hm.block k (row_lt h2 k hk) (fun e => row_ne h1 h2 (e ▸ hk))), h3.keep (fun k hk => hm.block k (open_lt h3 k hk) (fun e => open_ne h1 h3 (e ▸ hk)))⟩, .of_pmv hm⟩
theorem take_p {x : PS} {p : Nat} {s : ByteArray} (hx : x.Ok s) (c : Int) (w : World) (h : x.At w p s) : Calls Tryz.prog 94 #[.pointer (some ⟨p, 0, none⟩), .int .u8 c] w fun e w' => e = .returned (.bool (takeP s x.a c)) ∧ PS.At { x with a := if takeP s x.a c then x.a + 1 else x.a } w' p s ∧ PKeep p w w' := take_q hx.a hx.size c w h
theorem take_yes {x : PS} {p : Nat} {s : ByteArray} (hx : x.Ok s) (c : Int) (ht : takeP s x.a c = true) (w : World) (h : x.At w p s) : Calls Tryz.prog 94 #[.pointer (some ⟨p, 0, none⟩), .int .u8 c] w fun e w' => e = .returned (.bool true) ∧ PS.At { x with a := x.a + 1 } w' p s ∧ PKeep p w w' := by
 have := take_p hx c w h
 rw [ht] at this
 exact this
theorem take_no {x : PS} {p : Nat} {s : ByteArray} (hx : x.Ok s) (c : Int) (ht : takeP s x.a c = false) (w : World) (h : x.At w p s) : Calls Tryz.prog 94 #[.pointer (some ⟨p, 0, none⟩), .int .u8 c] w fun e w' => e = .returned (.bool false) ∧ x.At w' p s ∧ PKeep p w w' := by
 have := take_p hx c w h
 rw [ht] at this
 exact this
def preP (s : ByteArray) (a : Nat) (x : Bs) : Bool := x.isPrefixOf (s.data.toList.drop a)
theorem ext_list (s : ByteArray) (a : Nat) : (s.extract a s.size).data.toList = s.data.toList.drop a := by
 rw [ByteArray.data_extract, Array.toList_extract, List.extract_eq_take_drop]
 rw [List.take_of_length_le]
 simp
theorem hp_pre (s : ByteArray) (a : Nat) (x : ByteArray) (W : World) : Calls Tryz.prog 112 #[.string (s.extract a s.size), .string x] W fun e w' => e = .returned (.bool (preP s a x.data.toList)) ∧ w' = W := by
 have := Tryz.strings_HasPrefix (s.extract a s.size) x W
 rw [ext_list] at this
 exact this
set_option maxRecDepth 100000 in
theorem pre_take (s : ByteArray) (a : Nat) : preP s a [34] = takeP s a 34 := by
 unfold preP takeP
 by_cases h : a < s.size
 ·rw [drop_at s a h, List.getElem?_eq_getElem (by simpa using h)]
  have e : s.data.toList[a]'(by simpa using h) = s[a] := rfl
  simp only [List.isPrefixOf, Bool.and_true, e]
  have hh : ∀ y : Fin 256, ((34 : UInt8) == UInt8.ofNat y.1) = decide (((UInt8.ofNat y.1).toNat : Int) = 34) := by decide
  have := hh ⟨s[a].toNat, s[a].toNat_lt⟩
  simpa using this
 ·rw [List.drop_of_length_le (by simp; omega), List.getElem?_eq_none (by simpa using h)]
  rfl
theorem word_yes {x : PS} {p : Nat} {s : ByteArray} (hx : x.Ok s) (t : ByteArray) (ht : preP s x.a t.data.toList = true) (hsz : t.size ≤ 1000) (w : World) (h : x.At w p s) : Calls Tryz.prog 110 #[.pointer (some ⟨p, 0, none⟩), .string t] w fun e w' => e = .returned (.bool true) ∧ PS.At { x with a := x.a + t.size } w' p s ∧ PKeep p w w' := by
 obtain ⟨lv, sv, h1, h2, h3⟩ := h
 refine (word_any p s x.a lv sv x.ln x.dp t true w h1 hx.a (by have := hx.size; omega) hsz (fun W => by rw [← ht]; exact hp_pre s x.a t W)).mono ?_
 rintro e w' ⟨rfl, hc, hm⟩
 exact ⟨rfl, ⟨lv, sv, hc, h2.keep (fun k hk => hm.block k (row_lt h2 k hk) (fun e => row_ne h1 h2 (e ▸ hk))), h3.keep (fun k hk => hm.block k (open_lt h3 k hk) (fun e => open_ne h1 h3 (e ▸ hk)))⟩, .of_pmv hm⟩
theorem word_no {x : PS} {p : Nat} {s : ByteArray} (hx : x.Ok s) (t : ByteArray) (ht : preP s x.a t.data.toList = false) (hsz : t.size ≤ 1000) (w : World) (h : x.At w p s) : Calls Tryz.prog 110 #[.pointer (some ⟨p, 0, none⟩), .string t] w fun e w' => e = .returned (.bool false) ∧ x.At w' p s ∧ PKeep p w w' := by
 obtain ⟨lv, sv, h1, h2, h3⟩ := h
 refine (word_any p s x.a lv sv x.ln x.dp t false w h1 hx.a (by have := hx.size; omega) hsz (fun W => by rw [← ht]; exact hp_pre s x.a t W)).mono ?_
 rintro e w' ⟨rfl, hc, hm⟩
 exact ⟨rfl, ⟨lv, sv, hc, h2.keep (fun k hk => hm.block k (row_lt h2 k hk) (fun e => row_ne h1 h2 (e ▸ hk))), h3.keep (fun k hk => hm.block k (open_lt h3 k hk) (fun e => open_ne h1 h3 (e ▸ hk)))⟩, .of_pmv hm⟩
def TextP (p : Nat) (s : ByteArray) (x : PS) (w : World) : Option (Bs × Nat × Bool) → Ending → World → Prop
 | some (t, n, ln), e, w' => e = .returned (.tuple #[.string ⟨t.toArray⟩, .bool true]) ∧ PS.At { x with a := x.a + n, ln := x.ln || ln } w' p s ∧ PKeep p w w'
 | none, e, w' => e = .returned (.tuple #[.string ⟨#[]⟩, .bool false]) ∧ (∃ x' : PS, x'.a ≤ s.size ∧ x'.At w' p s) ∧ PKeep p w w'
theorem text_p {x : PS} {p : Nat} {s : ByteArray} (hx : x.Ok s) (hbs : ∀ (k : Nat) (h : k < s.size), s[k] ≠ 92) (w : World) (h : x.At w p s) :
  Calls Tryz.prog 113 #[.pointer (some ⟨p, 0, none⟩)] w (TextP p s x w (textP s x.a)) := by
 obtain ⟨lv, sv, h1, h2, h3⟩ := h
 refine (text_any p s x.a lv sv x.ln x.dp w h1 hx.a (by have := hx.size; omega) hbs).mono ?_
 intro e w' h
 cases ht : textP s x.a with
 | none =>
  rw [ht] at h
  obtain ⟨rfl, ⟨a', ln', ha, hc⟩, hm⟩ := h
  exact ⟨rfl, ⟨{ x with a := a', ln := ln' }, ha, lv, sv, hc, h2.keep (fun k hk => hm.block k (row_lt h2 k hk) (fun e => row_ne h1 h2 (e ▸ hk))), h3.keep (fun k hk => hm.block k (open_lt h3 k hk) (fun e => open_ne h1 h3 (e ▸ hk)))⟩, .of_pmv hm⟩
 | some r =>
  obtain ⟨t, n, ln⟩ := r
  rw [ht] at h
  obtain ⟨rfl, hc, hm⟩ := h
  exact ⟨rfl, ⟨lv, sv, hc, h2.keep (fun k hk => hm.block k (row_lt h2 k hk) (fun e => row_ne h1 h2 (e ▸ hk))), h3.keep (fun k hk => hm.block k (open_lt h3 k hk) (fun e => open_ne h1 h3 (e ▸ hk)))⟩, .of_pmv hm⟩
def addS (x : PS) (kind : Int) (key text : ByteArray) : PS :=
 { x with l := x.l ++ [addN x.l x.st kind key text], st := if 6 ≤ kind then x.l.length :: x.st else x.st, dp := if 6 ≤ kind then max x.dp (x.st.length + 1) else x.dp }
theorem add_p {x : PS} {p : Nat} {s : ByteArray} (hl : x.l.length ≤ 400000) (hst : x.st.length ≤ x.l.length) (hdp : x.dp ≤ x.l.length) (kind : Int) (key text : ByteArray) (w : World) (h : x.At w p s) :
  Calls Tryz.prog 111 #[.pointer (some ⟨p, 0, none⟩), .int .i64 kind, .string key, .string text] w fun e w' => e = .returned (.tuple #[]) ∧ (addS x kind key text).At w' p s ∧ PKeep p w w' :=
 add_any p s x.a x.l x.st x.ln x.dp kind key text w h (by omega) hst (by omega) h.lt
end Go.Proofs.YtfocognhcljhpaaGreatDoor
namespace Go.Proofs.YtfocognhcljhpaaGreatDoor
open Go.RowKit Go.Proofs.YtfocognhcljhpaaGreatDoorW.PrintWords Go.Proofs.YtfocognhcljhpaaGreatDoorW.PrintMore Go.Proofs.YtfocognhcljhpaaGreatDoor.PPrintRows Go.Proofs.YtfocognhcljhpaaGreatDoor.Tree
def valueS (s key : ByteArray) (x : PS) : Option (PS × Bool) :=
 if preP s x.a [110, 117, 108, 108] then some (addS { x with a := x.a + 4 } 1 key ⟨#[]⟩, false)
 else if preP s x.a [102, 97, 108, 115, 101] then some (addS { x with a := x.a + 5 } 2 key ⟨#[]⟩, false)
 else if preP s x.a [116, 114, 117, 101] then some (addS { x with a := x.a + 4 } 3 key ⟨#[]⟩, false)
 else if takeP s x.a 91 then some (addS { x with a := x.a + 1 } 6 key ⟨#[]⟩, true)
 else if takeP s x.a 123 then some (addS { x with a := x.a + 1 } 7 key ⟨#[]⟩, true)
 else if takeP s x.a 34 then (match textP s x.a with
  | none => none
  | some (t, n, ln) => some (addS { x with a := x.a + n, ln := x.ln || ln } 5 key ⟨t.toArray⟩, false))
 else if numL (s.data.toList.drop x.a) = 0 then none
 else some ({ addS x 4 key (s.extract x.a (x.a + numL (s.data.toList.drop x.a))) with a := x.a + numL (s.data.toList.drop x.a) }, false)
def NumOk (s : ByteArray) : Prop := ∀ a, a ≤ s.size → ∃ k, PRef.json_numeral.f k (s.extract a s.size) = some (numL (s.data.toList.drop a) : Int)
theorem run_drop (l : Bs) (a : Nat) (h : runL (l.drop a) ≠ 0) : a + runL (l.drop a) ≤ l.length := by
 have h1 := runL_le (l.drop a)
 rw [List.length_drop] at h1
 have : a < l.length := by
  rcases Nat.lt_or_ge a l.length with h2 | h2
  ·exact h2
  ·rw [List.drop_of_length_le h2] at h
   exact absurd rfl h
 omega
theorem numL_le (l : Bs) : numL l ≤ l.length := by
 unfold numL
 split
 ·omega
 ·rename_i h0
  have h1 := run_drop l (signL l) (fun e => h0 (.inl e))
  have hf : fracL l (signL l + runL (l.drop (signL l))) ≤ l.length := by
   unfold fracL
   split
   ·split
    ·omega
    ·rename_i h3
     exact run_drop l _ h3
   ·exact h1
  split
  ·omega
  ·unfold expL
   split
   ·split
    ·omega
    ·rename_i h3
     exact run_drop l _ h3
   ·exact hf
def ValPost (p : Nat) (s : ByteArray) (w : World) : Option (PS × Bool) → Ending → World → Prop
 | some (x, o), e, w' => e = .returned (.tuple #[.bool o, .bool true]) ∧ x.At w' p s ∧ PKeep p w w'
 | none, e, w' => e = .returned (.tuple #[.bool false, .bool false]) ∧ PKeep p w w'
set_option maxRecDepth 100000 in
set_option maxHeartbeats 4000000 in
theorem value_0 {x : PS} {p : Nat} {s : ByteArray} (hx0 : x.Ok s) (key : ByteArray) (w : World) (h : x.At w p s)  (hy : preP s x.a [110, 117, 108, 108] = true) :
  Calls Tryz.prog 91 #[.pointer (some ⟨p, 0, none⟩), .string key] w fun e w' => e = .returned (.tuple #[.bool false, .bool true]) ∧ (addS { x with a := x.a + 4 } 1 key ⟨#[]⟩).At w' p s ∧ PKeep p w w' := by
  have X0 := Lib.hid h
  have hl := hx0.l
  have ha := hx0.a
  have hsz := hx0.size
  have Y := Lib.hid (fun W h => word_yes (p := p) hx0 ⟨#[110, 117, 108, 108]⟩ hy (by decide) W h)
  have AD := Lib.hid (fun W h => add_p (x := { x with a := x.a + 4 }) (p := p) (s := s) (by show x.l.length ≤ _; omega) hx0.st hx0.dp 1 key ⟨#[]⟩ W h)
  clear h hy hl ha hsz  hx0
  go_enter Tryz.func91, Tryz.ntmps91
  go_wp2_with (go_at_call 110; go_must (refine (Y.out _ X0.out).mono ?_))
  (intro e w8; first | (intro hh; obtain ⟨he, hx', hk'⟩ := hh; have hx := hx'; have hk := hk'; clear hx' hk'; subst he) | (intro he hx' hk'; have hx := hx'; have hk := hk'; clear hx' hk'; subst he))
  have X8 := Lib.hid hx
  have K8 := Lib.hid (hk)
  clear hx hk
  go_wp2_with (go_at_call 111; go_must (refine (AD.out _ X8.out).mono ?_))
  (intro e w9; first | (intro hh; obtain ⟨he, hx', hk'⟩ := hh; have hx := hx'; have hk := hk'; clear hx' hk'; subst he) | (intro he hx' hk'; have hx := hx'; have hk := hk'; clear hx' hk'; subst he))
  have X9 := Lib.hid hx
  have K9 := Lib.hid (K8.out.trans hk)
  clear hx hk
  go_wp2_with fail
  go_ret2
  exact ⟨rfl, X9.out, K9.out⟩
set_option maxRecDepth 100000 in
set_option maxHeartbeats 4000000 in
theorem value_1 {x : PS} {p : Nat} {s : ByteArray} (hx0 : x.Ok s) (key : ByteArray) (w : World) (h : x.At w p s) (h0 : preP s x.a [110, 117, 108, 108] = false) (hy : preP s x.a [102, 97, 108, 115, 101] = true) :
  Calls Tryz.prog 91 #[.pointer (some ⟨p, 0, none⟩), .string key] w fun e w' => e = .returned (.tuple #[.bool false, .bool true]) ∧ (addS { x with a := x.a + 5 } 2 key ⟨#[]⟩).At w' p s ∧ PKeep p w w' := by
  have X0 := Lib.hid h
  have hl := hx0.l
  have ha := hx0.a
  have hsz := hx0.size
  have N0 := Lib.hid (fun W h => word_no (p := p) hx0 ⟨#[110, 117, 108, 108]⟩ h0 (by decide) W h)
  have Y := Lib.hid (fun W h => word_yes (p := p) hx0 ⟨#[102, 97, 108, 115, 101]⟩ hy (by decide) W h)
  have AD := Lib.hid (fun W h => add_p (x := { x with a := x.a + 5 }) (p := p) (s := s) (by show x.l.length ≤ _; omega) hx0.st hx0.dp 2 key ⟨#[]⟩ W h)
  clear h hy hl ha hsz h0 hx0
  go_enter Tryz.func91, Tryz.ntmps91
  go_wp2_with (go_at_call 110; go_must (refine (N0.out _ X0.out).mono ?_))
  (intro e w1; first | (intro hh; obtain ⟨he, hx', hk'⟩ := hh; have hx := hx'; have hk := hk'; clear hx' hk'; subst he) | (intro he hx' hk'; have hx := hx'; have hk := hk'; clear hx' hk'; subst he))
  have X1 := Lib.hid hx
  have K1 := Lib.hid (hk)
  clear hx hk
  go_wp2_with (go_at_call 110; go_must (refine (Y.out _ X1.out).mono ?_))
  (intro e w8; first | (intro hh; obtain ⟨he, hx', hk'⟩ := hh; have hx := hx'; have hk := hk'; clear hx' hk'; subst he) | (intro he hx' hk'; have hx := hx'; have hk := hk'; clear hx' hk'; subst he))
  have X8 := Lib.hid hx
  have K8 := Lib.hid (K1.out.trans hk)
  clear hx hk
  go_wp2_with (go_at_call 111; go_must (refine (AD.out _ X8.out).mono ?_))
  (intro e w9; first | (intro hh; obtain ⟨he, hx', hk'⟩ := hh; have hx := hx'; have hk := hk'; clear hx' hk'; subst he) | (intro he hx' hk'; have hx := hx'; have hk := hk'; clear hx' hk'; subst he))
  have X9 := Lib.hid hx
  have K9 := Lib.hid (K8.out.trans hk)
  clear hx hk
  go_wp2_with fail
  go_ret2
  exact ⟨rfl, X9.out, K9.out⟩
set_option maxRecDepth 100000 in
set_option maxHeartbeats 4000000 in
theorem value_2 {x : PS} {p : Nat} {s : ByteArray} (hx0 : x.Ok s) (key : ByteArray) (w : World) (h : x.At w p s) (h0 : preP s x.a [110, 117, 108, 108] = false) (h1 : preP s x.a [102, 97, 108, 115, 101] = false) (hy : preP s x.a [116, 114, 117, 101] = true) :
  Calls Tryz.prog 91 #[.pointer (some ⟨p, 0, none⟩), .string key] w fun e w' => e = .returned (.tuple #[.bool false, .bool true]) ∧ (addS { x with a := x.a + 4 } 3 key ⟨#[]⟩).At w' p s ∧ PKeep p w w' := by
  have X0 := Lib.hid h
  have hl := hx0.l
  have ha := hx0.a
  have hsz := hx0.size
  have N0 := Lib.hid (fun W h => word_no (p := p) hx0 ⟨#[110, 117, 108, 108]⟩ h0 (by decide) W h)
  have N1 := Lib.hid (fun W h => word_no (p := p) hx0 ⟨#[102, 97, 108, 115, 101]⟩ h1 (by decide) W h)
  have Y := Lib.hid (fun W h => word_yes (p := p) hx0 ⟨#[116, 114, 117, 101]⟩ hy (by decide) W h)
  have AD := Lib.hid (fun W h => add_p (x := { x with a := x.a + 4 }) (p := p) (s := s) (by show x.l.length ≤ _; omega) hx0.st hx0.dp 3 key ⟨#[]⟩ W h)
  clear h hy hl ha hsz h0 h1 hx0
  go_enter Tryz.func91, Tryz.ntmps91
  go_wp2_with (go_at_call 110; go_must (refine (N0.out _ X0.out).mono ?_))
  (intro e w1; first | (intro hh; obtain ⟨he, hx', hk'⟩ := hh; have hx := hx'; have hk := hk'; clear hx' hk'; subst he) | (intro he hx' hk'; have hx := hx'; have hk := hk'; clear hx' hk'; subst he))
  have X1 := Lib.hid hx
  have K1 := Lib.hid (hk)
  clear hx hk
  go_wp2_with (go_at_call 110; go_must (refine (N1.out _ X1.out).mono ?_))
  (intro e w2; first | (intro hh; obtain ⟨he, hx', hk'⟩ := hh; have hx := hx'; have hk := hk'; clear hx' hk'; subst he) | (intro he hx' hk'; have hx := hx'; have hk := hk'; clear hx' hk'; subst he))
  have X2 := Lib.hid hx
  have K2 := Lib.hid (K1.out.trans hk)
  clear hx hk
  go_wp2_with (go_at_call 110; go_must (refine (Y.out _ X2.out).mono ?_))
  (intro e w8; first | (intro hh; obtain ⟨he, hx', hk'⟩ := hh; have hx := hx'; have hk := hk'; clear hx' hk'; subst he) | (intro he hx' hk'; have hx := hx'; have hk := hk'; clear hx' hk'; subst he))
  have X8 := Lib.hid hx
  have K8 := Lib.hid (K2.out.trans hk)
  clear hx hk
  go_wp2_with (go_at_call 111; go_must (refine (AD.out _ X8.out).mono ?_))
  (intro e w9; first | (intro hh; obtain ⟨he, hx', hk'⟩ := hh; have hx := hx'; have hk := hk'; clear hx' hk'; subst he) | (intro he hx' hk'; have hx := hx'; have hk := hk'; clear hx' hk'; subst he))
  have X9 := Lib.hid hx
  have K9 := Lib.hid (K8.out.trans hk)
  clear hx hk
  go_wp2_with fail
  go_ret2
  exact ⟨rfl, X9.out, K9.out⟩
set_option maxRecDepth 100000 in
set_option maxHeartbeats 4000000 in
theorem value_3 {x : PS} {p : Nat} {s : ByteArray} (hx0 : x.Ok s) (key : ByteArray) (w : World) (h : x.At w p s) (h0 : preP s x.a [110, 117, 108, 108] = false) (h1 : preP s x.a [102, 97, 108, 115, 101] = false) (h2 : preP s x.a [116, 114, 117, 101] = false) (hy : takeP s x.a 91 = true) :
  Calls Tryz.prog 91 #[.pointer (some ⟨p, 0, none⟩), .string key] w fun e w' => e = .returned (.tuple #[.bool true, .bool true]) ∧ (addS { x with a := x.a + 1 } 6 key ⟨#[]⟩).At w' p s ∧ PKeep p w w' := by
  have X0 := Lib.hid h
  have hl := hx0.l
  have ha := hx0.a
  have hsz := hx0.size
  have N0 := Lib.hid (fun W h => word_no (p := p) hx0 ⟨#[110, 117, 108, 108]⟩ h0 (by decide) W h)
  have N1 := Lib.hid (fun W h => word_no (p := p) hx0 ⟨#[102, 97, 108, 115, 101]⟩ h1 (by decide) W h)
  have N2 := Lib.hid (fun W h => word_no (p := p) hx0 ⟨#[116, 114, 117, 101]⟩ h2 (by decide) W h)
  have Y := Lib.hid (fun W h => take_yes (p := p) hx0 91 hy W h)
  have AD := Lib.hid (fun W h => add_p (x := { x with a := x.a + 1 }) (p := p) (s := s) (by show x.l.length ≤ _; omega) hx0.st hx0.dp 6 key ⟨#[]⟩ W h)
  clear h hy hl ha hsz h0 h1 h2 hx0
  go_enter Tryz.func91, Tryz.ntmps91
  go_wp2_with (go_at_call 110; go_must (refine (N0.out _ X0.out).mono ?_))
  (intro e w1; first | (intro hh; obtain ⟨he, hx', hk'⟩ := hh; have hx := hx'; have hk := hk'; clear hx' hk'; subst he) | (intro he hx' hk'; have hx := hx'; have hk := hk'; clear hx' hk'; subst he))
  have X1 := Lib.hid hx
  have K1 := Lib.hid (hk)
  clear hx hk
  go_wp2_with (go_at_call 110; go_must (refine (N1.out _ X1.out).mono ?_))
  (intro e w2; first | (intro hh; obtain ⟨he, hx', hk'⟩ := hh; have hx := hx'; have hk := hk'; clear hx' hk'; subst he) | (intro he hx' hk'; have hx := hx'; have hk := hk'; clear hx' hk'; subst he))
  have X2 := Lib.hid hx
  have K2 := Lib.hid (K1.out.trans hk)
  clear hx hk
  go_wp2_with (go_at_call 110; go_must (refine (N2.out _ X2.out).mono ?_))
  (intro e w3; first | (intro hh; obtain ⟨he, hx', hk'⟩ := hh; have hx := hx'; have hk := hk'; clear hx' hk'; subst he) | (intro he hx' hk'; have hx := hx'; have hk := hk'; clear hx' hk'; subst he))
  have X3 := Lib.hid hx
  have K3 := Lib.hid (K2.out.trans hk)
  clear hx hk
  go_wp2_with (go_at_call 94; go_must (refine (Y.out _ X3.out).mono ?_))
  (intro e w8; first | (intro hh; obtain ⟨he, hx', hk'⟩ := hh; have hx := hx'; have hk := hk'; clear hx' hk'; subst he) | (intro he hx' hk'; have hx := hx'; have hk := hk'; clear hx' hk'; subst he))
  have X8 := Lib.hid hx
  have K8 := Lib.hid (K3.out.trans hk)
  clear hx hk
  go_wp2_with (go_at_call 111; go_must (refine (AD.out _ X8.out).mono ?_))
  (intro e w9; first | (intro hh; obtain ⟨he, hx', hk'⟩ := hh; have hx := hx'; have hk := hk'; clear hx' hk'; subst he) | (intro he hx' hk'; have hx := hx'; have hk := hk'; clear hx' hk'; subst he))
  have X9 := Lib.hid hx
  have K9 := Lib.hid (K8.out.trans hk)
  clear hx hk
  go_wp2_with fail
  go_ret2
  exact ⟨rfl, X9.out, K9.out⟩
set_option maxRecDepth 100000 in
set_option maxHeartbeats 4000000 in
theorem value_4 {x : PS} {p : Nat} {s : ByteArray} (hx0 : x.Ok s) (key : ByteArray) (w : World) (h : x.At w p s) (h0 : preP s x.a [110, 117, 108, 108] = false) (h1 : preP s x.a [102, 97, 108, 115, 101] = false) (h2 : preP s x.a [116, 114, 117, 101] = false) (h3 : takeP s x.a 91 = false) (hy : takeP s x.a 123 = true) :
  Calls Tryz.prog 91 #[.pointer (some ⟨p, 0, none⟩), .string key] w fun e w' => e = .returned (.tuple #[.bool true, .bool true]) ∧ (addS { x with a := x.a + 1 } 7 key ⟨#[]⟩).At w' p s ∧ PKeep p w w' := by
  have X0 := Lib.hid h
  have hl := hx0.l
  have ha := hx0.a
  have hsz := hx0.size
  have N0 := Lib.hid (fun W h => word_no (p := p) hx0 ⟨#[110, 117, 108, 108]⟩ h0 (by decide) W h)
  have N1 := Lib.hid (fun W h => word_no (p := p) hx0 ⟨#[102, 97, 108, 115, 101]⟩ h1 (by decide) W h)
  have N2 := Lib.hid (fun W h => word_no (p := p) hx0 ⟨#[116, 114, 117, 101]⟩ h2 (by decide) W h)
  have N3 := Lib.hid (fun W h => take_no (p := p) hx0 91 h3 W h)
  have Y := Lib.hid (fun W h => take_yes (p := p) hx0 123 hy W h)
  have AD := Lib.hid (fun W h => add_p (x := { x with a := x.a + 1 }) (p := p) (s := s) (by show x.l.length ≤ _; omega) hx0.st hx0.dp 7 key ⟨#[]⟩ W h)
  clear h hy hl ha hsz h0 h1 h2 h3 hx0
  go_enter Tryz.func91, Tryz.ntmps91
  go_wp2_with (go_at_call 110; go_must (refine (N0.out _ X0.out).mono ?_))
  (intro e w1; first | (intro hh; obtain ⟨he, hx', hk'⟩ := hh; have hx := hx'; have hk := hk'; clear hx' hk'; subst he) | (intro he hx' hk'; have hx := hx'; have hk := hk'; clear hx' hk'; subst he))
  have X1 := Lib.hid hx
  have K1 := Lib.hid (hk)
  clear hx hk
  go_wp2_with (go_at_call 110; go_must (refine (N1.out _ X1.out).mono ?_))
  (intro e w2; first | (intro hh; obtain ⟨he, hx', hk'⟩ := hh; have hx := hx'; have hk := hk'; clear hx' hk'; subst he) | (intro he hx' hk'; have hx := hx'; have hk := hk'; clear hx' hk'; subst he))
  have X2 := Lib.hid hx
  have K2 := Lib.hid (K1.out.trans hk)
  clear hx hk
  go_wp2_with (go_at_call 110; go_must (refine (N2.out _ X2.out).mono ?_))
  (intro e w3; first | (intro hh; obtain ⟨he, hx', hk'⟩ := hh; have hx := hx'; have hk := hk'; clear hx' hk'; subst he) | (intro he hx' hk'; have hx := hx'; have hk := hk'; clear hx' hk'; subst he))
  have X3 := Lib.hid hx
  have K3 := Lib.hid (K2.out.trans hk)
  clear hx hk
  go_wp2_with (go_at_call 94; go_must (refine (N3.out _ X3.out).mono ?_))
  (intro e w4; first | (intro hh; obtain ⟨he, hx', hk'⟩ := hh; have hx := hx'; have hk := hk'; clear hx' hk'; subst he) | (intro he hx' hk'; have hx := hx'; have hk := hk'; clear hx' hk'; subst he))
  have X4 := Lib.hid hx
  have K4 := Lib.hid (K3.out.trans hk)
  clear hx hk
  go_wp2_with (go_at_call 94; go_must (refine (Y.out _ X4.out).mono ?_))
  (intro e w8; first | (intro hh; obtain ⟨he, hx', hk'⟩ := hh; have hx := hx'; have hk := hk'; clear hx' hk'; subst he) | (intro he hx' hk'; have hx := hx'; have hk := hk'; clear hx' hk'; subst he))
  have X8 := Lib.hid hx
  have K8 := Lib.hid (K4.out.trans hk)
  clear hx hk
  go_wp2_with (go_at_call 111; go_must (refine (AD.out _ X8.out).mono ?_))
  (intro e w9; first | (intro hh; obtain ⟨he, hx', hk'⟩ := hh; have hx := hx'; have hk := hk'; clear hx' hk'; subst he) | (intro he hx' hk'; have hx := hx'; have hk := hk'; clear hx' hk'; subst he))
  have X9 := Lib.hid hx
  have K9 := Lib.hid (K8.out.trans hk)
  clear hx hk
  go_wp2_with fail
  go_ret2
  exact ⟨rfl, X9.out, K9.out⟩
set_option maxRecDepth 100000 in
set_option maxHeartbeats 4000000 in
theorem value_5 {x : PS} {p : Nat} {s : ByteArray} (hx0 : x.Ok s) (hbs : ∀ (k : Nat) (h : k < s.size), s[k] ≠ 92) (htl : ∀ t n ln, textP s x.a = some (t, n, ln) → 0 < n) (key : ByteArray) (w : World) (h : x.At w p s) (h0 : preP s x.a [110, 117, 108, 108] = false) (h1 : preP s x.a [102, 97, 108, 115, 101] = false) (h2 : preP s x.a [116, 114, 117, 101] = false) (h3 : takeP s x.a 91 = false) (h4 : takeP s x.a 123 = false) (hy : takeP s x.a 34 = true) :
  Calls Tryz.prog 91 #[.pointer (some ⟨p, 0, none⟩), .string key] w (ValPost p s w (match textP s x.a with | none => none | some (t, n, ln) => some (addS { x with a := x.a + n, ln := x.ln || ln } 5 key ⟨t.toArray⟩, false))) := by
  have X0 := Lib.hid h
  have hl := hx0.l
  have ha := hx0.a
  have hsz := hx0.size
  have N0 := Lib.hid (fun W h => word_no (p := p) hx0 ⟨#[110, 117, 108, 108]⟩ h0 (by decide) W h)
  have N1 := Lib.hid (fun W h => word_no (p := p) hx0 ⟨#[102, 97, 108, 115, 101]⟩ h1 (by decide) W h)
  have N2 := Lib.hid (fun W h => word_no (p := p) hx0 ⟨#[116, 114, 117, 101]⟩ h2 (by decide) W h)
  have N3 := Lib.hid (fun W h => take_no (p := p) hx0 91 h3 W h)
  have N4 := Lib.hid (fun W h => take_no (p := p) hx0 123 h4 W h)
  have HH := Lib.hid (fun W => hp_pre s x.a ⟨#[34]⟩ W)
  have hpt : preP s x.a (⟨#[34]⟩ : ByteArray).data.toList = true := (pre_take s x.a).trans hy
  rw [hpt] at HH
  have TX := Lib.hid (fun W h => text_p (p := p) hx0 hbs W h)
  have AD := Lib.hid (fun n ln t W h => add_p (x := { x with a := x.a + n, ln := x.ln || ln }) (p := p) (s := s) (by show x.l.length ≤ _; omega) hx0.st hx0.dp 5 key t W h)
  obtain ⟨R, hR⟩ : ∃ R, textP s x.a = R := ⟨_, rfl⟩
  rw [hR] at TX
  rw [hR]
  clear h hy hl hsz h0 h1 h2 h3 h4 hx0 htl hR hbs hpt
  go_enter Tryz.func91, Tryz.ntmps91
  go_wp2_with (go_at_call 110; go_must (refine (N0.out _ X0.out).mono ?_))
  (intro e w1; first | (intro hh; obtain ⟨he, hx', hk'⟩ := hh; have hx := hx'; have hk := hk'; clear hx' hk'; subst he) | (intro he hx' hk'; have hx := hx'; have hk := hk'; clear hx' hk'; subst he))
  have X1 := Lib.hid hx
  have K1 := Lib.hid (hk)
  clear hx hk
  go_wp2_with (go_at_call 110; go_must (refine (N1.out _ X1.out).mono ?_))
  (intro e w2; first | (intro hh; obtain ⟨he, hx', hk'⟩ := hh; have hx := hx'; have hk := hk'; clear hx' hk'; subst he) | (intro he hx' hk'; have hx := hx'; have hk := hk'; clear hx' hk'; subst he))
  have X2 := Lib.hid hx
  have K2 := Lib.hid (K1.out.trans hk)
  clear hx hk
  go_wp2_with (go_at_call 110; go_must (refine (N2.out _ X2.out).mono ?_))
  (intro e w3; first | (intro hh; obtain ⟨he, hx', hk'⟩ := hh; have hx := hx'; have hk := hk'; clear hx' hk'; subst he) | (intro he hx' hk'; have hx := hx'; have hk := hk'; clear hx' hk'; subst he))
  have X3 := Lib.hid hx
  have K3 := Lib.hid (K2.out.trans hk)
  clear hx hk
  go_wp2_with (go_at_call 94; go_must (refine (N3.out _ X3.out).mono ?_))
  (intro e w4; first | (intro hh; obtain ⟨he, hx', hk'⟩ := hh; have hx := hx'; have hk := hk'; clear hx' hk'; subst he) | (intro he hx' hk'; have hx := hx'; have hk := hk'; clear hx' hk'; subst he))
  have X4 := Lib.hid hx
  have K4 := Lib.hid (K3.out.trans hk)
  clear hx hk
  go_wp2_with (go_at_call 94; go_must (refine (N4.out _ X4.out).mono ?_))
  (intro e w5; first | (intro hh; obtain ⟨he, hx', hk'⟩ := hh; have hx := hx'; have hk := hk'; clear hx' hk'; subst he) | (intro he hx' hk'; have hx := hx'; have hk := hk'; clear hx' hk'; subst he))
  have X5 := Lib.hid hx
  have K5 := Lib.hid (K4.out.trans hk)
  clear hx hk
  obtain ⟨lv, sv, hc, _⟩ := X5.out
  have c0 := blkc hc 0 rfl
  have c1 := blkc hc 1 rfl
  have kb0 : decide ((0 : Int) ≤ (x.a : Int)) = true := decide_eq_true (by omega)
  have kb1 : decide ((x.a : Int) ≤ (s.size : Int)) = true := decide_eq_true (by omega)
  have kb2 : decide (x.a ≤ s.size) = true := decide_eq_true ha
  clear hc
  go_wp2_with fail
  go_big_quiet ((go_at_call 112; refine Calls.quiet_of_same (HH.out _)))
  generalize hwa : w5.drewN nq = wa
  have X6 := Lib.hid (show x.At wa p s from hwa ▸ X5.out.drew nq)
  have K6 := Lib.hid (show PKeep p w wa from hwa ▸ K5.out.trans (PKeep.of_pmv (drewN_pmv p w5 nq)))
  clear c0 c1 hwa
  cases R with
  | none =>
   go_wp2_with (go_at_call 113; go_must (refine (TX.out _ X6.out).mono ?_))
   rintro e w7 ⟨rfl, _, hk⟩
   have K7 := Lib.hid (K6.out.trans hk)
   clear hk
   go_wp2_with fail
   go_ret2
   exact ⟨rfl, K7.out⟩
  | some r =>
   obtain ⟨t, n, ln⟩ := r
   go_wp2_with (go_at_call 113; go_must (refine (TX.out _ X6.out).mono ?_))
   (intro e w7; first | (intro hh; obtain ⟨he, hx', hk'⟩ := hh; have hx := hx'; have hk := hk'; clear hx' hk'; subst he) | (intro he hx' hk'; have hx := hx'; have hk := hk'; clear hx' hk'; subst he))
   have X7 := Lib.hid hx
   have K7 := Lib.hid (K6.out.trans hk)
   clear hx hk
   go_wp2_with (go_at_call 111; go_must (refine (AD.out n ln ⟨t.toArray⟩ _ X7.out).mono ?_))
   (intro e w9; first | (intro hh; obtain ⟨he, hx', hk'⟩ := hh; have hx := hx'; have hk := hk'; clear hx' hk'; subst he) | (intro he hx' hk'; have hx := hx'; have hk := hk'; clear hx' hk'; subst he))
   have X9 := Lib.hid hx
   have K9 := Lib.hid (K7.out.trans hk)
   clear hx hk
   go_wp2_with fail
   go_ret2
   exact ⟨rfl, X9.out, K9.out⟩
set_option maxRecDepth 100000 in
set_option maxHeartbeats 4000000 in
theorem value_6 {x : PS} {p : Nat} {s : ByteArray} (hx0 : x.Ok s) (hN : NumOk s) (key : ByteArray) (w : World) (h : x.At w p s) (h0 : preP s x.a [110, 117, 108, 108] = false) (h1 : preP s x.a [102, 97, 108, 115, 101] = false) (h2 : preP s x.a [116, 114, 117, 101] = false) (h3 : takeP s x.a 91 = false) (h4 : takeP s x.a 123 = false) (hy : takeP s x.a 34 = false) :
  Calls Tryz.prog 91 #[.pointer (some ⟨p, 0, none⟩), .string key] w (ValPost p s w (if numL (s.data.toList.drop x.a) = 0 then none else some ({ addS x 4 key (s.extract x.a (x.a + numL (s.data.toList.drop x.a))) with a := x.a + numL (s.data.toList.drop x.a) }, false))) := by
  have X0 := Lib.hid h
  have hl := hx0.l
  have ha := hx0.a
  have hsz := hx0.size
  have N0 := Lib.hid (fun W h => word_no (p := p) hx0 ⟨#[110, 117, 108, 108]⟩ h0 (by decide) W h)
  have N1 := Lib.hid (fun W h => word_no (p := p) hx0 ⟨#[102, 97, 108, 115, 101]⟩ h1 (by decide) W h)
  have N2 := Lib.hid (fun W h => word_no (p := p) hx0 ⟨#[116, 114, 117, 101]⟩ h2 (by decide) W h)
  have N3 := Lib.hid (fun W h => take_no (p := p) hx0 91 h3 W h)
  have N4 := Lib.hid (fun W h => take_no (p := p) hx0 123 h4 W h)
  have HH := Lib.hid (fun W => hp_pre s x.a ⟨#[34]⟩ W)
  have hpt : preP s x.a (⟨#[34]⟩ : ByteArray).data.toList = false := (pre_take s x.a).trans hy
  rw [hpt] at HH
  obtain ⟨kf, hkf⟩ := hN x.a ha
  have hnl : numL (s.data.toList.drop x.a) ≤ s.size - x.a := by have := numL_le (s.data.toList.drop x.a); simpa using this
  have HNM := Lib.hid (fun W => PRef.json_numeral.calls kf _ _ W hkf)
  obtain ⟨n, hn⟩ : ∃ n, numL (s.data.toList.drop x.a) = n := ⟨_, rfl⟩
  rw [hn] at hnl HNM
  rw [hn]
  obtain ⟨Q, hQ⟩ : ∃ Q : Option (PS × Bool), (if n = 0 then none else some ({ addS x 4 key (s.extract x.a (x.a + n)) with a := x.a + n }, false)) = Q := ⟨_, rfl⟩
  rw [hQ]
  have HQ := Lib.hid hQ
  have AD := Lib.hid (fun W h => add_p (x := x) (p := p) (s := s) (by omega) hx0.st hx0.dp 4 key (s.extract x.a (x.a + n)) W h)
  clear h hy hl h0 h1 h2 h3 h4 hx0 hkf hn hN hpt hQ
  go_enter Tryz.func91, Tryz.ntmps91
  go_wp2_with (go_at_call 110; go_must (refine (N0.out _ X0.out).mono ?_))
  (intro e w1; first | (intro hh; obtain ⟨he, hx', hk'⟩ := hh; have hx := hx'; have hk := hk'; clear hx' hk'; subst he) | (intro he hx' hk'; have hx := hx'; have hk := hk'; clear hx' hk'; subst he))
  have X1 := Lib.hid hx
  have K1 := Lib.hid (hk)
  clear hx hk
  go_wp2_with (go_at_call 110; go_must (refine (N1.out _ X1.out).mono ?_))
  (intro e w2; first | (intro hh; obtain ⟨he, hx', hk'⟩ := hh; have hx := hx'; have hk := hk'; clear hx' hk'; subst he) | (intro he hx' hk'; have hx := hx'; have hk := hk'; clear hx' hk'; subst he))
  have X2 := Lib.hid hx
  have K2 := Lib.hid (K1.out.trans hk)
  clear hx hk
  go_wp2_with (go_at_call 110; go_must (refine (N2.out _ X2.out).mono ?_))
  (intro e w3; first | (intro hh; obtain ⟨he, hx', hk'⟩ := hh; have hx := hx'; have hk := hk'; clear hx' hk'; subst he) | (intro he hx' hk'; have hx := hx'; have hk := hk'; clear hx' hk'; subst he))
  have X3 := Lib.hid hx
  have K3 := Lib.hid (K2.out.trans hk)
  clear hx hk
  go_wp2_with (go_at_call 94; go_must (refine (N3.out _ X3.out).mono ?_))
  (intro e w4; first | (intro hh; obtain ⟨he, hx', hk'⟩ := hh; have hx := hx'; have hk := hk'; clear hx' hk'; subst he) | (intro he hx' hk'; have hx := hx'; have hk := hk'; clear hx' hk'; subst he))
  have X4 := Lib.hid hx
  have K4 := Lib.hid (K3.out.trans hk)
  clear hx hk
  go_wp2_with (go_at_call 94; go_must (refine (N4.out _ X4.out).mono ?_))
  (intro e w5; first | (intro hh; obtain ⟨he, hx', hk'⟩ := hh; have hx := hx'; have hk := hk'; clear hx' hk'; subst he) | (intro he hx' hk'; have hx := hx'; have hk := hk'; clear hx' hk'; subst he))
  have X5 := Lib.hid hx
  have K5 := Lib.hid (K4.out.trans hk)
  clear hx hk
  obtain ⟨lv, sv, hc, _⟩ := X5.out
  have c0 := blkc hc 0 rfl
  have c1 := blkc hc 1 rfl
  have kb0 : decide ((0 : Int) ≤ (x.a : Int)) = true := decide_eq_true (by omega)
  have kb1 : decide ((x.a : Int) ≤ (s.size : Int)) = true := decide_eq_true (by omega)
  have kb2 : decide (x.a ≤ s.size) = true := decide_eq_true ha
  clear hc
  go_wp2_with fail
  go_big_quiet ((go_at_call 112; refine Calls.quiet_of_same (HH.out _)))
  generalize hwa : w5.drewN nq = wa
  have X6 := Lib.hid (show x.At wa p s from hwa ▸ X5.out.drew nq)
  have K6 := Lib.hid (show PKeep p w wa from hwa ▸ K5.out.trans (PKeep.of_pmv (drewN_pmv p w5 nq)))
  clear c0 c1 hwa
  obtain ⟨lv, sv, hc, _⟩ := X6.out
  have c0 := blkc hc 0 rfl
  have c1 := blkc hc 1 rfl
  clear hc
  by_cases hn0 : n = 0
  ·subst hn0
   obtain rfl : none = Q := by have := HQ.out; rwa [if_pos rfl] at this
   go_wp2_with fail
   go_big_quiet ((go_at_call 114; exact Calls.quiet_of ((HNM.out _).mono (fun _ _ h => ⟨h.1, h.2.out⟩))))
   go_wp2_with fail
   go_ret2
   exact ⟨rfl, K6.out.trans (PKeep.of_pmv (drewN_pmv p wa nq))⟩
  ·obtain rfl : some _ = Q := by have := HQ.out; rwa [if_neg hn0] at this
   have kn : ((n : Int) == 0) = false := by rw [beq_eq_false_iff_ne]; omega
   go_wp2_with fail
   go_big_quiet ((go_at_call 114; exact Calls.quiet_of ((HNM.out _).mono (fun _ _ h => ⟨h.1, h.2.out⟩))))
   generalize hwb : wa.drewN nq = wb
   have X7 := Lib.hid (show x.At wb p s from hwb ▸ X6.out.drew nq)
   have K7 := Lib.hid (show PKeep p w wb from hwb ▸ K6.out.trans (PKeep.of_pmv (drewN_pmv p wa nq)))
   clear c0 c1 hwb
   obtain ⟨lv, sv, hc, _⟩ := X7.out
   have c0 := blkc hc 0 rfl
   have c1 := blkc hc 1 rfl
   clear hc
   have hwn : IntKind.i64.wrap ((x.a : Int) + (n : Int)) = (x.a : Int) + (n : Int) := wrap_id _ (by omega) (by omega)
   have e0 : (0 : Int) ≤ (x.a : Int) := by omega
   have e1 : (x.a : Int) ≤ (x.a : Int) + (n : Int) := by omega
   have e2 : (x.a : Int) + (n : Int) ≤ (s.size : Int) := by omega
   go_upto_region 4 with (fail)
   go_cut [] (fun wc => (addS x 4 key (s.extract x.a (x.a + n))).At wc p s ∧ PKeep p w wc)
   case first =>
    refine (wpIn_wide (n := 5)).1 ?_
    have hmo : Tryz.prog.follows .mixedOrders = true := by kernel_rfl
    refine region_g (fun W => W.cell? ⟨p, 0, none⟩ = some (.string s) ∧ W.cell? ⟨p, 1, none⟩ = some (.int .i64 (x.a : Int))) (fun _ => true) hmo ?_
    have hgood : wb.drew.cell? ⟨p, 0, none⟩ = some (.string s) ∧ wb.drew.cell? ⟨p, 1, none⟩ = some (.int .i64 (x.a : Int)) := ⟨c0, c1⟩
    refine takeQ 0 ?va0 hgood rfl (by kernel_rfl) ⟨fun _ => rfl, .inl ⟨by kernel_rfl, fun w' hw' => ?ya0⟩⟩ ?ra0
    case' ya0 => (obtain ⟨hw1', hw2'⟩ := hw'; go_simp; with_reducible rfl)
    simp only [Act.put, List.setIfInBounds_toArray, List.set_cons_succ, List.set_cons_zero]
    refine takeQ 1 ?va1 hgood rfl (by kernel_rfl) ⟨fun _ => rfl, .inl ⟨by kernel_rfl, fun w' hw' => ?ya1⟩⟩ ?ra1
    case' ya1 => (obtain ⟨hw1', hw2'⟩ := hw'; go_simp; with_reducible rfl)
    simp only [Act.put, List.setIfInBounds_toArray, List.set_cons_succ, List.set_cons_zero]
    refine takeQ 2 ?va2 hgood rfl (by kernel_rfl) ⟨fun _ => rfl, .inl ⟨by kernel_rfl, fun w' hw' => ?ya2⟩⟩ ?ra2
    case' ya2 => (obtain ⟨hw1', hw2'⟩ := hw'; go_simp; with_reducible rfl)
    simp only [Act.put, List.setIfInBounds_toArray, List.set_cons_succ, List.set_cons_zero]
    refine takeQ 3 ?va3 hgood rfl (by kernel_rfl) ⟨fun _ => rfl, .inl ⟨by kernel_rfl, fun w' hw' => ?ya3⟩⟩ ?ra3
    case' ya3 => (obtain ⟨hw1', hw2'⟩ := hw'; go_simp; with_reducible rfl)
    simp only [Act.put, List.setIfInBounds_toArray, List.set_cons_succ, List.set_cons_zero]
    refine takeQ 4 ?va4 hgood rfl (by kernel_rfl) ⟨fun _ => rfl, .inl ⟨by kernel_rfl, fun w' hw' => ?ya4⟩⟩ ?ra4
    case' ya4 => (obtain ⟨hw1', hw2'⟩ := hw'; go_simp; with_reducible rfl)
    simp only [Act.put, List.setIfInBounds_toArray, List.set_cons_succ, List.set_cons_zero]
    refine takeQ 5 ?va5 hgood rfl (by kernel_rfl) ⟨fun _ => rfl, .inl ⟨by kernel_rfl, fun w' hw' => ?ya5⟩⟩ ?ra5
    case' ya5 => (obtain ⟨hw1', hw2'⟩ := hw'; go_simp; with_reducible rfl)
    simp only [Act.put, List.setIfInBounds_toArray, List.set_cons_succ, List.set_cons_zero]
    refine takeQ 6 ?va6 hgood rfl (by kernel_rfl) ⟨fun _ => rfl, .inl ⟨by kernel_rfl, fun w' hw' => ?ya6⟩⟩ ?ra6
    case' ya6 => (obtain ⟨hw1', hw2'⟩ := hw'; go_simp; with_reducible rfl)
    simp only [Act.put, List.setIfInBounds_toArray, List.set_cons_succ, List.set_cons_zero]
    refine takeQ 7 ?va7 hgood rfl (by kernel_rfl) ⟨fun _ => rfl, .inl ⟨by kernel_rfl, fun w' hw' => ?ya7⟩⟩ ?ra7
    case' ya7 => (obtain ⟨hw1', hw2'⟩ := hw'; go_simp; with_reducible rfl)
    simp only [Act.put, List.setIfInBounds_toArray, List.set_cons_succ, List.set_cons_zero]
    refine takeQ 8 ?va8 hgood rfl (by kernel_rfl) ⟨fun _ => rfl, .inl ⟨by kernel_rfl, fun w' hw' => ?ya8⟩⟩ ?ra8
    case' ya8 => (obtain ⟨hw1', hw2'⟩ := hw'; go_simp; with_reducible rfl)
    simp only [Act.put, List.setIfInBounds_toArray, List.set_cons_succ, List.set_cons_zero]
    refine takeQ 9 ?va9 hgood rfl (by kernel_rfl) ⟨fun _ => rfl, .inl ⟨by kernel_rfl, fun w' hw' => ?ya9⟩⟩ ?ra9
    case' ya9 => (obtain ⟨hw1', hw2'⟩ := hw'; go_simp; with_reducible rfl)
    simp only [Act.put, List.setIfInBounds_toArray, List.set_cons_succ, List.set_cons_zero]
    refine takeQ 10 ?va10 hgood rfl (by kernel_rfl) ⟨fun _ => rfl, .inl ⟨by kernel_rfl, fun w' hw' => ?ya10⟩⟩ ?ra10
    case' ya10 => (obtain ⟨hw1', hw2'⟩ := hw'; go_simp; with_reducible rfl)
    simp only [Act.put, List.setIfInBounds_toArray, List.set_cons_succ, List.set_cons_zero]
    refine takeQ 11 ?va11 hgood rfl (by kernel_rfl) ⟨fun _ => rfl, .inl ⟨by kernel_rfl, fun w' hw' => ?ya11⟩⟩ ?ra11
    case' ya11 => (obtain ⟨hw1', hw2'⟩ := hw'; go_simp; with_reducible rfl)
    simp only [Act.put, List.setIfInBounds_toArray, List.set_cons_succ, List.set_cons_zero]
    refine takeQ 12 ?va12 hgood rfl (by kernel_rfl) ⟨fun _ => rfl, .inl ⟨by kernel_rfl, fun w' hw' => ?ya12⟩⟩ ?ra12
    case' ya12 => (obtain ⟨hw1', hw2'⟩ := hw'; go_simp; with_reducible rfl)
    simp only [Act.put, List.setIfInBounds_toArray, List.set_cons_succ, List.set_cons_zero]
    refine takeQ 13 ?va13 hgood rfl (by kernel_rfl) ⟨fun _ => rfl, .inl ⟨by kernel_rfl, fun w' hw' => ?ya13⟩⟩ ?ra13
    case' ya13 => (obtain ⟨hw1', hw2'⟩ := hw'; go_simp; with_reducible rfl)
    simp only [Act.put, List.setIfInBounds_toArray, List.set_cons_succ, List.set_cons_zero]
    refine takeQ 14 ?va14 hgood rfl (by kernel_rfl) ⟨fun _ => rfl, .inl ⟨by kernel_rfl, fun w' hw' => ?ya14⟩⟩ ?ra14
    case' ya14 => (obtain ⟨hw1', hw2'⟩ := hw'; go_simp; with_reducible rfl)
    simp only [Act.put, List.setIfInBounds_toArray, List.set_cons_succ, List.set_cons_zero]
    refine takeQ 15 ?va15 hgood rfl (by kernel_rfl) ⟨fun _ => rfl, .inl ⟨by kernel_rfl, fun w' hw' => ?ya15⟩⟩ ?ra15
    case' ya15 => (obtain ⟨hw1', hw2'⟩ := hw'; go_simp; with_reducible rfl)
    simp only [Act.put, List.setIfInBounds_toArray, List.set_cons_succ, List.set_cons_zero]
    refine takeQ 16 ?va16 hgood rfl (by kernel_rfl) ⟨fun _ => rfl, .inl ⟨by kernel_rfl, fun w' hw' => ?ya16⟩⟩ ?ra16
    case' ya16 => (obtain ⟨hw1', hw2'⟩ := hw'; go_simp; with_reducible rfl)
    simp only [Act.put, List.setIfInBounds_toArray, List.set_cons_succ, List.set_cons_zero]
    refine takeL 17 rfl (by kernel_rfl) ?_
    gi_wp2_with (refine ⟨trivial, ?_⟩; gi_at_call 111; go_must (refine ((callsIn_wide (n := 4)).2 (AD.out _ (X7.out.drew 1))).mono ?_); rintro e w9 ⟨rfl, hx, hk⟩; have X9 := Lib.hid hx; have K9 := Lib.hid hk; clear hx hk)
    have G9 : w9.cell? ⟨p, 0, none⟩ = some (.string s) ∧ w9.cell? ⟨p, 1, none⟩ = some (.int .i64 (x.a : Int)) := by obtain ⟨lv9, sv9, hc9, _⟩ := X9.out; exact ⟨blkc hc9 0 rfl, blkc hc9 1 rfl⟩
    refine ⟨by first | exact G9 | exact fun _ => G9, doneG (by kernel_rfl) ?_⟩
    gi_wp2
    go_meet
    exact ⟨X9.out, (K7.out.trans (PKeep.of_pmv (drewN_pmv p wb 1))).trans K9.out⟩
   case rest =>
    obtain ⟨hx, hk⟩ := hcut
    have X9 := Lib.hid hx
    have K9 := Lib.hid hk
    clear hx hk c0 c1
    obtain ⟨lv, sv, hc, hrow, hop⟩ := X9.out
    have c1 := blkc hc 1 rfl
    have f1 := blk_frozen hc 1
    have HC := Lib.hid hc
    have HRW := Lib.hid hrow
    have HOP := Lib.hid hop
    clear hc hrow hop
    go_wp2_with fail
    go_ret2
    exact ⟨rfl, PAt.move X9.out ((PMv.refl p wc).set 1 _) (fun lv sv h => PCell.at_ h (x.a + n) (by show wrap64 ((x.a : Int) + (n : Int)) = ((x.a + n : Nat) : Int); unfold wrap64; omega)), K9.out.trans (PKeep.of_pmv ((PMv.refl p wc).set 1 _))⟩
end Go.Proofs.YtfocognhcljhpaaGreatDoor
namespace Go.Proofs.YtfocognhcljhpaaGreatDoor
open Go.RowKit Go.Proofs.YtfocognhcljhpaaGreatDoorW.PrintWords Go.Proofs.YtfocognhcljhpaaGreatDoorW.PrintMore Go.Proofs.YtfocognhcljhpaaGreatDoor.PPrintRows Go.Proofs.YtfocognhcljhpaaGreatDoor.Tree
theorem textP_pos {s : ByteArray} {a : Nat} {t : Bs} {n : Nat} {ln : Bool} (h : textP s a = some (t, n, ln)) : 0 < n := by
 unfold textP at h
 cases hd : s.data.toList.drop a with
 | nil => rw [hd] at h; cases h
 | cons c r =>
  rw [hd] at h
  simp only at h
  split at h
  ·cases hx : txtD (r.length + 1) r with
   | none => rw [hx] at h; cases h
   | some y => rw [hx] at h; simp only [thenT, Option.some.injEq, Prod.mk.injEq] at h; omega
  ·cases h
theorem value_p {x : PS} {p : Nat} {s : ByteArray} (hx : x.Ok s) (hbs : ∀ (k : Nat) (h : k < s.size), s[k] ≠ 92) (hN : NumOk s) (key : ByteArray) (w : World) (h : x.At w p s) :
  Calls Tryz.prog 91 #[.pointer (some ⟨p, 0, none⟩), .string key] w (ValPost p s w (valueS s key x)) := by
 have nb : ∀ {b : Bool}, ¬ b = true → b = false := by decide
 unfold valueS
 by_cases h0 : preP s x.a [110, 117, 108, 108] = true
 ·rw [if_pos h0]; exact value_0 hx key w h h0
 rw [if_neg h0]
 by_cases h1 : preP s x.a [102, 97, 108, 115, 101] = true
 ·rw [if_pos h1]; exact value_1 hx key w h (nb h0) h1
 rw [if_neg h1]
 by_cases h2 : preP s x.a [116, 114, 117, 101] = true
 ·rw [if_pos h2]; exact value_2 hx key w h (nb h0) (nb h1) h2
 rw [if_neg h2]
 by_cases h3 : takeP s x.a 91 = true
 ·rw [if_pos h3]; exact value_3 hx key w h (nb h0) (nb h1) (nb h2) h3
 rw [if_neg h3]
 by_cases h4 : takeP s x.a 123 = true
 ·rw [if_pos h4]; exact value_4 hx key w h (nb h0) (nb h1) (nb h2) (nb h3) h4
 rw [if_neg h4]
 by_cases h5 : takeP s x.a 34 = true
 ·rw [if_pos h5]; exact value_5 hx hbs (fun _ _ _ => textP_pos) key w h (nb h0) (nb h1) (nb h2) (nb h3) (nb h4) h5
 rw [if_neg h5]
 exact value_6 hx hN key w h (nb h0) (nb h1) (nb h2) (nb h3) (nb h4) (nb h5)
theorem PAt.top {w : World} {p : Nat} {s : ByteArray} {a : Nat} {l : List Node} {j : Nat} {st' : List Nat} {ln : Bool} {dp : Nat} (h : PAt w p s a l (j :: st') ln dp) (hj : j < l.length) (hl : l.length ≤ 900000) :
  ∃ ad c ao co, w.cell? ⟨p, 2, none⟩ = some (.slice (some ad) l.length c) ∧ w.cell? ⟨p, 3, none⟩ = some (.slice (some ao) (st'.length + 1) co) ∧ w.cell? (ao.add st'.length) = some (.int .i64 (j : Int)) ∧ w.cell? (ad.add (j * 5)) = some (.int .i64 l[j].f0) ∧
   PCell w p s a (.slice (some ad) l.length c) (.slice (some ao) (st'.length + 1) co) ln dp ∧ RowAt w p (.slice (some ad) l.length c) l ∧ OpenAt w p (.slice (some ao) (st'.length + 1) co) (j :: st') := by
 obtain ⟨lv, sv, hC, hR, hO⟩ := h
 obtain ⟨A, c, rfl, _⟩ := hR.slice
 obtain ⟨Ao, co, rfl⟩ := Kd.R_slice hO
 rw [show ((j :: st').reverse.map fun (j : Nat) => (j : Int)).length = st'.length + 1 by simp] at hC hO
 obtain ⟨ao, rfl, htop⟩ := open_top hO
 obtain ⟨ad, rfl, d0, _⟩ := node_at (hR.C hl) j hj
 exact ⟨ad, c, ao, co, blkc hC 2 rfl, blkc hC 3 rfl, htop, d0, hC, hR, hO⟩
def kdAt (l : List Node) (j : Nat) : Int := match l[j]? with | some n => n.f0 | none => 0
theorem kdAt_eq {l : List Node} {j : Nat} (h : j < l.length) : kdAt l j = l[j].f0 := by unfold kdAt; rw [List.getElem?_eq_getElem h]
def nameS (s : ByteArray) (x : PS) : Option (PS × Bs) :=
 if kdAt x.l (x.st.headD 0) = 6 then some ({ x with a := spaceP s x.a }, []) else
 match textP s (spaceP s x.a) with
 | none => none
 | some (t, n, ln) => if takeP s (spaceP s (spaceP s x.a + n)) 58 then some ({ x with a := spaceP s (spaceP s x.a + n) + 1, ln := x.ln || ln }, t) else none
def NamePost (p : Nat) (s : ByteArray) (w : World) : Option (PS × Bs) → Ending → World → Prop
 | some (x, t), e, w' => e = .returned (.tuple #[.string ⟨t.toArray⟩, .bool true]) ∧ x.At w' p s ∧ PKeep p w w'
 | none, e, w' => (∃ t, e = .returned (.tuple #[.string t, .bool false])) ∧ PKeep p w w'
theorem spaceP_le {s : ByteArray} {a : Nat} (h : a ≤ s.size) : spaceP s a ≤ s.size := by
 unfold spaceP
 have := blanksL_le (s.data.toList.drop a)
 rw [List.length_drop] at this
 have e : s.data.toList.length = s.size := by simp
 omega
theorem spaceP_ge (s : ByteArray) (a : Nat) : a ≤ spaceP s a := by unfold spaceP; omega
theorem escD_le {r b : Bs} {k : Nat} {ln : Bool} (h : escD r = some (b, k, ln)) : k ≤ r.length := by
 have hu : ∀ {r : Bs} {n : Nat}, unitL r = some n → 4 ≤ r.length := by
  intro r n h
  match r, h with
  | _ :: _ :: _ :: _ :: _, _ => simp
 unfold escD at h
 cases hr : unitL r with
 | none => rw [hr] at h; cases h
 | some n =>
  have h4 := hu hr
  rw [hr] at h
  simp only at h
  split at h
  ·simp only [Option.some.injEq, Prod.mk.injEq] at h; omega
  ·split at h
   ·rename_i c hc
    simp only [Option.some.injEq, Prod.mk.injEq] at h
    split at hc
    ·split at hc
     ·rename_i m hm
      have := hu hm
      rw [List.length_drop] at this
      omega
     ·cases hc
    ·cases hc
   ·simp only [Option.some.injEq, Prod.mk.injEq] at h; omega
theorem txtD_le : ∀ (f : Nat) (r t : Bs) (n : Nat) (ln : Bool), txtD f r = some (t, n, ln) → n ≤ r.length := by
 intro f
 induction f with
 | zero => intro r t n ln h; cases h
 | succ f ih =>
  have th : ∀ {b : Bs} {k : Nat} {l0 : Bool} {r t : Bs} {n : Nat} {ln : Bool}, thenT b k l0 (txtD f r) = some (t, n, ln) → n ≤ k + r.length := by
   intro b k l0 r t n ln h
   cases hx : txtD f r with
   | none => rw [hx] at h; cases h
   | some y =>
    obtain ⟨t', n', ln'⟩ := y
    have := ih _ _ _ _ hx
    rw [hx] at h
    simp only [thenT, Option.some.injEq, Prod.mk.injEq] at h
    omega
  intro r t n ln h
  cases r with
  | nil => rw [txtD_nil] at h; cases h
  | cons c r =>
   rw [txtD.eq_def] at h
   simp only at h
   split at h
   ·simp only [Option.some.injEq, Prod.mk.injEq] at h
    rw [List.length_cons]
    omega
   ·split at h
    ·cases h
    ·split at h
     ·have := th h
      rw [List.length_cons]
      omega
     ·cases r with
      | nil => cases h
      | cons d r' =>
       simp only at h
       split at h
       ·split at h
        ·cases h
        ·rename_i b k l0 he
         have h1 := escD_le he
         have := th h
         rw [List.length_drop] at this
         simp only [List.length_cons]
         omega
       ·split at h
        ·cases h
        ·have := th h
         simp only [List.length_cons]
         omega
theorem textP_le {s : ByteArray} {a : Nat} {t : Bs} {n : Nat} {ln : Bool} (h : textP s a = some (t, n, ln)) : a + n ≤ s.size := by
 unfold textP at h
 have e : s.data.toList.length = s.size := by simp
 have e2 := List.length_drop (l := s.data.toList) (i := a)
 cases hd : s.data.toList.drop a with
 | nil => rw [hd] at h; cases h
 | cons c r =>
  rw [hd] at h e2
  rw [List.length_cons] at e2
  simp only at h
  split at h
  ·cases hx : txtD (r.length + 1) r with
   | none => rw [hx] at h; cases h
   | some y =>
    obtain ⟨t', n', ln'⟩ := y
    have := txtD_le _ _ _ _ _ hx
    rw [hx] at h
    simp only [thenT, Option.some.injEq, Prod.mk.injEq] at h
    omega
  ·cases h
set_option maxRecDepth 100000 in
set_option maxHeartbeats 4000000 in
theorem name_p {x : PS} {p : Nat} {s : ByteArray} (hx : x.Ok s) (hbs : ∀ (k : Nat) (h : k < s.size), s[k] ≠ 92) (j : Nat) (st' : List Nat) (hst : x.st = j :: st') (w : World) (h : x.At w p s) :
  Calls Tryz.prog 93 #[.pointer (some ⟨p, 0, none⟩)] w (NamePost p s w (nameS s x)) := by
 obtain ⟨xa, xl, xs, xn, xd⟩ := x
 obtain rfl : xs = j :: st' := hst
 have hj : j < xl.length := hx.top j (by simp)
 have hxa : xa ≤ s.size := hx.a
 have hsz := hx.size
 have hla : xl.length ≤ xa := hx.l
 have hsl : st'.length + 1 ≤ xl.length := hx.st
 have hdl : xd ≤ xl.length := hx.dp
 have htp := hx.top
 have hl9 : xl.length ≤ 900000 := by omega
 have hs1 := spaceP_le hxa
 have hs2 := spaceP_ge s xa
 obtain ⟨a1, ha1⟩ : ∃ a1, spaceP s xa = a1 := ⟨_, rfl⟩
 have SP := Lib.hid (fun W h => space_p (p := p) hx W h)
 have hx1 : PS.Ok ⟨a1, xl, j :: st', xn, xd⟩ s := ⟨hsz, by show a1 ≤ _; omega, by show xl.length ≤ a1; omega, hsl, hdl, htp⟩
 have TX := Lib.hid (fun W h => text_p (p := p) hx1 hbs W h)
 obtain ⟨R, hR⟩ : ∃ R, textP s a1 = R := ⟨_, rfl⟩
 obtain ⟨Q, hQ⟩ : ∃ Q, nameS s ⟨xa, xl, j :: st', xn, xd⟩ = Q := ⟨_, rfl⟩
 have hQ0 : Q = if xl[j].f0 = 6 then some (⟨a1, xl, j :: st', xn, xd⟩, []) else
   match R with
   | none => none
   | some (t, n, ln) => if takeP s (spaceP s (a1 + n)) 58 then some (⟨spaceP s (a1 + n) + 1, xl, j :: st', xn || ln, xd⟩, t) else none := by
  rw [← hQ, ← hR, ← ha1]
  unfold nameS
  simp only [List.headD_cons]
  rw [kdAt_eq hj]
 rw [hQ]
 simp only [ha1] at SP hs1 hs2
 have hRb : ∀ t n ln, R = some (t, n, ln) → a1 + n ≤ s.size := fun t n ln h => textP_le (hR.trans h)
 rw [show (PS.mk a1 xl (j :: st') xn xd).a = a1 from rfl, hR] at TX
 have HX := Lib.hid h
 have HQ := Lib.hid hQ0
 have hwi : IntKind.i64.wrap (((st'.length + 1 : Nat) : Int) - 1) = (st'.length : Int) := by rw [show ((st'.length + 1 : Nat) : Int) - 1 = (st'.length : Int) by omega]; exact wrap_id _ (by omega) (by omega)
 have hb0 : (0 : Int) ≤ (st'.length : Int) := by omega
 have hb1 : (st'.length : Int) < ((st'.length + 1 : Nat) : Int) := by omega
 have hj0 : (0 : Int) ≤ (j : Int) := by omega
 have hj1 : (j : Int) < (xl.length : Int) := by omega
 clear h hQ hQ0 hx hx1 hR ha1 hbs hla hsl hdl htp hs2
 go_enter Tryz.func93, Tryz.ntmps93
 go_wp2_with (go_at_call 90; go_must (refine (SP.out _ HX.out).mono ?_))
 (intro e w1; first | (intro hh; obtain ⟨he, hx', hk'⟩ := hh; have hx := hx'; have hk := hk'; clear hx' hk'; subst he) | (intro he hx' hk'; have hx := hx'; have hk := hk'; clear hx' hk'; subst he))
 have X1 := Lib.hid hx
 have K1 := Lib.hid hk
 obtain ⟨ad, c, ao, co, c2, c3, ct, cn, _⟩ := PAt.top hx hj hl9
 clear hx hk
 obtain ⟨kd, hkd⟩ : ∃ kd, xl[j].f0 = kd := ⟨_, rfl⟩
 rw [hkd] at cn
 obtain ⟨m, hm⟩ : ∃ m, st'.length + 1 = m := ⟨_, rfl⟩
 rw [hm] at hwi hb1 c3
 obtain ⟨x1, hx1⟩ : ∃ x1, PS.mk a1 xl (j :: st') xn xd = x1 := ⟨_, rfl⟩
 have X1 : Hid (x1.At w1 p s) := by rw [← hx1]; exact X1
 rw [hx1] at TX
 have HX1 := Lib.hid hx1
 clear hx1
 by_cases h6 : kd = 6
 ·subst h6
  have hQv : Q = some (⟨a1, xl, j :: st', xn, xd⟩, []) := by rw [HQ.out, if_pos hkd]
  go_wp2_with fail
  go_big_quiet (fail)
  go_wp2_with fail
  go_ret2
  rw [hQv]
  exact ⟨rfl, by rw [HX1.out]; exact X1.out.drew nq, K1.out.trans (PKeep.of_pmv (drewN_pmv p w1 nq))⟩
 ·have hQv := HQ.out
  rw [if_neg (by rw [hkd]; exact h6)] at hQv
  clear HQ
  have HQ := Lib.hid hQv
  have k6 : (kd == 6) = false := by rw [beq_eq_false_iff_ne]; exact h6
  clear hQv hkd h6
  go_wp2_with fail
  go_big_quiet (fail)
  generalize hwa : w1.drewN nq = wa
  have X2 := Lib.hid (show x1.At wa p s from hwa ▸ X1.out.drew nq)
  have K2 := Lib.hid (show PKeep p w wa from hwa ▸ K1.out.trans (PKeep.of_pmv (drewN_pmv p w1 nq)))
  clear hwa c2 c3 ct cn
  have TX2 := Lib.hid (TX.out _ X2.out)
  clear TX
  cases R with
  | none =>
   obtain rfl : Q = none := HQ.out
   go_wp2_with (go_at_call 113; go_must (refine TX2.out.mono ?_))
   (intro e w3; first | (intro hh; obtain ⟨he, hx', hk'⟩ := hh; have hx := hx'; have hk := hk'; clear hx' hk'; subst he) | (intro he hx' hk'; have hx := hx'; have hk := hk'; clear hx' hk'; subst he))
   have K3 := Lib.hid (K2.out.trans hk)
   obtain ⟨x3, hx3, hx3'⟩ := hx
   have SP3 := Lib.hid (space_q (p := p) hx3 hsz w3 hx3')
   clear hx3 hx3' hk
   go_wp2_with (go_at_call 90; go_must (refine SP3.out.mono ?_))
   (intro e w4; first | (intro hh; obtain ⟨he, hx', hk'⟩ := hh; have hx := hx'; have hk := hk'; clear hx' hk'; subst he) | (intro he hx' hk'; have hx := hx'; have hk := hk'; clear hx' hk'; subst he))
   have K4 := Lib.hid (K3.out.trans hk)
   clear hx hk
   go_wp2_with fail
   go_ret2
   exact ⟨⟨_, rfl⟩, K4.out⟩
  | some r =>
   obtain ⟨t, n, ln⟩ := r
   have hrb := hRb t n ln rfl
   have hs3 := spaceP_le hrb
   go_wp2_with (go_at_call 113; go_must (refine TX2.out.mono ?_))
   (intro e w3; first | (intro hh; obtain ⟨he, hx', hk'⟩ := hh; have hx := hx'; have hk := hk'; clear hx' hk'; subst he) | (intro he hx' hk'; have hx := hx'; have hk := hk'; clear hx' hk'; subst he))
   have hxx := hx
   rw [← HX1.out] at hx
   have K3 := Lib.hid (K2.out.trans hk)
   have SP3 := Lib.hid (space_q (x := ⟨a1 + n, xl, j :: st', xn || ln, xd⟩) (p := p) hrb hsz w3 hx)
   clear hx hk hxx
   go_wp2_with (go_at_call 90; go_must (refine SP3.out.mono ?_))
   (intro e w4; first | (intro hh; obtain ⟨he, hx', hk'⟩ := hh; have hx := hx'; have hk := hk'; clear hx' hk'; subst he) | (intro he hx' hk'; have hx := hx'; have hk := hk'; clear hx' hk'; subst he))
   have X4 := Lib.hid (show PS.At ⟨spaceP s (a1 + n), xl, j :: st', xn || ln, xd⟩ w4 p s from hx)
   have K4 := Lib.hid (K3.out.trans hk)
   clear hx hk
   generalize spaceP s (a1 + n) = a3 at hs3 HQ X4
   have HTK := Lib.hid (take_q (x := ⟨a3, xl, j :: st', xn || ln, xd⟩) (p := p) hs3 hsz 58 w4 X4.out)
   obtain ⟨b, hb⟩ : ∃ b, takeP s a3 58 = b := ⟨_, rfl⟩
   have HTK2 := HTK.out
   rw [show (PS.mk a3 xl (j :: st') (xn || ln) xd).a = a3 from rfl, hb] at HTK2
   have HTK3 := Lib.hid HTK2
   have HQ2 := HQ.out
   simp only [hb, if_true, Bool.false_eq_true, if_false] at HQ2
   have HQ3 := Lib.hid HQ2
   clear HTK HTK2 HQ HQ2 hb
   cases b with
   | true =>
    go_wp2_with (go_at_call 94; go_must (refine HTK3.out.mono ?_))
    (intro e w5; first | (intro hh; obtain ⟨he, hx', hk'⟩ := hh; have hx := hx'; have hk := hk'; clear hx' hk'; subst he) | (intro he hx' hk'; have hx := hx'; have hk := hk'; clear hx' hk'; subst he))
    have X5 := Lib.hid hx
    have K5 := Lib.hid (K4.out.trans hk)
    clear hx hk
    go_wp2_with fail
    go_ret2
    rw [show Q = _ from HQ3.out]
    exact ⟨rfl, X5.out, K5.out⟩
   | false =>
    go_wp2_with (go_at_call 94; go_must (refine HTK3.out.mono ?_))
    (intro e w5; first | (intro hh; obtain ⟨he, hx', hk'⟩ := hh; have hx := hx'; have hk := hk'; clear hx' hk'; subst he) | (intro he hx' hk'; have hx := hx'; have hk := hk'; clear hx' hk'; subst he))
    have K5 := Lib.hid (K4.out.trans hk)
    clear hx hk
    go_wp2_with fail
    go_ret2
    rw [HQ3.out]
    exact ⟨⟨_, rfl⟩, K5.out⟩
end Go.Proofs.YtfocognhcljhpaaGreatDoor
namespace Go.Proofs.YtfocognhcljhpaaGreatDoor
open Go.RowKit Go.Proofs.YtfocognhcljhpaaGreatDoorW.PrintWords Go.Proofs.YtfocognhcljhpaaGreatDoorW.PrintMore Go.Proofs.YtfocognhcljhpaaGreatDoor.PPrintRows Go.Proofs.YtfocognhcljhpaaGreatDoor.Tree
def setEnd (l : List Node) (j : Nat) (v : Int) : List Node := match l[j]? with | some n => l.set j { n with f4 := v } | none => l
theorem setEnd_len (l : List Node) (j : Nat) (v : Int) : (setEnd l j v).length = l.length := by unfold setEnd; split <;> simp
theorem ncells_set : ∀ (l : List Node) (j : Nat) (v : Int), j < l.length → ncells (setEnd l j v) = (ncells l).set (j * 5 + 4) (.int .i64 v)
 | n :: l, 0, v, _ => by
  show ncells ({ n with f4 := v } :: l) = _
  rw [ncells_cons, ncells_cons, List.set_append_left _ _ (by show 0 * 5 + 4 < 5; omega)]
  rfl
 | n :: l, j + 1, v, h => by
  have ih := ncells_set l j v (by simpa using h)
  have e : setEnd (n :: l) (j + 1) v = n :: setEnd l j v := by
   unfold setEnd
   rw [List.getElem?_cons_succ]
   cases l[j]? <;> rfl
  rw [e, ncells_cons, ncells_cons, ih, List.set_append_right _ _ (by show 5 ≤ _; omega)]
  congr 2
  show _ = (j + 1) * 5 + 4 - 5
  omega
theorem RowAt.set_ {w : World} {base g c : Nat} {l : List Node} (h : RowAt w base (.slice (some ⟨g, 0, none⟩) l.length c) l) (j : Nat) (hj : j < l.length) (v : Int) : RowAt (w.setCell ⟨g, j * 5 + 4, none⟩ (.int .i64 v)) base (.slice (some ⟨g, 0, none⟩) l.length c) (setEnd l j v) := by
 obtain ⟨h0, ⟨e, _⟩ | ⟨g', cap, cur, e, hb, hg, hc, hm, hs, ht⟩⟩ := h
 ·cases e
 ·injection e with e1 e2 e3
  injection e1 with e1
  injection e1 with e1
  subst e1 e3
  refine ⟨by rw [setEnd_len, ncells_len, setEnd_len], .inr ⟨g, c, cur.setIfInBounds (j * 5 + 4) (.int .i64 v), by rw [setEnd_len], hb, blk_set hg (j * 5 + 4) _, by rw [setEnd_len]; exact hc, hm, by rw [Array.size_setIfInBounds]; exact hs, ?_⟩⟩
  rw [setEnd_len, ncells_set l j v hj, Array.toList_setIfInBounds, List.take_set, ht]
theorem PKeep.set_row {w : World} {p g k c : Nat} {l : List Node} (h : RowAt w p (.slice (some ⟨g, 0, none⟩) l.length c) l) (v : Value) : PKeep p w (w.setCell ⟨g, k, none⟩ v) := by
 obtain ⟨hpg, cells, hg⟩ := h.typed g rfl
 refine ⟨rfl, rfl, rfl, by simp [World.setCell], fun j o hj hc => ?_⟩
 refine (Below.heap_setCell w ⟨g, k, none⟩ v j (fun e => ?_)).trans hj
 subst e
 rw [hg] at hj
 rcases hc with hc | hc
 ·omega
 ·exact hc.2.1 _ _ (Option.some.inj hj).symm
theorem row_addr {w : World} {base n c : Nat} {ad : Addr} {l : List Node} (h : RowAt w base (.slice (some ad) n c) l) : ∃ g cells, ad = ⟨g, 0, none⟩ ∧ w.heap[g]? = some (.cells cells 48 (0, 0)) := by
 obtain ⟨h0, ⟨e, _⟩ | ⟨g', cap, cur, e, hb, hg, _⟩⟩ := h
 ·cases e
 ·injection e with e1 e2 e3
  injection e1 with e1
  exact ⟨g', cur, e1, hg⟩
def closeS (s : ByteArray) (x : PS) : PS × Bool :=
 if takeP s (spaceP s x.a) (if kdAt x.l (x.st.headD 0) = 7 then 125 else 93) then ({ x with a := spaceP s x.a + 1, l := setEnd x.l (x.st.headD 0) x.l.length, st := x.st.tail }, true)
 else ({ x with a := spaceP s x.a }, false)
set_option maxRecDepth 100000 in
set_option maxHeartbeats 4000000 in
theorem close_p {x : PS} {p : Nat} {s : ByteArray} (hx : x.Ok s) (j : Nat) (st' : List Nat) (hst : x.st = j :: st') (w : World) (h : x.At w p s) :
  Calls Tryz.prog 92 #[.pointer (some ⟨p, 0, none⟩)] w fun e w' => e = .returned (.bool (closeS s x).2) ∧ (closeS s x).1.At w' p s ∧ PKeep p w w' := by
 obtain ⟨xa, xl, xs, xn, xd⟩ := x
 obtain rfl : xs = j :: st' := hst
 have hj : j < xl.length := hx.top j (by simp)
 have hxa : xa ≤ s.size := hx.a
 have hsz := hx.size
 have hla : xl.length ≤ xa := hx.l
 have hsl : st'.length + 1 ≤ xl.length := hx.st
 have hl9 : xl.length ≤ 900000 := by omega
 have hsl9 : st'.length ≤ 900000 := by omega
 have hs1 := spaceP_le hxa
 obtain ⟨a1, ha1⟩ : ∃ a1, spaceP s xa = a1 := ⟨_, rfl⟩
 obtain ⟨ad, c, ao, co, c2, c3, ct, cn, hC, hR, hO⟩ := PAt.top h hj hl9
 obtain ⟨kd, hkd⟩ : ∃ kd, xl[j].f0 = kd := ⟨_, rfl⟩
 obtain ⟨z, hz⟩ : ∃ z : Int, (if kd = 7 then (125 : Int) else 93) = z := ⟨_, rfl⟩
 obtain ⟨b, hb⟩ : ∃ b, takeP s a1 z = b := ⟨_, rfl⟩
 obtain ⟨Q, hQ⟩ : ∃ Q, closeS s ⟨xa, xl, j :: st', xn, xd⟩ = Q := ⟨_, rfl⟩
 have hQ0 : Q = if b then (⟨a1 + 1, setEnd xl j xl.length, st', xn, xd⟩, true) else (⟨a1, xl, j :: st', xn, xd⟩, false) := by
  rw [← hQ]
  unfold closeS
  simp only [List.headD_cons, kdAt_eq hj, hkd, ha1, hz, hb, List.tail_cons]
 rw [hQ]
 rw [hkd] at cn
 have SP := Lib.hid (fun W h => space_p (p := p) hx W h)
 simp only [ha1] at SP hs1
 have TK := Lib.hid (fun W h => take_q (x := ⟨a1, xl, j :: st', xn, xd⟩) (p := p) hs1 hsz z W h)
 have TK := Lib.hid (show ∀ W, PS.At ⟨a1, xl, j :: st', xn, xd⟩ W p s → _ from fun W h => by have := TK.out W h; rw [show (PS.mk a1 xl (j :: st') xn xd).a = a1 from rfl, hb] at this; exact this)
 have HX := Lib.hid h
 have HQ := Lib.hid hQ0
 have hwi : IntKind.i64.wrap (((st'.length + 1 : Nat) : Int) - 1) = (st'.length : Int) := by rw [show ((st'.length + 1 : Nat) : Int) - 1 = (st'.length : Int) by omega]; exact wrap_id _ (by omega) (by omega)
 have hb0 : (0 : Int) ≤ (st'.length : Int) := by omega
 have hb1 : (st'.length : Int) < ((st'.length + 1 : Nat) : Int) := by omega
 have hj0 : (0 : Int) ≤ (j : Int) := by omega
 have hj1 : (j : Int) < (xl.length : Int) := by omega
 obtain ⟨m, hm⟩ : ∃ m, st'.length + 1 = m := ⟨_, rfl⟩
 rw [hm] at hwi hb1 c3
 clear h hQ hQ0 hx ha1 hla hsl hC hR hO hb hm hkd
 have kz : ((kd == 7) = true ∧ z = 125) ∨ ((kd == 7) = false ∧ z = 93) := by
  by_cases h7 : kd = 7
  ·rw [if_pos h7] at hz; exact .inl ⟨by rw [h7]; rfl, hz.symm⟩
  ·rw [if_neg h7] at hz; exact .inr ⟨by rw [beq_eq_false_iff_ne]; exact h7, hz.symm⟩
 clear hz
 rcases kz with ⟨k7, rfl⟩ | ⟨k7, rfl⟩
 all_goals
  go_enter Tryz.func92, Tryz.ntmps92
  go_wp2_with fail
  go_big_quiet (fail)
  generalize hwa : w.drewN nq = wa
  have Xa := Lib.hid (show PS.At ⟨xa, xl, j :: st', xn, xd⟩ wa p s from hwa ▸ HX.out.drew nq)
  have Ka := Lib.hid (show PKeep p w wa from hwa ▸ PKeep.of_pmv (drewN_pmv p w nq))
  have c2a : wa.cell? ⟨p, 2, none⟩ = some (.slice (some ad) xl.length c) := hwa ▸ c2
  have cna : wa.cell? (ad.add (j * 5)) = some (.int .i64 kd) := hwa ▸ cn
  clear hwa c2 c3 ct cn
  go_wp2_with (go_at_call 90; go_must (refine (SP.out _ Xa.out).mono ?_))
  (intro e w1; first | (intro hh; obtain ⟨he, hx', hk'⟩ := hh; have hx := hx'; have hk := hk'; clear hx' hk'; subst he) | (intro he hx' hk'; have hx := hx'; have hk := hk'; clear hx' hk'; subst he))
  have X1 := Lib.hid hx
  have K1 := Lib.hid (Ka.out.trans hk)
  clear hx hk c2a cna
  cases b with
  | false =>
   obtain rfl : Q = (⟨a1, xl, j :: st', xn, xd⟩, false) := HQ.out
   go_wp2_with (go_at_call 94; go_must (refine (TK.out _ X1.out).mono ?_))
   (intro e w2; first | (intro hh; obtain ⟨he, hx', hk'⟩ := hh; have hx := hx'; have hk := hk'; clear hx' hk'; subst he) | (intro he hx' hk'; have hx := hx'; have hk := hk'; clear hx' hk'; subst he))
   have X2 := Lib.hid hx
   have K2 := Lib.hid (K1.out.trans hk)
   clear hx hk
   go_wp2_with fail
   go_ret
   exact ⟨rfl, X2.out, K2.out⟩
  | true =>
   obtain rfl : Q = (⟨a1 + 1, setEnd xl j xl.length, st', xn, xd⟩, true) := HQ.out
   go_wp2_with (go_at_call 94; go_must (refine (TK.out _ X1.out).mono ?_))
   (intro e w2; first | (intro hh; obtain ⟨he, hx', hk'⟩ := hh; have hx := hx'; have hk := hk'; clear hx' hk'; subst he) | (intro he hx' hk'; have hx := hx'; have hk := hk'; clear hx' hk'; subst he))
   have X2 := Lib.hid hx
   have K2 := Lib.hid (K1.out.trans hk)
   clear hx hk
   obtain ⟨ad', c', ao', co', d2, d3, _, _, hC2, hR2, hO2⟩ := PAt.top X2.out hj hl9
   obtain ⟨g, cells, had, hg⟩ := row_addr hR2
   have hae : ad'.add (j * 5) = ⟨g, j * 5, none⟩ := by rw [had, Lib.add_plain, Nat.zero_add]
   obtain ⟨a0, ea, _, _, _, _, d4⟩ := node_at (hR2.C hl9) j hj
   injection ea with ea
   subst ea
   have d5 : w2.frozen? ⟨(ad'.add (j * 5)).block, (ad'.add (j * 5)).off + 4, none⟩ = false := by rw [hae]; exact blk_frozen hg (j * 5 + 4)
   rw [had] at hR2
   have hsr := hR2.set_ j hj xl.length
   have hks := PKeep.set_row (w := w2.drew) (k := j * 5 + 4) (c := c') (l := xl) (p := p) hR2 (.int .i64 (xl.length : Int))
   have hgp : g ≠ p := fun e => row_ne hC2 hR2 (by rw [← e]; rfl)
   have FIN := Lib.hid (show PS.At ⟨a1 + 1, setEnd xl j xl.length, j :: st', xn, xd⟩ (w2.drew.setCell ⟨(ad'.add (j * 5)).block, (ad'.add (j * 5)).off + 4, none⟩ (.int .i64 (xl.length : Int))) p s ∧ PKeep p w (w2.drew.setCell ⟨(ad'.add (j * 5)).block, (ad'.add (j * 5)).off + 4, none⟩ (.int .i64 (xl.length : Int))) from by
    rw [hae]
    refine ⟨⟨_, _, (Below.heap_setCell w2.drew ⟨g, j * 5 + 4, none⟩ _ p (fun e => hgp e.symm)).trans hC2, by rw [had]; exact hsr, hO2.keep (fun k hk => Below.heap_setCell w2.drew ⟨g, j * 5 + 4, none⟩ _ k (fun e => row_open_ne hR2 hO2 g rfl (by rw [hk]; exact congrArg some e)))⟩, (K2.out.trans (PKeep.of_pmv (drewN_pmv p w2 1))).trans hks⟩)
   clear hC2 hR2 hO2 hg had hae hsr hks
   go_upto_region 8 with (fail)
   go_cut [] (fun wc => PS.At ⟨a1 + 1, setEnd xl j xl.length, j :: st', xn, xd⟩ wc p s ∧ PKeep p w wc)
   case first =>
    go_region_with (fail)
    all_goals (go_wp2_with fail; go_meet)
    all_goals exact FIN.out
   case rest =>
    obtain ⟨hx, hk⟩ := hcut
    have X3 := Lib.hid hx
    have K3 := Lib.hid hk
    clear hx hk d2 d3 d4 d5 FIN
    obtain ⟨ad, c, ao, co, c2, c3, ct, _, hC, hR, hO⟩ := PAt.top X3.out (by rw [setEnd_len]; exact hj) (by rw [setEnd_len]; exact hl9)
    have hco : st'.length + 1 ≤ co := by
     have := (Kd.R_reads' hO).1
     have := (Kd.R_reads' hO).2.1
     omega
    have hb2 : (st'.length : Int) ≤ (co : Int) := by omega
    have f3 := blk_frozen hC 3
    have FIN := Lib.hid (show PS.At ⟨a1 + 1, setEnd xl j xl.length, st', xn, xd⟩ (wc.drew.setCell ⟨p, 3, none⟩ (.slice (some ao) st'.length co)) p s ∧ PKeep p w (wc.drew.setCell ⟨p, 3, none⟩ (.slice (some ao) st'.length co)) from
     ⟨⟨_, _, blk_set (w := wc.drew) hC 3 _, hR.keep (keep_set (w := wc.drew) (row_ne hC hR)), hO.pop.keep (keep_set (w := wc.drew) (open_ne hC hO.pop))⟩, K3.out.trans (PKeep.of_pmv ((drewN_pmv p wc 1).set 3 _))⟩)
    have hwi : IntKind.i64.wrap (((st'.length + 1 : Nat) : Int) - 1) = (st'.length : Int) := by rw [show ((st'.length + 1 : Nat) : Int) - 1 = (st'.length : Int) by omega]; exact wrap_id _ (by omega) (by omega)
    obtain ⟨m, hm⟩ : ∃ m, st'.length + 1 = m := ⟨_, rfl⟩
    rw [hm] at hwi c3 hco
    clear hC hR hO ct
    go_upto_region 9 with (fail)
    go_cut [] (fun wc => PS.At ⟨a1 + 1, setEnd xl j xl.length, st', xn, xd⟩ wc p s ∧ PKeep p w wc)
    case first =>
     go_region_with (fail)
     all_goals (go_wp2_with fail; go_meet)
     all_goals exact FIN.out
    case rest =>
     obtain ⟨hx, hk⟩ := hcut
     go_wp2_with fail
     go_ret
     exact ⟨rfl, hx, hk⟩
end Go.Proofs.YtfocognhcljhpaaGreatDoor
namespace Go.Proofs.YtfocognhcljhpaaGreatDoor
open Go.RowKit Go.Shelf Go.Sort Go.Proofs.YtfocognhcljhpaaGreatDoorW.PrintWords Go.Proofs.YtfocognhcljhpaaGreatDoorW.PrintMore Go.Proofs.YtfocognhcljhpaaGreatDoor.PPrintRows Go.Proofs.YtfocognhcljhpaaGreatDoor.Tree
def toN (n : Nd) : Node := ⟨n.kind, n.key, n.text, n.parent, n.en⟩
def toD (n : Node) : Nd := ⟨n.f0, n.f1, n.f2, n.f3, n.f4⟩
theorem map_toN_toD (l : List Node) : (l.map toD).map toN = l := by rw [List.map_map]; exact List.map_id _
theorem map_toD_toN (l : List Nd) : (l.map toN).map toD = l := by rw [List.map_map]; exact List.map_id _
def pl : Nat → List Tr → List (Nat × Tr)
 | _, [] => []
 | a, t :: ts => (a, t) :: pl (a + t.size) ts
theorem pl_snd : ∀ (a : Nat) (ts : List Tr), (pl a ts).map (·.2) = ts
 | _, [] => rfl
 | a, t :: ts => by rw [pl, List.map_cons, pl_snd]
theorem pl_len (a : Nat) (ts : List Tr) : (pl a ts).length = ts.length := by
 have := congrArg List.length (pl_snd a ts)
 rwa [List.length_map] at this
theorem drop_flat {l r : List Node} {i : Nat} {p : Int} {k : Int} {key text : ByteArray} {kids : List Tr} (h : l.drop i = ((Tr.mk k key text kids).flat p i).map toN ++ r) :
  l[i]? = some ⟨k, key, text, p, ((i + 1 + sizes kids : Nat) : Int)⟩ ∧ l.drop (i + 1) = (flats (i : Int) (i + 1) kids).map toN ++ r := by
 rw [Tr.flat, List.map_cons, List.cons_append] at h
 refine ⟨?_, by rw [← List.drop_drop, h]; rfl⟩
 have := List.getElem?_drop (i := i) (j := 0) (xs := l)
 rw [h] at this
 simpa [toN] using this.symm
theorem pl_mem {l : List Node} {p : Int} : ∀ (ts : List Tr) (a : Nat) (r : List Node), l.drop a = (flats p a ts).map toN ++ r → ∀ x ∈ pl a ts, (∃ r', l.drop x.1 = (x.2.flat p x.1).map toN ++ r') ∧ a ≤ x.1 ∧ x.1 + x.2.size ≤ a + sizes ts ∧ x.2 ∈ ts
 | [], a, r, _, x, hx => by rw [pl] at hx; cases hx
 | t :: ts, a, r, h, x, hx => by
  rw [flats, List.map_append, List.append_assoc] at h
  rw [pl, List.mem_cons] at hx
  rw [sizes]
  rcases hx with rfl | hx
  ·exact ⟨⟨_, h⟩, Nat.le_refl _, by dsimp only; omega, by simp⟩
  ·have h2 : l.drop (a + t.size) = (flats p (a + t.size) ts).map toN ++ r := by rw [← List.drop_drop, h, List.drop_left' (by rw [List.length_map, Tr.flat_len])]
   obtain ⟨h3, h4, h5, h6⟩ := pl_mem ts (a + t.size) r h2 x hx
   exact ⟨h3, by omega, by omega, by simp [h6]⟩
theorem end_of {l : List Node} {r : List Node} {i : Nat} {p : Int} (t : Tr) (h : l.drop i = (t.flat p i).map toN ++ r) : endAt l i = ((i + t.size : Nat) : Int) ∧ keyAt l i = t.key ∧ kndAt l i = t.kind ∧ i + t.size ≤ l.length := by
 have hlen := congrArg List.length h
 rw [List.length_append, List.length_map, Tr.flat_len, List.length_drop] at hlen
 cases t with
 | mk k key text kids =>
  obtain ⟨h1, _⟩ := drop_flat h
  have hpos := (Tr.mk k key text kids).size_pos
  unfold endAt keyAt kndAt
  rw [h1]
  refine ⟨?_, rfl, rfl, by omega⟩
  dsimp only
  rw [Tr.size]
  omega
theorem kids_pl {l : List Node} {p : Int} (e : Int) : ∀ (ts : List Tr) (a : Nat) (r : List Node) (f : Nat), l.drop a = (flats p a ts).map toN ++ r → e = ((a + sizes ts : Nat) : Int) → ts.length ≤ f → kidsP l e f a = (pl a ts).map (·.1)
 | [], a, r, f, _, he, _ => by
  rw [sizes] at he
  cases f with
  | zero => rfl
  | succ f => rw [kidsP, if_neg (by omega)]; rfl
 | t :: ts, a, r, f, h, he, hf => by
  rw [flats, List.map_append, List.append_assoc] at h
  have h2 : l.drop (a + t.size) = (flats p (a + t.size) ts).map toN ++ r := by rw [← List.drop_drop, h, List.drop_left' (by rw [List.length_map, Tr.flat_len])]
  rw [List.length_cons] at hf
  obtain ⟨f', rfl⟩ : ∃ f', f = f' + 1 := ⟨f - 1, by omega⟩
  have hpos := t.size_pos
  rw [sizes] at he
  rw [kidsP, if_pos (by omega), (end_of t h).1, Int.toNat_natCast, kids_pl e ts (a + t.size) r f' h2 (by omega) (by omega), pl, List.map_cons]
def ordL (k : Int) (L : List (Nat × Tr)) : List (Nat × Tr) := if k = 7 then L.mergeSort fun x y => kle x.2 y.2 else L
theorem ordL_perm (k : Int) (L : List (Nat × Tr)) : (ordL k L).Perm L := by
 unfold ordL
 split
 ·exact List.mergeSort_perm _ _
 ·exact .refl _
theorem ordL_srt (k : Int) (a : Nat) (ts : List Tr) : (ordL k (pl a ts)).map (fun x => srt x.2) = ordK k (srts ts) := by
 unfold ordL ordK
 by_cases h : k = 7
 ·rw [if_pos h, if_pos h, List.map_mergeSort (s := kle) (fun x _ y _ => by unfold kle kb; rw [srt_key, srt_key])]
  congr 1
  rw [srts_map, ← pl_snd a ts, List.map_map, pl_snd]
  rfl
 ·rw [if_neg h, if_neg h, srts_map]
  conv => rhs; rw [← pl_snd a ts]
  rw [List.map_map]
  rfl
theorem ordL_plc {l : List Node} (L : List (Nat × Tr)) (h : ∀ x ∈ L, keyAt l x.1 = x.2.key) : (ordL 7 L).map (·.1) = ordP l (L.map (·.1)) := by
 unfold ordL ordP
 rw [if_pos rfl, List.map_mergeSort (s := fun x y => !bl (kbp l y) (kbp l x)) (fun x hx y hy => by unfold kle kb kbp; rw [h x hx, h y hy])]
theorem flats_snoc (p : Int) (a : Nat) (ts : List Tr) (t : Tr) : flats p a (ts ++ [t]) = flats p a ts ++ t.flat p (a + sizes ts) := by
 rw [flats_app, flats, flats, List.append_nil]
theorem sizes_srt2 (L : List (Nat × Tr)) : sizes (L.map fun x => srt x.2) = sizes (L.map (·.2)) := by
 rw [sizes_sum, sizes_sum, List.map_map, List.map_map]
 congr 1
 apply List.map_congr_left
 intro x _
 exact srt_size x.2
theorem setEnd_out (out : List Node) (x : Node) (rest : List Node) (v : Int) : setEnd (out ++ x :: rest) out.length v = out ++ { x with f4 := v } :: rest := by
 unfold setEnd
 rw [List.getElem?_append_right (Nat.le_refl _), Nat.sub_self]
 dsimp only [List.getElem?_cons_zero]
 rw [List.set_append_right _ _ (Nat.le_refl _), Nat.sub_self]
 rfl
theorem sizes_len : ∀ ts : List Tr, ts.length ≤ sizes ts
 | [] => by rw [sizes]; exact Nat.le_refl _
 | t :: ts => by
  rw [sizes, List.length_cons]
  have := t.size_pos
  have := sizes_len ts
  omega
theorem open_at {w : World} {base co : Nat} {Ao : Option Addr} {op : List Nat} {n : Nat} (h : OpenAt w base (.slice Ao n co) op.reverse) (q : Nat) (hq : q < op.length) : ∃ ao, Ao = some ao ∧ w.cell? (ao.add q) = some (.int .i64 (op[q] : Nat)) := by
 obtain ⟨hn, hc, hC⟩ := Kd.R_reads' h
 have hlen : (op.reverse.reverse.map fun (j : Nat) => (j : Int)).length = op.length := by simp
 obtain ⟨ao, e, hx⟩ := Kd.at_int hC (q : Int) (by omega) (by rw [hlen]; omega)
 refine ⟨ao, e, ?_⟩
 rw [Int.toNat_natCast] at hx
 rw [hx]
 congr 2
 unfold Go.Proofs.YtfocognhcljhpaaGreatDoorW.PrintWords.rd
 rw [Int.toNat_natCast, List.getD_eq_getElem?_getD, List.reverse_reverse, List.getElem?_map, List.getElem?_eq_getElem hq]
 rfl
theorem open_n {w : World} {base : Nat} {v : Value} {op : List Nat} (h : OpenAt w base v op.reverse) : ∃ Ao co, v = .slice Ao op.length co ∧ op.length ≤ co := by
 have hown := open_own h
 rw [List.reverse_reverse, List.length_reverse] at hown
 obtain ⟨hl0, ⟨rfl, h0⟩ | ⟨g, c, cur, rfl, hb, hg, hnc, _⟩⟩ := hown
 ·exact ⟨none, 0, by rw [h0], by omega⟩
 ·exact ⟨_, _, rfl, hnc⟩
theorem grownBy_below {a b : World} {r : Option Nat} (h : RowKit.Below a.heap.size a b) : a.grownBy b r := ⟨h.os, h.tape, h.output, h.size, fun k hk _ => h.block k hk⟩
theorem sizes_take (ts : List Tr) (q : Nat) : sizes (ts.take q) ≤ sizes ts := by
 conv => rhs; rw [← List.take_append_drop q ts]
 rw [sizes_app]
 omega
theorem shs_all : ∀ ts : List Tr, shs ts = ts.all Tr.sh
 | [] => by rw [shs]; rfl
 | t :: ts => by rw [shs, shs_all ts]; rfl
theorem grow_trans {a b c : World} {r r2 : Option Nat} (h : a.grownBy b r) (hr : ∀ k, r2 = some k → r = some k ∨ a.heap.size ≤ k) (k : b.grownBy c r2) : a.grownBy c r :=
 ⟨k.os.trans h.os, k.tape.trans h.tape, k.output.trans h.output, Nat.le_trans h.size k.size, fun j hj hne => (k.block j (Nat.lt_of_lt_of_le hj h.size) (fun e => by
  rcases hr j e.symm with h1 | h1
  ·exact hne h1.symm
  ·omega)).trans (h.block j hj hne)⟩
theorem sizes_ord (k : Int) (kids : List Tr) : sizes (ordK k (srts kids)) = sizes kids := by rw [sizes_perm (ordK_perm k _), srts_sizes]
end Go.Proofs.YtfocognhcljhpaaGreatDoor
namespace Go.Proofs.YtfocognhcljhpaaGreatDoor
open Go.RowKit Go.Shelf Go.Sort Go.Proofs.YtfocognhcljhpaaGreatDoorW.PrintWords Go.Proofs.YtfocognhcljhpaaGreatDoorW.PrintMore Go.Proofs.YtfocognhcljhpaaGreatDoor.PPrintRows Go.Proofs.YtfocognhcljhpaaGreatDoor.Tree
theorem sortNone (p : Option Addr) (c : Nat) (fv : Value) (w : World) : Calls Tryz.prog 78 #[.slice p 0 c, fv] w fun e w' => e = .returned (.tuple #[]) ∧ w' = w :=
 AnyF.slices_SortFunc_none (P := Tryz.prog) (ρ := Tryz.laysSlF6_f78_ren) { Tryz.laysSlF6_f78 with } p c fv w
def SPost (base : Nat) (W : World) (v : Value) (out : List Node) (e : Ending) (w' : World) : Prop :=
 ∃ v', e = .returned v' ∧ RowAt w' base v' out ∧ W.grownBy w' v.ownBlock ∧ ∀ k, v'.ownBlock = some k → v.ownBlock = some k ∨ W.heap.size ≤ k
set_option maxRecDepth 100000 in
set_option maxHeartbeats 4000000 in
theorem sorted_any (A : Option Addr) (cap : Nat) (l : List Node) (hl : l.length ≤ 400000) (hlc : l.length ≤ cap) (hmono : ∀ (k : Nat) (h : k < l.length), (k : Int) < l[k].f4 ∧ l[k].f4 ≤ l.length) :
  ∀ (n : Nat) (t : Tr) (i : Nat) (p : Int) (r : List Node), t.size ≤ n → l.drop i = (t.flat p i).map toN ++ r → t.sh = true → t.uniq = true →
  ∀ (base : Nat) (W : World) (v : Value) (out : List Node) (par : Int), RowAt W base v out → out.length + t.size ≤ 400000 → base ≤ W.heap.size → Kd.C kN W A l.length l → (∀ a, A = some a → a.block < base) →
  Calls Tryz.prog 46 #[.slice A l.length cap, .int .i64 (i : Int), .int .i64 par, v] W (SPost base W v (out ++ ((srt t).flat par out.length).map toN)) := by
 intro n
 induction n with
 | zero => intro t i p r h; have := t.size_pos; omega
 | succ n ih =>
  rintro ⟨k, key, text, kids⟩ i p r hn hdr hsh huq base W v out par hR hlen hbw hC hA
  obtain ⟨hli, hdr1⟩ := drop_flat hdr
  have hil : i < l.length := (List.getElem?_eq_some_iff.1 hli).1
  have hlg : l[i] = ⟨k, key, text, p, ((i + 1 + sizes kids : Nat) : Int)⟩ := (List.getElem?_eq_some_iff.1 hli).2
  obtain ⟨A0, c0, rfl, hoc⟩ := hR.slice
  obtain ⟨ad, rfl, d0, d1, d2, d3, d4⟩ := node_at hC i hil
  rw [hlg] at d0 d1 d2 d3 d4
  dsimp only at d0 d1 d2 d3 d4
  rw [Tr.size] at hn hlen
  rw [Tr.sh, Bool.and_eq_true, Bool.or_eq_true, decide_eq_true_eq] at hsh
  rw [Tr.uniq, Bool.and_eq_true] at huq
  obtain ⟨en, hen⟩ : ∃ en : Int, ((i + 1 + sizes kids : Nat) : Int) = en := ⟨_, rfl⟩
  rw [hen] at d4
  have k5 : decide ((i : Int) < (l.length : Int)) = true := decide_eq_true (by omega)
  obtain ⟨W2, hW2⟩ : ∃ W2, (W.alloc (.cells #[.slice (some ad) l.length cap] 22)).alloc (.cells #[.int .i64 k, .string key, .string text, .int .i64 par, .int .i64 en] 48) = W2 := ⟨_, rfl⟩
  have hs2 : W2.heap.size = W.heap.size + 1 + 1 := by rw [← hW2]; simp
  have hb2 : Below W.heap.size W W2 := by rw [← hW2]; exact below_alloc (below_alloc (Below.refl _ _) _) _
  obtain ⟨v1, w1, hr0, hR1, hG1, hO1⟩ := row_append (W := W2) (hR.keep (fun k hk => hb2.block k (row_lt hR k hk))) ⟨k, key, text, par, en⟩ (by omega) (by omega)
  obtain ⟨A1, c1, rfl, hoc1⟩ := hR1.slice
  obtain ⟨out1, hout1⟩ : ∃ out1 : List Node, out ++ [⟨k, key, text, par, en⟩] = out1 := ⟨_, rfl⟩
  have hol : out1.length = out.length + 1 := by rw [← hout1]; simp
  rw [hout1, hol] at hR1 hoc1 hr0 hO1
  have hr1 : (Builtin.append_ #[22, 22] 22 #[.slice A0 out.length c0, .slice (some ⟨W.heap.size + 1 + 1, 0, none⟩) 1 1]).run Tryz.prog (W2.alloc (.cells #[.int .i64 k, .string key, .string text, .int .i64 par, .int .i64 en] 48)) = .ok (.slice A1 (out.length + 1) c1) w1 := by rw [← hs2]; exact hr0
  rw [← hW2] at hr1
  have hbA := below_alloc (Below.refl W.heap.size W) (.cells #[.slice (some ad) l.length cap] 22)
  have f0 := cellBelow hbA d0
  have f1 := cellBelow hbA d1
  have f2 := cellBelow hbA d2
  have f3 := cellBelow hbA d3
  have f4 := cellBelow hbA d4
  have HOUT := Lib.hid hout1
  have HOL := Lib.hid hol
  have HR := Lib.hid hR
  clear hbA hout1 hol
  have HC := Lib.hid hC
  have HA := Lib.hid hA
  have HM := Lib.hid hmono
  have HD := Lib.hid hdr1
  have HB2 := Lib.hid hb2
  have HS2 := Lib.hid hs2
  have HR1 := Lib.hid hR1
  have HG1 := Lib.hid hG1
  have HO1 := Lib.hid hO1
  have HLG := Lib.hid hlg
  have HE := Lib.hid hen
  have HW2 := Lib.hid hW2
  have IH := Lib.hid ih
  have HU := Lib.hid huq
  clear hmono hdr hdr1 hR hC hA hb2 hs2 hr0 hR1 hG1 hO1 hlg hen hW2 ih hli huq
  have hA0 : ∀ q, (Value.slice A0 out.length c0).ownBlock = some q → base ≤ q ∧ q < W.heap.size := fun q hq => ⟨(HR.out.typed q hq).1, row_lt HR.out q hq⟩
  have hold : ∀ q o, (W2.alloc (.cells #[.int .i64 k, .string key, .string text, .int .i64 par, .int .i64 en] 48)).heap[q]? = some o → (Value.slice A0 out.length c0).ownBlock ≠ some q → w1.heap[q]? = some o := fun q o ho hne => (HG1.out.block q (blk_lt ho) (fun e => hne e.symm)).trans ho
  have hB0 : w1.heap[W.heap.size]? = some (.cells #[.slice (some ad) l.length cap] 22 (0, 0)) := hold _ _ (by rw [← HW2.out]; exact blk_alloc (blk_alloc (blk_new _ _) _) _) (fun e => by have := (hA0 _ e).2; omega)
  have hB1 : w1.heap[W.heap.size + 1]? = some (.cells #[.int .i64 k, .string key, .string text, .int .i64 par, .int .i64 en] 48 (0, 0)) := hold _ _ (by rw [← HW2.out]; refine blk_alloc ?_ _; have := blk_new (W.alloc (.cells #[.slice (some ad) l.length cap] 22)) (.cells #[.int .i64 k, .string key, .string text, .int .i64 par, .int .i64 en] 48); rwa [World.size_alloc] at this) (fun e => by have := (hA0 _ e).2; omega)
  have hG01 : W.grownBy w1 (Value.slice A0 out.length c0).ownBlock := ⟨HG1.out.os.trans (by rw [← HW2.out]; rfl), HG1.out.tape.trans (by rw [← HW2.out]; rfl), HG1.out.output.trans (by rw [← HW2.out]; rfl), by have h1 := HG1.out.size; have h2 := HS2.out; simp only [World.size_alloc] at h1; omega,
   fun q hq hne => by
    have h1 := (below_alloc HB2.out (.cells #[.int .i64 k, .string key, .string text, .int .i64 par, .int .i64 en] 48)).block q hq
    exact (HG1.out.block q (by have := HS2.out; simp; omega) hne).trans h1⟩
  have hO01 : ∀ q, (Value.slice A1 (out.length + 1) c1).ownBlock = some q → (Value.slice A0 out.length c0).ownBlock = some q ∨ W.heap.size ≤ q := fun q hq => by
   rcases HO1.out q hq with h | h
   ·exact .inl h
   ·have := HS2.out; exact .inr (by omega)
  have hC1 : Kd.C kN w1 (some ad) l.length l := kdC_keep HC.out (fun a ha => hG01.block a.block (by have := HA.out a ha; omega) (fun e => by have h1 := (hA0 _ e.symm).1; have h2 := HA.out a ha; omega))
  have hs1 : W.heap.size + 2 < w1.heap.size := by have h1 := HG1.out.size; have h2 := HS2.out; simp only [World.size_alloc] at h1; omega
  have g0 : w1.cell? ⟨W.heap.size, 0, none⟩ = some (.slice (some ad) l.length cap) := blkc hB0 0 rfl
  have g1 : w1.cell? ⟨W.heap.size + 1, 0, none⟩ = some (.int .i64 k) := blkc hB1 0 rfl
  have B0 := Lib.hid hB0
  have B1 := Lib.hid hB1
  have G01 := Lib.hid hG01
  have O01 := Lib.hid hO01
  have C1 := Lib.hid hC1
  obtain ⟨L, hL⟩ : ∃ L : List Node, out1 ++ (flats (out.length : Int) (out.length + 1) (ordK k (srts kids))).map toN = L := ⟨_, rfl⟩
  have HL := Lib.hid hL
  clear d0 d1 d2 d3 d4 hA0 hold hB0 hB1 hG01 hO01 hC1 hL
  go_enter Tryz.func46, Tryz.ntmps46
  go_upto_if 28 with (at_builtin; refine wpList_append_runI _ rfl _ _ 22 22 rfl _ _ rfl rfl hr1 ?_)
  clear hr1 f0 f1 f2 f3 f4
  go_cut [3] (fun v3 wc => ∃ A3 c3, v3 = .slice A3 L.length c3 ∧ RowAt wc base (.slice A3 L.length c3) L ∧ W.grownBy wc (Value.slice A0 out.length c0).ownBlock ∧ (∀ q, (Value.slice A3 L.length c3).ownBlock = some q → (Value.slice A0 out.length c0).ownBlock = some q ∨ W.heap.size ≤ q))
  case first =>
   by_cases h6 : 6 ≤ k
   ·have k6 : decide (6 ≤ k) = true := decide_eq_true h6
    obtain ⟨PL, hPL⟩ : ∃ PL, pl (i + 1) kids = PL := ⟨_, rfl⟩
    have hall : kidsP l (l[i].f4) l.length (i + 1) = PL.map (·.1) := by
     rw [← hPL]
     have hle : kids.length ≤ l.length := by
      have h1 := congrArg List.length HD.out
      rw [List.length_append, List.length_map, flats_len, List.length_drop] at h1
      have h2 := sizes_len kids
      omega
     exact kids_pl _ kids (i + 1) r l.length HD.out (by rw [HLG.out]) hle
    have hPLn : (PL.map (·.1)).length ≤ 900000 := by rw [← hall]; have := kidsP_len l (l[i].f4) l.length (i + 1); omega
    obtain ⟨W3, hW3⟩ : ∃ W3, (w1.alloc (.cells #[.slice (some ad) l.length cap] 22)).alloc (.cells #[.int .i64 (i : Int)] 3) = W3 := ⟨_, rfl⟩
    have hs3 : W3.heap.size = w1.heap.size + 1 + 1 := by rw [← hW3]; simp
    have hb3 : Below w1.heap.size w1 W3 := by rw [← hW3]; exact below_alloc (below_alloc (Below.refl _ _) _) _
    have hBl : W3.heap[w1.heap.size]? = some (.cells #[.slice (some ad) l.length cap] 22 (0, 0)) := by rw [← hW3]; exact blk_alloc (blk_new _ _) _
    have hBi : W3.heap[w1.heap.size + 1]? = some (.cells #[.int .i64 (i : Int)] 3 (0, 0)) := by rw [← hW3]; have := blk_new (w1.alloc (.cells #[.slice (some ad) l.length cap] 22)) (.cells #[.int .i64 (i : Int)] 3); rwa [World.size_alloc] at this
    have hadw : ad.block < w1.heap.size := by have := HA.out ad rfl; omega
    have COL := Lib.hid (collect_t (gf := 100) (enters_of Tryz.func100 (by kernel_rfl) rfl) (WS (w1.heap.size + 1) w1.heap.size (some ad)) (PL.map (·.1)) hPLn W3
     (fun q hq => by rcases hq with rfl | rfl | ⟨a, ha, rfl⟩ <;> first | omega | (injection ha with ha; subst ha; omega))
     (hall ▸ seq_within (w1.heap.size + 1) w1.heap.size (some ad) cap l i hil (by omega) hlc HM.out W3 hBi hBl (Kd.C_below C1.out hb3)))
    have HB3 := Lib.hid hb3
    have HW3 := Lib.hid hW3
    have HBL := Lib.hid hBl
    have HPL := Lib.hid hPL
    clear hb3 hW3 hBl hBi hall hPLn hs3 hPL
    go_upto_if 35 with (first | (go_at_call 77; go_must (refine (within_any _ _ _ _ _).mono ?_); rintro e w2 ⟨rfl, hw⟩; have hw2 := hw.trans HW3.out; clear hw; subst hw2) | (go_at_call 76; go_must (refine COL.out.mono ?_); rintro e w3 ⟨vo, rfl, hO, hb⟩; have HO := Lib.hid hO; have HB4 := Lib.hid (HB3.out.trans (hb.mono HB3.out.size)); have g3 := cellBelow HB4.out g1; clear hO hb))
    have hpm := fun x hx => pl_mem kids (i + 1) r HD.out x (HPL.out ▸ hx)
    have hps : ∀ q ∈ PL.map (·.1), q < l.length := fun q hq => by
     obtain ⟨x, hx, rfl⟩ := List.mem_map.1 hq
     obtain ⟨⟨r', h1⟩, _, _, _⟩ := hpm x hx
     have h2 := (end_of x.2 h1).2.2.2
     have := x.2.size_pos
     omega
    have hpk : ∀ x ∈ PL, keyAt l x.1 = x.2.key := fun x hx => by
     obtain ⟨⟨r', h1⟩, _, _, _⟩ := hpm x hx
     exact (end_of x.2 h1).2.1
    obtain ⟨Ao, no, co, rfl, hno, hco⟩ : ∃ Ao no co, vo = .slice Ao no co ∧ no = (PL.map (·.1)).length ∧ no ≤ co := by
     obtain ⟨Ao, co, e, h⟩ := open_n HO.out
     exact ⟨Ao, _, co, e, rfl, h⟩
    obtain ⟨OL, hOL⟩ : ∃ OL, ordL k PL = OL := ⟨_, rfl⟩
    have hOLp : OL.Perm PL := hOL ▸ ordL_perm k PL
    have hol : no = OL.length := by rw [hno, List.length_map, hOLp.length_eq]
    have HPM := Lib.hid hpm
    have HPS := Lib.hid hps
    have HPK := Lib.hid hpk
    have HNO := Lib.hid hno
    have HOLL := Lib.hid hOL
    have HOLP := Lib.hid hOLp
    have HOLN := Lib.hid hol
    have hw12 : w1.heap.size ≤ w2.heap.size := HB3.out.size
    clear hpm hps hpk hno hOL hOLp hol COL
    go_cut [] (fun wc => OpenAt wc w2.heap.size (.slice Ao no co) (OL.map (·.1)).reverse ∧ Below w1.heap.size w1 wc)
    case first =>
     by_cases h7 : k = 7
     ·have k7 : (k == 7) = true := by rw [h7]; rfl
      by_cases hp0 : PL.map (·.1) = []
      ·obtain rfl : no = 0 := by rw [HNO.out, hp0]; rfl
       have hOO : OL.map (·.1) = PL.map (·.1) := by
        have h1 := HOLP.out.length_eq
        have h2 : PL = [] := by simpa using hp0
        rw [h2] at h1 ⊢
        rw [List.length_eq_zero_iff.1 h1]
       have HOO := Lib.hid hOO
       clear hp0 hOO
       go_wp2_with (go_at_call 78; go_must (refine (sortNone _ _ _ _).mono ?_); rintro e w4 ⟨rfl, hw⟩; subst hw)
       go_meet
       exact ⟨by rw [HOO.out]; exact HO.out, HB4.out⟩
      ·have hn2 : ((PL.map (·.1)).map (kbp l)).Nodup := by
        have h1 := HU.out.1
        rw [h7] at h1
        simp only [bne_self_eq_false, Bool.false_or, decide_eq_true_eq] at h1
        have h2 : (PL.map (·.1)).map (kbp l) = kids.map kb := by
         rw [← pl_snd (i + 1) kids, HPL.out, List.map_map, List.map_map]
         apply List.map_congr_left
         intro x hx
         show (keyAt l x.1).data.toList = x.2.key.data.toList
         rw [HPK.out x hx]
        rw [h2]
        exact h1
       have hplen : (PL.map (·.1)).length ≤ 900000 := by
        rw [List.length_map, ← HPL.out, pl_len]
        have := sizes_len kids
        omega
       have hBx : w3.heap[W.heap.size]? = some (.cells #[.slice (some ad) l.length cap] 22 (0, 0)) := blk_below B0.out HB4.out
       have SRT := Lib.hid (sortP_any (some ad) cap W.heap.size l (by omega) w2.heap.size (.slice Ao no co) (PL.map (·.1)) w3 HO.out HPS.out hp0 hn2 hplen hBx (Kd.C_below C1.out HB4.out) (fun a ha => by have := HA.out a ha; omega))
       have hOO : OL.map (·.1) = ordP l (PL.map (·.1)) := by rw [← HOLL.out, h7]; exact ordL_plc PL HPK.out
       have HOO := Lib.hid hOO
       have H7 := Lib.hid h7
       clear hp0 hn2 hplen hBx hOO h7
       go_wp2_with (go_at_call 78; go_must (refine SRT.out.mono ?_); rintro e w4 ⟨rfl, hO4, hg4⟩; have HO4 := Lib.hid hO4; have HG4 := Lib.hid hg4; clear hO4 hg4)
       go_meet
       exact ⟨by rw [HOO.out]; exact HO4.out, HB4.out.grown HG4.out HB4.out.size (fun q hq => by have := (own_int (open_own HO.out) q hq).1; omega)⟩
     ·have k7 : (k == 7) = false := by simpa using h7
      have hOO : OL.map (·.1) = PL.map (·.1) := by rw [← HOLL.out]; unfold ordL; rw [if_neg h7]
      have HOO := Lib.hid hOO
      clear hOO h7
      go_wp2_with fail
      go_meet
      exact ⟨by rw [HOO.out]; exact HO.out, HB4.out⟩
    case rest =>
     obtain ⟨hO5, hB5⟩ := hcut
     have O5 := Lib.hid hO5
     have B5 := Lib.hid hB5
     obtain ⟨wq, rfl⟩ : ∃ wq : World, wq = wc := ⟨_, rfl⟩
     clear hO5 hB5 g0 g1 g3
     go_wp2_with fail
     go_loopw [3, 41] (fun v3 vi wr => ∃ (q : Nat) (A3 : Option Addr) (c3 n3 : Nat) (L3 : List Node), q ≤ no ∧ vi = .int .i64 (q : Int) ∧ v3 = .slice A3 n3 c3 ∧ n3 = L3.length ∧ RowAt wr base (.slice A3 n3 c3) L3 ∧
       L3 = out1 ++ (flats (out.length : Int) (out.length + 1) ((OL.take q).map fun x => srt x.2)).map toN ∧ W.grownBy wr (Value.slice A0 out.length c0).ownBlock ∧
       (∀ q', (Value.slice A3 n3 c3).ownBlock = some q' → (Value.slice A0 out.length c0).ownBlock = some q' ∨ W.heap.size ≤ q') ∧ OpenAt wr w2.heap.size (.slice Ao no co) (OL.map (·.1)).reverse ∧
       wr.heap[W.heap.size]? = some (.cells #[.slice (some ad) l.length cap] 22 (0, 0)) ∧ Kd.C kN wr (some ad) l.length l ∧ w1.heap.size ≤ wr.heap.size)
      (fun _ vi _ => no - (intOf vi).toNat)
     case atStart =>
      exact ⟨0, A1, c1, out.length + 1, out1, Nat.zero_le _, rfl, rfl, HOL.out.symm, HR1.out.keep (fun q hq => B5.out.block q (row_lt HR1.out q hq)), by simp [flats], grow_trans G01.out (fun q hq => O01.out q hq) (grownBy_below B5.out), O01.out, O5.out, blk_below B0.out B5.out, Kd.C_below C1.out B5.out, B5.out.size⟩
     case round =>
      obtain ⟨q, A3, c3, n3, L3, hq, rfl, rfl, rfl, hR3, hL3, hG3, hO3, hOq, hBq, hCq, hsq⟩ := hrel
      by_cases hlt : q < no
      ·have k9 : decide ((q : Int) < (no : Int)) = true := decide_eq_true (by omega)
       have k10 : decide (q < no) = true := decide_eq_true hlt
       have HLT := Lib.hid hlt
       have hq9 : q ≤ 400000 := by
        have h1 := HOLP.out.length_eq
        rw [← HPL.out, pl_len, ← HOLN.out] at h1
        have h2 := sizes_len kids
        omega
       have hqo : q < OL.length := by rw [← HOLN.out]; exact hlt
       obtain ⟨x, hx⟩ : ∃ x, OL[q] = x := ⟨_, rfl⟩
       have hxm : x ∈ PL := HOLP.out.mem_iff.1 (hx ▸ List.getElem_mem hqo)
       obtain ⟨⟨r', hxd⟩, hx1, hx2, hx3⟩ := HPM.out x hxm
       obtain ⟨ao, rfl, hcell⟩ := open_at hOq q (by rw [List.length_map]; exact hqo)
       rw [List.getElem_map, hx] at hcell
       have htk : OL.take (q + 1) = OL.take q ++ [x] := by rw [List.take_succ_eq_append_getElem hqo, hx]
       have hsz3 : sizes ((OL.take q).map fun x => srt x.2) + x.2.size ≤ sizes kids := by
        have h1 : sizes ((OL.take (q + 1)).map fun x => srt x.2) ≤ sizes kids := by
         rw [sizes_srt2, List.map_take]
         refine Nat.le_trans (sizes_take _ _) (Nat.le_of_eq ?_)
         rw [sizes_perm (HOLP.out.map (·.2)), ← HPL.out, pl_snd]
        rw [htk, List.map_append, sizes_app, List.map_cons, List.map_nil, sizes, sizes, srt_size] at h1
        omega
       have hLl : L3.length = out.length + 1 + sizes ((OL.take q).map fun x => srt x.2) := by rw [hL3, List.length_append, HOL.out, List.length_map, flats_len]
       have hxs : x.2.sh = true := by have h1 := hsh.2; rw [shs_all, List.all_eq_true] at h1; exact h1 x.2 hx3
       have hxu : x.2.uniq = true := by have h1 := HU.out.2; rw [uniqs_all, List.all_eq_true] at h1; exact h1 x.2 hx3
       have CALL := Lib.hid (IH.out x.2 x.1 i r' (by omega) hxd hxs hxu base wr (.slice A3 L3.length c3) L3 (out.length : Int) hR3 (by omega) (by omega) hCq HA.out)
       have hL4 : L3 ++ ((srt x.2).flat (out.length : Int) L3.length).map toN = out1 ++ (flats (out.length : Int) (out.length + 1) ((OL.take (q + 1)).map fun x => srt x.2)).map toN := by
        rw [htk, List.map_append, List.map_cons, List.map_nil, flats_snoc, hLl, List.map_append, ← List.append_assoc, ← hL3]
       have b0 : wr.cell? ⟨W.heap.size, 0, none⟩ = some (.slice (some ad) l.length cap) := blkc hBq 0 rfl
       have HL4 := Lib.hid hL4
       have R3 := Lib.hid hR3
       have G3 := Lib.hid hG3
       have O3 := Lib.hid hO3
       have OQ := Lib.hid hOq
       have BQ := Lib.hid hBq
       have CQ := Lib.hid hCq
       clear hx hxm hxd hx1 hx2 hx3 htk hsz3 hLl hxs hxu hL4 hR3 hL3 hG3 hO3 hOq hBq hCq
       go_wp2_with (go_at_call 46; go_must (refine CALL.out.mono ?_); rintro e w5 ⟨v5, rfl, hR5, hG5, hO5⟩; obtain ⟨A5, n5, c5, rfl, hn5⟩ : ∃ A5 n5 c5, v5 = .slice A5 n5 c5 ∧ n5 = (L3 ++ ((srt x.2).flat (out.length : Int) L3.length).map toN).length := (by obtain ⟨A5, c5, e, _⟩ := hR5.slice; exact ⟨A5, _, c5, e, rfl⟩); have R5 := Lib.hid hR5; have G5 := Lib.hid hG5; have O6 := Lib.hid hO5; have N5 := Lib.hid hn5; clear hR5 hG5 hO5 hn5)
       go_roundw
       case rel =>
        have hown3 := R3.out.typed
        have hold : ∀ q' o, wr.heap[q']? = some o → (∀ cells, o ≠ Obj.cells cells 48 (0, 0)) → w5.heap[q']? = some o := fun q' o ho hne => (G5.out.block q' (blk_lt ho) (fun e => by
         obtain ⟨_, cells, h⟩ := hown3 q' e.symm
         rw [ho] at h
         exact hne cells (Option.some.inj h))).trans ho
        refine ⟨q + 1, A5, c5, _, _, HLT.out, by go_num, rfl, N5.out, R5.out, HL4.out, grow_trans G3.out O3.out G5.out, fun q' hq' => ?_, ?_, hold _ _ BQ.out (fun cells e => by simp at e), kdC_keep CQ.out (fun a ha => ?_), Nat.le_trans hsq G5.out.size⟩
        ·rcases O6.out q' hq' with h | h
         ·exact O3.out q' h
         ·have := G3.out.size; exact .inr (by omega)
        ·exact OQ.out.keep (fun q' hq' => by
          obtain ⟨_, cells, h⟩ := own_int (open_own OQ.out) q' hq'
          rw [h]
          exact hold q' _ h (fun cells' e => by simp at e))
        ·refine G5.out.block a.block (by injection ha with ha; subst ha; omega) (fun e => ?_)
         have h1 := (hown3 _ e.symm).1
         have h2 := HA.out a ha
         omega
       case measure => have h1 := HLT.out; simp [intOf]; omega
      ·have k9 : decide ((q : Int) < (no : Int)) = false := decide_eq_false (by omega)
       have k10 : decide (q < no) = false := decide_eq_false hlt
       have hLL : L3 = L := by
        rw [hL3, ← HL.out, List.take_of_length_le (by rw [← HOLN.out]; omega), ← HOLL.out, ← HPL.out, ordL_srt]
       subst hLL
       have R3 := Lib.hid hR3
       have G3 := Lib.hid hG3
       have O3 := Lib.hid hO3
       clear hR3 hL3 hG3 hO3 hOq hBq hCq
       go_wp2_with fail
       go_meet
       exact ⟨A3, c3, rfl, R3.out, G3.out, O3.out⟩
   ·have k6 : decide (6 ≤ k) = false := decide_eq_false h6
    obtain ⟨hk, _⟩ := hsh
    have hk2 : kids = [] := by
     rcases hk with hk | hk
     ·omega
     ·exact List.isEmpty_iff.1 hk
    subst hk2
    have hLL : out1 = L := by
     rw [← HL.out, srts]
     have : ordK k [] = [] := by unfold ordK; rw [if_neg (by omega)]
     rw [this, flats]
     simp
    have hln := HOL.out
    rw [hLL] at hln
    have HLN := Lib.hid hln
    have HR2 := Lib.hid (hLL ▸ HR1.out)
    clear hLL hln hk
    go_wp2_with fail
    go_meet
    exact ⟨A1, c1, by rw [HLN.out], by rw [HLN.out]; exact HR2.out, G01.out, by rw [HLN.out]; exact O01.out⟩
  case rest =>
   obtain ⟨A3, c3, rfl, hR3, hG3, hO3⟩ := hcut
   have hLL : L.length = out.length + 1 + sizes kids := by rw [← HL.out, List.length_append, HOL.out, List.length_map, flats_len, sizes_ord]
   have hLlen : out.length < L.length := by omega
   have hL9 : L.length ≤ 900000 := by omega
   have hfin : setEnd L out.length L.length = out ++ ((srt (.mk k key text kids)).flat par out.length).map toN := by
    rw [← HL.out, ← HOUT.out, List.append_assoc, List.singleton_append, setEnd_out, srt, Tr.flat, List.map_cons]
    have e : (out ++ ({ f0 := k, f1 := key, f2 := text, f3 := par, f4 := en } : Node) :: List.map toN (flats (out.length : Int) (out.length + 1) (ordK k (srts kids)))).length = out.length + 1 + sizes (ordK k (srts kids)) := by simp [flats_len]; omega
    rw [e]
    rfl
   obtain ⟨ad3, rfl, _, _, _, _, q4⟩ := node_at (hR3.C hL9) out.length hLlen
   obtain ⟨g, cells, had, hg⟩ := row_addr hR3
   have hae : ad3.add (out.length * 5) = ⟨g, out.length * 5, none⟩ := by rw [had, Lib.add_plain, Nat.zero_add]
   have q5 : wc.frozen? ⟨(ad3.add (out.length * 5)).block, (ad3.add (out.length * 5)).off + 4, none⟩ = false := by rw [hae]; exact blk_frozen hg _
   have FIN := Lib.hid (show SPost base W (.slice A0 out.length c0) (out ++ ((srt (.mk k key text kids)).flat par out.length).map toN) (.returned (.slice (some ad3) L.length c3)) (wc.setCell ⟨(ad3.add (out.length * 5)).block, (ad3.add (out.length * 5)).off + 4, none⟩ (.int .i64 (L.length : Int))) from by
    rw [hae, ← hfin]
    subst had
    refine ⟨_, rfl, ?_, ⟨hG3.os, hG3.tape, hG3.output, by have := hG3.size; simp [World.setCell]; omega, fun q hq hne => ?_⟩, hO3⟩
    ·have := hR3.set_ out.length hLlen (L.length : Int)
     exact this
    ·refine (Below.heap_setCell _ _ _ _ (fun e => ?_)).trans (hG3.block q hq hne)
     rcases hO3 g rfl with h | h
     ·exact hne (by rw [h]; exact congrArg some e)
     ·have e : q = g := e
      omega)
   have k7 : decide ((out.length : Int) < (L.length : Int)) = true := decide_eq_true (by omega)
   have k8 : decide (out.length < L.length) = true := decide_eq_true (by omega)
   clear hR3 hG3 hO3 hfin hae hg had hLL
   go_wp2_with fail
   go_ret
   exact FIN.out
end Go.Proofs.YtfocognhcljhpaaGreatDoor
namespace Go.Proofs.YtfocognhcljhpaaGreatDoor
open Go.RowKit Go.Shelf Go.Proofs.YtfocognhcljhpaaGreatDoorW.PrintWords Go.Proofs.YtfocognhcljhpaaGreatDoorW.PrintMore Go.Proofs.YtfocognhcljhpaaGreatDoor.PPrintRows Go.Proofs.YtfocognhcljhpaaGreatDoor.Tree
def layN (at_ : Nat) (p : Int) (key : ByteArray) (q : Nat) (x : Node) : Node := if q = 0 then ⟨x.f0, key, x.f2, p, x.f4 + at_⟩ else ⟨x.f0, x.f1, x.f2, x.f3 + at_, x.f4 + at_⟩
def layV (at_ : Nat) (p : Int) (key : ByteArray) (row : List Node) : List Node := row.mapIdx (layN at_ p key)
def Small (l : List Node) : Prop := ∀ n ∈ l, -1000000000 ≤ n.f3 ∧ n.f3 ≤ 1000000000 ∧ -1000000000 ≤ n.f4 ∧ n.f4 ≤ 1000000000
end Go.Proofs.YtfocognhcljhpaaGreatDoor
namespace Go.Proofs.YtfocognhcljhpaaGreatDoor
open Go.RowKit Go.Shelf Go.Proofs.YtfocognhcljhpaaGreatDoorW.PrintWords Go.Proofs.YtfocognhcljhpaaGreatDoorW.PrintMore Go.Proofs.YtfocognhcljhpaaGreatDoor.PPrintRows Go.Proofs.YtfocognhcljhpaaGreatDoor.Tree
theorem add_add (a : Addr) (m n : Nat) : (a.add m).add n = a.add (m + n) := by
 unfold Addr.add
 by_cases hm : m = 0
 ·subst hm; simp
 ·by_cases hn : n = 0
  ·subst hn; simp
  ·rw [if_neg hm, if_neg hn, if_neg (by omega)]
   simp [Nat.add_assoc]
def outN (i : Nat) (q : Nat) (x : Node) : Node := if q = 0 then ⟨x.f0, ⟨#[]⟩, x.f2, -1, x.f4 - i⟩ else ⟨x.f0, x.f1, x.f2, x.f3 - i, x.f4 - i⟩
def outV (i : Nat) (l : List Node) : List Node := l.mapIdx (outN i)
def rowV (l : List Node) (i e : Nat) : List Node := outV i ((l.take e).drop i)
end Go.Proofs.YtfocognhcljhpaaGreatDoor
