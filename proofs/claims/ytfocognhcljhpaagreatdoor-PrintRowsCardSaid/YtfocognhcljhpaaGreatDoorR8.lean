/- Texts taken together, trimmed. -/
import Derived.Test.YtfocognhcljhpaaGreatDoorR1
import Derived.Test.YtfocognhcljhpaaGreatDoorR2
import Derived.Test.YtfocognhcljhpaaGreatDoorR3
import Derived.Test.YtfocognhcljhpaaGreatDoorR4
import Derived.Test.YtfocognhcljhpaaGreatDoorR5
import Derived.Test.YtfocognhcljhpaaGreatDoorR7
import Derived.Scope
import Derived.BigRegionIn
set_option linter.unusedVariables false
set_option linter.unusedSimpArgs false
namespace Go.Proofs.YtfocognhcljhpaaGreatDoor.PRef
open Go.Proofs.YtfocognhcljhpaaGreatDoor.PPrintRows
open Go.RowKit Go.Proofs.YtfocognhcljhpaaGreatDoorW.PrintWords Go.Proofs.YtfocognhcljhpaaGreatDoorW.PrintLast Go.Proofs.YtfocognhcljhpaaGreatDoorW.PrintMore
attribute [local go_sem] max2_int min2_int max_two min_two max_three min_three max_four min_four   -- for this text's walks alone
def cashierref07_run.l0 : Nat → ByteArray → Int → Int → Option (Int)
 | 0, _, _, _ => none
 | k + 1, x0, x1, x5 => if (wrap64 (x1 + x5)) < (x0.size : Int) then (if 0 ≤ (wrap64 (x1 + x5)) then (if (bt x0 (wrap64 (x1 + x5))) ≥ 48 then (if (bt x0 (wrap64 (x1 + x5))) ≤ 57 then (cashierref07_run.l0 k x0 x1 (wrap64 (x5 + 1))) else (some x5)) else (some x5)) else (none)) else (some x5)
def cashierref07_run.f (k : Nat) (a0 : ByteArray) (a1 : Int) : Option (Int) := cashierref07_run.l0 k a0 a1 0
set_option maxHeartbeats 8000000 in
set_option maxRecDepth 100000 in
theorem cashierref07_run.calls (k : Nat) (a0 : ByteArray) (a1 : Int) (r : Int) (w : World) (h : cashierref07_run.f k a0 a1 = some r) :
  Calls Tryz.prog 96 #[.string a0, .int .i64 a1] w fun e w' => e = .returned (.int .i64 r) ∧ Drawn0 w w' := by
 have H : (cashierref07_run.l0 k a0 a1 0) = some r := h
 clear h
 have H' := Aside0.mk H
 clear H
 go_enter Tryz.func96, Tryz.ntmps96
 go_wp2
 go_loopg [5] k (fun kq v5 w' => ∃ (x5_1 : Int), v5 = .int .i64 x5_1 ∧ Aside0 (cashierref07_run.l0 kq a0 a1 x5_1 = some r) ∧ Aside0 (kq ≤ k) ∧ Drawn0 w w')
 case atStart => exact ⟨(0), (by first | rfl | (simp; done) | (simp [*]; done)), H', ⟨Nat.le_refl _⟩, by repeat (first | exact Drawn0.refl _ | apply Drawn0.step)⟩
 case round =>
  clear H'
  try clear p2
  obtain ⟨x5_1, rfl, HA, HK1, ⟨m1, rfl⟩⟩ := hrel
  cases gk with
  | zero => exact absurd HA.out (by simp [cashierref07_run.l0])
  | succ k1 =>
   have H := HA.out
   clear HA
   simp only [cashierref07_run.l0] at H
   by_cases c3 : (wrap64 (a1 + x5_1)) < (a0.size : Int)
   ·rw [if_pos c3] at H
    have c3b0 : decide ((wrap64 (a1 + x5_1)) < (a0.size : Int)) = true := decide_eq_true c3
    clear c3
    obtain ⟨ji4, hji4⟩ : ∃ j_ : Int, (wrap64 (a1 + x5_1)) = j_ := ⟨_, rfl⟩
    replace H : (if 0 ≤ (ji4) then (if (bt a0 (ji4)) ≥ 48 then (if (bt a0 (ji4)) ≤ 57 then (cashierref07_run.l0 k1 a0 a1 (wrap64 (x5_1 + 1))) else (some x5_1)) else (some x5_1)) else (none)) = some r := by first | (rw [hji4] at H; exact H) | (simp only [hji4] at H ⊢; exact H)
    (try rw [hji4] at c3b0)
    have hji4w : (IntKind.i64.wrap (a1 + x5_1)) = ji4 := (i64_w _).trans hji4
    by_cases c5 : 0 ≤ (ji4)
    ·rw [if_pos c5] at H
     have c5b0 : decide (0 ≤ (ji4)) = true := decide_eq_true c5
     clear c5
     by_cases c7 : (bt a0 (ji4)) ≥ 48
     ·rw [if_pos c7] at H
      have c7b0 : decide (48 ≤ (bt a0 (ji4))) = true := decide_eq_true c7
      clear c7
      by_cases c9 : (bt a0 (ji4)) ≤ 57
      ·rw [if_pos c9] at H
       have c9b0 : decide ((bt a0 (ji4)) ≤ 57) = true := decide_eq_true c9
       clear c9
       have H' := Aside0.mk H
       clear H
       have p6 : 0 ≤ ((ji4) : Int) := of_decide_eq_true (by first | (with_reducible assumption) | assumption)
       have q6 : (ji4) < (a0.size : Int) := of_decide_eq_true (by first | (with_reducible assumption) | assumption)
       have hx6 := bt_at a0 (ji4)
       replace p6 := eq_true p6
       replace q6 := eq_true q6
       have p8 : 0 ≤ ((ji4) : Int) := of_decide_eq_true (by first | (with_reducible assumption) | assumption)
       have q8 : (ji4) < (a0.size : Int) := of_decide_eq_true (by first | (with_reducible assumption) | assumption)
       have hx8 := bt_at a0 (ji4)
       replace p8 := eq_true p8
       replace q8 := eq_true q8
       go_wp2
       go_roundg k1
       case measure => have := HK1.out; omega
       case rel => exact ⟨(wrap64 (x5_1 + 1)), (by first | rfl | (simp; done) | (simp; exact isEmpty_ne _) | (simp [*]; done)), (by first | exact H' | (simp only [hji4]; exact H')), ⟨by have := HK1.out; omega⟩, by repeat (first | exact Drawn0.refl _ | apply Drawn0.step)⟩
      ·rw [if_neg c9] at H
       have c9b0 : decide ((bt a0 (ji4)) ≤ 57) = false := decide_eq_false c9
       clear c9
       obtain rfl := Option.some.inj H
       have p6 : 0 ≤ ((ji4) : Int) := of_decide_eq_true (by first | (with_reducible assumption) | assumption)
       have q6 : (ji4) < (a0.size : Int) := of_decide_eq_true (by first | (with_reducible assumption) | assumption)
       have hx6 := bt_at a0 (ji4)
       replace p6 := eq_true p6
       replace q6 := eq_true q6
       have p8 : 0 ≤ ((ji4) : Int) := of_decide_eq_true (by first | (with_reducible assumption) | assumption)
       have q8 : (ji4) < (a0.size : Int) := of_decide_eq_true (by first | (with_reducible assumption) | assumption)
       have hx8 := bt_at a0 (ji4)
       replace p8 := eq_true p8
       replace q8 := eq_true q8
       go_wp2
       go_ret
       exact ⟨by first | rfl | (simp; done) | (simp only [← hji4] <;> (first | rfl | simp)) | (simp [*]; done), by repeat (first | exact Drawn0.refl _ | apply Drawn0.step)⟩
     ·rw [if_neg c7] at H
      have c7b0 : decide (48 ≤ (bt a0 (ji4))) = false := decide_eq_false c7
      clear c7
      obtain rfl := Option.some.inj H
      have p6 : 0 ≤ ((ji4) : Int) := of_decide_eq_true (by first | (with_reducible assumption) | assumption)
      have q6 : (ji4) < (a0.size : Int) := of_decide_eq_true (by first | (with_reducible assumption) | assumption)
      have hx6 := bt_at a0 (ji4)
      replace p6 := eq_true p6
      replace q6 := eq_true q6
      go_wp2
      go_ret
      exact ⟨by first | rfl | (simp; done) | (simp only [← hji4] <;> (first | rfl | simp)) | (simp [*]; done), by repeat (first | exact Drawn0.refl _ | apply Drawn0.step)⟩
    ·rw [if_neg c5] at H
     exact absurd H (by simp)
   ·rw [if_neg c3] at H
    have c3b0 : decide ((wrap64 (a1 + x5_1)) < (a0.size : Int)) = false := decide_eq_false c3
    clear c3
    obtain rfl := Option.some.inj H
    go_wp2
    go_ret
    exact ⟨by first | rfl | (simp; done) | (simp [*]; done), by repeat (first | exact Drawn0.refl _ | apply Drawn0.step)⟩
mutual
def cashierref07_Numeral.j0 : Nat → ByteArray → Int → Bool → Option (Int)
 | 0, _, _, _ => none
 | k + 1, x0, x3, x12 => if x12 = true then (cashierref07_Numeral.j1 k x0 1) else (cashierref07_Numeral.j1 k x0 x3)
def cashierref07_Numeral.j1 : Nat → ByteArray → Int → Option (Int)
 | 0, _, _ => none
 | k + 1, x0, x3 => (cashierref07_run.f k x0 x3).bind fun t214 => (if t214 = 0 then (cashierref07_Numeral.j2 k x0 x3 t214 true) else (if t214 > 1 then (if 0 ≤ x3 then (if x3 < (x0.size : Int) then (cashierref07_Numeral.j2 k x0 x3 t214 ((bt x0 x3) == 48)) else (none)) else (none)) else (cashierref07_Numeral.j2 k x0 x3 t214 false)))
def cashierref07_Numeral.j2 : Nat → ByteArray → Int → Int → Bool → Option (Int)
 | 0, _, _, _, _ => none
 | k + 1, x0, x3, x4, x27 => if x27 = true then (some 0) else (if (wrap64 (x3 + x4)) < (x0.size : Int) then (if 0 ≤ (wrap64 (x3 + x4)) then (cashierref07_Numeral.j3 k x0 (wrap64 (x3 + x4)) ((bt x0 (wrap64 (x3 + x4))) == 46)) else (none)) else (cashierref07_Numeral.j3 k x0 (wrap64 (x3 + x4)) false))
def cashierref07_Numeral.j3 : Nat → ByteArray → Int → Bool → Option (Int)
 | 0, _, _, _ => none
 | k + 1, x0, x3, x40 => if x40 = true then ((cashierref07_run.f k x0 (wrap64 (x3 + 1))).bind fun t215 => (if t215 = 0 then (some 0) else (cashierref07_Numeral.j4 k x0 (wrap64 ((wrap64 (x3 + 1)) + t215))))) else (cashierref07_Numeral.j4 k x0 x3)
def cashierref07_Numeral.j4 : Nat → ByteArray → Int → Option (Int)
 | 0, _, _ => none
 | k + 1, x0, x3 => if x3 < (x0.size : Int) then (if 0 ≤ x3 then (if (bt x0 x3) = 101 then (cashierref07_Numeral.j5 k x0 x3 true) else (cashierref07_Numeral.j5 k x0 x3 ((bt x0 x3) == 69))) else (none)) else (cashierref07_Numeral.j5 k x0 x3 false)
def cashierref07_Numeral.j5 : Nat → ByteArray → Int → Bool → Option (Int)
 | 0, _, _, _ => none
 | k + 1, x0, x3, x66 => if x66 = true then (if (wrap64 (x3 + 1)) < (x0.size : Int) then (if 0 ≤ (wrap64 (x3 + 1)) then (if (bt x0 (wrap64 (x3 + 1))) = 43 then (cashierref07_Numeral.j6 k x0 (wrap64 (x3 + 1)) true) else (cashierref07_Numeral.j6 k x0 (wrap64 (x3 + 1)) ((bt x0 (wrap64 (x3 + 1))) == 45))) else (none)) else (cashierref07_Numeral.j6 k x0 (wrap64 (x3 + 1)) false)) else (some x3)
def cashierref07_Numeral.j6 : Nat → ByteArray → Int → Bool → Option (Int)
 | 0, _, _, _ => none
 | k + 1, x0, x3, x84 => if x84 = true then ((cashierref07_run.f k x0 (wrap64 (x3 + 1))).bind fun t216 => (if t216 = 0 then (some 0) else (some (wrap64 ((wrap64 (x3 + 1)) + t216))))) else ((cashierref07_run.f k x0 x3).bind fun t217 => (if t217 = 0 then (some 0) else (some (wrap64 (x3 + t217)))))
end
def cashierref07_Numeral.f (k : Nat) (a0 : ByteArray) : Option (Int) := if (a0.size : Int) > 0 then (if 0 < (a0.size : Int) then (cashierref07_Numeral.j0 k a0 0 ((bt a0 0) == 45)) else (none)) else (cashierref07_Numeral.j0 k a0 0 false)
set_option maxHeartbeats 8000000 in
set_option maxRecDepth 100000 in
theorem cashierref07_Numeral.calls (k : Nat) (a0 : ByteArray) (r : Int) (w : World) (h : cashierref07_Numeral.f k a0 = some r) :
  Calls Tryz.prog 69 #[.string a0] w fun e w' => e = .returned (.int .i64 r) ∧ Drawn0 w w' := by
 have H : (if (a0.size : Int) > 0 then (if 0 < (a0.size : Int) then (cashierref07_Numeral.j0 k a0 0 ((bt a0 0) == 45)) else (none)) else (cashierref07_Numeral.j0 k a0 0 false)) = some r := h
 clear h
 have HC2 := Aside0.mk H
 clear H
 go_enter Tryz.func69, Tryz.ntmps69
 go_upto_region 2 with (fail)
 go_cut [12] (fun v12 wc => ∃ (kq : Nat) (x12_1 : Bool), v12 = .bool x12_1 ∧ Aside0 (cashierref07_Numeral.j0 kq a0 0 x12_1 = some r) ∧ Aside0 (kq ≤ k) ∧ Drawn0 w wc)
 case first =>
  have H := HC2.out
  clear HC2
  by_cases c3 : (a0.size : Int) > 0
  ·rw [if_pos c3] at H
   have c3b0 : decide (0 < (a0.size : Int)) = true := decide_eq_true c3
   have c3b1 : decide (0 < a0.size) = true := decide_eq_true (by omega)
   clear c3
   (first | rw [c3b0] | rw [c3b1] | (simp only [i64_w, i32_w]; rw [c3b0]) | skip)
   by_cases c4 : 0 < (a0.size : Int)
   ·rw [if_pos c4] at H
    have c4b0 : decide (0 < (a0.size : Int)) = true := decide_eq_true c4
    have c4b1 : decide (0 < a0.size) = true := decide_eq_true (by omega)
    clear c4
    have H' := Aside0.mk H
    clear H
    have p5 : 0 ≤ (0 : Int) := (by omega)
    have q5 : 0 < a0.size := (by have : (0 : Int) < (a0.size : Int) := of_decide_eq_true (by first | (with_reducible assumption) | assumption); omega)
    have hx5 : ∀ h : 0 < a0.size, ((a0[0]'h).toNat : Int) = bt a0 0 := bt_at a0 0
    clear p5
    have qi5 : (0 < (a0.size : Int)) = True := eq_true (of_decide_eq_true (by first | (with_reducible assumption) | assumption))
    replace q5 := eq_true q5
    go_wp2
    go_meet
    case rel => exact ⟨_, (((bt a0 0) == 45)), (by first | rfl | (simp; done) | (simp; exact isEmpty_ne _) | (simp [*]; done)), H', ⟨by first | omega | exact Nat.le_refl _⟩, by repeat (first | exact Drawn0.refl _ | apply Drawn0.step)⟩
   ·rw [if_neg c4] at H
    exact absurd H (by simp)
  ·rw [if_neg c3] at H
   have c3b0 : decide (0 < (a0.size : Int)) = false := decide_eq_false c3
   have c3b1 : decide (0 < a0.size) = false := decide_eq_false (by omega)
   clear c3
   (first | rw [c3b0] | rw [c3b1] | (simp only [i64_w, i32_w]; rw [c3b0]) | skip)
   have H' := Aside0.mk H
   clear H
   go_wp2
   go_meet
   case rel => exact ⟨_, (false), (by first | rfl | (simp; done) | (simp; exact isEmpty_ne _) | (simp [*]; done)), H', ⟨by first | omega | exact Nat.le_refl _⟩, by repeat (first | exact Drawn0.refl _ | apply Drawn0.step)⟩
 case rest =>
  clear HC2
  try clear p2
  try clear c3
  try clear c3b0
  try clear c3b1
  try clear c4
  try clear c4b0
  try clear c4b1
  try clear p5
  try clear q5
  try clear hx5
  try clear qi5
  try clear p5
  try clear q5
  obtain ⟨kq, x12_1, rfl, HA, HJ1, ⟨mc1, rfl⟩⟩ := hcut
  cases kq with
  | zero => exact absurd HA.out (by simp [cashierref07_Numeral.j0])
  | succ kj1 =>
   have H := HA.out
   clear HA
   simp only [cashierref07_Numeral.j0] at H
   have HC6 := Aside0.mk H
   clear H
   go_upto_if 12 with (fail)
   go_cut [3] (fun v3 wc => ∃ (kq : Nat) (x3_5 : Int), v3 = .int .i64 x3_5 ∧ Aside0 (cashierref07_Numeral.j1 kq a0 x3_5 = some r) ∧ Aside0 (kq ≤ kj1) ∧ Drawn0 w wc)
   case first =>
    have H := HC6.out
    clear HC6
    by_cases c7 : x12_1 = true
    ·subst c7
     have H1 : (cashierref07_Numeral.j1 kj1 a0 1) = some r := by rw [if_pos rfl] at H; exact H
     clear H
     have H := H1
     clear H1
     have H' := Aside0.mk H
     clear H
     go_wp2
     go_meet
     case rel => exact ⟨_, (1), (by first | rfl | (simp; done) | (simp; exact isEmpty_ne _) | (simp [*]; done)), H', ⟨by have := HJ1.out; first | omega | exact Nat.le_refl _⟩, by repeat (first | exact Drawn0.refl _ | apply Drawn0.step)⟩
    ·replace c7 := Bool.eq_false_iff.mpr c7
     subst c7
     have H1 : (cashierref07_Numeral.j1 kj1 a0 0) = some r := by rw [if_neg (show ¬ (false = true) by decide)] at H; exact H
     clear H
     have H := H1
     clear H1
     have H' := Aside0.mk H
     clear H
     go_wp2
     go_meet
     case rel => exact ⟨_, (0), (by first | rfl | (simp; done) | (simp; exact isEmpty_ne _) | (simp [*]; done)), H', ⟨by have := HJ1.out; first | omega | exact Nat.le_refl _⟩, by repeat (first | exact Drawn0.refl _ | apply Drawn0.step)⟩
   case rest =>
    clear HC6
    try clear c1
    try clear p2
    try clear c3
    try clear c3b0
    try clear c3b1
    try clear c4
    try clear c4b0
    try clear c4b1
    try clear p5
    try clear q5
    try clear hx5
    try clear qi5
    try clear c6
    try clear c7
    try clear p2
    try clear p5
    try clear q5
    obtain ⟨kq, x3_5, rfl, HA, HJ5, ⟨mc5, rfl⟩⟩ := hcut
    cases kq with
    | zero => exact absurd HA.out (by simp [cashierref07_Numeral.j1])
    | succ kj5 =>
     have H := HA.out
     clear HA
     simp only [cashierref07_Numeral.j1] at H
     replace H := Option.bind_eq_some_iff.mp H
     obtain ⟨t214, A80, H⟩ := H
     replace H : (if t214 = 0 then (cashierref07_Numeral.j2 kj5 a0 x3_5 t214 true) else (if t214 > 1 then (if 0 ≤ x3_5 then (if x3_5 < (a0.size : Int) then (cashierref07_Numeral.j2 kj5 a0 x3_5 t214 ((bt a0 x3_5) == 48)) else (none)) else (none)) else (cashierref07_Numeral.j2 kj5 a0 x3_5 t214 false))) = some r := H
     have A8 := Aside0.mk A80
     clear A80
     have HC9 := Aside0.mk H
     clear H
     go_upto_region 5 with (first | ((with_reducible refine gate_callee (f := 96) rfl ?_); refine goesL_ (some 15) rfl rfl Tryz.func96 (by kernel_rfl) rfl #[.string a0, .int .i64 x3_5] rfl (by (try simp only [List.map_toArray, List.map_cons, List.map_nil]); first | done | rfl | (simp only [List.length_drop, List.length_take]; rfl)) ?_; (with_reducible refine (cashierref07_run.calls kj5 a0 x3_5 t214 _ A8.out).mono ?_); rintro e w' ⟨rfl, ⟨nd, rfl⟩⟩; refine ⟨_, rfl, ?_⟩))
     (try simp only [Act.put, List.setIfInBounds_toArray, List.set_cons_zero, List.set_cons_succ])
     go_cut [27] (fun v27 wc => ∃ (kq : Nat) (x27_8 : Bool), v27 = .bool x27_8 ∧ Aside0 (cashierref07_Numeral.j2 kq a0 x3_5 t214 x27_8 = some r) ∧ Aside0 (kq ≤ kj5) ∧ Drawn0 w wc)
     case first =>
      have H := HC9.out
      clear HC9
      by_cases c10 : t214 = 0
      ·rw [if_pos c10] at H
       have c10b0 : (t214 == 0) = true := beq_iff_eq.mpr c10
       have c10b1 : (t214 != 0) = false := bne_eq_false_iff_eq.mpr c10
       clear c10
       (first | rw [c10b0] | (simp only [i64_w, i32_w]; rw [c10b0]) | skip)
       have H' := Aside0.mk H
       clear H
       go_wp2
       go_meet
       case rel => exact ⟨_, (true), (by first | rfl | (simp; done) | (simp; exact isEmpty_ne _) | (simp [*]; done)), H', ⟨by have := HJ1.out; have := HJ5.out; first | omega | exact Nat.le_refl _⟩, by repeat (first | exact Drawn0.refl _ | apply Drawn0.step)⟩
      ·rw [if_neg c10] at H
       have c10b0 : (t214 == 0) = false := beq_eq_false_iff_ne.mpr c10
       have c10b1 : (t214 != 0) = true := bne_iff_ne.mpr c10
       (first | rw [c10b0] | (simp only [i64_w, i32_w]; rw [c10b0]) | skip)
       by_cases c11 : t214 > 1
       ·rw [if_pos c11] at H
        have c11b0 : decide (1 < t214) = true := decide_eq_true c11
        clear c11
        by_cases c12 : 0 ≤ x3_5
        ·rw [if_pos c12] at H
         have c12b0 : decide (0 ≤ x3_5) = true := decide_eq_true c12
         clear c12
         by_cases c13 : x3_5 < (a0.size : Int)
         ·rw [if_pos c13] at H
          have c13b0 : decide (x3_5 < (a0.size : Int)) = true := decide_eq_true c13
          clear c13
          have H' := Aside0.mk H
          clear H
          have p14 : 0 ≤ (x3_5 : Int) := of_decide_eq_true (by first | (with_reducible assumption) | assumption)
          have q14 : x3_5 < (a0.size : Int) := of_decide_eq_true (by first | (with_reducible assumption) | assumption)
          have hx14 := bt_at a0 x3_5
          replace p14 := eq_true p14
          replace q14 := eq_true q14
          go_wp2
          go_meet
          case rel => exact ⟨_, (((bt a0 x3_5) == 48)), (by first | rfl | (simp; done) | (simp; exact isEmpty_ne _) | (simp [*]; done)), H', ⟨by have := HJ1.out; have := HJ5.out; first | omega | exact Nat.le_refl _⟩, by repeat (first | exact Drawn0.refl _ | apply Drawn0.step)⟩
         ·rw [if_neg c13] at H
          exact absurd H (by simp)
        ·rw [if_neg c12] at H
         exact absurd H (by simp)
       ·rw [if_neg c11] at H
        have c11b0 : decide (1 < t214) = false := decide_eq_false c11
        clear c11
        have H' := Aside0.mk H
        clear H
        go_wp2
        go_meet
        case rel => exact ⟨_, (false), (by first | rfl | (simp; done) | (simp; exact isEmpty_ne _) | (simp [*]; done)), H', ⟨by have := HJ1.out; have := HJ5.out; first | omega | exact Nat.le_refl _⟩, by repeat (first | exact Drawn0.refl _ | apply Drawn0.step)⟩
     case rest =>
      clear HC9
      try clear c1
      try clear p1
      try clear q1
      try clear hx1
      try clear p2
      try clear c3
      try clear c3b0
      try clear c3b1
      try clear c4
      try clear c4b0
      try clear c4b1
      try clear c5
      try clear p5
      try clear q5
      try clear hx5
      try clear qi5
      try clear c6
      try clear c7
      try clear c9
      try clear c10
      try clear c10b0
      try clear c10b1
      try clear c11
      try clear c11b0
      try clear c12
      try clear c12b0
      try clear c13
      try clear c13b0
      try clear p14
      try clear q14
      try clear hx14
      try clear p14
      try clear p2
      try clear p5
      try clear q14
      try clear q5
      obtain ⟨kq, x27_8, rfl, HA, HJ8, ⟨mc8, rfl⟩⟩ := hcut
      cases kq with
      | zero => exact absurd HA.out (by simp [cashierref07_Numeral.j2])
      | succ kj8 =>
       have H := HA.out
       clear HA
       simp only [cashierref07_Numeral.j2] at H
       by_cases c15 : x27_8 = true
       ·subst c15
        have H1 : (some 0) = some r := by rw [if_pos rfl] at H; exact H
        clear H
        have H := H1
        clear H1
        obtain rfl := Option.some.inj H
        go_wp2
        go_ret
        exact ⟨by first | rfl | (simp; done) | (simp [*]; done), by repeat (first | exact Drawn0.refl _ | apply Drawn0.step)⟩
       ·replace c15 := Bool.eq_false_iff.mpr c15
        subst c15
        have H1 : (if (wrap64 (x3_5 + t214)) < (a0.size : Int) then (if 0 ≤ (wrap64 (x3_5 + t214)) then (cashierref07_Numeral.j3 kj8 a0 (wrap64 (x3_5 + t214)) ((bt a0 (wrap64 (x3_5 + t214))) == 46)) else (none)) else (cashierref07_Numeral.j3 kj8 a0 (wrap64 (x3_5 + t214)) false)) = some r := by rw [if_neg (show ¬ (false = true) by decide)] at H; exact H
        clear H
        have H := H1
        clear H1
        have HC16 := Aside0.mk H
        clear H
        go_upto_region 8 with (fail)
        go_cut [40] (fun v40 wc => ∃ (kq : Nat) (x40_15 : Bool), v40 = .bool x40_15 ∧ Aside0 (cashierref07_Numeral.j3 kq a0 (wrap64 (x3_5 + t214)) x40_15 = some r) ∧ Aside0 (kq ≤ kj8) ∧ Drawn0 w wc)
        case first =>
         have H := HC16.out
         clear HC16
         by_cases c17 : (wrap64 (x3_5 + t214)) < (a0.size : Int)
         ·rw [if_pos c17] at H
          have c17b0 : decide ((wrap64 (x3_5 + t214)) < (a0.size : Int)) = true := decide_eq_true c17
          clear c17
          (first | rw [c17b0] | (simp only [i64_w, i32_w]; rw [c17b0]) | skip)
          obtain ⟨ji18, hji18⟩ : ∃ j_ : Int, (wrap64 (x3_5 + t214)) = j_ := ⟨_, rfl⟩
          replace H : (if 0 ≤ (ji18) then (cashierref07_Numeral.j3 kj8 a0 ji18 ((bt a0 (ji18)) == 46)) else (none)) = some r := by first | (rw [hji18] at H; exact H) | (simp only [hji18] at H ⊢; exact H)
          (try rw [hji18] at c17b0)
          have hji18w : (IntKind.i64.wrap (x3_5 + t214)) = ji18 := (i64_w _).trans hji18
          by_cases c19 : 0 ≤ (ji18)
          ·rw [if_pos c19] at H
           have c19b0 : decide (0 ≤ (ji18)) = true := decide_eq_true c19
           clear c19
           have H' := Aside0.mk H
           clear H
           have p20 : 0 ≤ ((ji18) : Int) := of_decide_eq_true (by first | (with_reducible assumption) | assumption)
           have q20 : (ji18) < (a0.size : Int) := of_decide_eq_true (by first | (with_reducible assumption) | assumption)
           have hx20 := bt_at a0 (ji18)
           replace p20 := eq_true p20
           replace q20 := eq_true q20
           go_wp2
           go_meet
           case rel => exact ⟨_, (((bt a0 (ji18)) == 46)), (by first | rfl | (simp; done) | (simp; exact isEmpty_ne _) | (simp only [← hji18] <;> (first | rfl | simp)) | (simp [*]; done)), (by first | exact H' | (simp only [hji18]; exact H')), ⟨by have := HJ1.out; have := HJ5.out; have := HJ8.out; first | omega | exact Nat.le_refl _⟩, by repeat (first | exact Drawn0.refl _ | apply Drawn0.step)⟩
          ·rw [if_neg c19] at H
           exact absurd H (by simp)
         ·rw [if_neg c17] at H
          have c17b0 : decide ((wrap64 (x3_5 + t214)) < (a0.size : Int)) = false := decide_eq_false c17
          clear c17
          (first | rw [c17b0] | (simp only [i64_w, i32_w]; rw [c17b0]) | skip)
          have H' := Aside0.mk H
          clear H
          go_wp2
          go_meet
          case rel => exact ⟨_, (false), (by first | rfl | (simp; done) | (simp; exact isEmpty_ne _) | (simp [*]; done)), (by first | exact H' | (simp only [hji18]; exact H')), ⟨by have := HJ1.out; have := HJ5.out; have := HJ8.out; first | omega | exact Nat.le_refl _⟩, by repeat (first | exact Drawn0.refl _ | apply Drawn0.step)⟩
        case rest =>
         clear HC16
         try clear c1
         try clear p1
         try clear q1
         try clear hx1
         try clear p2
         try clear q2
         try clear hx2
         try clear c3
         try clear c3b0
         try clear c3b1
         try clear c4
         try clear c4b0
         try clear c4b1
         try clear c5
         try clear p5
         try clear q5
         try clear hx5
         try clear qi5
         try clear c6
         try clear p6
         try clear c7
         try clear c8
         try clear c9
         try clear c10
         try clear c10b0
         try clear c10b1
         try clear c11
         try clear c11b0
         try clear c12
         try clear c12b0
         try clear c13
         try clear c13b0
         try clear p14
         try clear q14
         try clear hx14
         try clear c15
         try clear c17
         try clear c17b0
         try clear c19
         try clear c19b0
         try clear p20
         try clear q20
         try clear hx20
         try clear p1
         try clear p14
         try clear p2
         try clear p20
         try clear p5
         try clear q1
         try clear q14
         try clear q20
         try clear q5
         obtain ⟨kq, x40_15, rfl, HA, HJ15, ⟨mc15, rfl⟩⟩ := hcut
         cases kq with
         | zero => exact absurd HA.out (by simp [cashierref07_Numeral.j3])
         | succ kj15 =>
          have H := HA.out
          clear HA
          simp only [cashierref07_Numeral.j3] at H
          have HC21 := Aside0.mk H
          clear H
          go_upto_if 40 with (fail)
          go_cut [3] (fun v3 wc => ∃ (kq : Nat) (x3_20 : Int), v3 = .int .i64 x3_20 ∧ Aside0 (cashierref07_Numeral.j4 kq a0 x3_20 = some r) ∧ Aside0 (kq ≤ kj15) ∧ Drawn0 w wc)
          case first =>
           have H := HC21.out
           clear HC21
           by_cases c22 : x40_15 = true
           ·subst c22
            have H1 : ((cashierref07_run.f kj15 a0 (wrap64 ((wrap64 (x3_5 + t214)) + 1))).bind fun t215 => (if t215 = 0 then (some 0) else (cashierref07_Numeral.j4 kj15 a0 (wrap64 ((wrap64 ((wrap64 (x3_5 + t214)) + 1)) + t215))))) = some r := by rw [if_pos rfl] at H; exact H
            clear H
            have H := H1
            clear H1
            replace H := Option.bind_eq_some_iff.mp H
            obtain ⟨t215, A230, H⟩ := H
            replace H : (if t215 = 0 then (some 0) else (cashierref07_Numeral.j4 kj15 a0 (wrap64 ((wrap64 ((wrap64 (x3_5 + t214)) + 1)) + t215)))) = some r := H
            have A23 := Aside0.mk A230
            clear A230
            by_cases c24 : t215 = 0
            ·rw [if_pos c24] at H
             have c24b0 : (t215 == 0) = true := beq_iff_eq.mpr c24
             have c24b1 : (t215 != 0) = false := bne_eq_false_iff_eq.mpr c24
             clear c24
             (first | rw [c24b0] | (simp only [i64_w, i32_w]; rw [c24b0]) | skip)
             obtain rfl := Option.some.inj H
             go_wp2_with (first | ((with_reducible refine gate_callee (f := 96) rfl ?_); refine goesL_ (some 44) rfl rfl Tryz.func96 (by kernel_rfl) rfl #[.string a0, .int .i64 (wrap64 ((wrap64 (x3_5 + t214)) + 1))] rfl (by (try simp only [List.map_toArray, List.map_cons, List.map_nil]); first | done | rfl | (simp only [List.length_drop, List.length_take]; rfl)) ?_; (with_reducible refine (cashierref07_run.calls kj15 a0 (wrap64 ((wrap64 (x3_5 + t214)) + 1)) t215 _ A23.out).mono ?_); rintro e w' ⟨rfl, ⟨nd, rfl⟩⟩; refine ⟨_, rfl, ?_⟩))
             go_ret
             exact ⟨by first | rfl | (simp; done) | (simp [*]; done), by repeat (first | exact Drawn0.refl _ | apply Drawn0.step)⟩
            ·rw [if_neg c24] at H
             have c24b0 : (t215 == 0) = false := beq_eq_false_iff_ne.mpr c24
             have c24b1 : (t215 != 0) = true := bne_iff_ne.mpr c24
             (first | rw [c24b0] | (simp only [i64_w, i32_w]; rw [c24b0]) | skip)
             have H' := Aside0.mk H
             clear H
             go_wp2_with (first | ((with_reducible refine gate_callee (f := 96) rfl ?_); refine goesL_ (some 44) rfl rfl Tryz.func96 (by kernel_rfl) rfl #[.string a0, .int .i64 (wrap64 ((wrap64 (x3_5 + t214)) + 1))] rfl (by (try simp only [List.map_toArray, List.map_cons, List.map_nil]); first | done | rfl | (simp only [List.length_drop, List.length_take]; rfl)) ?_; (with_reducible refine (cashierref07_run.calls kj15 a0 (wrap64 ((wrap64 (x3_5 + t214)) + 1)) t215 _ A23.out).mono ?_); rintro e w' ⟨rfl, ⟨nd, rfl⟩⟩; refine ⟨_, rfl, ?_⟩))
             go_meet
             case rel => exact ⟨_, (wrap64 ((wrap64 ((wrap64 (x3_5 + t214)) + 1)) + t215)), (by first | rfl | (simp; done) | (simp; exact isEmpty_ne _) | (simp [*]; done)), (by first | exact H' | (simp only [hji18]; exact H')), ⟨by have := HJ1.out; have := HJ5.out; have := HJ8.out; have := HJ15.out; first | omega | exact Nat.le_refl _⟩, by repeat (first | exact Drawn0.refl _ | apply Drawn0.step)⟩
           ·replace c22 := Bool.eq_false_iff.mpr c22
            subst c22
            have H1 : (cashierref07_Numeral.j4 kj15 a0 (wrap64 (x3_5 + t214))) = some r := by rw [if_neg (show ¬ (false = true) by decide)] at H; exact H
            clear H
            have H := H1
            clear H1
            have H' := Aside0.mk H
            clear H
            go_wp2
            go_meet
            case rel => exact ⟨_, ((wrap64 (x3_5 + t214))), (by first | rfl | (simp; done) | (simp; exact isEmpty_ne _) | (simp [*]; done)), (by first | exact H' | (simp only [hji18]; exact H')), ⟨by have := HJ1.out; have := HJ5.out; have := HJ8.out; have := HJ15.out; first | omega | exact Nat.le_refl _⟩, by repeat (first | exact Drawn0.refl _ | apply Drawn0.step)⟩
          case rest =>
           clear HC21
           try clear c1
           try clear p1
           try clear q1
           try clear hx1
           try clear c2
           try clear p2
           try clear q2
           try clear hx2
           try clear c3
           try clear c3b0
           try clear c3b1
           try clear c4
           try clear c4b0
           try clear c4b1
           try clear c5
           try clear p5
           try clear q5
           try clear hx5
           try clear qi5
           try clear c6
           try clear p6
           try clear c7
           try clear c8
           try clear c9
           try clear c10
           try clear c10b0
           try clear c10b1
           try clear c11
           try clear c11b0
           try clear c12
           try clear c12b0
           try clear c13
           try clear c13b0
           try clear p14
           try clear q14
           try clear hx14
           try clear c15
           try clear c17
           try clear c17b0
           try clear c19
           try clear c19b0
           try clear p20
           try clear q20
           try clear hx20
           try clear c22
           try clear c24
           try clear c24b0
           try clear c24b1
           try clear p1
           try clear p14
           try clear p2
           try clear p20
           try clear p5
           try clear p6
           try clear q1
           try clear q14
           try clear q2
           try clear q20
           try clear q5
           obtain ⟨kq, x3_20, rfl, HA, HJ20, ⟨mc20, rfl⟩⟩ := hcut
           cases kq with
           | zero => exact absurd HA.out (by simp [cashierref07_Numeral.j4])
           | succ kj20 =>
            have H := HA.out
            clear HA
            simp only [cashierref07_Numeral.j4] at H
            have HC25 := Aside0.mk H
            clear H
            go_upto_region 13 with (fail)
            go_cut [66] (fun v66 wc => ∃ (kq : Nat) (x66_24 : Bool), v66 = .bool x66_24 ∧ Aside0 (cashierref07_Numeral.j5 kq a0 x3_20 x66_24 = some r) ∧ Aside0 (kq ≤ kj20) ∧ Drawn0 w wc)
            case first =>
             have H := HC25.out
             clear HC25
             by_cases c26 : x3_20 < (a0.size : Int)
             ·rw [if_pos c26] at H
              have c26b0 : decide (x3_20 < (a0.size : Int)) = true := decide_eq_true c26
              clear c26
              (first | rw [c26b0] | (simp only [i64_w, i32_w]; rw [c26b0]) | skip)
              by_cases c27 : 0 ≤ x3_20
              ·rw [if_pos c27] at H
               have c27b0 : decide (0 ≤ x3_20) = true := decide_eq_true c27
               clear c27
               by_cases c29 : (bt a0 x3_20) = 101
               ·rw [if_pos c29] at H
                have c29b0 : ((bt a0 x3_20) == 101) = true := beq_iff_eq.mpr c29
                have c29b1 : ((bt a0 x3_20) != 101) = false := bne_eq_false_iff_eq.mpr c29
                clear c29
                have H' := Aside0.mk H
                clear H
                have p28 : 0 ≤ (x3_20 : Int) := of_decide_eq_true (by first | (with_reducible assumption) | assumption)
                have q28 : x3_20 < (a0.size : Int) := of_decide_eq_true (by first | (with_reducible assumption) | assumption)
                have hx28 := bt_at a0 x3_20
                replace p28 := eq_true p28
                replace q28 := eq_true q28
                go_wp2
                go_meet
                case rel => exact ⟨_, (true), (by first | rfl | (simp; done) | (simp; exact isEmpty_ne _) | (simp [*]; done)), (by first | exact H' | (simp only [hji18]; exact H')), ⟨by have := HJ1.out; have := HJ5.out; have := HJ8.out; have := HJ15.out; have := HJ20.out; first | omega | exact Nat.le_refl _⟩, by repeat (first | exact Drawn0.refl _ | apply Drawn0.step)⟩
               ·rw [if_neg c29] at H
                have c29b0 : ((bt a0 x3_20) == 101) = false := beq_eq_false_iff_ne.mpr c29
                have c29b1 : ((bt a0 x3_20) != 101) = true := bne_iff_ne.mpr c29
                have H' := Aside0.mk H
                clear H
                have p28 : 0 ≤ (x3_20 : Int) := of_decide_eq_true (by first | (with_reducible assumption) | assumption)
                have q28 : x3_20 < (a0.size : Int) := of_decide_eq_true (by first | (with_reducible assumption) | assumption)
                have hx28 := bt_at a0 x3_20
                replace p28 := eq_true p28
                replace q28 := eq_true q28
                have p30 : 0 ≤ (x3_20 : Int) := of_decide_eq_true (by first | (with_reducible assumption) | assumption)
                have q30 : x3_20 < (a0.size : Int) := of_decide_eq_true (by first | (with_reducible assumption) | assumption)
                have hx30 := bt_at a0 x3_20
                replace p30 := eq_true p30
                replace q30 := eq_true q30
                go_wp2
                go_meet
                case rel => exact ⟨_, (((bt a0 x3_20) == 69)), (by first | rfl | (simp; done) | (simp; exact isEmpty_ne _) | (simp [*]; done)), (by first | exact H' | (simp only [hji18]; exact H')), ⟨by have := HJ1.out; have := HJ5.out; have := HJ8.out; have := HJ15.out; have := HJ20.out; first | omega | exact Nat.le_refl _⟩, by repeat (first | exact Drawn0.refl _ | apply Drawn0.step)⟩
              ·rw [if_neg c27] at H
               exact absurd H (by simp)
             ·rw [if_neg c26] at H
              have c26b0 : decide (x3_20 < (a0.size : Int)) = false := decide_eq_false c26
              clear c26
              (first | rw [c26b0] | (simp only [i64_w, i32_w]; rw [c26b0]) | skip)
              have H' := Aside0.mk H
              clear H
              go_wp2
              go_meet
              case rel => exact ⟨_, (false), (by first | rfl | (simp; done) | (simp; exact isEmpty_ne _) | (simp [*]; done)), (by first | exact H' | (simp only [hji18]; exact H')), ⟨by have := HJ1.out; have := HJ5.out; have := HJ8.out; have := HJ15.out; have := HJ20.out; first | omega | exact Nat.le_refl _⟩, by repeat (first | exact Drawn0.refl _ | apply Drawn0.step)⟩
            case rest =>
             clear HC25
             try clear c1
             try clear p1
             try clear q1
             try clear hx1
             try clear c2
             try clear p2
             try clear q2
             try clear hx2
             try clear c3
             try clear c3b0
             try clear c3b1
             try clear p3
             try clear q3
             try clear hx3
             try clear c4
             try clear c4b0
             try clear c4b1
             try clear c5
             try clear p5
             try clear q5
             try clear hx5
             try clear qi5
             try clear c6
             try clear p6
             try clear c7
             try clear c8
             try clear c9
             try clear c10
             try clear c10b0
             try clear c10b1
             try clear c11
             try clear c11b0
             try clear c12
             try clear c12b0
             try clear c13
             try clear c13b0
             try clear p14
             try clear q14
             try clear hx14
             try clear c15
             try clear c17
             try clear c17b0
             try clear c19
             try clear c19b0
             try clear c20
             try clear p20
             try clear q20
             try clear hx20
             try clear c22
             try clear c24
             try clear c24b0
             try clear c24b1
             try clear c26
             try clear c26b0
             try clear c27
             try clear c27b0
             try clear p28
             try clear q28
             try clear hx28
             try clear c29
             try clear c29b0
             try clear c29b1
             try clear p30
             try clear q30
             try clear hx30
             try clear p1
             try clear p14
             try clear p2
             try clear p20
             try clear p28
             try clear p30
             try clear p5
             try clear p6
             try clear q1
             try clear q14
             try clear q2
             try clear q20
             try clear q28
             try clear q30
             try clear q5
             obtain ⟨kq, x66_24, rfl, HA, HJ24, ⟨mc24, rfl⟩⟩ := hcut
             cases kq with
             | zero => exact absurd HA.out (by simp [cashierref07_Numeral.j5])
             | succ kj24 =>
              have H := HA.out
              clear HA
              simp only [cashierref07_Numeral.j5] at H
              by_cases c31 : x66_24 = true
              ·subst c31
               have H1 : (if (wrap64 (x3_20 + 1)) < (a0.size : Int) then (if 0 ≤ (wrap64 (x3_20 + 1)) then (if (bt a0 (wrap64 (x3_20 + 1))) = 43 then (cashierref07_Numeral.j6 kj24 a0 (wrap64 (x3_20 + 1)) true) else (cashierref07_Numeral.j6 kj24 a0 (wrap64 (x3_20 + 1)) ((bt a0 (wrap64 (x3_20 + 1))) == 45))) else (none)) else (cashierref07_Numeral.j6 kj24 a0 (wrap64 (x3_20 + 1)) false)) = some r := by rw [if_pos rfl] at H; exact H
               clear H
               have H := H1
               clear H1
               have HC32 := Aside0.mk H
               clear H
               go_upto_region 15 with (fail)
               go_cut [84] (fun v84 wc => ∃ (kq : Nat) (x84_31 : Bool), v84 = .bool x84_31 ∧ Aside0 (cashierref07_Numeral.j6 kq a0 (wrap64 (x3_20 + 1)) x84_31 = some r) ∧ Aside0 (kq ≤ kj24) ∧ Drawn0 w wc)
               case first =>
                have H := HC32.out
                clear HC32
                by_cases c33 : (wrap64 (x3_20 + 1)) < (a0.size : Int)
                ·rw [if_pos c33] at H
                 have c33b0 : decide ((wrap64 (x3_20 + 1)) < (a0.size : Int)) = true := decide_eq_true c33
                 clear c33
                 (first | rw [c33b0] | (simp only [i64_w, i32_w]; rw [c33b0]) | skip)
                 obtain ⟨ji34, hji34⟩ : ∃ j_ : Int, (wrap64 (x3_20 + 1)) = j_ := ⟨_, rfl⟩
                 replace H : (if 0 ≤ (ji34) then (if (bt a0 (ji34)) = 43 then (cashierref07_Numeral.j6 kj24 a0 ji34 true) else (cashierref07_Numeral.j6 kj24 a0 ji34 ((bt a0 (ji34)) == 45))) else (none)) = some r := by first | (rw [hji34] at H; exact H) | (simp only [hji34] at H ⊢; exact H)
                 (try rw [hji34] at c33b0)
                 have hji34w : (IntKind.i64.wrap (x3_20 + 1)) = ji34 := (i64_w _).trans hji34
                 by_cases c35 : 0 ≤ (ji34)
                 ·rw [if_pos c35] at H
                  have c35b0 : decide (0 ≤ (ji34)) = true := decide_eq_true c35
                  clear c35
                  by_cases c37 : (bt a0 (ji34)) = 43
                  ·rw [if_pos c37] at H
                   have c37b0 : ((bt a0 (ji34)) == 43) = true := beq_iff_eq.mpr c37
                   have c37b1 : ((bt a0 (ji34)) != 43) = false := bne_eq_false_iff_eq.mpr c37
                   clear c37
                   have H' := Aside0.mk H
                   clear H
                   have p36 : 0 ≤ ((ji34) : Int) := of_decide_eq_true (by first | (with_reducible assumption) | assumption)
                   have q36 : (ji34) < (a0.size : Int) := of_decide_eq_true (by first | (with_reducible assumption) | assumption)
                   have hx36 := bt_at a0 (ji34)
                   replace p36 := eq_true p36
                   replace q36 := eq_true q36
                   go_wp2
                   go_meet
                   case rel => exact ⟨_, (true), (by first | rfl | (simp; done) | (simp; exact isEmpty_ne _) | (simp [*]; done)), (by first | exact H' | (simp only [hji34]; exact H')), ⟨by have := HJ1.out; have := HJ5.out; have := HJ8.out; have := HJ15.out; have := HJ20.out; have := HJ24.out; first | omega | exact Nat.le_refl _⟩, by repeat (first | exact Drawn0.refl _ | apply Drawn0.step)⟩
                  ·rw [if_neg c37] at H
                   have c37b0 : ((bt a0 (ji34)) == 43) = false := beq_eq_false_iff_ne.mpr c37
                   have c37b1 : ((bt a0 (ji34)) != 43) = true := bne_iff_ne.mpr c37
                   have H' := Aside0.mk H
                   clear H
                   have p36 : 0 ≤ ((ji34) : Int) := of_decide_eq_true (by first | (with_reducible assumption) | assumption)
                   have q36 : (ji34) < (a0.size : Int) := of_decide_eq_true (by first | (with_reducible assumption) | assumption)
                   have hx36 := bt_at a0 (ji34)
                   replace p36 := eq_true p36
                   replace q36 := eq_true q36
                   have p38 : 0 ≤ ((ji34) : Int) := of_decide_eq_true (by first | (with_reducible assumption) | assumption)
                   have q38 : (ji34) < (a0.size : Int) := of_decide_eq_true (by first | (with_reducible assumption) | assumption)
                   have hx38 := bt_at a0 (ji34)
                   replace p38 := eq_true p38
                   replace q38 := eq_true q38
                   go_wp2
                   go_meet
                   case rel => exact ⟨_, (((bt a0 (ji34)) == 45)), (by first | rfl | (simp; done) | (simp; exact isEmpty_ne _) | (simp only [← hji34] <;> (first | rfl | simp)) | (simp [*]; done)), (by first | exact H' | (simp only [hji34]; exact H')), ⟨by have := HJ1.out; have := HJ5.out; have := HJ8.out; have := HJ15.out; have := HJ20.out; have := HJ24.out; first | omega | exact Nat.le_refl _⟩, by repeat (first | exact Drawn0.refl _ | apply Drawn0.step)⟩
                 ·rw [if_neg c35] at H
                  exact absurd H (by simp)
                ·rw [if_neg c33] at H
                 have c33b0 : decide ((wrap64 (x3_20 + 1)) < (a0.size : Int)) = false := decide_eq_false c33
                 clear c33
                 (first | rw [c33b0] | (simp only [i64_w, i32_w]; rw [c33b0]) | skip)
                 have H' := Aside0.mk H
                 clear H
                 go_wp2
                 go_meet
                 case rel => exact ⟨_, (false), (by first | rfl | (simp; done) | (simp; exact isEmpty_ne _) | (simp [*]; done)), (by first | exact H' | (simp only [hji34]; exact H')), ⟨by have := HJ1.out; have := HJ5.out; have := HJ8.out; have := HJ15.out; have := HJ20.out; have := HJ24.out; first | omega | exact Nat.le_refl _⟩, by repeat (first | exact Drawn0.refl _ | apply Drawn0.step)⟩
               case rest =>
                clear HC32
                try clear c1
                try clear p1
                try clear q1
                try clear hx1
                try clear c2
                try clear p2
                try clear q2
                try clear hx2
                try clear c3
                try clear c3b0
                try clear c3b1
                try clear p3
                try clear q3
                try clear hx3
                try clear c4
                try clear c4b0
                try clear c4b1
                try clear c5
                try clear p5
                try clear q5
                try clear hx5
                try clear qi5
                try clear c6
                try clear p6
                try clear c7
                try clear c8
                try clear c9
                try clear c10
                try clear c10b0
                try clear c10b1
                try clear c11
                try clear c11b0
                try clear c12
                try clear c12b0
                try clear c13
                try clear c13b0
                try clear p14
                try clear q14
                try clear hx14
                try clear c15
                try clear c17
                try clear c17b0
                try clear c19
                try clear c19b0
                try clear c20
                try clear p20
                try clear q20
                try clear hx20
                try clear c22
                try clear c24
                try clear c24b0
                try clear c24b1
                try clear c26
                try clear c26b0
                try clear c27
                try clear c27b0
                try clear p28
                try clear q28
                try clear hx28
                try clear c29
                try clear c29b0
                try clear c29b1
                try clear p30
                try clear q30
                try clear hx30
                try clear c31
                try clear c33
                try clear c33b0
                try clear c35
                try clear c35b0
                try clear p36
                try clear q36
                try clear hx36
                try clear c37
                try clear c37b0
                try clear c37b1
                try clear p38
                try clear q38
                try clear hx38
                try clear p1
                try clear p14
                try clear p2
                try clear p20
                try clear p28
                try clear p3
                try clear p30
                try clear p36
                try clear p38
                try clear p5
                try clear p6
                try clear q1
                try clear q14
                try clear q2
                try clear q20
                try clear q28
                try clear q3
                try clear q30
                try clear q36
                try clear q38
                try clear q5
                obtain ⟨kq, x84_31, rfl, HA, HJ31, ⟨mc31, rfl⟩⟩ := hcut
                cases kq with
                | zero => exact absurd HA.out (by simp [cashierref07_Numeral.j6])
                | succ kj31 =>
                 have H := HA.out
                 clear HA
                 simp only [cashierref07_Numeral.j6] at H
                 by_cases c39 : x84_31 = true
                 ·subst c39
                  have H1 : ((cashierref07_run.f kj31 a0 (wrap64 ((wrap64 (x3_20 + 1)) + 1))).bind fun t216 => (if t216 = 0 then (some 0) else (some (wrap64 ((wrap64 ((wrap64 (x3_20 + 1)) + 1)) + t216))))) = some r := by rw [if_pos rfl] at H; exact H
                  clear H
                  have H := H1
                  clear H1
                  replace H := Option.bind_eq_some_iff.mp H
                  obtain ⟨t216, A400, H⟩ := H
                  replace H : (if t216 = 0 then (some 0) else (some (wrap64 ((wrap64 ((wrap64 (x3_20 + 1)) + 1)) + t216)))) = some r := H
                  have A40 := Aside0.mk A400
                  clear A400
                  by_cases c41 : t216 = 0
                  ·rw [if_pos c41] at H
                   have c41b0 : (t216 == 0) = true := beq_iff_eq.mpr c41
                   have c41b1 : (t216 != 0) = false := bne_eq_false_iff_eq.mpr c41
                   clear c41
                   obtain rfl := Option.some.inj H
                   go_wp2_with (first | ((with_reducible refine gate_callee (f := 96) rfl ?_); refine goesL_ (some 89) rfl rfl Tryz.func96 (by kernel_rfl) rfl #[.string a0, .int .i64 (wrap64 ((wrap64 (x3_20 + 1)) + 1))] rfl (by (try simp only [List.map_toArray, List.map_cons, List.map_nil]); first | done | rfl | (simp only [List.length_drop, List.length_take]; rfl)) ?_; (with_reducible refine (cashierref07_run.calls kj31 a0 (wrap64 ((wrap64 (x3_20 + 1)) + 1)) t216 _ A40.out).mono ?_); rintro e w' ⟨rfl, ⟨nd, rfl⟩⟩; refine ⟨_, rfl, ?_⟩))
                   go_ret
                   exact ⟨by first | rfl | (simp; done) | (simp [*]; done), by repeat (first | exact Drawn0.refl _ | apply Drawn0.step)⟩
                  ·rw [if_neg c41] at H
                   have c41b0 : (t216 == 0) = false := beq_eq_false_iff_ne.mpr c41
                   have c41b1 : (t216 != 0) = true := bne_iff_ne.mpr c41
                   obtain rfl := Option.some.inj H
                   go_wp2_with (first | ((with_reducible refine gate_callee (f := 96) rfl ?_); refine goesL_ (some 89) rfl rfl Tryz.func96 (by kernel_rfl) rfl #[.string a0, .int .i64 (wrap64 ((wrap64 (x3_20 + 1)) + 1))] rfl (by (try simp only [List.map_toArray, List.map_cons, List.map_nil]); first | done | rfl | (simp only [List.length_drop, List.length_take]; rfl)) ?_; (with_reducible refine (cashierref07_run.calls kj31 a0 (wrap64 ((wrap64 (x3_20 + 1)) + 1)) t216 _ A40.out).mono ?_); rintro e w' ⟨rfl, ⟨nd, rfl⟩⟩; refine ⟨_, rfl, ?_⟩))
                   go_ret
                   exact ⟨by first | rfl | (simp; done) | (simp [*]; done), by repeat (first | exact Drawn0.refl _ | apply Drawn0.step)⟩
                 ·replace c39 := Bool.eq_false_iff.mpr c39
                  subst c39
                  have H1 : ((cashierref07_run.f kj31 a0 (wrap64 (x3_20 + 1))).bind fun t217 => (if t217 = 0 then (some 0) else (some (wrap64 ((wrap64 (x3_20 + 1)) + t217))))) = some r := by rw [if_neg (show ¬ (false = true) by decide)] at H; exact H
                  clear H
                  have H := H1
                  clear H1
                  replace H := Option.bind_eq_some_iff.mp H
                  obtain ⟨t217, A420, H⟩ := H
                  replace H : (if t217 = 0 then (some 0) else (some (wrap64 ((wrap64 (x3_20 + 1)) + t217)))) = some r := H
                  have A42 := Aside0.mk A420
                  clear A420
                  by_cases c43 : t217 = 0
                  ·rw [if_pos c43] at H
                   have c43b0 : (t217 == 0) = true := beq_iff_eq.mpr c43
                   have c43b1 : (t217 != 0) = false := bne_eq_false_iff_eq.mpr c43
                   clear c43
                   obtain rfl := Option.some.inj H
                   go_wp2_with (first | ((with_reducible refine gate_callee (f := 96) rfl ?_); refine goesL_ (some 89) rfl rfl Tryz.func96 (by kernel_rfl) rfl #[.string a0, .int .i64 (wrap64 (x3_20 + 1))] rfl (by (try simp only [List.map_toArray, List.map_cons, List.map_nil]); first | done | rfl | (simp only [List.length_drop, List.length_take]; rfl)) ?_; (with_reducible refine (cashierref07_run.calls kj31 a0 (wrap64 (x3_20 + 1)) t217 _ A42.out).mono ?_); rintro e w' ⟨rfl, ⟨nd, rfl⟩⟩; refine ⟨_, rfl, ?_⟩))
                   go_ret
                   exact ⟨by first | rfl | (simp; done) | (simp [*]; done), by repeat (first | exact Drawn0.refl _ | apply Drawn0.step)⟩
                  ·rw [if_neg c43] at H
                   have c43b0 : (t217 == 0) = false := beq_eq_false_iff_ne.mpr c43
                   have c43b1 : (t217 != 0) = true := bne_iff_ne.mpr c43
                   obtain rfl := Option.some.inj H
                   go_wp2_with (first | ((with_reducible refine gate_callee (f := 96) rfl ?_); refine goesL_ (some 89) rfl rfl Tryz.func96 (by kernel_rfl) rfl #[.string a0, .int .i64 (wrap64 (x3_20 + 1))] rfl (by (try simp only [List.map_toArray, List.map_cons, List.map_nil]); first | done | rfl | (simp only [List.length_drop, List.length_take]; rfl)) ?_; (with_reducible refine (cashierref07_run.calls kj31 a0 (wrap64 (x3_20 + 1)) t217 _ A42.out).mono ?_); rintro e w' ⟨rfl, ⟨nd, rfl⟩⟩; refine ⟨_, rfl, ?_⟩))
                   go_ret
                   exact ⟨by first | rfl | (simp; done) | (simp [*]; done), by repeat (first | exact Drawn0.refl _ | apply Drawn0.step)⟩
              ·replace c31 := Bool.eq_false_iff.mpr c31
               subst c31
               have H1 : (some x3_20) = some r := by rw [if_neg (show ¬ (false = true) by decide)] at H; exact H
               clear H
               have H := H1
               clear H1
               obtain rfl := Option.some.inj H
               go_wp2
               go_ret
               exact ⟨by first | rfl | (simp; done) | (simp [*]; done), by repeat (first | exact Drawn0.refl _ | apply Drawn0.step)⟩
end Go.Proofs.YtfocognhcljhpaaGreatDoor.PRef
namespace Go.Proofs.YtfocognhcljhpaaGreatDoor
open Go.RowKit Go.Proofs.YtfocognhcljhpaaGreatDoorW.PrintWords Go.Proofs.YtfocognhcljhpaaGreatDoorW.PrintMore Go.Proofs.YtfocognhcljhpaaGreatDoor.PPrintRows Go.Proofs.YtfocognhcljhpaaGreatDoor.Tree
theorem w64 (x : Int) (h0 : -9223372036854775808 ≤ x) (h1 : x < 9223372036854775808) : wrap64 x = x := by unfold wrap64; omega
theorem bt_nat (s : ByteArray) (a : Nat) (h : a < s.size) : ∃ c : UInt8, bt s (a : Int) = (c.toNat : Int) ∧ s.data.toList[a]? = some c ∧ s.data.toList.drop a = c :: s.data.toList.drop (a + 1) := by
 refine ⟨s[a], ?_, ?_, ?_⟩
 ·unfold bt
  rw [Int.toNat_natCast, dif_pos h]
 ·rw [List.getElem?_eq_getElem (by simpa using h)]
  rfl
 ·exact List.drop_eq_getElem_cons (by simpa using h)
theorem at_none (s : ByteArray) (a : Nat) (h : s.size ≤ a) : s.data.toList[a]? = none := List.getElem?_eq_none (by simpa using h)
theorem u8_eq (c : UInt8) (n : Nat) (hn : n < 256) : ((c.toNat : Int) = (n : Int)) ↔ c = UInt8.ofNat n := by
 constructor
 ·intro h
  rw [← UInt8.toNat_inj]
  have : c.toNat = n := by omega
  rw [this]
  simp [Nat.mod_eq_of_lt hn]
 ·rintro rfl
  simp [Nat.mod_eq_of_lt hn]
theorem bt_is (s : ByteArray) (a : Nat) (h : a < s.size) (n : Nat) (hn : n < 256) : (bt s (a : Int) == (n : Int)) = decide (s.data.toList[a]? = some (UInt8.ofNat n)) := by
 obtain ⟨c, h1, h2, _⟩ := bt_nat s a h
 rw [h1, h2, Bool.eq_iff_iff, beq_iff_eq, decide_eq_true_eq, u8_eq c n hn]
 simp
theorem runL_cons (c : UInt8) (r : Bs) : runL (c :: r) = if 48 ≤ c ∧ c ≤ 57 then runL r + 1 else 0 := by rw [runL]
theorem run_sz (l : Bs) (a : Nat) : runL (l.drop a) ≤ l.length := Nat.le_trans (runL_le _) (by rw [List.length_drop]; omega)
theorem json_digits_l0 (s : ByteArray) (hs : s.size ≤ 1000000000000) (a : Nat) (ha : a ≤ s.size + 3) : ∀ (k j : Nat), s.size < a + j + k → 0 < k → j ≤ s.size → PRef.json_digits.l0 k s (a : Int) (j : Int) = some ((j + runL (s.data.toList.drop (a + j)) : Nat) : Int)
 | 0, j, _, h, _ => by omega
 | k + 1, j, h, _, hj => by
  rw [PRef.json_digits.l0, w64 _ (by omega) (by omega)]
  by_cases hlt : a + j < s.size
  ·obtain ⟨c, h1, h2, h3⟩ := bt_nat s (a + j) hlt
   have e : (a : Int) + (j : Int) = ((a + j : Nat) : Int) := by omega
   rw [e, h1, if_pos (by omega), if_pos (by omega), h3, runL_cons, w64 _ (by omega) (by omega)]
   by_cases g1 : 48 ≤ c.toNat
   ·rw [if_pos (by omega)]
    by_cases g2 : c.toNat ≤ 57
    ·rw [if_pos (by omega), if_pos ⟨by rw [UInt8.le_iff_toNat_le]; exact g1, by rw [UInt8.le_iff_toNat_le]; exact g2⟩]
     have := json_digits_l0 s hs a ha k (j + 1) (by omega) (by omega) (by omega)
     rw [show (j : Int) + 1 = ((j + 1 : Nat) : Int) by omega, this, ← Nat.add_assoc]
     congr 2
     omega
    ·rw [if_neg (by omega), if_neg (by rw [UInt8.le_iff_toNat_le, UInt8.le_iff_toNat_le]; rintro ⟨_, h⟩; exact g2 h)]
     simp
   ·rw [if_neg (by omega), if_neg (by rw [UInt8.le_iff_toNat_le, UInt8.le_iff_toNat_le]; rintro ⟨h, _⟩; exact g1 h)]
    simp
  ·rw [if_neg (by omega), List.drop_of_length_le (by simp; omega)]
   simp [runL]
theorem json_digits_f (s : ByteArray) (hs : s.size ≤ 1000000000000) (a : Nat) (ha : a ≤ s.size + 3) (k : Nat) (hk : s.size < k) : PRef.json_digits.f k s (a : Int) = some ((runL (s.data.toList.drop a) : Nat) : Int) := by
 unfold PRef.json_digits.f
 have := json_digits_l0 s hs a ha k 0 (by omega) (by omega) (by omega)
 simpa using this
theorem jnum_e2 (s : ByteArray) (hs : s.size ≤ 1000000000000) (a : Nat) (ha : a ≤ s.size) (k : Nat) (hk : s.size + 4 < k) : PRef.json_numeral.j3 k s (a : Int) = some ((expL s.data.toList a : Nat) : Int) := by
  obtain ⟨k, rfl⟩ : ∃ k', k = k' + 3 := ⟨k - 3, by omega⟩
  have hlen : s.data.toList.length = s.size := by simp
  have fin : ∀ at_ : Nat, at_ ≤ s.size + 2 → (PRef.json_digits.f (k) s (at_ : Int)).bind (fun t => if t = 0 then (some 0 : Option Int) else some (wrap64 ((at_ : Int) + t))) = some (((if runL (s.data.toList.drop at_) = 0 then 0 else at_ + runL (s.data.toList.drop at_)) : Nat) : Int) := by
    intro at_ hat
    rw [json_digits_f s hs at_ (by omega) k (by omega), Option.bind_some]
    have h1 := run_sz s.data.toList at_
    rw [hlen] at h1
    by_cases h0 : runL (s.data.toList.drop at_) = 0
    · rw [if_pos (by omega), if_pos h0]; rfl
    · rw [if_neg (by omega), if_neg h0, w64 _ (by omega) (by omega)]
      congr 1
  unfold expL
  by_cases hlt : a < s.size
  · have e101 := bt_is s a hlt 101 (by omega)
    have e69 := bt_is s a hlt 69 (by omega)
    have fk : ∀ b : Bool, b = decide (s.data.toList[a]? = some 101 ∨ s.data.toList[a]? = some 69) → PRef.json_numeral.j4 (k + 2) s (a : Int) b = some ((((if s.data.toList[a]? = some 101 ∨ s.data.toList[a]? = some 69 then (if runL (s.data.toList.drop (expAt s.data.toList (a + 1))) = 0 then 0 else expAt s.data.toList (a + 1) + runL (s.data.toList.drop (expAt s.data.toList (a + 1)))) else a) : Nat)) : Int) := by
      rintro b rfl
      rw [PRef.json_numeral.j4]
      by_cases he : s.data.toList[a]? = some 101 ∨ s.data.toList[a]? = some 69
      · rw [if_pos (decide_eq_true he), if_pos he, w64 _ (by omega) (by omega)]
        have e1 : (a : Int) + 1 = ((a + 1 : Nat) : Int) := by omega
        rw [e1]
        by_cases hl2 : a + 1 < s.size
        · rw [if_pos (by omega), if_pos (by omega)]
          have e43 := bt_is s (a + 1) hl2 43 (by omega)
          have e45 := bt_is s (a + 1) hl2 45 (by omega)
          have fj : ∀ b : Bool, b = decide (s.data.toList[a + 1]? = some 43 ∨ s.data.toList[a + 1]? = some 45) → PRef.json_numeral.j5 (k + 1) s ((a + 1 : Nat) : Int) b = some ((((if runL (s.data.toList.drop (expAt s.data.toList (a + 1))) = 0 then 0 else expAt s.data.toList (a + 1) + runL (s.data.toList.drop (expAt s.data.toList (a + 1))))) : Nat) : Int) := by
            rintro b rfl
            rw [PRef.json_numeral.j5]
            unfold expAt
            by_cases hs2 : s.data.toList[a + 1]? = some 43 ∨ s.data.toList[a + 1]? = some 45
            · rw [if_pos (decide_eq_true hs2), if_pos hs2, w64 _ (by omega) (by omega)]
              have e2 : ((a + 1 : Nat) : Int) + 1 = ((a + 1 + 1 : Nat) : Int) := by omega
              rw [e2]
              exact fin (a + 1 + 1) (by omega)
            · rw [if_neg (by rw [decide_eq_false hs2]; simp), if_neg hs2]
              exact fin (a + 1) (by omega)
          by_cases h43 : bt s ((a + 1 : Nat) : Int) = 43
          · rw [if_pos h43]
            have h43' : (bt s ((a + 1 : Nat) : Int) == ((43 : Nat) : Int)) = true := by rw [beq_iff_eq]; exact h43
            rw [e43, decide_eq_true_eq] at h43'
            exact fj true (decide_eq_true (.inl h43')).symm
          · rw [if_neg h43]
            refine fj _ ?_
            have h43' : ¬ s.data.toList[a + 1]? = some 43 := fun h => h43 (by have : (bt s ((a + 1 : Nat) : Int) == ((43 : Nat) : Int)) = true := by rw [e43]; exact decide_eq_true h
                                                                              exact beq_iff_eq.1 this)
            show (bt s ((a + 1 : Nat) : Int) == ((45 : Nat) : Int)) = _
            rw [e45, Bool.eq_iff_iff, decide_eq_true_eq, decide_eq_true_eq]
            exact ⟨fun h => .inr h, fun h => h.resolve_left h43'⟩
        · rw [if_neg (by omega), PRef.json_numeral.j5, if_neg (by simp)]
          have hn := at_none s (a + 1) (by omega)
          have e0 : expAt s.data.toList (a + 1) = a + 1 := by unfold expAt; rw [hn, if_neg (by simp)]
          rw [e0]
          exact fin (a + 1) (by omega)
      · rw [if_neg (by rw [decide_eq_false he]; simp), if_neg he]
    rw [PRef.json_numeral.j3, if_pos (by omega), if_pos (by omega)]
    by_cases h101 : bt s (a : Int) = 101
    · rw [if_pos h101]
      have h' : (bt s (a : Int) == ((101 : Nat) : Int)) = true := by rw [beq_iff_eq]; exact h101
      rw [e101, decide_eq_true_eq] at h'
      exact fk true (decide_eq_true (.inl h')).symm
    · rw [if_neg h101]
      refine fk _ ?_
      have h' : ¬ s.data.toList[a]? = some 101 := fun h => h101 (by have : (bt s (a : Int) == ((101 : Nat) : Int)) = true := by rw [e101]; exact decide_eq_true h
                                                                    exact beq_iff_eq.1 this)
      show (bt s (a : Int) == ((69 : Nat) : Int)) = _
      rw [e69, Bool.eq_iff_iff, decide_eq_true_eq, decide_eq_true_eq]
      exact ⟨fun h => .inr h, fun h => h.resolve_left h'⟩
  · rw [PRef.json_numeral.j3, if_neg (by omega), PRef.json_numeral.j4, if_neg (by simp)]
    have hn := at_none s a (by omega)
    rw [hn, if_neg (by simp)]
theorem jnum_e1 (s : ByteArray) (hs : s.size ≤ 1000000000000) (z : Nat) (hz : z ≤ 1) (hzs : z ≤ s.size) (k : Nat) (hk : s.size + 10 < k) : PRef.json_numeral.j0 k s (z : Int) = some (((if runL (s.data.toList.drop z) = 0 ∨ (1 < runL (s.data.toList.drop z) ∧ s.data.toList[z]? = some 48) then 0
  else if fracL s.data.toList (z + runL (s.data.toList.drop z)) = 0 then 0 else expL s.data.toList (fracL s.data.toList (z + runL (s.data.toList.drop z)))) : Nat) : Int) := by
 obtain ⟨k, rfl⟩ : ∃ k', k = k' + 3 := ⟨k - 3, by omega⟩
 have hlen : s.data.toList.length = s.size := by simp
 rw [PRef.json_numeral.j0, json_digits_f s hs z (by omega) (k + 2) (by omega), Option.bind_some]
 obtain ⟨t, ht⟩ : ∃ t, runL (s.data.toList.drop z) = t := ⟨_, rfl⟩
 have htl : z + t ≤ s.size := by
  have := runL_le (s.data.toList.drop z)
  rw [List.length_drop, hlen] at this
  omega
 rw [ht]
 have step : PRef.json_numeral.j1 (k + 2) s (z : Int) (t : Int) false = some (((if fracL s.data.toList (z + t) = 0 then 0 else expL s.data.toList (fracL s.data.toList (z + t))) : Nat) : Int) ∨ t = 0 := by
  by_cases ht0 : t = 0
  ·exact .inr ht0
  left
  rw [PRef.json_numeral.j1, if_neg (by simp), w64 _ (by omega) (by omega)]
  have e : (z : Int) + (t : Int) = ((z + t : Nat) : Int) := by omega
  rw [e]
  have nz : ¬ (z + t = 0) := by omega
  by_cases hlt : z + t < s.size
  ·rw [if_pos (by omega), if_pos (by omega)]
   have e46 := bt_is s (z + t) hlt 46 (by omega)
   rw [PRef.json_numeral.j2]
   by_cases h46 : s.data.toList[z + t]? = some 46
   ·rw [if_pos (by show (bt s ((z + t : Nat) : Int) == ((46 : Nat) : Int)) = true; rw [e46]; exact decide_eq_true h46), w64 _ (by omega) (by omega)]
    have e2 : ((z + t : Nat) : Int) + 1 = ((z + t + 1 : Nat) : Int) := by omega
    rw [e2, json_digits_f s hs (z + t + 1) (by omega) k (by omega), Option.bind_some]
    obtain ⟨u, hu⟩ : ∃ u, runL (s.data.toList.drop (z + t + 1)) = u := ⟨_, rfl⟩
    have hul : z + t + 1 + u ≤ s.size := by
     have := runL_le (s.data.toList.drop (z + t + 1))
     rw [List.length_drop, hlen] at this
     omega
    rw [hu]
    have hf : fracL s.data.toList (z + t) = if u = 0 then 0 else z + t + 1 + u := by unfold fracL; rw [if_pos h46, hu]
    rw [hf]
    by_cases hu0 : u = 0
    ·rw [if_pos (by omega), if_pos hu0, if_pos rfl]; rfl
    ·rw [if_neg (by omega), if_neg hu0, if_neg (by omega)]
     rw [w64 (1 + (u : Int)) (by omega) (by omega), w64 _ (by omega) (by omega), show ((z + t : Nat) : Int) + (1 + (u : Int)) = ((z + t + 1 + u : Nat) : Int) by omega]
     exact jnum_e2 s hs (z + t + 1 + u) hul k (by omega)
   ·rw [if_neg (by show ¬ (bt s ((z + t : Nat) : Int) == ((46 : Nat) : Int)) = true; rw [e46]; exact fun h => h46 (of_decide_eq_true h)), (show fracL s.data.toList (z + t) = z + t by unfold fracL; rw [if_neg h46]), if_neg nz]
    exact jnum_e2 s hs (z + t) htl k (by omega)
  ·rw [if_neg (by omega), PRef.json_numeral.j2, if_neg (by simp), (show fracL s.data.toList (z + t) = z + t by unfold fracL; rw [at_none s (z + t) (by omega), if_neg (by simp)]), if_neg nz]
   exact jnum_e2 s hs (z + t) htl k (by omega)
 by_cases ht0 : t = 0
 ·subst ht0
  rw [if_pos (show ((0 : Nat) : Int) = 0 from rfl), if_pos (.inl rfl), PRef.json_numeral.j1, if_pos rfl]
  rfl
 have step := step.resolve_right ht0
 rw [if_neg (by omega)]
 by_cases ht1 : 1 < t
 ·have hzl : z < s.size := by omega
  rw [if_pos (by omega), if_pos (by omega), if_pos (by omega)]
  have e48 := bt_is s z hzl 48 (by omega)
  have : (bt s (z : Int) == 48) = decide (s.data.toList[z]? = some 48) := e48
  rw [this]
  by_cases h48 : s.data.toList[z]? = some 48
  ·rw [decide_eq_true h48, if_pos (.inr ⟨ht1, h48⟩), PRef.json_numeral.j1, if_pos rfl]
   rfl
  ·rw [decide_eq_false h48, if_neg (by rintro (h | h); exact ht0 h; exact h48 h.2)]
   exact step
 ·rw [if_neg (by omega), if_neg (by rintro (h | h); exact ht0 h; exact ht1 h.1)]
  exact step
theorem json_num (s : ByteArray) (hs : s.size ≤ 1000000000000) (k : Nat) (hk : s.size + 10 < k) : PRef.json_numeral.f k s = some ((numL s.data.toList : Nat) : Int) := by
 have hp : PRef.strings_HasPrefix.f s ⟨#[45]⟩ = some (decide (s.data.toList[0]? = some 45)) := by
  unfold PRef.strings_HasPrefix.f PRef.stringslite_HasPrefix.f
  have e1 : (⟨#[45]⟩ : ByteArray).size = 1 := rfl
  rw [e1]
  by_cases h : 1 ≤ s.size
  ·rw [if_pos (by omega), if_pos (by omega), if_pos (by omega), Option.bind_some]
   congr 1
   rw [ByteArray.toList_eq, ByteArray.toList_eq]
   obtain ⟨c, _, h2, h3⟩ := bt_nat s 0 (by omega)
   have : (s.extract 0 1).data.toList = [c] := by
    rw [Lib.extract_data]
    simp only [List.drop_zero] at h3
    rw [List.drop_zero, h3]
    simp
   show ((s.extract 0 ((1 : Int)).toNat).data.toList == [45]) = _
   rw [show ((1 : Int)).toNat = 1 from rfl, this, h2, Bool.eq_iff_iff, decide_eq_true_eq]
   simp
  ·rw [if_neg (by omega), Option.bind_some, at_none s 0 (by omega)]
   simp
 unfold PRef.json_numeral.f
 rw [hp, Option.bind_some]
 unfold numL signL
 by_cases h : s.data.toList[0]? = some 45
 ·rw [if_pos (decide_eq_true h), if_pos h]
  have hz : 1 ≤ s.size := by
   by_cases h1 : 1 ≤ s.size
   ·exact h1
   ·rw [at_none s 0 (by omega)] at h; cases h
  exact jnum_e1 s hs 1 (Nat.le_refl _) hz k hk
 ·rw [if_neg (by rw [decide_eq_false h]; simp), if_neg h]
  exact jnum_e1 s hs 0 (by omega) (Nat.zero_le _) k hk
theorem json_isNum (s : ByteArray) (hs : s.size ≤ 1000000000000) (k : Nat) (hk : s.size + 10 < k) : PRef.json_Numeral.f k s = some (isNumL s) := by
 unfold PRef.json_Numeral.f isNumL
 by_cases h : s.toList = []
 ·rw [if_pos h]
  have : s.size = 0 := by rw [ByteArray.toList_eq] at h; have := congrArg List.length h; simpa using this
  rw [this]
  rfl
 ·rw [if_neg h, json_num s hs k hk, Option.bind_some]
  have : 0 < s.size := by
   rcases Nat.eq_zero_or_pos s.size with h1 | h1
   ·exact absurd (by rw [ByteArray.toList_eq]; exact List.length_eq_zero_iff.1 (by simpa using h1)) h
   ·exact h1
  rw [decide_eq_true this, Bool.true_and]
  congr 1
  rw [Bool.eq_iff_iff, beq_iff_eq, beq_iff_eq]
  omega
end Go.Proofs.YtfocognhcljhpaaGreatDoor
namespace Go.Proofs.YtfocognhcljhpaaGreatDoor
open Go.RowKit Go.Proofs.YtfocognhcljhpaaGreatDoorW.PrintWords Go.Proofs.YtfocognhcljhpaaGreatDoorW.PrintMore Go.Proofs.YtfocognhcljhpaaGreatDoor.PPrintRows Go.Proofs.YtfocognhcljhpaaGreatDoor.Tree
def inObj (l : List Node) (i : Nat) (p : Int) : Bool := decide (0 ≤ p ∧ p < (i : Int)) && (kndAt l p.toNat == 7)
theorem empty_bs (s : ByteArray) : (s.toList == ([] : List UInt8)) = (s == ⟨#[]⟩) := by
 rw [ByteArray.toList_eq]
 show _ = (s.data == #[])
 rw [Bool.eq_iff_iff, beq_iff_eq, beq_iff_eq]
 exact ⟨fun h => Array.toList_inj.1 h, fun h => by rw [h]⟩
theorem nempty_bs (s : ByteArray) : (s.toList != ([] : List UInt8)) = !(s == ⟨#[]⟩) := by
 rw [bne, empty_bs]
theorem shaped_f (l : List Node) (i : Nat) (hi : i < l.length) (k : Nat) (hs : l[i].f2.size ≤ 1000000000) (hk : l[i].f2.size + 20 < k) :
  PRef.json_shaped.f k l (i : Int) = some (okN isNumL (inObj l i l[i].f3) l[i].f0 l[i].f1 l[i].f2) := by
 obtain ⟨k, rfl⟩ : ∃ k', k = k' + 3 := ⟨k - 3, by omega⟩
 unfold PRef.json_shaped.f
 rw [if_pos (by omega), if_pos (by omega), rd_node l i hi]
 obtain ⟨n, hn⟩ : ∃ n, l[i] = n := ⟨_, rfl⟩
 rw [hn] at hs hk ⊢
 have body : ∀ b : Bool, PRef.json_shaped.j0 (k + 3) b n.f0 n.f1 n.f2 n.f3 n.f4 = some (okN isNumL b n.f0 n.f1 n.f2) := by
  intro b
  unfold okN
  rw [PRef.json_shaped.j0]
  by_cases h1 : n.f0 < 1
  ·rw [if_pos h1, PRef.json_shaped.j1, if_pos rfl, decide_eq_false (by omega)]
   rfl
  ·rw [if_neg h1, PRef.json_shaped.j1]
   by_cases h7 : n.f0 > 7
   ·rw [if_pos (decide_eq_true h7), decide_eq_false (by omega)]
    rfl
   ·rw [if_neg (by simpa using h7), decide_eq_true (by omega), Bool.true_and]
    have fin : ∀ c : Bool, PRef.json_shaped.j2 (k + 1) c n.f0 n.f1 n.f2 n.f3 n.f4 = some (!c && (if n.f0 = 4 then isNumL n.f2 else (decide (n.f0 = 5) || n.f2 == ⟨#[]⟩))) := by
     intro c
     rw [PRef.json_shaped.j2]
     cases c with
     | true => rfl
     | false =>
      rw [if_neg (by decide), Bool.not_false, Bool.true_and]
      by_cases h4 : n.f0 = 4
      ·rw [if_pos h4, if_pos h4, json_isNum n.f2 (by omega) k (by omega)]
       rfl
      ·rw [if_neg h4, if_neg h4]
       by_cases h5 : n.f0 = 5
       ·rw [if_pos h5, decide_eq_true h5, Bool.true_or]
       ·rw [if_neg h5, decide_eq_false h5, Bool.false_or, empty_bs]
    cases b with
    | true => rw [if_pos rfl, fin]; rfl
    | false => rw [if_neg (by decide), fin, nempty_bs, Bool.not_not]; rfl
 unfold inObj
 by_cases hp : n.f3 ≥ 0
 ·rw [if_pos hp]
  by_cases hp2 : n.f3 < (i : Int)
  ·rw [if_pos hp2, if_pos (by omega), if_pos (by omega), body, decide_eq_true ⟨hp, hp2⟩, Bool.true_and]
   obtain ⟨j, hj⟩ : ∃ j : Nat, n.f3 = (j : Int) := ⟨n.f3.toNat, by omega⟩
   rw [hj, rd_node l j (by omega), Int.toNat_natCast]
   unfold kndAt
   rw [List.getElem?_eq_getElem (show j < l.length by omega)]
  ·rw [if_neg hp2, body, decide_eq_false (by omega), Bool.false_and]
 ·rw [if_neg hp, body, decide_eq_false (by omega), Bool.false_and]
def stk (op : List Nat) : List Int := op.reverse.map fun (j : Nat) => (j : Int)
theorem stk_len (op : List Nat) : (stk op).length = op.length := by simp [stk]
theorem stk_top (j : Nat) (s : List Nat) : rd (stk (j :: s)) (s.length : Int) = (j : Int) := by
 unfold rd stk
 rw [Int.toNat_natCast, List.getD_eq_getElem?_getD, List.reverse_cons, List.map_append, List.getElem?_append_right (by simp)]
 simp
theorem stk_pop (j : Nat) (s : List Nat) : (stk (j :: s)).take s.length = stk s := by
 unfold stk
 rw [List.reverse_cons, List.map_append, List.take_append_of_le_length (by simp), List.take_of_length_le (by simp)]
theorem stk_push (j : Nat) (s : List Nat) : stk s ++ [(j : Int)] = stk (j :: s) := by simp [stk]
theorem enAt_D (l : List Node) (j : Nat) (h : j < l.length) : enAt (l.map toD) j = l[j].f4 ∧ kindAt (l.map toD) j = l[j].f0 := by
 unfold enAt kindAt
 rw [List.getElem?_map, List.getElem?_eq_getElem h]
 exact ⟨rfl, rfl⟩
theorem pop_f (l : List Node) (i : Nat) (n : Node) (L : List Node) (len : Int) (ii : Int) (res : Option Bool) (N : Nat) (hll : l.length ≤ 1000000000000) : ∀ (op : List Nat), (∀ j ∈ op, j < l.length) → op.length ≤ l.length →
  (∀ k, N ≤ k → PRef.json_laid.j2 k l (stk (popAll (l.map toD) i op)) (i : Int) L len ii n.f0 n.f1 n.f2 n.f3 n.f4 = res) → ∀ k, N + op.length + 1 ≤ k → PRef.json_laid.l1 k l (stk op) (i : Int) L len ii n.f0 n.f1 n.f2 n.f3 n.f4 = res
 | [], _, _, h, k, hk => by
  obtain ⟨k, rfl⟩ : ∃ k', k = k' + 1 := ⟨k - 1, by omega⟩
  rw [PRef.json_laid.l1, stk_len, if_neg (by simp)]
  exact h k (by simp at hk; omega)
 | j :: s, hop, hol, h, k, hk => by
  obtain ⟨k, rfl⟩ : ∃ k', k = k' + 1 := ⟨k - 1, by omega⟩
  rw [List.length_cons] at hk hol
  have hj := hop j (by simp)
  have e1 : wrap64 (((j :: s).length : Int) - 1) = (s.length : Int) := by rw [List.length_cons, w64 _ (by omega) (by omega)]; omega
  rw [PRef.json_laid.l1, stk_len, if_pos (by simp), e1, if_pos (by omega), if_pos (by rw [List.length_cons]; omega), stk_top, if_pos (by omega), if_pos (by omega), rd_node l j hj]
  rw [popAll, (enAt_D l j hj).1] at h
  by_cases he : l[j].f4 = (i : Int)
  ·rw [if_pos he, if_pos (by rw [List.length_cons]; omega), Int.toNat_natCast, stk_pop]
   rw [if_pos he] at h
   exact pop_f l i n L len ii res N hll s (fun j' hj' => hop j' (by simp [hj'])) (by omega) h k (by omega)
  ·rw [if_neg he]
   rw [if_neg he] at h
   exact h k (by omega)
theorem popAll_mem (l : List Nd) (i : Nat) : ∀ (op : List Nat) j, j ∈ popAll l i op → j ∈ op
 | [], j, h => by rw [popAll] at h; cases h
 | a :: s, j, h => by
  rw [popAll] at h
  split at h
  ·exact List.mem_cons_of_mem _ (popAll_mem l i s j h)
  ·exact h
theorem popAll_len (l : List Nd) (i : Nat) : ∀ (op : List Nat), (popAll l i op).length ≤ op.length
 | [] => by rw [popAll]; exact Nat.le_refl _
 | a :: s => by
  rw [popAll]
  split
  ·have := popAll_len l i s; rw [List.length_cons]; omega
  ·exact Nat.le_refl _
theorem node_f (l : List Node) (M : Nat) (hM : ∀ n ∈ l, n.f2.size + 20 < M) (hM2 : M ≤ 1000000000) (hll : l.length ≤ 1000000000) (i : Nat) (hi : i < l.length) (o : List Nat) (ho : ∀ j ∈ o, j < i) (hol : o.length ≤ i) (N : Nat) (hN : M ≤ N) (r : Bool)
  (h : ∀ k, N ≤ k → PRef.json_laid.l0 k l (stk (if 6 ≤ l[i].f0 then i :: o else o)) l (l.length : Int) ((i + 1 : Nat) : Int) = some r) (k : Nat) (hk : N + 4 ≤ k) :
  PRef.json_laid.j2 k l (stk o) (i : Int) l (l.length : Int) (i : Int) l[i].f0 l[i].f1 l[i].f2 l[i].f3 l[i].f4 = some (fits isNumL (l.map toD) i o (toD l[i]) && r) := by
 obtain ⟨k, rfl⟩ : ∃ k', k = k' + 4 := ⟨k - 4, by omega⟩
 have hsh := fun k' (hk' : N ≤ k') => shaped_f l i hi k' (by have := hM l[i] (List.getElem_mem hi); omega) (by have := hM l[i] (List.getElem_mem hi); omega)
 obtain ⟨n, hn⟩ : ∃ n, l[i] = n := ⟨_, rfl⟩
 rw [hn] at h hsh ⊢
 have j5t : ∀ k', PRef.json_laid.j5 (k' + 1) l (stk o) (i : Int) l (l.length : Int) (i : Int) true n.f0 n.f1 n.f2 n.f3 n.f4 = some false := fun k' => by rw [PRef.json_laid.j5, if_pos rfl]
 have j5f : PRef.json_laid.j5 (k + 1) l (stk o) (i : Int) l (l.length : Int) (i : Int) false n.f0 n.f1 n.f2 n.f3 n.f4 = some r := by
  rw [PRef.json_laid.j5, if_neg (by decide), w64 _ (by omega) (by omega)]
  have e : (i : Int) + 1 = ((i + 1 : Nat) : Int) := by omega
  rw [e]
  by_cases h6 : n.f0 ≥ 6
  ·rw [if_pos h6, if_pos (by rw [stk_len]; omega), stk_push]
   have := h k (by omega)
   rwa [if_pos h6] at this
  ·rw [if_neg h6]
   have := h k (by omega)
   rwa [if_neg h6] at this
 have main : ∀ (par most : Int), par = parOf o → most = mostOf (l.map toD) o → PRef.json_laid.j4 (k + 2) l (stk o) (i : Int) par most l (l.length : Int) (i : Int) n.f0 n.f1 n.f2 n.f3 n.f4 = some (fits isNumL (l.map toD) i o (toD n) && r) := by
  intro par most hpar hmost
  have hnm : n.f3 = par → inObj l i n.f3 = namedOf (l.map toD) o := fun e => by
   rw [e, hpar]
   cases o with
   | nil => rfl
   | cons j s =>
    have hj := ho j (by simp)
    unfold parOf namedOf inObj
    dsimp only
    rw [decide_eq_true ⟨by omega, by omega⟩, Bool.true_and, Int.toNat_natCast, (enAt_D l j (by omega)).2]
    unfold kndAt
    rw [List.getElem?_eq_getElem (show j < l.length by omega)]
  have hno : ∀ q : Prop, [Decidable q] → ¬ q → (n.f3 = par → (i : Int) < n.f4 → n.f4 ≤ most → (n.f0 < 6 → n.f4 = (i : Int) + 1) → (o = [] → i = 0) → q) → fits isNumL (l.map toD) i o (toD n) = false ∨ True := fun _ _ _ _ => .inr trivial
  have hfit : fits isNumL (l.map toD) i o (toD n) = (decide (n.f3 = parOf o ∧ (i : Int) < n.f4 ∧ n.f4 ≤ mostOf (l.map toD) o ∧ (n.f0 < 6 → n.f4 = (i : Int) + 1) ∧ (o = [] → i = 0)) && okN isNumL (namedOf (l.map toD) o) n.f0 n.f1 n.f2) := rfl
  rw [hfit, ← hpar, ← hmost]
  rw [PRef.json_laid.j4]
  by_cases c1 : n.f3 = par
  ·rw [if_pos c1]
   by_cases c2 : n.f4 ≤ (i : Int)
   ·rw [if_pos c2, j5t, decide_eq_false (by omega)]
    rfl
   ·rw [if_neg c2]
    by_cases c3 : n.f4 > most
    ·rw [if_pos c3, j5t, decide_eq_false (by omega)]
     rfl
    ·rw [if_neg c3]
     have tail : ∀ (_ : n.f0 < 6 → n.f4 = (i : Int) + 1), ((PRef.json_shaped.f (k + 1) l (i : Int)).bind fun t => (if t = true then (if par < 0 then (PRef.json_laid.j5 (k + 1) l (stk o) (i : Int) l (l.length : Int) (i : Int) (decide ((i : Int) > 0)) n.f0 n.f1 n.f2 n.f3 n.f4) else (PRef.json_laid.j5 (k + 1) l (stk o) (i : Int) l (l.length : Int) (i : Int) false n.f0 n.f1 n.f2 n.f3 n.f4)) else (PRef.json_laid.j5 (k + 1) l (stk o) (i : Int) l (l.length : Int) (i : Int) true n.f0 n.f1 n.f2 n.f3 n.f4))) =
       some ((decide (n.f3 = par ∧ (i : Int) < n.f4 ∧ n.f4 ≤ most ∧ (n.f0 < 6 → n.f4 = (i : Int) + 1) ∧ (o = [] → i = 0)) && okN isNumL (namedOf (l.map toD) o) n.f0 n.f1 n.f2) && r) := by
      intro c4
      rw [hsh (k + 1) (by omega), Option.bind_some, hnm c1]
      cases hok : okN isNumL (namedOf (l.map toD) o) n.f0 n.f1 n.f2 with
      | false =>
       rw [if_neg (by decide), j5t, Bool.and_false, Bool.false_and]
      | true =>
       rw [if_pos rfl, Bool.and_true]
       cases o with
       | nil =>
        have : par < 0 := by rw [hpar]; show (-1 : Int) < 0; decide
        rw [if_pos this]
        by_cases hi0 : (i : Int) > 0
        ·rw [decide_eq_true hi0, j5t, decide_eq_false (by rintro ⟨_, _, _, _, h⟩; have := h rfl; omega)]
         rfl
        ·rw [decide_eq_false hi0, j5f, decide_eq_true ⟨c1, by omega, by omega, c4, fun _ => by omega⟩]
         rfl
       | cons j s =>
        have : ¬ par < 0 := by rw [hpar]; show ¬ (j : Int) < 0; omega
        rw [if_neg this, j5f, decide_eq_true ⟨c1, by omega, by omega, c4, fun e => by cases e⟩]
        rfl
     by_cases c4 : n.f0 < 6
     ·rw [if_pos c4, w64 _ (by omega) (by omega)]
      by_cases c5 : n.f4 = (i : Int) + 1
      ·rw [if_pos c5]
       exact tail (fun _ => c5)
      ·rw [if_neg c5, j5t, decide_eq_false (by rintro ⟨_, _, _, h, _⟩; exact c5 (h c4))]
       rfl
     ·rw [if_neg c4]
      exact tail (fun h => absurd h c4)
  ·rw [if_neg c1, j5t, decide_eq_false (by rintro ⟨h, _⟩; exact c1 h)]
   rfl
 rw [PRef.json_laid.j2, stk_len]
 cases o with
 | nil =>
  rw [if_neg (by simp), PRef.json_laid.j3, if_neg (by decide)]
  exact main _ _ rfl (by show _ = ((l.map toD).length : Int); rw [List.length_map])
 | cons j s =>
  have hj := ho j (by simp)
  have e1 : wrap64 (((j :: s).length : Int) - 1) = (s.length : Int) := by rw [List.length_cons] at hol ⊢; rw [w64 _ (by omega) (by omega)]; omega
  rw [if_pos (by simp), e1, if_pos (by omega), if_pos (by rw [List.length_cons]; omega), stk_top, PRef.json_laid.j3, if_pos (by omega), if_pos (by omega), if_pos (by omega), rd_node l j (by omega)]
  exact main _ _ rfl (by show _ = enAt (l.map toD) j; rw [(enAt_D l j (by omega)).1])
theorem laidGo_f (l : List Node) (M : Nat) (hM : ∀ n ∈ l, n.f2.size + 20 < M) (hM2 : M ≤ 1000000000) (hll : l.length ≤ 1000000000) : ∀ (r : List Node) (i : Nat) (op : List Nat), l.drop i = r → i ≤ l.length → (∀ j ∈ op, j < i) → op.length ≤ i →
    ∃ N, ∀ k, N ≤ k → PRef.json_laid.l0 k l (stk op) l (l.length : Int) (i : Int) = some (laidGo isNumL (l.map toD) i op (r.map toD) && !l.isEmpty && (enAt (l.map toD) 0 == (l.length : Int)))
  | [], i, op, hd, hi, hop, hol => by
    have : l.length ≤ i := List.drop_eq_nil_iff.1 hd
    obtain rfl : i = l.length := by omega
    refine ⟨1, fun k hk => ?_⟩
    obtain ⟨k, rfl⟩ : ∃ k', k = k' + 1 := ⟨k - 1, by omega⟩
    rw [PRef.json_laid.l0, if_neg (by omega), List.map_nil, laidGo, Bool.true_and]
    cases l with
    | nil => rfl
    | cons a t =>
      rw [if_pos (by simp), if_pos (by simp)]
      have := (enAt_D (a :: t) 0 (by simp)).1
      rw [this]
      rfl
  | n :: r, i, op, hd, hi, hop, hol => by
    have hlt : i < l.length := by
      rcases Nat.lt_or_ge i l.length with h | h
      · exact h
      · rw [List.drop_of_length_le h] at hd; cases hd
    have hn : l[i] = n := by
      have := List.drop_eq_getElem_cons hlt
      rw [hd] at this
      injection this with h _
      exact h.symm
    obtain ⟨o, ho⟩ : ∃ o, popAll (l.map toD) i op = o := ⟨_, rfl⟩
    have hom : ∀ j ∈ o, j < i := fun j hj => hop j (popAll_mem _ _ _ _ (ho ▸ hj))
    have hol2 : o.length ≤ i := by rw [← ho]; exact Nat.le_trans (popAll_len _ _ _) hol
    obtain ⟨N, hN⟩ := laidGo_f l M hM hM2 hll r (i + 1) (if 6 ≤ n.f0 then i :: o else o) (by rw [← List.drop_drop, hd]; rfl) (by omega)
      (fun j hj => by
        split at hj
        · rcases List.mem_cons.1 hj with rfl | hj
          · omega
          · have := hom j hj; omega
        · have := hom j hj; omega)
      (by split; · rw [List.length_cons]; omega
          · omega)
    refine ⟨N + M + op.length + 8, fun k hk => ?_⟩
    obtain ⟨k, rfl⟩ : ∃ k', k = k' + 1 := ⟨k - 1, by omega⟩
    rw [PRef.json_laid.l0, if_pos (by omega), if_pos (by omega), if_pos (by omega), rd_node l i hlt]
    have hnode := node_f l M hM hM2 hll i hlt o hom hol2 (N + M) (by omega) _ (fun k' hk' => by rw [hn]; exact hN k' (by omega))
    have hp := pop_f l i l[i] l (l.length : Int) (i : Int) _ (N + M + 4) (by omega) op (fun j hj => by have := hop j hj; omega) (by omega) (fun k' hk' => by rw [ho]; exact hnode k' hk') k (by omega)
    rw [hp, hn, List.map_cons, laidGo, ho]
    have e6 : (if 6 ≤ (toD n).kind then i :: o else o) = (if 6 ≤ n.f0 then i :: o else o) := rfl
    rw [e6, ← Bool.and_assoc, ← Bool.and_assoc]
theorem laid_f (l : List Node) (hM : ∀ n ∈ l, n.f2.size ≤ 900000000) (hll : l.length ≤ 1000000000) : ∃ k, PRef.json_laid.f k l = some (laidP isNumL (l.map toD)) := by
 obtain ⟨N, hN⟩ := laidGo_f l 950000000 (fun n hn => by have := hM n hn; omega) (by omega) hll l 0 [] rfl (Nat.zero_le _) (fun _ h => by cases h) (Nat.zero_le _)
 refine ⟨N, ?_⟩
 have := hN N (Nat.le_refl _)
 unfold PRef.json_laid.f laidP
 rw [List.isEmpty_map, List.length_map]
 exact this
end Go.Proofs.YtfocognhcljhpaaGreatDoor
namespace Go.Proofs.YtfocognhcljhpaaGreatDoor
open Go.RowKit Go.Shelf Go.Proofs.YtfocognhcljhpaaGreatDoorW.PrintWords Go.Proofs.YtfocognhcljhpaaGreatDoorW.PrintMore Go.Proofs.YtfocognhcljhpaaGreatDoor.PPrintRows Go.Proofs.YtfocognhcljhpaaGreatDoor.Tree
attribute [local go_sem] Oper.semAt_some
theorem NMv.to_below {base N : Nat} {X Y : World} (h : NMv base X Y) (hN : N ≤ base) (hs : N ≤ X.heap.size) : Below N X Y :=
 ⟨h.os, h.tape, h.output, h.size, fun k hk => by
  have hl : k < X.heap.size := by omega
  have e := Array.getElem?_eq_getElem hl
  rw [e]
  exact h.block k _ e (.inl (by omega))⟩
def printV (l : List Node) (cv : Int) : ByteArray := if cv = 0 then ⟨(catL (pcsL l)).toArray⟩ else ⟨#[]⟩
set_option maxRecDepth 100000 in
set_option maxHeartbeats 8000000 in
theorem print_any (A : Option Addr) (c : Nat) (l : List Node) (cv : Int) (w : World) (hr : Kd.C kN w A l.length l) (hc : l.length ≤ c) (hAb : ∀ a, A = some a → a.block < w.heap.size)
  (hcv : ∀ W, Kd.C kN W A l.length l → Calls Tryz.prog 21 #[.slice A l.length c] W fun e w' => e = .returned (.int .i64 cv) ∧ Below W.heap.size W w')
  (hok : cv = 0 → RowOk l) (htot : cv = 0 → (catL (pcsL l)).length ≤ 100000000) :
  Calls Tryz.prog 13 #[.slice A l.length c] w fun e w' => e = .returned (.tuple #[.string (printV l cv), .int .i64 cv]) ∧ Below w.heap.size w w' := by
 have HCV := Lib.hid hcv
 unfold printV
 by_cases h0 : cv = 0
 ·subst h0
  rw [if_pos rfl]
  have HOK := Lib.hid (hok rfl)
  have HTOT := Lib.hid (htot rfl)
  clear hok htot
  refine (callsIn_wide (n := 10)).1 ?_
  refine callsIn_of_wp_marks Tryz.func13 rfl trivial ?_ rfl
  simp only [Tryz.ntmps13, List.size_toArray, List.length_cons, List.length_nil, Nat.reduceAdd, Nat.reduceSub, Array.replicate_succ, Array.replicate_zero, List.push_toArray, List.append_toArray, List.nil_append, List.cons_append]
  gi_wp2_with (refine ⟨trivial, ?_⟩; gi_at_call 21; go_must (refine ((callsIn_wide (n := 9)).2 (HCV.out _ hr)).mono ?_); rintro e w1 ⟨rfl, hb⟩; have B1 := Lib.hid hb; clear hb)
  obtain ⟨w2, hw2⟩ : ∃ w2, w1.alloc (.cells #[.pointer none, .slice none 0 0] 83) = w2 := ⟨_, rfl⟩
  gi_wp2_with (refine ⟨trivial, ?_⟩; gi_at_call 19; go_must (refine ((callsIn_wide (n := 9)).2 (pieces_any _ _ _ _)).mono ?_); rintro e w3 ⟨rfl, hw⟩; have HW3 := Lib.hid hw; clear hw)
  have hb12 : Below w1.heap.size w1 w2 := by rw [← hw2]; exact below_alloc (Below.refl _ _) _
  have hb23 : Below w2.heap.size w2 w3 := by rw [HW3.out, hw2]; exact below_alloc (Below.refl _ _) _
  have hs2 : w2.heap.size = w1.heap.size + 1 := by rw [← hw2]; simp
  have hs3 : w3.heap.size = w1.heap.size + 2 := by rw [HW3.out, hw2]; simp [hs2]
  have hB0 : BldF w1.heap.size w1.heap.size (Lib.byteCells (catL [])) w3 := by
   refine bldF_kept (w := w2) ?_ (fun k cs T fr hk _ => (hb23.block k (blk_lt hk)).trans hk)
   rw [← hw2]
   exact Lib.IsBuilderF.of (Lib.fresh_isBuilder 83 5 w1)
  have hBs : w3.heap[w2.heap.size]? = some (.cells #[.slice A l.length c] 22 (0, 0)) := by rw [HW3.out, hw2]; exact blk_new _ _
  have hb13 : Below w1.heap.size w1 w3 := hb12.trans (hb23.mono hb12.size)
  have hbw3 : Below w.heap.size w w3 := B1.out.trans ((hb12.trans (hb23.mono hb12.size)).mono B1.out.size)
  have hC3 := Kd.C_below hr hbw3
  have hAb3 : ∀ a, A = some a → a.block < w3.heap.size := fun a ha => by have := hAb a ha; have := B1.out.size; omega
  have hseq := seq_pieces w2.heap.size w3.heap.size A c l HOK.out hc w3 hBs hC3 (Nat.le_refl _) hAb3
  have hsz1 := B1.out.size
  have hA1 : ∀ a, A = some a → a.block < w1.heap.size := fun a ha => Nat.lt_of_lt_of_le (hAb a ha) hsz1
  clear hw2 hb12 hb23 HW3 hC3
  refine range_t (by omega) (gf := 52) (lb := #[.pointer (some ⟨w2.heap.size, 0, none⟩)]) rfl (enters_of Tryz.func52 (by kernel_rfl) rfl)
   hseq (Below.refl _ _) (fun h k => h.trans k) (fun W l o o' hl ho hc _ => NKp.putObj hl hAb3 ho hc) (fun X Y (h : NMv w3.heap.size X Y) k o _ ho hc _ => h.block k o ho (.inr (fun cs fr e => by rw [e] at hc; cases hc))) (fun _ => rfl)
   (fun pre W => BldF w1.heap.size w1.heap.size (Lib.byteCells (catL pre)) W ∧ Below w1.heap.size w1 W ∧ w3.heap.size ≤ W.heap.size)
   (fun _ _ _ => False)
   (OwnFrom.and (ownFrom_bld _ _ _ (fun pre => Lib.byteCells (catL pre))) (OwnFrom.and (ownFrom_below (Nat.le_refl _) (by omega)) (fun s A B row hs hg hr => Nat.le_trans hs hg.size)))
   (fun _ _ _ _ _ hs _ _ => hs)
   (fun s X Y h (k : NMv w3.heap.size X Y) => ⟨bldF_kept h.1 (fun k' cs T fr hk hT => k.block k' _ hk (.inr (fun cs' fr' e => by injection e with e1 e2 e3; rcases hT with h | h <;> simp [e2] at h))), h.2.1.trans (k.to_below (by omega) h.2.1.size), Nat.le_trans h.2.2 k.size⟩)
   (fun _ _ _ _ h _ => h)
   ⟨hB0, hb13, Nat.le_refl _⟩
   (fun x a' W => a' = { tmps := #[.slice A l.length c, undef, .string ⟨#[]⟩, .int .i64 0, .int .i64 0, .pointer (some ⟨w1.heap.size, 0, none⟩), .string x, .slice A l.length c, .int .i64 0, .int .i64 0, .bool false, undef, .slice A l.length c, .func (.func 52) #[] #[.pointer (some ⟨w2.heap.size, 0, none⟩)], .string x, undef, undef, undef], defers := [] })
   (fun x a' s X Y row hs hg hr => hs)
   ?assign ?body ?done ?stop
  case assign =>
   rintro lp pre x W K ⟨i0, ib, is⟩ hK
   clear hs2 hs3
   have e1 : (strEnc x) = #[.string x] := rfl
   rw [e1]
   clear e1
   gi_wp2
   exact hK _ _ (keepsFrom_below (Below.refl _ _)) (NKp.refl _ _ _) ⟨i0, ib, is⟩ rfl
  case body =>
   rintro lp pre x a' W hl ⟨r, hr⟩ ⟨i0, ib, is⟩ rfl hT
   have hlen : (Lib.byteCells (catL pre)).length + x.size ≤ 100000000 := by
    have h1 := catL_pre hT
    have h2 := HTOT.out
    rw [catL_snoc, List.length_append] at h1
    have h3 : x.data.toList.length = x.size := by simp
    rw [Lib.byteCells_length]
    omega
   have hcells : Lib.byteCells (catL pre) ++ Lib.strCells x = Lib.byteCells (catL (pre ++ [x])) := by
    rw [catL_snoc]
    simp [Lib.byteCells, Lib.strCells]
   have hbb := bld_blk i0
   have W9 := Lib.hid (writeString_any w1.heap.size w1.heap.size (Lib.byteCells (catL pre)) x W i0 hlen ib.size)
   rw [hcells] at W9
   have IB := Lib.hid ib
   have HBB := Lib.hid hbb
   clear hseq i0 hr hcells hlen ib hbb hs2 hs3
   gi_wp2_with (refine ⟨trivial, ?_⟩; gi_at_call 44; go_must (refine (CallsIn.inRound lp ((callsIn_wide (n := 7)).2 W9.out)).mono ?_); rintro e W1 ⟨rfl, hu, hk⟩; have U1 := Lib.hid hu; have K1 := Lib.hid hk; clear hu hk)
   exact ⟨bldK_keeps K1.out HBB.out, bldK_nkp K1.out (.inr HBB.out) hA1, .inr U1.out, IB.out.trans K1.out.1, Nat.le_trans is K1.out.1.size⟩
  case done =>
   rintro D ys W hD rfl ⟨i0, ib, is⟩ hK
   have HK := Lib.hid hK
   have IB := Lib.hid ib
   have ST := Lib.hid (Tryz.Builder_String_any_k w1.heap.size w1.heap.size (catL (pcsL l)) W i0 ib.size)
   clear hseq hK i0 ib hs2 hs3
   gi_wp2_with (refine ⟨trivial, ?_⟩; gi_at_call 45; go_must (refine ((callsIn_wide (n := 9)).2 ST.out).mono ?_); rintro e W1 ⟨rfl, _, hb4, hk4⟩; have B4 := Lib.hid hb4; have K4 := Lib.hid hk4; clear hb4 hk4)
   have hlt1 : w1.heap.size < w3.heap.size := by obtain ⟨cs, fr, h⟩ := bld_blk hB0; exact blk_lt h
   have HK2 := Lib.hid (K4.out D _ HK.out (by simp; omega) (fun c fz e => by cases e))
   refine ⟨by simp, .inl ⟨_, _, rfl, run_takeDeferred HK2.out, ?_⟩⟩
   exact ⟨_, results_tmp2 rfl _ _ _, rfl, (B1.out.trans ((IB.out.trans B4.out).mono hsz1)).trans (belowK_b (w := w) (Nat.le_refl _) W1 D _ _ (by omega) HK2.out rfl rfl)⟩
  case stop =>
   rintro D c pre W _ _ h _
   exact h.elim
 ·rw [if_neg h0]
  have k0 : (cv == 0) = false := by rw [beq_eq_false_iff_ne]; exact h0
  clear hok htot hcv
  go_enter Tryz.func13, Tryz.ntmps13
  go_wp2_with (go_at_call 21; go_must (refine (HCV.out _ hr).mono ?_); rintro e w1 ⟨rfl, hb⟩; have B1 := Lib.hid hb; clear hb)
  go_ret2
  exact ⟨rfl, B1.out⟩
end Go.Proofs.YtfocognhcljhpaaGreatDoor
namespace Go.Proofs.YtfocognhcljhpaaGreatDoor
open Go.RowKit Go.Proofs.YtfocognhcljhpaaGreatDoorW.PrintWords Go.Proofs.YtfocognhcljhpaaGreatDoorW.PrintMore Go.Proofs.YtfocognhcljhpaaGreatDoor.PPrintRows Go.Proofs.YtfocognhcljhpaaGreatDoor.Tree
theorem signs_opn (k : Int) : ((signsV k).extract 0 1).data.toList = opn k := by
 unfold signsV opn
 split <;> rfl
theorem signs_cls (k : Int) : ((signsV k).extract 1 2).data.toList = cls k := by
 unfold signsV cls
 split <;> rfl
theorem plain_word (k : Int) (t : ByteArray) : (plainV k t).data.toList = wordB quoteL k t.data.toList := by
 unfold plainV wordB
 split
 ·rfl
 split
 ·rfl
 split
 ·rfl
 split
 ·simp
 ·rfl
theorem endAt_D (l : List Node) (j : Nat) : endAt l j = enAt (l.map toD) j ∧ kndAt l j = kindAt (l.map toD) j := by
 unfold endAt enAt kndAt kindAt
 rw [List.getElem?_map]
 cases l[j]? <;> exact ⟨rfl, rfl⟩
theorem catL_cons (x : ByteArray) (xs : List ByteArray) : catL (x :: xs) = x.data.toList ++ catL xs := rfl
theorem catL_app (xs ys : List ByteArray) : catL (xs ++ ys) = catL xs ++ catL ys := by simp [catL]
theorem pcs_D (l : List Node) : ∀ (f i : Nat) (op : List Nat) (first : Bool), catL (pcs l f i op first) = pcsD quoteL (l.map toD) f i op first
 | 0, _, _, _ => rfl
 | f + 1, i, op, first => by
  rw [pcs, pcsD, (endAt_D l (op.headD 0)).1, (endAt_D l (op.headD 0)).2]
  by_cases h : op ≠ [] ∧ enAt (l.map toD) (op.headD 0) = (i : Int)
  ·rw [if_pos h, if_pos h, catL_cons, signs_cls, pcs_D l f]
  ·rw [if_neg h, if_neg h, List.getElem?_map]
   cases hi : l[i]? with
   | none => rfl
   | some n =>
    dsimp only [Option.map_some]
    rw [catL_app, catL_app]
    have e1 : catL (if first = true then [] else [(⟨#[44]⟩ : ByteArray)]) = (if first = true then [] else [44]) := by split <;> rfl
    have e2 : catL (if op ≠ [] ∧ kindAt (l.map toD) (op.headD 0) = 7 then [(⟨(quoteL n.f1.data.toList ++ [58]).toArray⟩ : ByteArray)] else []) = (if op ≠ [] ∧ kindAt (l.map toD) (op.headD 0) = 7 then quoteL (toD n).key.data.toList ++ [58] else []) := by
     split
     ·rw [catL_cons]; show _ ++ [] = _; rw [List.append_nil]; rfl
     ·rfl
    have e3 : catL (if 6 ≤ n.f0 then (signsV n.f0).extract 0 1 :: pcs l f (i + 1) (i :: op) true else plainV n.f0 n.f2 :: pcs l f (i + 1) op false) = (if 6 ≤ (toD n).kind then opn (toD n).kind ++ pcsD quoteL (l.map toD) f (i + 1) (i :: op) true else wordB quoteL (toD n).kind (toD n).text.data.toList ++ pcsD quoteL (l.map toD) f (i + 1) op false) := by
     show _ = (if 6 ≤ n.f0 then _ else _)
     split
     ·rw [catL_cons, signs_opn, pcs_D l f]; rfl
     ·rw [catL_cons, plain_word, pcs_D l f]; rfl
    rw [e1, e2, e3]
theorem pcsL_tree (t : Tr) (h : t.sh = true) : catL (pcsL ((t.flat (-1) 0).map toN)) = prT quoteL t := by
 unfold pcsL
 rw [pcs_D, map_toD_toN, List.length_map]
 exact pcs_all quoteL t h
mutual
theorem flat_at : ∀ (t : Tr) (p : Int) (a : Nat), -1 ≤ p → p < (a : Int) → ∀ (j : Nat) (n : Nd), (t.flat p a)[j]? = some n → ((a + j : Nat) : Int) < n.en ∧ n.en ≤ ((a + t.size : Nat) : Int) ∧ -1 ≤ n.parent ∧ n.parent < ((a + j : Nat) : Int)
 | .mk k key text kids, p, a, hp, hp2, j, n, h => by
  rw [Tr.flat] at h
  rw [Tr.size]
  cases j with
  | zero => simp at h; subst h; dsimp only; omega
  | succ j =>
   have := flats_at kids (a : Int) (a + 1) (by omega) (by omega) j n (by simpa using h)
   omega
theorem flats_at : ∀ (ts : List Tr) (p : Int) (a : Nat), -1 ≤ p → p < (a : Int) → ∀ (j : Nat) (n : Nd), (flats p a ts)[j]? = some n → ((a + j : Nat) : Int) < n.en ∧ n.en ≤ ((a + sizes ts : Nat) : Int) ∧ -1 ≤ n.parent ∧ n.parent < ((a + j : Nat) : Int)
 | [], p, a, _, _, j, n, h => by rw [flats] at h; simp at h
 | t :: ts, p, a, hp, hp2, j, n, h => by
  rw [flats] at h
  rw [sizes]
  by_cases hj : j < (t.flat p a).length
  ·rw [List.getElem?_append_left hj] at h
   have := flat_at t p a hp hp2 j n h
   omega
  ·rw [List.getElem?_append_right (by omega), Tr.flat_len] at h
   rw [Tr.flat_len] at hj
   have := flats_at ts p (a + t.size) hp (by omega) _ n h
   omega
end
def rowT (t : Tr) : List Node := (t.flat (-1) 0).map toN
theorem rowT_len (t : Tr) : (rowT t).length = t.size := by unfold rowT; rw [List.length_map, Tr.flat_len]
theorem rowT_at (t : Tr) (j : Nat) (h : j < (rowT t).length) : (j : Int) < (rowT t)[j].f4 ∧ (rowT t)[j].f4 ≤ (rowT t).length ∧ -1 ≤ (rowT t)[j].f3 ∧ (rowT t)[j].f3 < (j : Int) := by
 have hj : j < (t.flat (-1) 0).length := by rw [rowT_len] at h; rw [Tr.flat_len]; exact h
 have e1 : (rowT t)[j]? = some (toN (t.flat (-1) 0)[j]) := by unfold rowT; rw [List.getElem?_map, List.getElem?_eq_getElem hj]; rfl
 have e : (rowT t)[j] = toN (t.flat (-1) 0)[j] := Option.some.inj ((List.getElem?_eq_getElem h).symm.trans e1)
 have := flat_at t (-1) 0 (by omega) (by omega) j _ (List.getElem?_eq_getElem hj)
 rw [e, rowT_len]
 unfold toN
 dsimp only
 omega
theorem rowT_drop (t : Tr) : (rowT t).drop 0 = (t.flat (-1) 0).map toN ++ [] := by unfold rowT; simp
theorem rowT_D (t : Tr) : (rowT t).map toD = t.flat (-1) 0 := map_toD_toN _
theorem rowT_tx (p : ByteArray → Bool) (t : Tr) (h : t.tx p = true) : ∀ n ∈ rowT t, p n.f1 = true ∧ p n.f2 = true := by
 intro n hn
 rw [← flat_tx p t (-1) 0, List.all_eq_true] at h
 unfold rowT at hn
 obtain ⟨d, hd, rfl⟩ := List.mem_map.1 hn
 have := h d hd
 rw [Bool.and_eq_true] at this
 exact this
theorem rowT_nodeOk (t : Tr) (hs : t.size ≤ 100000) (h : t.tx (fun b => decide (b.size ≤ 100000)) = true) : RowOk (rowT t) := by
 have htx := rowT_tx _ t h
 have key : ∀ n ∈ rowT t, -1 ≤ n.f3 ∧ n.f3 < (rowT t).length ∧ n.f4 ≤ (rowT t).length ∧ 0 ≤ n.f4 := fun n hn => by
  obtain ⟨j, hj, rfl⟩ := List.getElem_of_mem hn
  have := rowT_at t j hj
  omega
 refine ⟨by rw [rowT_len]; exact hs, fun n hn => ?_, fun n hn => ?_, fun n hn => ?_⟩
 ·have h1 := key n hn
  have h2 := htx n hn
  simp only [decide_eq_true_eq] at h2
  exact ⟨by omega, by omega, by omega, by omega⟩
 ·have h2 := htx n hn
  simpa using h2
 ·have h1 := key n hn
  omega
end Go.Proofs.YtfocognhcljhpaaGreatDoor
namespace Go.Proofs.YtfocognhcljhpaaGreatDoor
open Go.RowKit Go.Proofs.YtfocognhcljhpaaGreatDoorW.PrintWords Go.Proofs.YtfocognhcljhpaaGreatDoorW.PrintMore Go.Proofs.YtfocognhcljhpaaGreatDoor.PPrintRows Go.Proofs.YtfocognhcljhpaaGreatDoor.Tree
def rowGo (s : ByteArray) : Nat → Option Bs → PS → Option PS
 | 0, _, _ => none
 | f + 1, some key, x =>
  match valueS s ⟨key.toArray⟩ { x with a := spaceP s x.a } with
  | none => none
  | some (x1, o) =>
   if o then
    (if (closeS s x1).2 then rowGo s f none (closeS s x1).1 else
     match nameS s (closeS s x1).1 with
     | none => none
     | some (x2, t) => rowGo s f (some t) x2)
   else rowGo s f none x1
 | f + 1, none, x =>
  if x.st = [] then some x else
  if takeP s (spaceP s x.a) 44 then
   (match nameS s { x with a := spaceP s x.a + 1 } with
    | none => none
    | some (x2, t) => rowGo s f (some t) x2)
  else if (closeS s { x with a := spaceP s x.a }).2 then rowGo s f none (closeS s { x with a := spaceP s x.a }).1 else none
theorem preP_le {s : ByteArray} {a : Nat} {t : Bs} (h : preP s a t = true) (ha : a ≤ s.size) : a + t.length ≤ s.size := by
 unfold preP at h
 have := (List.isPrefixOf_iff_prefix.1 h).length_le
 rw [List.length_drop] at this
 have e : s.data.toList.length = s.size := by simp
 omega
theorem takeP_lt {s : ByteArray} {a : Nat} {c : Int} (h : takeP s a c = true) : a < s.size := by
 unfold takeP at h
 by_cases hl : a < s.size
 ·exact hl
 ·rw [List.getElem?_eq_none (by simp; omega)] at h
  cases h
theorem addS_ok {x : PS} {s : ByteArray} (hx : x.Ok s) (a' : Nat) (ln' : Bool) (k : Int) (key t : ByteArray) (h1 : x.a < a') (h2 : a' ≤ s.size) : PS.Ok (addS { x with a := a', ln := ln' } k key t) s := by
 have q1 := hx.l
 have q2 := hx.st
 have q3 := hx.dp
 refine ⟨hx.size, h2, ?_, ?_, ?_, ?_⟩
 ·show (x.l ++ [_]).length ≤ a'
  simp; omega
 ·show (if 6 ≤ k then x.l.length :: x.st else x.st).length ≤ (x.l ++ [_]).length
  split <;> simp <;> omega
 ·show (if 6 ≤ k then max x.dp (x.st.length + 1) else x.dp) ≤ (x.l ++ [_]).length
  split <;> simp <;> omega
 ·intro j hj
  have hj : j ∈ (if 6 ≤ k then x.l.length :: x.st else x.st) := hj
  show j < (x.l ++ [_]).length
  have := hx.top
  simp only [List.length_append, List.length_singleton]
  split at hj
  ·rcases List.mem_cons.1 hj with rfl | hj
   ·omega
   ·have := this j hj; omega
  ·have := this j hj; omega
theorem valueS_ok {x x' : PS} {s key : ByteArray} {o : Bool} (hx : x.Ok s) (h : valueS s key x = some (x', o)) : x'.Ok s ∧ x.a < x'.a ∧ (o = true → x'.st ≠ []) := by
 have ha := hx.a
 have hw : ∀ (a' : Nat) (ln' : Bool) (k : Int) (t : ByteArray), x.a < a' → a' ≤ s.size → (o = true → 6 ≤ k) → some (addS { x with a := a', ln := ln' } k key t, o) = some (x', o) → x'.Ok s ∧ x.a < x'.a ∧ (o = true → x'.st ≠ []) := by
  intro a' ln' k t h1 h2 h3 h
  obtain rfl : addS { x with a := a', ln := ln' } k key t = x' := by injection h with h; injection h
  refine ⟨addS_ok hx a' ln' k key t h1 h2, h1, fun ho => ?_⟩
  show (if 6 ≤ k then x.l.length :: x.st else x.st) ≠ []
  rw [if_pos (h3 ho)]
  simp
 unfold valueS at h
 split at h
 ·rename_i hp
  have := preP_le hp ha
  obtain rfl : false = o := by injection h with h; injection h
  exact hw (x.a + 4) x.ln 1 _ (by omega) (by simpa using this) (by simp) h
 split at h
 ·rename_i hp
  have := preP_le hp ha
  obtain rfl : false = o := by injection h with h; injection h
  exact hw (x.a + 5) x.ln 2 _ (by omega) (by simpa using this) (by simp) h
 split at h
 ·rename_i hp
  have := preP_le hp ha
  obtain rfl : false = o := by injection h with h; injection h
  exact hw (x.a + 4) x.ln 3 _ (by omega) (by simpa using this) (by simp) h
 split at h
 ·rename_i hp
  have := takeP_lt hp
  obtain rfl : true = o := by injection h with h; injection h
  exact hw (x.a + 1) x.ln 6 _ (by omega) (by omega) (by simp) h
 split at h
 ·rename_i hp
  have := takeP_lt hp
  obtain rfl : true = o := by injection h with h; injection h
  exact hw (x.a + 1) x.ln 7 _ (by omega) (by omega) (by simp) h
 split at h
 ·split at h
  ·cases h
  ·rename_i t n ln ht
   have h1 := textP_pos ht
   have h2 := textP_le ht
   obtain rfl : false = o := by injection h with h; injection h
   exact hw (x.a + n) (x.ln || ln) 5 _ (by omega) h2 (by simp) h
 split at h
 ·cases h
 ·rename_i hn
  have h2 := numL_le (s.data.toList.drop x.a)
  rw [List.length_drop] at h2
  have e : s.data.toList.length = s.size := by simp
  obtain rfl : false = o := by injection h with h; injection h
  exact hw (x.a + numL (s.data.toList.drop x.a)) x.ln 4 _ (by omega) (by omega) (by simp) h
theorem nameS_ok {x x' : PS} {s : ByteArray} {t : Bs} (hx : x.Ok s) (h : nameS s x = some (x', t)) : x'.Ok s ∧ x.a ≤ x'.a ∧ x'.st = x.st := by
 have q1 := hx.l
 have q2 := spaceP_ge s x.a
 have q3 := spaceP_le hx.a
 unfold nameS at h
 split at h
 ·obtain ⟨rfl, _⟩ : PS.mk (spaceP s x.a) x.l x.st x.ln x.dp = x' ∧ [] = t := by injection h with h; injection h with h1 h2; exact ⟨h1, h2⟩
  exact ⟨⟨hx.size, q3, by show x.l.length ≤ spaceP s x.a; omega, hx.st, hx.dp, hx.top⟩, q2, rfl⟩
 ·split at h
  ·cases h
  ·rename_i t' n ln ht
   have h1 := textP_le ht
   have h2 := spaceP_ge s (spaceP s x.a + n)
   split at h
   ·rename_i htk
    have h3 := takeP_lt htk
    obtain ⟨rfl, _⟩ : PS.mk (spaceP s (spaceP s x.a + n) + 1) x.l x.st (x.ln || ln) x.dp = x' ∧ t' = t := by injection h with h; injection h with h1 h2; exact ⟨h1, h2⟩
    exact ⟨⟨hx.size, h3, by show x.l.length ≤ spaceP s (spaceP s x.a + n) + 1; omega, hx.st, hx.dp, hx.top⟩, by show x.a ≤ spaceP s (spaceP s x.a + n) + 1; omega, rfl⟩
   ·cases h
theorem closeS_ok {x : PS} {s : ByteArray} (hx : x.Ok s) : (closeS s x).1.Ok s ∧ ((closeS s x).2 = true → x.a < (closeS s x).1.a) ∧ ((closeS s x).2 = false → x.a ≤ (closeS s x).1.a ∧ (closeS s x).1.st = x.st) := by
 have q1 := hx.l
 have q2 := spaceP_ge s x.a
 have q3 := spaceP_le hx.a
 have q4 := hx.st
 have q5 := hx.dp
 have q6 := hx.top
 unfold closeS
 generalize (if kdAt x.l (x.st.headD 0) = 7 then (125 : Int) else 93) = z
 split
 ·rename_i htk
  have h3 := takeP_lt htk
  refine ⟨⟨hx.size, h3, ?_, ?_, ?_, ?_⟩, fun _ => (by show x.a < spaceP s x.a + 1; omega), (fun h => by cases h)⟩
  ·show (setEnd x.l _ _).length ≤ spaceP s x.a + 1
   rw [setEnd_len]; omega
  ·show x.st.tail.length ≤ (setEnd x.l _ _).length
   rw [setEnd_len, List.length_tail]; omega
  ·show x.dp ≤ (setEnd x.l _ _).length
   rw [setEnd_len]; exact q5
  ·intro j hj
   show j < (setEnd x.l _ _).length
   rw [setEnd_len]
   exact q6 j (List.mem_of_mem_tail hj)
 ·exact ⟨⟨hx.size, q3, by show x.l.length ≤ spaceP s x.a; omega, hx.st, hx.dp, hx.top⟩, (fun h => by cases h), fun _ => ⟨q2, rfl⟩⟩
theorem PS.Ok.space {x : PS} {s : ByteArray} (hx : x.Ok s) : PS.Ok { x with a := spaceP s x.a } s :=
 ⟨hx.size, spaceP_le hx.a, Nat.le_trans hx.l (spaceP_ge s x.a), hx.st, hx.dp, hx.top⟩
theorem PS.Ok.take {x : PS} {s : ByteArray} {c : Int} (hx : x.Ok s) (h : takeP s x.a c = true) : PS.Ok { x with a := x.a + 1 } s :=
 ⟨hx.size, takeP_lt h, Nat.le_succ_of_le hx.l, hx.st, hx.dp, hx.top⟩
end Go.Proofs.YtfocognhcljhpaaGreatDoor
namespace Go.Proofs.YtfocognhcljhpaaGreatDoor
open Go.RowKit Go.Proofs.YtfocognhcljhpaaGreatDoorW.PrintWords Go.Proofs.YtfocognhcljhpaaGreatDoorW.PrintMore Go.Proofs.YtfocognhcljhpaaGreatDoor.PPrintRows Go.Proofs.YtfocognhcljhpaaGreatDoor.Tree
theorem At_lv {x : PS} {w : World} {p : Nat} {s : ByteArray} (h : x.At w p s) (n : Nat) : pmeas w p n = n - x.a := by
 obtain ⟨lv, sv, hc, _⟩ := h
 exact pmeas_eq hc n
def RowPost (p : Nat) (s : ByteArray) (w : World) : Option PS → Ending → World → Prop
 | some x, e, w' => e = .returned (.bool (spaceP s x.a == s.size)) ∧ PS.At { x with a := spaceP s x.a } w' p s ∧ PKeep p w w'
 | none, e, w' => e = .returned (.bool false) ∧ PKeep p w w'
set_option maxRecDepth 100000 in
set_option maxHeartbeats 8000000 in
theorem row_p {x0 : PS} {p : Nat} {s : ByteArray} (hx0 : x0.Ok s) (hbs : ∀ (k : Nat) (h : k < s.size), s[k] ≠ 92) (hN : NumOk s) (F : Nat) (hF : s.size - x0.a + 1 ≤ F) (w : World) (h : x0.At w p s) :
  Calls Tryz.prog 63 #[.pointer (some ⟨p, 0, none⟩)] w (RowPost p s w (rowGo s F (some []) x0)) := by
 obtain ⟨R, hR⟩ : ∃ R, rowGo s F (some []) x0 = R := ⟨_, rfl⟩
 rw [hR]
 have HX := Lib.hid h
 have HR := Lib.hid hR
 have HO := Lib.hid hx0
 have HB := Lib.hid hbs
 have HN := Lib.hid hN
 have hsz := hx0.size
 clear h hR hx0 hbs hN
 go_enter Tryz.func63, Tryz.ntmps63
 go_wp2_with fail
 refine wp_scope_straight ?_
 go_wp2_with fail
 refine wp_label ?_
 go_wp2_with fail
 go_loopw [3, 4, 5] (fun v3 v4 v5 wr => ∃ (key : Bs) (x : PS) (f : Nat), v3 = .string ⟨key.toArray⟩ ∧ x.Ok s ∧ x.At wr p s ∧ PKeep p w wr ∧ s.size - x.a + 1 ≤ f ∧ rowGo s f (some key) x = R) (fun v3 v4 v5 wr => pmeas wr p s.size)
 case atStart => exact ⟨[], x0, F, rfl, HO.out, HX.out, PKeep.refl p w, hF, HR.out⟩
 case round =>
  obtain ⟨key, x, f, rfl, hxo, hxa, hk, hf, hr⟩ := hrel
  obtain ⟨f, rfl⟩ : ∃ f', f = f' + 1 := ⟨f - 1, by omega⟩
  have hvo := fun x' o => valueS_ok (x := { x with a := spaceP s x.a }) (key := ⟨key.toArray⟩) (x' := x') (o := o) hxo.space
  have hge := spaceP_ge s x.a
  rw [rowGo] at hr
  have XA := Lib.hid hxa
  have K := Lib.hid hk
  have SP := Lib.hid (fun W h => space_p (p := p) hxo W h)
  have VL := Lib.hid (fun W h => value_p (p := p) hxo.space HB.out HN.out ⟨key.toArray⟩ W h)
  have HRr := Lib.hid hr
  have HLV := Lib.hid (At_lv hxa s.size)
  have hxs : x.a ≤ s.size := hxo.a
  clear hxo hxa hk hr
  obtain ⟨V, hV⟩ : ∃ V, valueS s ⟨key.toArray⟩ { x with a := spaceP s x.a } = V := ⟨_, rfl⟩
  rw [hV] at VL HRr
  simp only [hV] at hvo
  clear hV
  have HVO := Lib.hid hvo
  clear hvo
  go_wp2_with (go_at_call 90; go_must (refine (SP.out _ XA.out).mono ?_))
  (intro e w1; first | (intro hh; obtain ⟨he, hx', hk'⟩ := hh; have hx := hx'; have hk := hk'; clear hx' hk'; subst he) | (intro he hx' hk'; have hx := hx'; have hk := hk'; clear hx' hk'; subst he))
  have X1 := Lib.hid hx
  have K1 := Lib.hid (K.out.trans hk)
  clear hx hk
  cases V with
  | none =>
   obtain rfl : none = R := HRr.out
   go_wp2_with (go_at_call 91; go_must (refine (VL.out _ X1.out).mono ?_))
   (intro e w2; first | (intro hh; obtain ⟨he, hk'⟩ := hh; have hk2 := hk'; clear hk'; subst he) | (intro he hk'; have hk2 := hk'; clear hk'; subst he))
   have K2 := Lib.hid (K1.out.trans hk2)
   clear hk2
   go_wp2_with fail
   refine noGoto_ret ?_
   go_ret
   exact ⟨rfl, K2.out⟩
  | some yy =>
   obtain ⟨x1, o⟩ := yy
   obtain ⟨h1o, h1a, h1t⟩ := HVO.out x1 o rfl
   have h1a : spaceP s x.a < x1.a := h1a
   have h1s := h1o.a
   go_wp2_with (go_at_call 91; go_must (refine (VL.out _ X1.out).mono ?_))
   (intro e w2; first | (intro hh; obtain ⟨he, hx', hk'⟩ := hh; have hx2 := hx'; have hk2 := hk'; clear hx' hk'; subst he) | (intro he hx' hk'; have hx2 := hx'; have hk2 := hk'; clear hx' hk'; subst he))
   have X2 := Lib.hid hx2
   have K2 := Lib.hid (K1.out.trans hk2)
   clear hx2 hk2 HVO
   cases o with
   | false =>
    have hr := HRr.out
    simp only [Bool.false_eq_true, if_false] at hr
    have HR1 := Lib.hid hr
    have H1O := Lib.hid h1o
    clear hr HRr h1o h1t
    go_wp2_with fail
    go_loopw [3, 5] (fun v3 v5 wr => ∃ (y : PS) (g : Nat), y.Ok s ∧ y.At wr p s ∧ PKeep p w wr ∧ s.size - y.a + 1 ≤ g ∧ rowGo s g none y = R ∧ x.a < y.a) (fun v3 v5 wr => pmeas wr p s.size)
    case atStart => exact ⟨x1, f, H1O.out, X2.out, K2.out, by omega, HR1.out, by omega⟩
    case round =>
     obtain ⟨y, g, hyo, hya, hyk, hg, hyr, hxy⟩ := hrel
     obtain ⟨g, rfl⟩ : ∃ g', g = g' + 1 := ⟨g - 1, by omega⟩
     rw [rowGo] at hyr
     have YA := Lib.hid hya
     have YK := Lib.hid hyk
     have YLV := Lib.hid (At_lv hya s.size)
     have hys : y.a ≤ s.size := hyo.a
     have SPy := Lib.hid (fun W h => space_p (p := p) hyo W h)
     have hyso := hyo.space
     have hyge := spaceP_ge s y.a
     obtain ⟨lv, sv, hyc, hyrow, hyop⟩ := hya
     obtain ⟨Ao, co, rfl⟩ := Kd.R_slice hyop
     rw [show (y.st.reverse.map fun (j : Nat) => (j : Int)).length = y.st.length by simp] at hyc
     have c3 := blkc hyc 3 rfl
     clear hyc hyrow hyop hyk
     by_cases hst : y.st = []
     ·rw [if_pos hst] at hyr
      have hn0 : y.st.length = 0 := by rw [hst]; rfl
      rw [hn0] at c3
      have HYR := Lib.hid hyr
      clear hyr hst hn0
      go_wp2_with (go_at_call 90; go_must (refine (SPy.out _ YA.out).mono ?_))
      (intro e w5; first | (intro hh; obtain ⟨he, hx', hk'⟩ := hh; have hx5 := hx'; have hk5 := hk'; clear hx' hk'; subst he) | (intro he hx' hk'; have hx5 := hx'; have hk5 := hk'; clear hx' hk'; subst he))
      have X5 := Lib.hid hx5
      have K5 := Lib.hid (YK.out.trans hk5)
      obtain ⟨lv, sv, hc5, _⟩ := hx5
      have c0 := blkc hc5 0 rfl
      have c1 := blkc hc5 1 rfl
      obtain ⟨b, hb⟩ : ∃ b, (spaceP s y.a == s.size) = b := ⟨_, rfl⟩
      have kb : (((spaceP s y.a : Nat) : Int) == (s.size : Int)) = b := by
       rw [← hb, Bool.eq_iff_iff, beq_iff_eq, beq_iff_eq]
       omega
      have HBB := Lib.hid hb
      clear hk5 hc5 c3 hb
      go_wp2_with fail
      go_big_quiet (fail)
      go_wp2_with fail
      refine noGoto_ret ?_
      go_ret
      rw [← HYR.out]
      exact ⟨by rw [HBB.out]; rfl, X5.out.drew nq, K5.out.trans (PKeep.of_pmv (drewN_pmv p w5 nq))⟩
     ·rw [if_neg hst] at hyr
      obtain ⟨j, st', hj⟩ : ∃ j st', y.st = j :: st' := by cases h : y.st with | nil => exact absurd h hst | cons j s => exact ⟨j, s, rfl⟩
      obtain ⟨m, hm⟩ : ∃ m, y.st.length = m := ⟨_, rfl⟩
      have hm0 : 0 < m := by rw [← hm, hj]; simp
      have k0 : decide ((0 : Int) < (m : Int)) = true := decide_eq_true (by omega)
      have k1 : decide (0 < m) = true := decide_eq_true hm0
      rw [hm] at c3
      have CL := Lib.hid (fun W h => close_p (p := p) hyso j st' hj W h)
      have hco := closeS_ok hyso
      obtain ⟨b, hb⟩ : ∃ b, takeP s (spaceP s y.a) 44 = b := ⟨_, rfl⟩
      have TK := Lib.hid (fun W h => take_q (x := { y with a := spaceP s y.a }) (p := p) hyso.a hsz 44 W h)
      simp only [hb] at TK hyr
      have htko : b = true → PS.Ok { y with a := spaceP s y.a + 1 } s := fun h => PS.Ok.take (c := 44) hyso (by rw [← h]; exact hb)
      have HTO := Lib.hid htko
      have HYR := Lib.hid hyr
      have HCO := Lib.hid hco
      have HJ := Lib.hid hj
      clear hst hyo hyr hb htko hco hyso hj hm
      go_wp2_with (go_at_call 90; go_must (refine (SPy.out _ YA.out).mono ?_))
      (intro e w5; first | (intro hh; obtain ⟨he, hx', hk'⟩ := hh; have hx5 := hx'; have hk5 := hk'; clear hx' hk'; subst he) | (intro he hx' hk'; have hx5 := hx'; have hk5 := hk'; clear hx' hk'; subst he))
      have X5 := Lib.hid hx5
      have K5 := Lib.hid (YK.out.trans hk5)
      clear hx5 hk5 c3
      cases b with
      | true =>
       have hyo2 := HTO.out rfl
       have NM := Lib.hid (fun W h => name_p (p := p) hyo2 HB.out j st' HJ.out W h)
       have hno := fun x' t => nameS_ok (x' := x') (t := t) hyo2
       obtain ⟨N, hN⟩ : ∃ N, nameS s { y with a := spaceP s y.a + 1 } = N := ⟨_, rfl⟩
       have hyr := HYR.out
       simp only [if_true, hN] at hyr
       simp only [hN] at hno
       rw [hN] at NM
       have HYR2 := Lib.hid hyr
       have HNO := Lib.hid hno
       clear hN hyr hyo2 hno HYR HCO HTO
       go_wp2_with (go_at_call 94; go_must (refine (TK.out _ X5.out).mono ?_))
       (intro e w6; first | (intro hh; obtain ⟨he, hx', hk'⟩ := hh; have hx6 := hx'; have hk6 := hk'; clear hx' hk'; subst he) | (intro he hx' hk'; have hx6 := hx'; have hk6 := hk'; clear hx' hk'; subst he))
       have X6 := Lib.hid hx6
       have K6 := Lib.hid (K5.out.trans hk6)
       clear hx6 hk6
       cases N with
       | none =>
        obtain rfl : none = R := HYR2.out
        go_wp2_with (go_at_call 93; go_must (refine (NM.out _ X6.out).mono ?_))
        (intro e w7; first | (intro hh; obtain ⟨⟨tt, he⟩, hk'⟩ := hh; have hk7 := hk'; clear hk'; subst he) | (intro tt he hk'; have hk7 := hk'; clear hk'; subst he) | (intro he1 hk'; obtain ⟨tt, he⟩ := he1; have hk7 := hk'; clear hk'; subst he))
        have K7 := Lib.hid (K6.out.trans hk7)
        clear hk7
        go_wp2_with fail
        refine noGoto_ret ?_
        go_ret
        exact ⟨rfl, K7.out⟩
       | some q =>
        obtain ⟨z, tk⟩ := q
        obtain ⟨hzo, hzy, hzs⟩ := HNO.out z tk rfl
        have hza := hzo.a
        have HZO := Lib.hid hzo
        clear hzo
        go_wp2_with (go_at_call 93; go_must (refine (NM.out _ X6.out).mono ?_))
        (intro e w7; first | (intro hh; obtain ⟨he, hx', hk'⟩ := hh; have hx7 := hx'; have hk7 := hk'; clear hx' hk'; subst he) | (intro he hx' hk'; have hx7 := hx'; have hk7 := hk'; clear hx' hk'; subst he))
        have X7 := Lib.hid hx7
        have K7 := Lib.hid (K6.out.trans hk7)
        clear hx7 hk7
        have hzy : spaceP s y.a + 1 ≤ z.a := hzy
        go_wp2_with fail
        go_roundw
        case rel => exact ⟨tk, z, g, rfl, HZO.out, X7.out, K7.out, by omega, HYR2.out⟩
        case measure => rw [At_lv X7.out, HLV.out]; omega
      | false =>
       go_wp2_with (go_at_call 94; go_must (refine (TK.out _ X5.out).mono ?_))
       (intro e w6; first | (intro hh; obtain ⟨he, hx', hk'⟩ := hh; have hx6 := hx'; have hk6 := hk'; clear hx' hk'; subst he) | (intro he hx' hk'; have hx6 := hx'; have hk6 := hk'; clear hx' hk'; subst he))
       have X6 := Lib.hid (show PS.At { y with a := spaceP s y.a } w6 p s from hx6)
       have K6 := Lib.hid (K5.out.trans hk6)
       clear hx6 hk6
       have hyr := HYR.out
       simp only [Bool.false_eq_true, if_false] at hyr
       obtain ⟨Q, hQ⟩ : ∃ Q, closeS s { y with a := spaceP s y.a } = Q := ⟨_, rfl⟩
       rw [hQ] at hyr
       obtain ⟨Qx, Qb⟩ := Q
       have hco := HCO.out
       rw [hQ] at hco
       have CL2 := CL.out
       simp only [hQ] at CL2
       have CL3 := Lib.hid CL2
       have HCO2 := Lib.hid hco
       have HYR2 := Lib.hid hyr
       clear hQ hyr hco CL2 CL HCO HYR HTO
       cases Qb with
       | false =>
        obtain rfl : none = R := by have := HYR2.out; simpa using this
        go_wp2_with (go_at_call 92; go_must (refine (CL3.out _ X6.out).mono ?_))
        (intro e w7; first | (intro hh; obtain ⟨he, hx', hk'⟩ := hh; have hx7 := hx'; have hk7 := hk'; clear hx' hk'; subst he) | (intro he hx' hk'; have hx7 := hx'; have hk7 := hk'; clear hx' hk'; subst he))
        have K7 := Lib.hid (K6.out.trans hk7)
        clear hx7 hk7
        go_wp2_with fail
        refine noGoto_ret ?_
        go_ret
        exact ⟨rfl, K7.out⟩
       | true =>
        have hyr := HYR2.out
        simp only [if_true] at hyr
        have HYR3 := Lib.hid hyr
        obtain ⟨hqo, hqa, _⟩ := HCO2.out
        have hqa : spaceP s y.a < Qx.a := hqa rfl
        have hqs := hqo.a
        have HQO := Lib.hid hqo
        clear hyr HYR2 HCO2 hqo
        go_wp2_with (go_at_call 92; go_must (refine (CL3.out _ X6.out).mono ?_))
        (intro e w7; first | (intro hh; obtain ⟨he, hx', hk'⟩ := hh; have hx7 := hx'; have hk7 := hk'; clear hx' hk'; subst he) | (intro he hx' hk'; have hx7 := hx'; have hk7 := hk'; clear hx' hk'; subst he))
        have X7 := Lib.hid hx7
        have K7 := Lib.hid (K6.out.trans hk7)
        clear hx7 hk7
        go_wp2_with fail
        go_roundw
        case rel => exact ⟨Qx, g, HQO.out, X7.out, K7.out, by omega, HYR3.out, by omega⟩
        case measure => rw [At_lv X7.out, YLV.out]; omega
   | true =>
    obtain ⟨j, st', hj⟩ : ∃ j st', x1.st = j :: st' := by cases h : x1.st with | nil => exact absurd h (h1t rfl) | cons j s => exact ⟨j, s, rfl⟩
    have CL0 := Lib.hid (fun W h => close_p (p := p) h1o j st' hj W h)
    have hco := closeS_ok h1o
    obtain ⟨Q, hQ⟩ : ∃ Q, closeS s x1 = Q := ⟨_, rfl⟩
    have hr := HRr.out
    simp only [if_true, hQ] at hr
    simp only [hQ] at CL0
    rw [hQ] at hco
    obtain ⟨x2, qb⟩ := Q
    have HR1 := Lib.hid hr
    have HCO0 := Lib.hid hco
    have HJ0 := Lib.hid hj
    clear hr HRr hco hQ h1o h1t hj
    cases qb with
    | true =>
     obtain ⟨h2o, h2a, _⟩ := HCO0.out
     have h2a : x1.a < x2.a := h2a rfl
     have h2s := h2o.a
     have hr := HR1.out
     simp only [if_true] at hr
     have HR2 := Lib.hid hr
     have H2O := Lib.hid h2o
     clear hr HR1 h2o HCO0
     go_wp2_with (go_at_call 92; go_must (refine (CL0.out _ X2.out).mono ?_))
     (intro e w3; first | (intro hh; obtain ⟨he, hx', hk'⟩ := hh; have hx3 := hx'; have hk3 := hk'; clear hx' hk'; subst he) | (intro he hx' hk'; have hx3 := hx'; have hk3 := hk'; clear hx' hk'; subst he))
     have X3 := Lib.hid hx3
     have K3 := Lib.hid (K2.out.trans hk3)
     clear hx3 hk3 CL0
     go_wp2_with fail
     go_loopw [3, 5] (fun v3 v5 wr => ∃ (y : PS) (g : Nat), y.Ok s ∧ y.At wr p s ∧ PKeep p w wr ∧ s.size - y.a + 1 ≤ g ∧ rowGo s g none y = R ∧ x.a < y.a) (fun v3 v5 wr => pmeas wr p s.size)
     case atStart => exact ⟨x2, f, H2O.out, X3.out, K3.out, by omega, HR2.out, by omega⟩
     case round =>
      obtain ⟨y, g, hyo, hya, hyk, hg, hyr, hxy⟩ := hrel
      obtain ⟨g, rfl⟩ : ∃ g', g = g' + 1 := ⟨g - 1, by omega⟩
      rw [rowGo] at hyr
      have YA := Lib.hid hya
      have YK := Lib.hid hyk
      have YLV := Lib.hid (At_lv hya s.size)
      have hys : y.a ≤ s.size := hyo.a
      have SPy := Lib.hid (fun W h => space_p (p := p) hyo W h)
      have hyso := hyo.space
      have hyge := spaceP_ge s y.a
      obtain ⟨lv, sv, hyc, hyrow, hyop⟩ := hya
      obtain ⟨Ao, co, rfl⟩ := Kd.R_slice hyop
      rw [show (y.st.reverse.map fun (j : Nat) => (j : Int)).length = y.st.length by simp] at hyc
      have c3 := blkc hyc 3 rfl
      clear hyc hyrow hyop hyk
      by_cases hst : y.st = []
      ·rw [if_pos hst] at hyr
       have hn0 : y.st.length = 0 := by rw [hst]; rfl
       rw [hn0] at c3
       have HYR := Lib.hid hyr
       clear hyr hst hn0
       go_wp2_with (go_at_call 90; go_must (refine (SPy.out _ YA.out).mono ?_))
       (intro e w5; first | (intro hh; obtain ⟨he, hx', hk'⟩ := hh; have hx5 := hx'; have hk5 := hk'; clear hx' hk'; subst he) | (intro he hx' hk'; have hx5 := hx'; have hk5 := hk'; clear hx' hk'; subst he))
       have X5 := Lib.hid hx5
       have K5 := Lib.hid (YK.out.trans hk5)
       obtain ⟨lv, sv, hc5, _⟩ := hx5
       have c0 := blkc hc5 0 rfl
       have c1 := blkc hc5 1 rfl
       obtain ⟨b, hb⟩ : ∃ b, (spaceP s y.a == s.size) = b := ⟨_, rfl⟩
       have kb : (((spaceP s y.a : Nat) : Int) == (s.size : Int)) = b := by
        rw [← hb, Bool.eq_iff_iff, beq_iff_eq, beq_iff_eq]
        omega
       have HBB := Lib.hid hb
       clear hk5 hc5 c3 hb
       go_wp2_with fail
       go_big_quiet (fail)
       go_wp2_with fail
       refine noGoto_ret ?_
       go_ret
       rw [← HYR.out]
       exact ⟨by rw [HBB.out]; rfl, X5.out.drew nq, K5.out.trans (PKeep.of_pmv (drewN_pmv p w5 nq))⟩
      ·rw [if_neg hst] at hyr
       obtain ⟨j, st', hj⟩ : ∃ j st', y.st = j :: st' := by cases h : y.st with | nil => exact absurd h hst | cons j s => exact ⟨j, s, rfl⟩
       obtain ⟨m, hm⟩ : ∃ m, y.st.length = m := ⟨_, rfl⟩
       have hm0 : 0 < m := by rw [← hm, hj]; simp
       have k0 : decide ((0 : Int) < (m : Int)) = true := decide_eq_true (by omega)
       have k1 : decide (0 < m) = true := decide_eq_true hm0
       rw [hm] at c3
       have CL := Lib.hid (fun W h => close_p (p := p) hyso j st' hj W h)
       have hco := closeS_ok hyso
       obtain ⟨b, hb⟩ : ∃ b, takeP s (spaceP s y.a) 44 = b := ⟨_, rfl⟩
       have TK := Lib.hid (fun W h => take_q (x := { y with a := spaceP s y.a }) (p := p) hyso.a hsz 44 W h)
       simp only [hb] at TK hyr
       have htko : b = true → PS.Ok { y with a := spaceP s y.a + 1 } s := fun h => PS.Ok.take (c := 44) hyso (by rw [← h]; exact hb)
       have HTO := Lib.hid htko
       have HYR := Lib.hid hyr
       have HCO := Lib.hid hco
       have HJ := Lib.hid hj
       clear hst hyo hyr hb htko hco hyso hj hm
       go_wp2_with (go_at_call 90; go_must (refine (SPy.out _ YA.out).mono ?_))
       (intro e w5; first | (intro hh; obtain ⟨he, hx', hk'⟩ := hh; have hx5 := hx'; have hk5 := hk'; clear hx' hk'; subst he) | (intro he hx' hk'; have hx5 := hx'; have hk5 := hk'; clear hx' hk'; subst he))
       have X5 := Lib.hid hx5
       have K5 := Lib.hid (YK.out.trans hk5)
       clear hx5 hk5 c3
       cases b with
       | true =>
        have hyo2 := HTO.out rfl
        have NM := Lib.hid (fun W h => name_p (p := p) hyo2 HB.out j st' HJ.out W h)
        have hno := fun x' t => nameS_ok (x' := x') (t := t) hyo2
        obtain ⟨N, hN⟩ : ∃ N, nameS s { y with a := spaceP s y.a + 1 } = N := ⟨_, rfl⟩
        have hyr := HYR.out
        simp only [if_true, hN] at hyr
        simp only [hN] at hno
        rw [hN] at NM
        have HYR2 := Lib.hid hyr
        have HNO := Lib.hid hno
        clear hN hyr hyo2 hno HYR HCO HTO
        go_wp2_with (go_at_call 94; go_must (refine (TK.out _ X5.out).mono ?_))
        (intro e w6; first | (intro hh; obtain ⟨he, hx', hk'⟩ := hh; have hx6 := hx'; have hk6 := hk'; clear hx' hk'; subst he) | (intro he hx' hk'; have hx6 := hx'; have hk6 := hk'; clear hx' hk'; subst he))
        have X6 := Lib.hid hx6
        have K6 := Lib.hid (K5.out.trans hk6)
        clear hx6 hk6
        cases N with
        | none =>
         obtain rfl : none = R := HYR2.out
         go_wp2_with (go_at_call 93; go_must (refine (NM.out _ X6.out).mono ?_))
         (intro e w7; first | (intro hh; obtain ⟨⟨tt, he⟩, hk'⟩ := hh; have hk7 := hk'; clear hk'; subst he) | (intro tt he hk'; have hk7 := hk'; clear hk'; subst he) | (intro he1 hk'; obtain ⟨tt, he⟩ := he1; have hk7 := hk'; clear hk'; subst he))
         have K7 := Lib.hid (K6.out.trans hk7)
         clear hk7
         go_wp2_with fail
         refine noGoto_ret ?_
         go_ret
         exact ⟨rfl, K7.out⟩
        | some q =>
         obtain ⟨z, tk⟩ := q
         obtain ⟨hzo, hzy, hzs⟩ := HNO.out z tk rfl
         have hza := hzo.a
         have HZO := Lib.hid hzo
         clear hzo
         go_wp2_with (go_at_call 93; go_must (refine (NM.out _ X6.out).mono ?_))
         (intro e w7; first | (intro hh; obtain ⟨he, hx', hk'⟩ := hh; have hx7 := hx'; have hk7 := hk'; clear hx' hk'; subst he) | (intro he hx' hk'; have hx7 := hx'; have hk7 := hk'; clear hx' hk'; subst he))
         have X7 := Lib.hid hx7
         have K7 := Lib.hid (K6.out.trans hk7)
         clear hx7 hk7
         have hzy : spaceP s y.a + 1 ≤ z.a := hzy
         go_wp2_with fail
         go_roundw
         case rel => exact ⟨tk, z, g, rfl, HZO.out, X7.out, K7.out, by omega, HYR2.out⟩
         case measure => rw [At_lv X7.out, HLV.out]; omega
       | false =>
        go_wp2_with (go_at_call 94; go_must (refine (TK.out _ X5.out).mono ?_))
        (intro e w6; first | (intro hh; obtain ⟨he, hx', hk'⟩ := hh; have hx6 := hx'; have hk6 := hk'; clear hx' hk'; subst he) | (intro he hx' hk'; have hx6 := hx'; have hk6 := hk'; clear hx' hk'; subst he))
        have X6 := Lib.hid (show PS.At { y with a := spaceP s y.a } w6 p s from hx6)
        have K6 := Lib.hid (K5.out.trans hk6)
        clear hx6 hk6
        have hyr := HYR.out
        simp only [Bool.false_eq_true, if_false] at hyr
        obtain ⟨Q, hQ⟩ : ∃ Q, closeS s { y with a := spaceP s y.a } = Q := ⟨_, rfl⟩
        rw [hQ] at hyr
        obtain ⟨Qx, Qb⟩ := Q
        have hco := HCO.out
        rw [hQ] at hco
        have CL2 := CL.out
        simp only [hQ] at CL2
        have CL3 := Lib.hid CL2
        have HCO2 := Lib.hid hco
        have HYR2 := Lib.hid hyr
        clear hQ hyr hco CL2 CL HCO HYR HTO
        cases Qb with
        | false =>
         obtain rfl : none = R := by have := HYR2.out; simpa using this
         go_wp2_with (go_at_call 92; go_must (refine (CL3.out _ X6.out).mono ?_))
         (intro e w7; first | (intro hh; obtain ⟨he, hx', hk'⟩ := hh; have hx7 := hx'; have hk7 := hk'; clear hx' hk'; subst he) | (intro he hx' hk'; have hx7 := hx'; have hk7 := hk'; clear hx' hk'; subst he))
         have K7 := Lib.hid (K6.out.trans hk7)
         clear hx7 hk7
         go_wp2_with fail
         refine noGoto_ret ?_
         go_ret
         exact ⟨rfl, K7.out⟩
        | true =>
         have hyr := HYR2.out
         simp only [if_true] at hyr
         have HYR3 := Lib.hid hyr
         obtain ⟨hqo, hqa, _⟩ := HCO2.out
         have hqa : spaceP s y.a < Qx.a := hqa rfl
         have hqs := hqo.a
         have HQO := Lib.hid hqo
         clear hyr HYR2 HCO2 hqo
         go_wp2_with (go_at_call 92; go_must (refine (CL3.out _ X6.out).mono ?_))
         (intro e w7; first | (intro hh; obtain ⟨he, hx', hk'⟩ := hh; have hx7 := hx'; have hk7 := hk'; clear hx' hk'; subst he) | (intro he hx' hk'; have hx7 := hx'; have hk7 := hk'; clear hx' hk'; subst he))
         have X7 := Lib.hid hx7
         have K7 := Lib.hid (K6.out.trans hk7)
         clear hx7 hk7
         go_wp2_with fail
         go_roundw
         case rel => exact ⟨Qx, g, HQO.out, X7.out, K7.out, by omega, HYR3.out, by omega⟩
         case measure => rw [At_lv X7.out, YLV.out]; omega
    | false =>
     obtain ⟨h2o, _, h2a⟩ := HCO0.out
     obtain ⟨h2a, h2t⟩ := h2a rfl
     have h2a : x1.a ≤ x2.a := h2a
     have h2j : x2.st = j :: st' := h2t.trans HJ0.out
     have NM := Lib.hid (fun W h => name_p (p := p) h2o HB.out j st' h2j W h)
     have hno := fun x' t => nameS_ok (x' := x') (t := t) h2o
     obtain ⟨N, hN⟩ : ∃ N, nameS s x2 = N := ⟨_, rfl⟩
     have hr := HR1.out
     simp only [Bool.false_eq_true, if_false, hN] at hr
     simp only [hN] at hno
     rw [hN] at NM
     have HR2 := Lib.hid hr
     have HNO := Lib.hid hno
     clear hN hr hno HR1 HCO0 h2t h2j h2o
     go_wp2_with (go_at_call 92; go_must (refine (CL0.out _ X2.out).mono ?_))
     (intro e w3; first | (intro hh; obtain ⟨he, hx', hk'⟩ := hh; have hx3 := hx'; have hk3 := hk'; clear hx' hk'; subst he) | (intro he hx' hk'; have hx3 := hx'; have hk3 := hk'; clear hx' hk'; subst he))
     have X3 := Lib.hid hx3
     have K3 := Lib.hid (K2.out.trans hk3)
     clear hx3 hk3 CL0
     cases N with
     | none =>
      obtain rfl : none = R := HR2.out
      go_wp2_with (go_at_call 93; go_must (refine (NM.out _ X3.out).mono ?_))
      (intro e w7; first | (intro hh; obtain ⟨⟨tt, he⟩, hk'⟩ := hh; have hk7 := hk'; clear hk'; subst he) | (intro tt he hk'; have hk7 := hk'; clear hk'; subst he) | (intro he1 hk'; obtain ⟨tt, he⟩ := he1; have hk7 := hk'; clear hk'; subst he))
      have K7 := Lib.hid (K3.out.trans hk7)
      clear hk7
      go_wp2_with fail
      refine noGoto_ret ?_
      go_ret
      exact ⟨rfl, K7.out⟩
     | some q =>
      obtain ⟨z, tk⟩ := q
      obtain ⟨hzo, hzy, hzs⟩ := HNO.out z tk rfl
      have hza := hzo.a
      have HZO := Lib.hid hzo
      clear hzo
      go_wp2_with (go_at_call 93; go_must (refine (NM.out _ X3.out).mono ?_))
      (intro e w7; first | (intro hh; obtain ⟨he, hx', hk'⟩ := hh; have hx7 := hx'; have hk7 := hk'; clear hx' hk'; subst he) | (intro he hx' hk'; have hx7 := hx'; have hk7 := hk'; clear hx' hk'; subst he))
      have X7 := Lib.hid hx7
      have K7 := Lib.hid (K3.out.trans hk7)
      clear hx7 hk7
      go_wp2_with fail
      go_roundw
      case rel => exact ⟨tk, z, f, rfl, HZO.out, X7.out, K7.out, by omega, HR2.out⟩
      case measure => rw [At_lv X7.out, HLV.out]; omega
end Go.Proofs.YtfocognhcljhpaaGreatDoor
namespace Go.Proofs.YtfocognhcljhpaaGreatDoor
open Go.RowKit Go.Proofs.YtfocognhcljhpaaGreatDoorW.PrintWords Go.Proofs.YtfocognhcljhpaaGreatDoorW.PrintMore Go.Proofs.YtfocognhcljhpaaGreatDoor.PPrintRows Go.Proofs.YtfocognhcljhpaaGreatDoor.Tree
theorem PKeep.to_below {p B : Nat} {a b : World} (h : PKeep p a b) (hB : B ≤ p) (hs : B ≤ a.heap.size) : Below B a b :=
 ⟨h.os, h.tape, h.output, h.size, fun k hk => by
  have hl : k < a.heap.size := by omega
  have e := Array.getElem?_eq_getElem hl
  rw [e]
  exact h.block k _ e (.inl (by omega))⟩
theorem OpenAt.nil (w : World) (base : Nat) : OpenAt w base (.slice none 0 0) [] := open_of (World.ownsRow_nil _ _ _ _)
def parseS (s : ByteArray) : Int × List Node :=
 if 4096 < s.size then (5, []) else if validL s.data.toList = false then (9, []) else
 match rowGo s (s.size + 1) (some []) ⟨0, [], [], false, 0⟩ with
 | none => (4, [])
 | some x => if (spaceP s x.a == s.size) = false then (4, []) else if x.ln then (9, []) else if limitsV x.l x.dp ≠ 0 then (limitsV x.l x.dp, []) else (0, x.l)
def ParsePost (w : World) (r : Int × List Node) (e : Ending) (w' : World) : Prop :=
 ∃ v, e = .returned (.tuple #[v, .int .i64 r.1]) ∧ RowAt w' w.heap.size v r.2 ∧ Below w.heap.size w w'
set_option maxRecDepth 100000 in
set_option maxHeartbeats 8000000 in
theorem parse_p {s : ByteArray} (hbs : ∀ (k : Nat) (h : k < s.size), s[k] ≠ 92) (hN : NumOk s) (hsz : s.size ≤ 400000)
  (hno : ∀ x, rowGo s (s.size + 1) (some []) ⟨0, [], [], false, 0⟩ = some x → x.l.length ≤ 400000 ∧ ∀ n ∈ x.l, NodeOk x.l.length n) (w : World) :
  Calls Tryz.prog 24 #[.string s] w (ParsePost w (parseS s)) := by
 have HV := Lib.hid (fun W => valid_any s (by omega) W)
 unfold parseS
 by_cases h1 : 4096 < s.size
 ·rw [if_pos h1]
  have k1 : decide ((4096 : Int) < (s.size : Int)) = true := decide_eq_true (by omega)
  have k2 : decide (4096 < s.size) = true := decide_eq_true h1
  clear hbs hN hno
  go_enter Tryz.func24, Tryz.ntmps24
  go_wp2_with fail
  go_ret2
  exact ⟨_, rfl, RowAt.nil _ _, Below.refl _ _⟩
 rw [if_neg h1]
 have k1 : decide ((4096 : Int) < (s.size : Int)) = false := decide_eq_false (by omega)
 have k2 : decide (4096 < s.size) = false := decide_eq_false h1
 obtain ⟨v, hv⟩ : ∃ v, validL s.data.toList = v := ⟨_, rfl⟩
 rw [hv] at HV ⊢
 cases v with
 | false =>
  rw [if_pos rfl]
  clear hbs hN hno
  go_enter Tryz.func24, Tryz.ntmps24
  go_wp2_with (go_at_call 58; go_must (refine (HV.out _).mono ?_))
  (intro e w1; first | (intro hh; obtain ⟨he, hk'⟩ := hh; have hk := hk'; clear hk'; subst he) | (intro he hk'; have hk := hk'; clear hk'; subst he))
  go_wp2_with fail
  go_ret2
  exact ⟨_, rfl, RowAt.nil _ _, hk⟩
 | true =>
  rw [if_neg (by decide)]
  have hx0 : PS.Ok ⟨0, [], [], false, 0⟩ s := ⟨hsz, Nat.zero_le _, Nat.le_refl _, Nat.le_refl _, Nat.le_refl _, (fun j hj => by cases hj)⟩
  obtain ⟨R, hR⟩ : ∃ R, rowGo s (s.size + 1) (some []) ⟨0, [], [], false, 0⟩ = R := ⟨_, rfl⟩
  have RW := Lib.hid (fun (W : World) (h : PS.At ⟨0, [], [], false, 0⟩ W W.heap.size.pred s) => row_p (p := W.heap.size.pred) hx0 hbs hN (s.size + 1) (by show s.size - 0 + 1 ≤ _; omega) W h)
  rw [hR] at RW ⊢
  have hno2 := fun x h => hno x (hR.trans h)
  have HNO := Lib.hid hno2
  clear hbs hN hno hx0 hR hno2 hv
  obtain ⟨Q, hQ⟩ : ∃ Q, (match R with
   | none => (4, [])
   | some x => if (spaceP s x.a == s.size) = false then (4, []) else if x.ln then (9, []) else if limitsV x.l x.dp ≠ 0 then (limitsV x.l x.dp, []) else (0, x.l) : Int × List Node) = Q := ⟨_, rfl⟩
  rw [hQ]
  have HQ := Lib.hid hQ
  clear hQ
  go_enter Tryz.func24, Tryz.ntmps24
  go_wp2_with (go_at_call 58; go_must (refine (HV.out _).mono ?_))
  (intro e w1; first | (intro hh; obtain ⟨he, hk'⟩ := hh; have hk := hk'; clear hk'; subst he) | (intro he hk'; have hk := hk'; clear hk'; subst he))
  have K1 := Lib.hid hk
  clear hk
  obtain ⟨W, hW⟩ : ∃ W, w1.alloc (.cells #[.string s, .int .i64 0, .slice none 0 0, .slice none 0 0, .bool false, .int .i64 0] 106) = W := ⟨_, rfl⟩
  have hp : W.heap.size.pred = w1.heap.size := by rw [← hW]; simp
  have hAt : PS.At ⟨0, [], [], false, 0⟩ W w1.heap.size s := ⟨_, _, by rw [← hW]; exact blk_new _ _, RowAt.nil _ _, OpenAt.nil _ _⟩
  have RW2 := RW.out W (by rw [hp]; exact hAt)
  rw [hp] at RW2
  have KW : Below w.heap.size w W := by rw [← hW]; exact K1.out.trans (below_alloc (Below.refl _ _) _ |>.mono K1.out.size)
  have RW3 := Lib.hid RW2
  have hsz1 := K1.out.size
  clear RW2 RW hAt hp
  cases R with
  | none =>
   obtain rfl : (4, []) = Q := HQ.out
   go_wp2_with (go_at_call 63; go_must (refine RW3.out.mono ?_))
   (intro e w2; first | (intro hh; obtain ⟨he, hk'⟩ := hh; have hk := hk'; clear hk'; subst he) | (intro he hk'; have hk := hk'; clear hk'; subst he))
   have K2 : Below w.heap.size w w2 := KW.trans (hk.to_below hsz1 KW.size)
   clear hk
   go_wp2_with fail
   go_ret2
   exact ⟨_, rfl, RowAt.nil _ _, K2⟩
  | some x =>
   obtain ⟨hl4, hnode⟩ := HNO.out x rfl
   obtain ⟨b, hb⟩ : ∃ b, (spaceP s x.a == s.size) = b := ⟨_, rfl⟩
   have hq : (if (spaceP s x.a == s.size) = false then (4, []) else if x.ln then (9, []) else if limitsV x.l x.dp ≠ 0 then (limitsV x.l x.dp, []) else (0, x.l) : Int × List Node) = Q := HQ.out
   rw [hb] at hq
   have RW4 : Calls Tryz.prog 63 #[.pointer (some ⟨w1.heap.size, 0, none⟩)] W fun e w' => e = .returned (.bool (spaceP s x.a == s.size)) ∧ PS.At { x with a := spaceP s x.a } w' w1.heap.size s ∧ PKeep w1.heap.size W w' := RW3.out
   rw [hb] at RW4
   have RW5 := Lib.hid RW4
   have HQ2 := Lib.hid hq
   have HND := Lib.hid hnode
   clear RW4 RW3 hq HQ hb HNO hnode
   go_wp2_with (go_at_call 63; go_must (refine RW5.out.mono ?_))
   (intro e w2; first | (intro hh; obtain ⟨he, hx', hk'⟩ := hh; have hx := hx'; have hk := hk'; clear hx' hk'; subst he) | (intro he hx' hk'; have hx := hx'; have hk := hk'; clear hx' hk'; subst he))
   have K2 := Lib.hid (KW.trans (hk.to_below hsz1 KW.size))
   cases b with
   | false =>
    obtain rfl : (4, []) = Q := by have := HQ2.out; rwa [if_pos rfl] at this
    go_wp2_with fail
    go_ret2
    exact ⟨_, rfl, RowAt.nil _ _, K2.out⟩
   | true =>
    have hq := HQ2.out
    rw [if_neg (by decide)] at hq
    obtain ⟨lv, sv, hC, hrw, hop⟩ := hx
    have hC : PCell w2 w1.heap.size s (spaceP s x.a) lv sv x.ln x.dp := hC
    have hrw : RowAt w2 w1.heap.size lv x.l := hrw
    have c4 := blkc hC 4 rfl
    cases hln : x.ln with
    | true =>
     rw [hln] at hq c4
     obtain rfl : (9, []) = Q := by rwa [if_pos rfl] at hq
     clear hC hrw hop hk
     go_wp2_with fail
     go_ret2
     exact ⟨_, rfl, RowAt.nil _ _, K2.out⟩
    | false =>
     rw [hln] at hq c4
     rw [if_neg (by decide)] at hq
     obtain ⟨A, c, rfl, hlc⟩ := hrw.slice
     have c2 := blkc hC 2 rfl
     have c5 := blkc hC 5 rfl
     have LM := Lib.hid (fun W hW => limits_any A c x.l (x.dp : Int) W hW hlc (by omega) HND.out)
     have HRW := Lib.hid hrw
     have hp2 : w1.heap.size < w2.heap.size := blk_lt hC
     have HC := Lib.hid hC
     obtain ⟨lm, hlm⟩ : ∃ lm, limitsV x.l x.dp = lm := ⟨_, rfl⟩
     rw [hlm] at LM hq
     have HQ3 := Lib.hid hq
     clear hC hrw hop hk HQ2 hlm hq HND
     go_upto_region 10 with (fail)
     go_cut [5] (fun v5 wc => v5 = .int .i64 lm ∧ Below w2.heap.size w2 wc)
     case first =>
      go_region_with (go_at_call 59; refine (LM.out _ (RowAt.C (w := w2.drew) HRW.out (by omega))).mono ?_; rintro e w9 ⟨rfl, hk⟩; have K9 := Lib.hid hk; clear hk)
      all_goals (go_wp2_with fail; go_meet)
      all_goals exact ⟨rfl, (below_drew (Below.refl _ _)).trans K9.out⟩
     case rest =>
      obtain ⟨rfl, hk⟩ := hcut
      have K3 := Lib.hid (K2.out.trans (hk.mono K2.out.size))
      have hp : wc.heap[w1.heap.size]? = _ := (hk.block w1.heap.size hp2).trans HC.out
      have hrw := HRW.out.keep (w1 := wc) (fun k hk2 => hk.block k (row_lt HRW.out k hk2))
      have d2 := blkc hp 2 rfl
      have hq := HQ3.out
      by_cases h0 : lm = 0
      ·subst h0
       obtain rfl : (0, x.l) = Q := by rwa [if_neg (by simp)] at hq
       clear hp hk c2 c4 c5
       go_wp2_with fail
       go_ret2
       exact ⟨_, rfl, ⟨hrw.1, own_weaken hrw hsz1 |>.2⟩, K3.out⟩
      ·obtain rfl : (lm, []) = Q := by rwa [if_pos h0] at hq
       have k0 : (lm == 0) = false := by rw [beq_eq_false_iff_ne]; exact h0
       clear hp hk c2 c4 c5
       go_wp2_with fail
       go_ret2
       exact ⟨_, rfl, RowAt.nil _ _, K3.out⟩
end Go.Proofs.YtfocognhcljhpaaGreatDoor
namespace Go.Proofs.YtfocognhcljhpaaGreatDoor
open Go.RowKit Go.Proofs.YtfocognhcljhpaaGreatDoorW.PrintWords Go.Proofs.YtfocognhcljhpaaGreatDoorW.PrintMore Go.Proofs.YtfocognhcljhpaaGreatDoor.PPrintRows Go.Proofs.YtfocognhcljhpaaGreatDoor.Tree
def ChkIs (A : Option Addr) (c : Nat) (l : List Node) (cv : Int) : Prop :=
 ∀ W, Kd.C kN W A l.length l → Calls Tryz.prog 21 #[.slice A l.length c] W fun e w' => e = .returned (.int .i64 cv) ∧ Below W.heap.size W w'
set_option maxRecDepth 100000 in
set_option maxHeartbeats 2000000 in
theorem sort_ok (A : Option Addr) (c : Nat) (t : Tr) (hsh : t.sh = true) (hu : t.uniq = true) (hsz : t.size ≤ 100000) (hc : (rowT t).length ≤ c) (w : World) (hr : Kd.C kN w A (rowT t).length (rowT t)) (hAb : ∀ a, A = some a → a.block < w.heap.size) (hcv : ChkIs A c (rowT t) 0) :
  Calls Tryz.prog 14 #[.slice A (rowT t).length c] w fun e w' => ∃ v, e = .returned (.tuple #[v, .int .i64 0]) ∧ RowAt w' w.heap.size v (rowT (srt t)) ∧ Below w.heap.size w w' := by
 have HCV := Lib.hid (hcv w hr)
 have hlen := rowT_len t
 have SRT := Lib.hid (fun (W : World) (hb : Below w.heap.size w W) => sorted_any A c (rowT t) (by omega) hc (fun k h => ⟨(rowT_at t k h).1, (rowT_at t k h).2.1⟩) t.size t 0 (-1) [] (Nat.le_refl _) (rowT_drop t) hsh hu w.heap.size W (.slice none 0 0) [] (-1) (RowAt.nil _ _) (by simp; omega) hb.size (Kd.C_below hr hb) hAb)
 clear hcv hr hAb hlen
 obtain ⟨L, hL⟩ : ∃ L, rowT t = L := ⟨_, rfl⟩
 rw [hL] at SRT HCV ⊢
 clear hL hc
 go_enter Tryz.func14, Tryz.ntmps14
 go_wp2_with (first | (go_at_call 21; go_must (refine HCV.out.mono ?_); rintro e w1 ⟨rfl, hb⟩; have B1 := Lib.hid hb; clear hb) | (go_at_call 46; go_must (refine (SRT.out _ B1.out).mono ?_); rintro e w2 ⟨v, rfl, hR, hG, hO⟩; have R2 := Lib.hid hR; have G2 := Lib.hid hG; clear hR hG hO))
 go_ret2
 exact ⟨v, rfl, R2.out, B1.out.grown G2.out B1.out.size (fun k e => by cases e)⟩
def canonV (t : Tr) : ByteArray := ⟨(prT quoteL (srt t)).toArray⟩
set_option maxRecDepth 100000 in
set_option maxHeartbeats 2000000 in
theorem canon_ok (s : ByteArray) (t : Tr) (hsh : t.sh = true) (hsh2 : (srt t).sh = true) (hu : t.uniq = true) (hsz : t.size ≤ 100000) (htx : t.tx (fun b => decide (b.size ≤ 100000)) = true) (w : World)
  (hp : ∀ W, Calls Tryz.prog 24 #[.string s] W (ParsePost W (0, rowT t))) (hc1 : ∀ A c, (rowT t).length ≤ c → ChkIs A c (rowT t) 0) (hc2 : ∀ A c, (rowT (srt t)).length ≤ c → ChkIs A c (rowT (srt t)) 0) (hlen : (prT quoteL (srt t)).length ≤ 4096) :
  Calls Tryz.prog 22 #[.string s] w fun e w' => e = .returned (.tuple #[.string (canonV t), .int .i64 0]) ∧ Below w.heap.size w w' := by
 have hok2 : RowOk (rowT (srt t)) := rowT_nodeOk (srt t) (by rw [srt_size]; exact hsz) (by rw [srt_tx]; exact htx)
 have hcat : catL (pcsL (rowT (srt t))) = prT quoteL (srt t) := pcsL_tree (srt t) hsh2
 have hpv : printV (rowT (srt t)) 0 = canonV t := by unfold printV canonV; rw [if_pos rfl, hcat]
 have hsize : (canonV t).size ≤ 4096 := by unfold canonV; show (prT quoteL (srt t)).toArray.size ≤ 4096; simpa using hlen
 have HP := Lib.hid (show Calls Tryz.prog 24 #[.string s] w (fun e w' => ∃ v, e = .returned (.tuple #[v, .int .i64 0]) ∧ RowAt w' w.heap.size v (rowT t) ∧ Below w.heap.size w w') from hp w)
 have HS := Lib.hid (fun (W : World) A c (hc : (rowT t).length ≤ c) (hr : Kd.C kN W A (rowT t).length (rowT t)) (hAb : ∀ a, A = some a → a.block < W.heap.size) => sort_ok A c t hsh hu hsz hc W hr hAb (hc1 A c hc))
 have HPR := Lib.hid (fun (W : World) A c (hc : (rowT (srt t)).length ≤ c) (hr : Kd.C kN W A (rowT (srt t)).length (rowT (srt t))) (hAb : ∀ a, A = some a → a.block < W.heap.size) => hpv ▸ print_any A c (rowT (srt t)) 0 W hr hc hAb (hc2 A c hc) (fun _ => hok2) (fun _ => by rw [hcat]; omega))
 have hl1 : (rowT t).length ≤ 100000 := by rw [rowT_len]; exact hsz
 have hl2 : (rowT (srt t)).length ≤ 100000 := by rw [rowT_len, srt_size]; exact hsz
 have HSZ := Lib.hid hsize
 clear hp hc1 hc2 hpv hcat hok2 hlen
 obtain ⟨q, hq⟩ : ∃ q, canonV t = q := ⟨_, rfl⟩
 obtain ⟨L1, hL1⟩ : ∃ L, rowT t = L := ⟨_, rfl⟩
 obtain ⟨L2, hL2⟩ : ∃ L, rowT (srt t) = L := ⟨_, rfl⟩
 rw [hq] at HSZ HPR hsize ⊢
 rw [hL1] at HP HS hl1
 rw [hL2] at HS HPR hl2
 have k1 : decide ((4096 : Int) < (q.size : Int)) = false := decide_eq_false (by omega)
 have k2 : decide (4096 < q.size) = false := decide_eq_false (by omega)
 clear hq hL1 hL2 HSZ
 go_enter Tryz.func22, Tryz.ntmps22
 go_wp2_with (go_at_call 24; go_must (refine HP.out.mono ?_))
 rintro e w1 ⟨v, rfl, hR, hB⟩
 obtain ⟨A1, c1, rfl, hc1⟩ := hR.slice
 have hRC := hR.C (by show L1.length ≤ _; omega)
 have hA1 : ∀ a, A1 = some a → a.block < w1.heap.size := fun a ha => by subst ha; exact row_lt hR a.block rfl
 have HS1 := Lib.hid (HS.out w1 A1 c1 hc1 hRC hA1)
 have B1 := Lib.hid hB
 clear hR hB hRC hA1
 go_wp2_with (go_at_call 14; go_must (refine HS1.out.mono ?_))
 rintro e w2 ⟨v2, rfl, hR, hB⟩
 obtain ⟨A2, c2, rfl, hc2⟩ := hR.slice
 have hRC := hR.C (by omega)
 have hA2 : ∀ a, A2 = some a → a.block < w2.heap.size := fun a ha => by subst ha; exact row_lt hR a.block rfl
 have HP2 := Lib.hid (HPR.out w2 A2 c2 hc2 hRC hA2)
 have B2 := Lib.hid (below_step B1.out hB)
 clear hR hB hRC hA2
 go_wp2_with (go_at_call 13; go_must (refine HP2.out.mono ?_); rintro e w3 ⟨rfl, hb⟩; have B3 := Lib.hid (below_step B2.out hb); clear hb)
 go_ret2
 exact ⟨rfl, B3.out⟩
end Go.Proofs.YtfocognhcljhpaaGreatDoor
namespace Go.Proofs.YtfocognhcljhpaaGreatDoor
open Go.RowKit Go.Proofs.YtfocognhcljhpaaGreatDoorW.PrintWords Go.Proofs.YtfocognhcljhpaaGreatDoorW.PrintMore Go.Proofs.YtfocognhcljhpaaGreatDoor.PPrintRows Go.Proofs.YtfocognhcljhpaaGreatDoor.Tree
def mxD (D : List Nd) : Nat → Nat
 | 0 => 0
 | i + 1 => max (mxD D i) (dpt D (i + 1) (i : Int))
theorem mxD_le (D : List Nd) (m : Nat) : ∀ i, (∀ j, j < i → dpt D (j + 1) (j : Int) ≤ m) → mxD D i ≤ m
 | 0, _ => Nat.zero_le _
 | i + 1, h => by
  rw [mxD]
  have := mxD_le D m i (fun j hj => h j (by omega))
  have := h i (by omega)
  omega
theorem mxD_ge (D : List Nd) : ∀ (i j : Nat), j < i → dpt D (j + 1) (j : Int) ≤ mxD D i
 | i + 1, j, h => by
  rw [mxD]
  by_cases e : j = i
  ·subst e; omega
  ·have := mxD_ge D i j (by omega); omega
theorem mxD_tree (t : Tr) : mxD (t.flat (-1) 0) t.size = t.depth := by
 obtain ⟨h1, j, h2, h3⟩ := tree_depth t
 have a := mxD_le (t.flat (-1) 0) t.depth t.size (fun j hj => h1 j hj (j + 1) (by omega))
 have b := mxD_ge (t.flat (-1) 0) t.size j h2
 rw [h3 (j + 1) (by omega)] at b
 omega
theorem dpt_at (l : List Node) (i : Nat) (hi : i < l.length) (f : Nat) : dpt (l.map toD) (f + 1) (i : Int) = (if 6 ≤ l[i].f0 then 1 else 0) + dpt (l.map toD) f l[i].f3 := by
 rw [dpt, if_neg (by omega), Int.toNat_natCast, (enAt_D l i hi).2, List.getElem?_map, List.getElem?_eq_getElem hi]
 rfl
theorem dpt_le (D : List Nd) : ∀ (f : Nat) (k : Int), dpt D f k ≤ f
 | 0, _ => by rw [dpt]; exact Nat.le_refl _
 | f + 1, k => by
  rw [dpt]
  split
  ·omega
  ·exact Nat.le_trans (Nat.add_le_add (show (if 6 ≤ kindAt D k.toNat then 1 else 0) ≤ 1 by split <;> omega) (dpt_le D f _)) (by omega)
theorem mxD_lei (D : List Nd) (i : Nat) : mxD D i ≤ i := mxD_le D i i (fun j hj => Nat.le_trans (dpt_le D (j + 1) j) (by omega))
theorem depth_go (l : List Node) (hll : l.length ≤ 1000000000) (ha : Ahead (l.map toD)) : ∀ (m i : Nat), i + m = l.length → ∀ (at_ : List Int), at_.length = l.length → (∀ j, j < i → at_[j]? = some ((dpt (l.map toD) (j + 1) (j : Int) : Nat) : Int)) → (∀ j, i ≤ j → j < l.length → at_[j]? = some 0) →
  ∀ k, 2 * m + 1 ≤ k → PRef.json_Depth.l0 k ((mxD (l.map toD) i : Nat) : Int) at_ l (l.length : Int) (i : Int) = some ((mxD (l.map toD) l.length : Nat) : Int)
 | 0, i, him, at_, hlen, hlo, hhi, k, hk => by
  obtain ⟨k, rfl⟩ : ∃ k', k = k' + 1 := ⟨k - 1, by omega⟩
  rw [PRef.json_Depth.l0, if_neg (by omega), show i = l.length by omega]
 | m + 1, i, him, at_, hlen, hlo, hhi, k, hk => by
  obtain ⟨k, rfl⟩ : ∃ k', k = k' + 2 := ⟨k - 2, by omega⟩
  have hi : i < l.length := by omega
  have hpar : l[i].f3 < (i : Int) := by
   have := ha i (toD l[i]) (by rw [List.getElem?_map, List.getElem?_eq_getElem hi]; rfl)
   exact this
  rw [PRef.json_Depth.l0, if_pos (by omega), if_pos (by omega), if_pos (by omega), rd_node l i hi]
  have hd := dpt_at l i hi i
  obtain ⟨n, hn⟩ : ∃ n, l[i] = n := ⟨_, rfl⟩
  rw [hn] at hpar hd ⊢
  have hbi := mxD_lei (l.map toD) i
  have hbd := dpt_le (l.map toD) i n.f3
  -- the cell of place i, once it holds the parent's
  have step : ∀ (y : List Int), y.length = l.length → (∀ j, j < i → y[j]? = some ((dpt (l.map toD) (j + 1) (j : Int) : Nat) : Int)) → (∀ j, i + 1 ≤ j → j < l.length → y[j]? = some 0) → y[i]? = some ((dpt (l.map toD) (i + 1) (i : Int) : Nat) : Int) →
    PRef.json_Depth.l0 k (mx ((mxD (l.map toD) i : Nat) : Int) (rd y (i : Int))) y l (l.length : Int) (wrap64 ((i : Int) + 1)) = some ((mxD (l.map toD) l.length : Nat) : Int) := by
   intro y h1 h2 h3 h4
   have e1 : rd y (i : Int) = ((dpt (l.map toD) (i + 1) (i : Int) : Nat) : Int) := by
    unfold rd
    rw [Int.toNat_natCast, List.getD_eq_getElem?_getD, h4]
    rfl
   have e2 : mx ((mxD (l.map toD) i : Nat) : Int) (((dpt (l.map toD) (i + 1) (i : Int) : Nat)) : Int) = ((mxD (l.map toD) (i + 1) : Nat) : Int) := by
    rw [mxD]
    unfold mx
    split <;> omega
   rw [e1, e2, w64 _ (by omega) (by omega), show (i : Int) + 1 = ((i + 1 : Nat) : Int) by omega]
   exact depth_go l hll ha m (i + 1) (by omega) y h1 (fun j hj => by
    by_cases e : j = i
    ·subst e; exact h4
    ·exact h2 j (by omega)) h3 k (by omega)
  have bump : ∀ (y : List Int), y.length = l.length → (∀ j, j < i → y[j]? = some ((dpt (l.map toD) (j + 1) (j : Int) : Nat) : Int)) → (∀ j, i + 1 ≤ j → j < l.length → y[j]? = some 0) → y[i]? = some ((dpt (l.map toD) i n.f3 : Nat) : Int) →
    (if n.f0 ≥ 6 then ((some (y.set ((i : Int)).toNat (wrap64 ((rd y (i : Int)) + 1)) : List Int)).bind fun y2 => PRef.json_Depth.l0 k (mx ((mxD (l.map toD) i : Nat) : Int) (rd y2 (i : Int))) y2 l (l.length : Int) (wrap64 ((i : Int) + 1)))
     else PRef.json_Depth.l0 k (mx ((mxD (l.map toD) i : Nat) : Int) (rd y (i : Int))) y l (l.length : Int) (wrap64 ((i : Int) + 1))) = some ((mxD (l.map toD) l.length : Nat) : Int) := by
   intro y h1 h2 h3 h4
   have e1 : rd y (i : Int) = ((dpt (l.map toD) i n.f3 : Nat) : Int) := by
    unfold rd
    rw [Int.toNat_natCast, List.getD_eq_getElem?_getD, h4]
    rfl
   by_cases h6 : n.f0 ≥ 6
   ·rw [if_pos h6, Option.bind_some, e1, w64 _ (by omega) (by omega), Int.toNat_natCast]
    rw [if_pos h6] at hd
    refine step _ (by rw [List.length_set]; exact h1) (fun j hj => by rw [List.getElem?_set_ne (by omega)]; exact h2 j hj) (fun j hj hj2 => by rw [List.getElem?_set_ne (by omega)]; exact h3 j hj hj2) ?_
    rw [List.getElem?_set_self (by omega), hd]
    congr 1
    omega
   ·rw [if_neg h6]
    rw [if_neg h6, Nat.zero_add] at hd
    exact step y h1 h2 h3 (by rw [hd]; exact h4)
  by_cases hp : n.f3 ≥ 0
  ·rw [if_pos hp, PRef.json_Depth.j1, if_pos (decide_eq_true hpar), if_pos hp, if_pos (by rw [hlen]; omega), if_pos (by omega), if_pos (by rw [hlen]; omega), Option.bind_some]
   obtain ⟨p, hpn⟩ : ∃ p : Nat, n.f3 = (p : Int) := ⟨n.f3.toNat, by omega⟩
   have e3 : rd at_ n.f3 = ((dpt (l.map toD) i n.f3 : Nat) : Int) := by
    rw [hpn]
    unfold rd
    rw [Int.toNat_natCast, List.getD_eq_getElem?_getD, hlo p (by omega)]
    show ((dpt (l.map toD) (p + 1) (p : Int) : Nat) : Int) = _
    rw [dpt_more (l.map toD) ha (p + 1) i (p : Int) (by omega) (by omega)]
   rw [e3, Int.toNat_natCast]
   have := bump (at_.set i ((dpt (l.map toD) i n.f3 : Nat) : Int)) (by rw [List.length_set]; exact hlen) (fun j hj => by rw [List.getElem?_set_ne (by omega)]; exact hlo j hj) (fun j hj hj2 => by rw [List.getElem?_set_ne (by omega)]; exact hhi j (by omega) hj2) (List.getElem?_set_self (by omega))
   rw [Int.toNat_natCast] at this
   exact this
  ·rw [if_neg hp, PRef.json_Depth.j1, if_neg (by decide)]
   have e3 : dpt (l.map toD) i n.f3 = 0 := by
    cases i with
    | zero => rfl
    | succ i => rw [dpt, if_pos (by omega)]
   have := bump at_ hlen hlo (fun j hj hj2 => hhi j (by omega) hj2) (by rw [e3]; exact hhi i (Nat.le_refl _) hi)
   by_cases h6 : n.f0 ≥ 6
   ·rw [if_pos h6] at this ⊢
    rw [if_pos (by omega), if_pos (by rw [hlen]; omega)]
    exact this
   ·rw [if_neg h6] at this ⊢
    rw [if_pos (by omega), if_pos (by rw [hlen]; omega)]
    exact this
theorem depth_f (l : List Node) (hll : l.length ≤ 1000000000) (ha : Ahead (l.map toD)) : ∃ k, PRef.json_Depth.f k l = some ((mxD (l.map toD) l.length : Nat) : Int) := by
 refine ⟨2 * l.length + 1, ?_⟩
 unfold PRef.json_Depth.f
 rw [if_pos (by omega), if_pos (by rw [Int.toNat_natCast]; omega), Int.toNat_natCast]
 exact depth_go l hll ha l.length 0 (by omega) (List.replicate l.length 0) (by simp) (fun j h => by omega) (fun j _ h => by rw [List.getElem?_replicate, if_pos h]) _ (Nat.le_refl _)
def chkP (l : List Node) : Int := if laidP isNumL (l.map toD) = true then (if badTexts l = true then 9 else limitsV l (mxD (l.map toD) l.length)) else 4
theorem laid_tree_of {l : List Node} (h : laidP isNumL (l.map toD) = true) : ∃ t : Tr, t.ok isNumL false = true ∧ l = rowT t := by
 obtain ⟨t, h1, h2⟩ := laid_flat isNumL (l.map toD) h
 exact ⟨t, h1, by unfold rowT; rw [← h2, map_toN_toD]⟩
theorem tree_laid (t : Tr) (h : t.ok isNumL false = true) : laidP isNumL ((rowT t).map toD) = true := by rw [rowT_D]; exact flat_laid isNumL t h
theorem chk_any (A : Option Addr) (c : Nat) (l : List Node) (hc : l.length ≤ c) (hl : l.length ≤ 100000) (htx : ∀ n ∈ l, n.f1.size ≤ 100000 ∧ n.f2.size ≤ 100000) : ChkIs A c l (chkP l) := fun W hW => by
 unfold chkP
 have hlf := laid_f l (fun n hn => by have := htx n hn; omega) (by omega)
 cases hlv : laidP isNumL (l.map toD) with
 | false =>
  rw [hlv] at hlf
  rw [if_neg (by decide)]
  have h := check_any A c l false 0 W hW hc (by omega) (fun h => by cases h) hlf (fun h => by cases h)
  unfold checkV at h
  rw [if_neg (by decide)] at h
  exact h
 | true =>
  rw [hlv] at hlf
  rw [if_pos rfl]
  obtain ⟨t, ht, rfl⟩ := laid_tree_of hlv
  have ha : Ahead ((rowT t).map toD) := by rw [rowT_D]; exact tree_ahead t
  have hok : ∀ n ∈ rowT t, NodeOk (rowT t).length n := fun n hn => by
   obtain ⟨j, hj, rfl⟩ := List.getElem_of_mem hn
   have h1 := rowT_at t j hj
   have h2 := htx _ hn
   exact ⟨by omega, by omega, by omega, by omega⟩
  have h := check_any A c (rowT t) true ((mxD ((rowT t).map toD) (rowT t).length : Nat) : Int) W hW hc (by omega) (fun _ => hok) hlf (fun _ => depth_f (rowT t) (by omega) ha)
  unfold checkV at h
  rw [if_pos rfl] at h
  exact h
theorem bad_tree (t : Tr) : badTexts (rowT t) = !t.tx (fun b => validL b.data.toList) := by
 rw [← flat_tx (fun b => validL b.data.toList) t (-1) 0]
 unfold badTexts rowT
 rw [List.any_map, List.any_eq_not_all_not]
 congr 1
 congr 1
 funext n
 show (!(!validL n.key.data.toList || !validL n.text.data.toList)) = _
 rw [Bool.not_or, Bool.not_not, Bool.not_not]
theorem kindI_eq (l : List Node) (p : Int) : 0 ≤ p → kindAtI l p = kindI (l.map toD) p := by
 intro h
 obtain ⟨j, rfl⟩ : ∃ j : Nat, p = (j : Int) := ⟨p.toNat, by omega⟩
 rw [kindI_nat]
 unfold kindAtI rd_T48 kindAt
 rw [Int.toNat_natCast, List.getD_eq_getElem?_getD, List.getElem?_map]
 cases l[j]? <;> rfl
theorem tw_mem (l : List Node) : ∀ (r : List Node) (seen : List (Int × Bytes)), twGo l seen r = false ↔ (mem (l.map toD) (r.map toD)).Nodup ∧ ∀ x ∈ mem (l.map toD) (r.map toD), x ∉ seen
 | [], seen => by rw [twGo]; simp [mem]
 | n :: r, seen => by
  rw [twGo]
  by_cases h1 : n.f3 < 0 ∨ kindAtI l n.f3 ≠ 7
  ·rw [if_pos h1, tw_mem l r seen]
   have h2 : (toD n).parent < 0 ∨ kindI (l.map toD) (toD n).parent ≠ 7 := by
    rcases Int.lt_or_le n.f3 0 with h | h
    ·exact .inl h
    ·refine .inr ?_
     show kindI (l.map toD) n.f3 ≠ 7
     rw [← kindI_eq l n.f3 h]
     exact h1.resolve_left (by omega)
   unfold mem
   rw [List.map_cons, List.filterMap_cons_none (by rw [if_pos h2])]
  ·rw [if_neg h1]
   have hp : 0 ≤ n.f3 := by
    rcases Int.lt_or_le n.f3 0 with h | h
    ·exact absurd (.inl h) h1
    ·exact h
   have h2 : ¬ ((toD n).parent < 0 ∨ kindI (l.map toD) (toD n).parent ≠ 7) := by
    show ¬ (n.f3 < 0 ∨ kindI (l.map toD) n.f3 ≠ 7)
    rw [← kindI_eq l n.f3 hp]
    exact h1
   have e : mem (l.map toD) ((n :: r).map toD) = (n.f3, n.f1.data.toList) :: mem (l.map toD) (r.map toD) := by
    unfold mem
    rw [List.map_cons, List.filterMap_cons_some (b := (n.f3, n.f1.data.toList)) (by rw [if_neg h2]; rfl)]
   rw [e]
   by_cases h3 : (n.f3, n.f1.data.toList) ∈ seen
   ·rw [if_pos h3]
    constructor
    ·intro h; cases h
    ·rintro ⟨_, h⟩; exact absurd h3 (h _ (List.mem_cons_self))
   ·rw [if_neg h3, tw_mem l r]
    rw [List.nodup_cons]
    constructor
    ·rintro ⟨a, b⟩
     refine ⟨⟨fun h => ?_, a⟩, fun x hx => ?_⟩
     ·exact b _ h (List.mem_cons_self)
     ·rcases List.mem_cons.1 hx with rfl | hx
      ·exact h3
      ·exact fun h => b x hx (List.mem_cons_of_mem _ h)
    ·rintro ⟨⟨a, b⟩, c⟩
     refine ⟨b, fun x hx h => ?_⟩
     rcases List.mem_cons.1 h with rfl | h
     ·exact a hx
     ·exact c x (List.mem_cons_of_mem _ hx) h
theorem tw_uniq (t : Tr) : twGo (rowT t) [] (rowT t) = !t.uniq := by
 have h := tw_mem (rowT t) (rowT t) []
 rw [rowT_D, mem_uniq] at h
 cases hu : t.uniq with
 | true => exact h.2 ⟨hu, fun _ _ h => by cases h⟩
 | false =>
  cases ht : twGo (rowT t) [] (rowT t) with
  | true => rfl
  | false => have := (h.1 ht).1; rw [hu] at this; cases this
structure TreeOk (t : Tr) : Prop where
 ok : t.ok isNumL false = true
 tx : t.tx (fun b => validL b.data.toList) = true
 depth : t.depth ≤ 8
 size : t.size ≤ 256
 uniq : t.uniq = true
theorem chk_tree (t : Tr) (h : t.ok isNumL false = true) : chkP (rowT t) = if t.tx (fun b => validL b.data.toList) = true then (if 8 < t.depth then 8 else if 256 < t.size then 6 else if t.uniq = true then 0 else 10) else 9 := by
 unfold chkP
 rw [tree_laid t h, if_pos rfl, bad_tree]
 have e : mxD ((rowT t).map toD) (rowT t).length = t.depth := by rw [rowT_D, rowT_len]; exact mxD_tree t
 rw [e]
 unfold limitsV
 rw [tw_uniq, rowT_len]
 cases t.tx (fun b => validL b.data.toList) with
 | false => rfl
 | true =>
  rw [if_neg (by decide), if_pos rfl]
  by_cases h1 : 8 < t.depth
  ·rw [if_pos (by omega), if_pos h1]
  ·rw [if_neg (by omega), if_neg h1]
   by_cases h2 : 256 < t.size
   ·rw [if_pos h2, if_pos h2]
   ·rw [if_neg h2, if_neg h2]
    cases t.uniq <;> rfl
theorem chk_zero {l : List Node} (h : chkP l = 0) : ∃ t : Tr, TreeOk t ∧ l = rowT t := by
 cases hlv : laidP isNumL (l.map toD) with
 | false => unfold chkP at h; rw [hlv, if_neg (by decide)] at h; cases h
 | true =>
  obtain ⟨t, ht, rfl⟩ := laid_tree_of hlv
  rw [chk_tree t ht] at h
  by_cases h0 : t.tx (fun b => validL b.data.toList) = true
  ·rw [if_pos h0] at h
   by_cases h1 : 8 < t.depth
   ·rw [if_pos h1] at h; cases h
   ·rw [if_neg h1] at h
    by_cases h2 : 256 < t.size
    ·rw [if_pos h2] at h; cases h
    ·rw [if_neg h2] at h
     by_cases h3 : t.uniq = true
     ·exact ⟨t, ⟨ht, h0, by omega, by omega, h3⟩, rfl⟩
     ·rw [if_neg h3] at h; cases h
  ·rw [if_neg h0] at h; cases h
theorem TreeOk.srt {t : Tr} (h : TreeOk t) : TreeOk (srt t) :=
 ⟨by rw [srt_ok]; exact h.ok, by rw [srt_tx]; exact h.tx, by rw [srt_depth]; exact h.depth, by rw [srt_size]; exact h.size, by rw [srt_uniq]; exact h.uniq⟩
end Go.Proofs.YtfocognhcljhpaaGreatDoor
namespace Go.Proofs.YtfocognhcljhpaaGreatDoor
open Go.RowKit Go.Shelf Go.Proofs.YtfocognhcljhpaaGreatDoorW.PrintWords Go.Proofs.YtfocognhcljhpaaGreatDoorW.PrintMore Go.Proofs.YtfocognhcljhpaaGreatDoor.PPrintRows Go.Proofs.YtfocognhcljhpaaGreatDoor.Tree
attribute [local go_sem] Oper.semAt_some
abbrev tFn : TypeId := 113
structure MvM (N : Nat) (A B : World) : Prop where
 os : B.os = A.os
 tape : B.tape = A.tape
 output : B.output = A.output
 size : A.heap.size ≤ B.heap.size
 block : ∀ (k : Nat) (o : Obj), A.heap[k]? = some o → (k < N ∨ o.isCells = true) → B.heap[k]? = some o
def KpM (A : Option Addr) (N : Nat) (X Y : World) : Prop :=
 X.heap.size ≤ Y.heap.size ∧ (∀ (k : Nat) (o : Obj), X.heap[k]? = some o → N ≤ k → o.isCells = false → Y.heap[k]? = some o) ∧
  (∀ (k : Nat) (cs : Array Value) (T : TypeId), X.heap[k]? = some (.cells cs T (0, 0)) → (T = 22 ∨ N ≤ k ∧ (T = 3 ∨ T = tFn)) → Y.heap[k]? = some (.cells cs T (0, 0))) ∧ ∀ a, A = some a → Y.heap[a.block]? = X.heap[a.block]?
theorem KpM.trans {A : Option Addr} {N : Nat} {X Y Z : World} (h : KpM A N X Y) (k : KpM A N Y Z) : KpM A N X Z :=
 ⟨Nat.le_trans h.1 k.1, fun j o hj hN ho => k.2.1 j o (h.2.1 j o hj hN ho) hN ho, fun j cs T hj hT => k.2.2.1 j cs T (h.2.2.1 j cs T hj hT) hT, fun a ha => (k.2.2.2 a ha).trans (h.2.2.2 a ha)⟩
def mEnc (x : ByteArray × Nat) : Array Value := #[.string x.1, .int .i64 (x.2 : Int)]
def mPr (l : List Node) (k : Nat) : ByteArray × Nat := (keyAt l k, k)
def membersL (l : List Node) (i : Nat) : List (ByteArray × Nat) := if kndAt l i = 7 then (itemsL l i).map (mPr l) else []
theorem KpM.putObj {A : Option Addr} {N : Nat} {X : World} {l : Nat} {o o' : Obj} (hlN : l < N) (hA : ∀ a, A = some a → a.block ≠ l) (ho : X.heap[l]? = some o) (hc : o.isCells = false) : KpM A N X (X.putObj l o') :=
 ⟨by simp [World.putObj], fun k p hk hN _ => (World.putObj_heap_other (by omega)).trans hk, fun k cs T hk _ => (World.putObj_heap_other (fun e => by rw [e, ho] at hk; cases hk; cases hc)).trans hk, fun a ha => World.putObj_heap_other (hA a ha)⟩
structure Chg (S : Nat → Prop) (X Y : World) : Prop where
 os : Y.os = X.os
 tape : Y.tape = X.tape
 output : Y.output = X.output
 size : X.heap.size ≤ Y.heap.size
 block : ∀ k, k < X.heap.size → ¬ S k → Y.heap[k]? = X.heap[k]?
theorem Chg.trans {S : Nat → Prop} {X Y Z : World} (h : Chg S X Y) (k : Chg S Y Z) : Chg S X Z := ⟨k.os.trans h.os, k.tape.trans h.tape, k.output.trans h.output, Nat.le_trans h.size k.size, fun j hj hs => (k.block j (Nat.lt_of_lt_of_le hj h.size) hs).trans (h.block j hj hs)⟩
theorem Chg.setCell {S : Nat → Prop} {X : World} {b off : Nat} {v : Value} (hs : S b) : Chg S X (X.setCell ⟨b, off, none⟩ v) := ⟨rfl, rfl, rfl, by simp [World.setCell], fun k _ hk => Below.heap_setCell _ _ _ _ (fun e => hk (e ▸ hs))⟩
end Go.Proofs.YtfocognhcljhpaaGreatDoor
namespace Go.Proofs.YtfocognhcljhpaaGreatDoor
open Go.RowKit Go.Proofs.YtfocognhcljhpaaGreatDoor.Tree
theorem ba_eq {b : ByteArray} (h : (b == ⟨#[]⟩) = true) : b = ⟨#[]⟩ := by
 cases b with
 | mk d =>
  have h2 : (d == #[]) = true := h
  rw [eq_of_beq h2]
def prM (m : Mb) : ByteArray × List Node := (m.1, m.2.2)
def laysP (out : List Node) (ps : List (ByteArray × List Node)) : List Node := ps.foldl (fun o m => o ++ layV o.length 0 m.1 m.2) out
end Go.Proofs.YtfocognhcljhpaaGreatDoor
namespace Go.Proofs.YtfocognhcljhpaaGreatDoor
open Go.RowKit Go.Shelf Go.Proofs.YtfocognhcljhpaaGreatDoorW.PrintWords Go.Proofs.YtfocognhcljhpaaGreatDoorW.PrintMore Go.Proofs.YtfocognhcljhpaaGreatDoor.PPrintRows Go.Proofs.YtfocognhcljhpaaGreatDoor.Tree
attribute [local go_sem] Oper.semAt_some
def MemsAt (W : World) (A : Option Addr) (ms : List Mb) : Prop := ∀ (q : Nat) m, ms[q]? = some m → ∃ ad, A = some ad ∧ ad.block < W.heap.size ∧ W.cell? (ad.add (q * 2)) = some (.string m.1) ∧ W.cell? ⟨(ad.add (q * 2)).block, (ad.add (q * 2)).off + 1, none⟩ = some (mbSl m)
def RowsAt (W : World) (A : Option Addr) (ms : List Mb) : Prop := ∀ (q : Nat) m, ms[q]? = some m → ∃ ad, A = some ad ∧ ad.block < W.heap.size ∧ W.cell? (ad.add q) = some (mbSl m) ∧ m.1 = ⟨#[]⟩
end Go.Proofs.YtfocognhcljhpaaGreatDoor
namespace Go.Proofs.YtfocognhcljhpaaGreatDoor
open Go.RowKit Go.Shelf Go.Proofs.YtfocognhcljhpaaGreatDoorW.PrintWords Go.Proofs.YtfocognhcljhpaaGreatDoorW.PrintLast Go.Proofs.YtfocognhcljhpaaGreatDoorW.PrintMore Go.Proofs.YtfocognhcljhpaaGreatDoor.PPrintRows Go.Proofs.YtfocognhcljhpaaGreatDoor.Tree
theorem eqA_node (d : Nat) (w : World) (x0 y0 : Int) (x1 y1 : ByteArray) (x2 y2 : ByteArray) (x3 y3 : Int) (x4 y4 : Int) :
  (Op.equalIn (d + 2) 48 (.agg #[.int .i64 x0, .string x1, .string x2, .int .i64 x3, .int .i64 x4]) (.agg #[.int .i64 y0, .string y1, .string y2, .int .i64 y3, .int .i64 y4])).run Tryz.prog w = .ok ((x0 == y0) && ((x1.toList == y1.toList) && ((x2.toList == y2.toList) && ((x3 == y3) && (x4 == y4))))) w := by
 refine eqA_of Tryz.underlying48 (by kernel_rfl) ?_
 refine eqf_cons (by rfl) (by go_simp; rfl) (by go_simp; rfl) (by go_simp) ?_
 refine eqf_cons (by rfl) (by go_simp; rfl) (by go_simp; rfl) (by go_simp) ?_
 refine eqf_cons (by rfl) (by go_simp; rfl) (by go_simp; rfl) (by go_simp) ?_
 refine eqf_cons (by rfl) (by go_simp; rfl) (by go_simp; rfl) (by go_simp) ?_
 exact eqf_last (by rfl) (by go_simp; rfl) (by go_simp; rfl) (by go_simp)
attribute [local go_sem high] eqA_node
theorem node7_info : (Tryz.prog.info? 47).map (fun i => (i.zero, i.size, i.bytes)) = some (some (.agg #[.int .i64 0, .string ⟨#[]⟩, .string ⟨#[]⟩, .int .i64 0, .int .i64 0]), 5, 56) := by kernel_rfl
def Row7 (w : World) (base : Nat) (v : Value) (l : List Node) : Prop := w.ownsRow base 47 5 v l.length (ncells l)
theorem row7_append {W : World} {base : Nat} {v : Value} {l : List Node} (h : Row7 W base v l) (n : Node) (hl : l.length ≤ 900000) (hbase : base ≤ W.heap.size) :
  ∃ v' w', (Builtin.append_ #[32, 32] 32 #[v, .slice (some ⟨W.heap.size, 0, none⟩) 1 1]).run Tryz.prog (W.alloc (.cells (nodeC n).toArray 47)) = .ok v' w' ∧ Row7 w' base v' (l ++ [n]) ∧ (W.alloc (.cells (nodeC n).toArray 47)).grownBy w' v.ownBlock := by
 obtain ⟨i0, hi0, hz0, hz1, hz2⟩ := info_parts node7_info
 obtain ⟨v', w', h1, h2, h3, h4, h5⟩ := run_append_own_at (P := Tryz.prog) (w := W.alloc (.cells (nodeC n).toArray 47)) base 32 32 47 i0 _ 5 56 Tryz.underlying32 hi0 hz0 hz1 hz2 rfl (by decide) v l.length (ncells l) (World.ownsRow.alloc h _) ⟨W.heap.size, 0, none⟩ 1 1 (nodeC n) rfl
  (fun j u hj => by rw [Lib.add_plain, Nat.zero_add]; rw [World.cell?_alloc_new]; simpa using hj) (nodeC_one n) (by unfold maxLen; omega) (by omega) (by simp; omega)
 refine ⟨v', w', h1, ?_, h3⟩
 unfold Row7
 rw [List.length_append, ncells_app, ncells_one]
 exact h2
theorem Row7.keep {w w1 : World} {base : Nat} {v : Value} {l : List Node} (h : Row7 w base v l) (hk : ∀ k, v.ownBlock = some k → w1.heap[k]? = w.heap[k]?) : Row7 w1 base v l := by
 obtain ⟨h0, h1 | ⟨g, cap, cur, rfl, hb, hg, r⟩⟩ := h
 ·exact ⟨h0, .inl h1⟩
 ·exact ⟨h0, .inr ⟨g, cap, cur, rfl, hb, (hk g rfl).trans hg, r⟩⟩
theorem Row7.slice {w : World} {base : Nat} {v : Value} {l : List Node} (h : Row7 w base v l) : ∃ A c, v = .slice A l.length c ∧ l.length ≤ c := by
 obtain ⟨_, ⟨rfl, h0⟩ | ⟨g, cap, cur, rfl, _, _, hc, _⟩⟩ := h
 ·exact ⟨none, 0, by rw [h0], by omega⟩
 ·exact ⟨_, _, rfl, hc⟩
theorem Row7.own {w : World} {base : Nat} {v : Value} {l : List Node} (h : Row7 w base v l) : ∀ k, v.ownBlock = some k → base ≤ k ∧ k < w.heap.size := by
 intro k hk
 rcases h.2 with ⟨rfl, _⟩ | ⟨g, cap, cur, rfl, hb, hg, _⟩
 ·cases hk
 ·obtain rfl : g = k := by simpa [Value.ownBlock] using hk
  exact ⟨hb, blk_lt hg⟩
theorem node7_at {w : World} {base n c : Nat} {A : Option Addr} {l : List Node} (h : Row7 w base (.slice A n c) l) (k : Nat) (hk : k < l.length) : ∃ ad, A = some ad ∧ w.cell? (ad.add (k * 5)) = some (.int .i64 l[k].f0) ∧
  w.cell? ⟨(ad.add (k * 5)).block, (ad.add (k * 5)).off + 1, none⟩ = some (.string l[k].f1) ∧ w.cell? ⟨(ad.add (k * 5)).block, (ad.add (k * 5)).off + 2, none⟩ = some (.string l[k].f2) ∧
  w.cell? ⟨(ad.add (k * 5)).block, (ad.add (k * 5)).off + 3, none⟩ = some (.int .i64 l[k].f3) ∧ w.cell? ⟨(ad.add (k * 5)).block, (ad.add (k * 5)).off + 4, none⟩ = some (.int .i64 l[k].f4) := by
 have hcl := fun g hg => World.ownsRow.cells h (g := g) hg
 obtain ⟨_, ⟨e, h0⟩ | ⟨g, cap, cur, e, _⟩⟩ := h
 ·exact absurd (List.length_eq_zero_iff.1 h0) (fun e => by rw [e] at hk; simp at hk)
 ·injection e with e1 e2 e3
  subst e1
  have cl : ∀ (i : Nat) u, i < 5 → (nodeC l[k])[i]? = some u → w.cell? ⟨g, k * 5 + i, none⟩ = some u := fun i u hi hu => by
   have := hcl g rfl (k * 5 + i) u (by rw [ncells_at l k i hk hi]; exact hu)
   rw [Lib.add_plain, Nat.zero_add] at this
   exact this
  have ea : (⟨g, 0, none⟩ : Addr).add (k * 5) = ⟨g, k * 5, none⟩ := by rw [Lib.add_plain, Nat.zero_add]
  refine ⟨_, rfl, ?_⟩
  rw [ea]
  exact ⟨cl 0 _ (by omega) rfl, cl 1 _ (by omega) rfl, cl 2 _ (by omega) rfl, cl 3 _ (by omega) rfl, cl 4 _ (by omega) rfl⟩
set_option maxRecDepth 100000 in
set_option maxHeartbeats 4000000 in
theorem to_any (A : Option Addr) (cap : Nat) (l : List Node) (hl : l.length ≤ 400000) (W : World) (hC : Kd.C kN W A l.length l) :
  Calls Tryz.prog 18 #[.slice A l.length cap] W fun e w' => ∃ v, e = .returned v ∧ Row7 w' W.heap.size v l ∧ Below W.heap.size W w' := by
 have HC := Lib.hid hC
 clear hC
 go_enter Tryz.func18, Tryz.ntmps18
 go_wp2_with fail
 go_loopw [3, 8] (fun v0 vi wr => ∃ (q : Nat) (A3 : Option Addr) (c3 n3 : Nat) (L3 : List Node), q ≤ l.length ∧ vi = .int .i64 (q : Int) ∧ v0 = .slice A3 n3 c3 ∧ n3 = L3.length ∧ Row7 wr W.heap.size (.slice A3 n3 c3) L3 ∧ L3 = l.take q ∧ Below W.heap.size W wr)
  (fun _ vi _ => l.length - (intOf vi).toNat)
 case atStart => exact ⟨0, none, 0, 0, [], Nat.zero_le _, rfl, rfl, rfl, World.ownsRow_nil _ _ _ _, by simp, Below.refl _ _⟩
 case round =>
  obtain ⟨q, A3, c3, n3, L3, hq, rfl, rfl, rfl, hR3, hL3, hB3⟩ := hrel
  by_cases hlt : q < l.length
  ·have k9 : decide ((q : Int) < (l.length : Int)) = true := decide_eq_true (by omega)
   have k10 : decide (q < l.length) = true := decide_eq_true hlt
   have HLT := Lib.hid hlt
   obtain ⟨ad, rfl, d0, d1, d2, d3, d4⟩ := node_at (Kd.C_below HC.out hB3) q hlt
   have hL3l : L3.length ≤ 400000 := by rw [hL3, List.length_take]; omega
   have htk : l.take (q + 1) = l.take q ++ [l[q]] := List.take_succ_eq_append_getElem hlt
   generalize hx : l[q] = x at d0 d1 d2 d3 d4 htk
   obtain ⟨x0, x1, x2, x3, x4⟩ := x
   dsimp only at d0 d1 d2 d3 d4
   have fin : ∃ A5 n5 c5 w5, (Builtin.append_ #[32, 32] 32 #[.slice A3 L3.length c3, .slice (some ⟨wr.heap.size + 1, 0, none⟩) 1 1]).run Tryz.prog ((wr.alloc (.cells #[.int .i64 x0, .string x1, .string x2, .int .i64 x3, .int .i64 x4] 48)).alloc (.cells #[.int .i64 x0, .string x1, .string x2, .int .i64 x3, .int .i64 x4] 47)) = .ok (.slice A5 n5 c5) w5 ∧
     Hid (n5 = (L3 ++ [(⟨x0, x1, x2, x3, x4⟩ : Node)]).length ∧ Row7 w5 W.heap.size (.slice A5 n5 c5) (L3 ++ [⟨x0, x1, x2, x3, x4⟩]) ∧ L3 ++ [(⟨x0, x1, x2, x3, x4⟩ : Node)] = l.take (q + 1) ∧ Below W.heap.size W w5) := by
    obtain ⟨Wa, hWa⟩ : ∃ Wa, wr.alloc (.cells #[.int .i64 x0, .string x1, .string x2, .int .i64 x3, .int .i64 x4] 48) = Wa := ⟨_, rfl⟩
    have hsa : Wa.heap.size = wr.heap.size + 1 := by rw [← hWa]; simp
    have hba : Below wr.heap.size wr Wa := by rw [← hWa]; exact below_alloc (Below.refl _ _) _
    have hwb := hB3.size
    obtain ⟨v5, w5, hr, hR5, hG5⟩ := row7_append (W := Wa) (hR3.keep (fun k hk => hba.block k (hR3.own k hk).2)) ⟨x0, x1, x2, x3, x4⟩ (by omega) (by omega)
    obtain ⟨A5, c5, rfl, _⟩ := hR5.slice
    refine ⟨A5, _, c5, w5, by rw [hWa, ← hsa]; exact hr, Lib.hid ⟨rfl, hR5, by rw [htk, hL3], ?_⟩⟩
    exact (below_alloc (below_step hB3 hba) _).grown hG5 (by simp; omega) (fun k e => (hR3.own k e).1)
   obtain ⟨A5, n5, c5, w5, hr2, hF⟩ := fin
   have HF5 := Lib.hid hF.out
   clear hF hR3 hL3 hB3 htk hx
   go_wp2_with (at_builtin; refine wpList_append_runI _ rfl _ _ 32 32 rfl _ _ rfl rfl hr2 ?_)
   go_roundw
   case rel =>
    obtain ⟨h1, h2, h3, h4⟩ := HF5.out
    exact ⟨q + 1, A5, c5, n5, _, HLT.out, by go_num, rfl, h1, h2, h3, h4⟩
   case measure => have := HLT.out; simp [intOf]; omega
  ·have k9 : decide ((q : Int) < (l.length : Int)) = false := decide_eq_false (by omega)
   have k10 : decide (q < l.length) = false := decide_eq_false hlt
   have hLL : L3 = l := by rw [hL3, List.take_of_length_le (by omega)]
   subst hLL
   have R3 := Lib.hid hR3
   have B3 := Lib.hid hB3
   clear hL3 hR3 hB3
   go_wp2_with fail
   go_ret
   exact ⟨_, rfl, R3.out, B3.out⟩
end Go.Proofs.YtfocognhcljhpaaGreatDoor
namespace Go.Proofs.YtfocognhcljhpaaGreatDoor
open Go.RowKit Go.Shelf Go.Proofs.YtfocognhcljhpaaGreatDoorW.PrintWords Go.Proofs.YtfocognhcljhpaaGreatDoorW.PrintLast Go.Proofs.YtfocognhcljhpaaGreatDoorW.PrintMore Go.Proofs.YtfocognhcljhpaaGreatDoor.PPrintRows Go.Proofs.YtfocognhcljhpaaGreatDoor.Tree
def memC (m : Mb) : List Value := [.string m.1, mbSl m]
def mcells (ms : List Mb) : List Value := ms.flatMap memC
def OwnM (w : World) (base : Nat) (v : Value) (ms : List Mb) : Prop := w.ownsRow base 54 2 v ms.length (mcells ms)
theorem own_slice {w : World} {base e size n : Nat} {v : Value} {xs : List Value} (h : w.ownsRow base e size v n xs) : ∃ A c, v = .slice A n c ∧ n ≤ c := by
 obtain ⟨_, ⟨rfl, h0⟩ | ⟨g, cap, cur, rfl, _, _, hc, _⟩⟩ := h
 ·exact ⟨none, 0, by rw [h0], by omega⟩
 ·exact ⟨_, _, rfl, hc⟩
def rcells (ms : List Mb) : List Value := ms.map mbSl
def OwnR (w : World) (base : Nat) (v : Value) (ms : List Mb) : Prop := w.ownsRow base 22 1 v ms.length (rcells ms)
end Go.Proofs.YtfocognhcljhpaaGreatDoor
