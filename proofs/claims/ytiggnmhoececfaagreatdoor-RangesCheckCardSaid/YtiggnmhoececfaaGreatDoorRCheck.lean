/- RangesCheck, where everything is light. -/
import Derived.Test.YtiggnmhoececfaaGreatDoorLaw18
import Derived.Test.YtiggnmhoececfaaGreatDoorRef18b
import Derived.Lib.QuietBelow
namespace Go.Proofs.YtiggnmhoececfaaGreatDoor
set_option linter.unusedVariables false
set_option linter.unusedSimpArgs false
open Go.RowKit Go.Proofs.YtiggnmhoececfaaGreatDoorW.PrintWords Go.Proofs.YtiggnmhoececfaaGreatDoorW.PrintMore

set_option maxHeartbeats 16000000 in
set_option maxRecDepth 1000000 in
theorem rcheck_walk (f t n lo hi c o : ByteArray) (m E X M : Int) (hs ez : Bool) (w : World) (hG : Glob w)
    (li : ∀ W, Calls Tryz.prog 8 #[rangeV f t n lo hi m] W fun e w' => e = .returned (.bool true) ∧ Below W.heap.size W w')
    (hM : ∀ ats ty, Builtin.max_ ats ty #[.int .i64 c.size, .int .i64 o.size] = pure (.int .i64 M)) (hM2 : decide (60 < M) = false)
    (ch : ∀ W, Glob W → Calls Tryz.prog 9 #[rangeV f t n lo hi m] W fun e w' => e = .returned (.int .i64 E) ∧ Below W.heap.size W w')
    (rc : ∀ W, Calls Tryz.prog 10 #[rangeV f t n lo hi m] W fun e w' => e = .returned (.int .i64 E) ∧ Below W.heap.size W w')
    (cm : ∀ W, Calls Tryz.prog 11 #[.string c, .string o] W fun e w' => e = .returned (.int .i64 X) ∧ Below W.heap.size W w')
    (ha : ∀ W, Calls Tryz.prog 12 #[rangeV f t n lo hi m, .string c] W fun e w' => e = .returned (.bool hs) ∧ Below W.heap.size W w')
    (hez : (E != 0) = ez)
    (rh : ez = false → ∀ W, Calls Tryz.prog 13 #[rangeV f t n lo hi m, .string c] W fun e w' => e = .returned (.bool hs) ∧ Below W.heap.size W w')
    (hcase : (c.size < o.size ∧ X = -1) ∨ (o.size < c.size ∧ X = 1) ∨ (c.size = o.size ∧ Op.bytesLess c.toList o.toList = true ∧ X = -1) ∨
      (c.size = o.size ∧ Op.bytesLess c.toList o.toList = false ∧ (c.toList == o.toList) = false ∧ X = 1) ∨ (c.size = o.size ∧ Op.bytesLess c.toList o.toList = false ∧ (c.toList == o.toList) = true ∧ X = 0)) :
    Calls Tryz.prog 3 #[rangeV f t n lo hi m, .string c, .string o] w fun e w' => e = .returned (.bool true) ∧ Below w.heap.size w w' := by
  have HC := Lib.hid (CellsAt.new w (rangeC f t n lo hi m) 23)
  have HB := Lib.hid (below_alloc (Below.refl w.heap.size w) (.cells (rangeC f t n lo hi m).toArray 23))
  have AW := Lib.hid (awake18_any (w.alloc (.cells (rangeC f t n lo hi m).toArray 23)) (hG.below HB.out))
  have LI := Lib.hid li
  have CH := Lib.hid ch
  have RC := Lib.hid rc
  have CM := Lib.hid cm
  have HA := Lib.hid ha
  have RHX := Lib.hid rh
  clear li ch rc cm ha rh
  cases ez
  · have RH := Lib.hid (RHX.out rfl)
    clear RHX
    rcases hcase with ⟨h1, rfl⟩ | ⟨h1, rfl⟩ | ⟨h1, k4, rfl⟩ | ⟨h1, k4, k5, rfl⟩ | ⟨h1, k4, k5, rfl⟩
    · skip
      have k1 : decide ((c.size : Int) < (o.size : Int)) = true := by rw [decide_eq_true_eq]; omega
      have n1 : decide (c.size < o.size) = true := by rw [decide_eq_true_eq]; omega
      have k3 : decide ((o.size : Int) < (c.size : Int)) = false := by rw [decide_eq_false_iff_not]; omega
      have n3 : decide (o.size < c.size) = false := by rw [decide_eq_false_iff_not]; omega
      have k2 : ((c.size : Int) == (o.size : Int)) = false := by rw [beq_eq_false_iff_ne, ne_eq]; omega
      have n2 : (c.size == o.size) = false := by rw [beq_eq_false_iff_ne, ne_eq]; omega
      clear h1
      go_enter Tryz.func3, Tryz.ntmps3
      go_wp2_with (first
        | (go_at_call 7; go_must (refine AW.out.mono ?_); rintro e w1 ⟨rfl, hb⟩; have B1 := Lib.hid (below_step HB.out hb); have N1 := Lib.hid (HC.out.below hb); have a0 := N1.out.get (j := 0) rfl; have a1 := N1.out.get (j := 1) rfl; have a2 := N1.out.get (j := 2) rfl; have a3 := N1.out.get (j := 3) rfl; have a4 := N1.out.get (j := 4) rfl; have a5 := N1.out.get (j := 5) rfl; clear hb)
        | (go_at_call 8; go_must (refine (LI.out _).mono ?_); rintro e w2 ⟨rfl, hb⟩; have B2 := Lib.hid (below_step B1.out hb); have N2 := Lib.hid (N1.out.below hb); have b0 := N2.out.get (j := 0) rfl; have b1 := N2.out.get (j := 1) rfl; have b2 := N2.out.get (j := 2) rfl; have b3 := N2.out.get (j := 3) rfl; have b4 := N2.out.get (j := 4) rfl; have b5 := N2.out.get (j := 5) rfl; clear hb)
        | (go_at_call 9; go_must (refine (CH.out _ (hG.below B2.out)).mono ?_); rintro e w3 ⟨rfl, hb⟩; have B3 := Lib.hid (below_step B2.out hb); have N3 := Lib.hid (N2.out.below hb); clear hb))
      clear a0 a1 a2 a3 a4 a5 b0 b1 b2 b3 b4 b5
      have q0 := fun d os => cell_regrown (N3.out.get (j := 0) rfl) d os
      have q1 := fun d os => cell_regrown (N3.out.get (j := 1) rfl) d os
      have q2 := fun d os => cell_regrown (N3.out.get (j := 2) rfl) d os
      have q3 := fun d os => cell_regrown (N3.out.get (j := 3) rfl) d os
      have q4 := fun d os => cell_regrown (N3.out.get (j := 4) rfl) d os
      have q5 := fun d os => cell_regrown (N3.out.get (j := 5) rfl) d os
      refine wp_region_quiet_below (by kernel_rfl) (by kernel_rfl) ?_
      repeat (first | go_big_quiet_step (first
                | (go_at_call 10; with_reducible exact Calls.regrown_of (RC.out _))
                | (go_at_call 11; with_reducible exact Calls.regrown_of (CM.out _))
                | (go_at_call 12; with_reducible exact Calls.regrown_of (HA.out _))
                | (go_at_call 13; with_reducible exact Calls.regrown_of (RH.out _))) | quiet_step (first
                | (go_at_call 10; with_reducible exact Calls.regrown_of (RC.out _))
                | (go_at_call 11; with_reducible exact Calls.regrown_of (CM.out _))
                | (go_at_call 12; with_reducible exact Calls.regrown_of (HA.out _))
                | (go_at_call 13; with_reducible exact Calls.regrown_of (RH.out _))))
      refine wpQuiet_nil ?_
      intro _ hw'
      obtain ⟨⟨dq, osq⟩, hw''⟩ := hw'
      subst hw''
      go_wp2
      go_ret
      exact ⟨rfl, below_step B3.out (below_regrown _ _ _)⟩
    · skip
      have k1 : decide ((c.size : Int) < (o.size : Int)) = false := by rw [decide_eq_false_iff_not]; omega
      have n1 : decide (c.size < o.size) = false := by rw [decide_eq_false_iff_not]; omega
      have k3 : decide ((o.size : Int) < (c.size : Int)) = true := by rw [decide_eq_true_eq]; omega
      have n3 : decide (o.size < c.size) = true := by rw [decide_eq_true_eq]; omega
      have k2 : ((c.size : Int) == (o.size : Int)) = false := by rw [beq_eq_false_iff_ne, ne_eq]; omega
      have n2 : (c.size == o.size) = false := by rw [beq_eq_false_iff_ne, ne_eq]; omega
      clear h1
      go_enter Tryz.func3, Tryz.ntmps3
      go_wp2_with (first
        | (go_at_call 7; go_must (refine AW.out.mono ?_); rintro e w1 ⟨rfl, hb⟩; have B1 := Lib.hid (below_step HB.out hb); have N1 := Lib.hid (HC.out.below hb); have a0 := N1.out.get (j := 0) rfl; have a1 := N1.out.get (j := 1) rfl; have a2 := N1.out.get (j := 2) rfl; have a3 := N1.out.get (j := 3) rfl; have a4 := N1.out.get (j := 4) rfl; have a5 := N1.out.get (j := 5) rfl; clear hb)
        | (go_at_call 8; go_must (refine (LI.out _).mono ?_); rintro e w2 ⟨rfl, hb⟩; have B2 := Lib.hid (below_step B1.out hb); have N2 := Lib.hid (N1.out.below hb); have b0 := N2.out.get (j := 0) rfl; have b1 := N2.out.get (j := 1) rfl; have b2 := N2.out.get (j := 2) rfl; have b3 := N2.out.get (j := 3) rfl; have b4 := N2.out.get (j := 4) rfl; have b5 := N2.out.get (j := 5) rfl; clear hb)
        | (go_at_call 9; go_must (refine (CH.out _ (hG.below B2.out)).mono ?_); rintro e w3 ⟨rfl, hb⟩; have B3 := Lib.hid (below_step B2.out hb); have N3 := Lib.hid (N2.out.below hb); clear hb))
      clear a0 a1 a2 a3 a4 a5 b0 b1 b2 b3 b4 b5
      have q0 := fun d os => cell_regrown (N3.out.get (j := 0) rfl) d os
      have q1 := fun d os => cell_regrown (N3.out.get (j := 1) rfl) d os
      have q2 := fun d os => cell_regrown (N3.out.get (j := 2) rfl) d os
      have q3 := fun d os => cell_regrown (N3.out.get (j := 3) rfl) d os
      have q4 := fun d os => cell_regrown (N3.out.get (j := 4) rfl) d os
      have q5 := fun d os => cell_regrown (N3.out.get (j := 5) rfl) d os
      refine wp_region_quiet_below (by kernel_rfl) (by kernel_rfl) ?_
      repeat (first | go_big_quiet_step (first
                | (go_at_call 10; with_reducible exact Calls.regrown_of (RC.out _))
                | (go_at_call 11; with_reducible exact Calls.regrown_of (CM.out _))
                | (go_at_call 12; with_reducible exact Calls.regrown_of (HA.out _))
                | (go_at_call 13; with_reducible exact Calls.regrown_of (RH.out _))) | quiet_step (first
                | (go_at_call 10; with_reducible exact Calls.regrown_of (RC.out _))
                | (go_at_call 11; with_reducible exact Calls.regrown_of (CM.out _))
                | (go_at_call 12; with_reducible exact Calls.regrown_of (HA.out _))
                | (go_at_call 13; with_reducible exact Calls.regrown_of (RH.out _))))
      refine wpQuiet_nil ?_
      intro _ hw'
      obtain ⟨⟨dq, osq⟩, hw''⟩ := hw'
      subst hw''
      go_wp2
      go_ret
      exact ⟨rfl, below_step B3.out (below_regrown _ _ _)⟩
    · skip
      have k1 : decide ((c.size : Int) < (o.size : Int)) = false := by rw [decide_eq_false_iff_not]; omega
      have n1 : decide (c.size < o.size) = false := by rw [decide_eq_false_iff_not]; omega
      have k3 : decide ((o.size : Int) < (c.size : Int)) = false := by rw [decide_eq_false_iff_not]; omega
      have n3 : decide (o.size < c.size) = false := by rw [decide_eq_false_iff_not]; omega
      have k2 : ((c.size : Int) == (o.size : Int)) = true := by rw [beq_iff_eq]; omega
      have n2 : (c.size == o.size) = true := by rw [beq_iff_eq]; omega
      clear h1
      go_enter Tryz.func3, Tryz.ntmps3
      go_wp2_with (first
        | (go_at_call 7; go_must (refine AW.out.mono ?_); rintro e w1 ⟨rfl, hb⟩; have B1 := Lib.hid (below_step HB.out hb); have N1 := Lib.hid (HC.out.below hb); have a0 := N1.out.get (j := 0) rfl; have a1 := N1.out.get (j := 1) rfl; have a2 := N1.out.get (j := 2) rfl; have a3 := N1.out.get (j := 3) rfl; have a4 := N1.out.get (j := 4) rfl; have a5 := N1.out.get (j := 5) rfl; clear hb)
        | (go_at_call 8; go_must (refine (LI.out _).mono ?_); rintro e w2 ⟨rfl, hb⟩; have B2 := Lib.hid (below_step B1.out hb); have N2 := Lib.hid (N1.out.below hb); have b0 := N2.out.get (j := 0) rfl; have b1 := N2.out.get (j := 1) rfl; have b2 := N2.out.get (j := 2) rfl; have b3 := N2.out.get (j := 3) rfl; have b4 := N2.out.get (j := 4) rfl; have b5 := N2.out.get (j := 5) rfl; clear hb)
        | (go_at_call 9; go_must (refine (CH.out _ (hG.below B2.out)).mono ?_); rintro e w3 ⟨rfl, hb⟩; have B3 := Lib.hid (below_step B2.out hb); have N3 := Lib.hid (N2.out.below hb); clear hb))
      clear a0 a1 a2 a3 a4 a5 b0 b1 b2 b3 b4 b5
      have q0 := fun d os => cell_regrown (N3.out.get (j := 0) rfl) d os
      have q1 := fun d os => cell_regrown (N3.out.get (j := 1) rfl) d os
      have q2 := fun d os => cell_regrown (N3.out.get (j := 2) rfl) d os
      have q3 := fun d os => cell_regrown (N3.out.get (j := 3) rfl) d os
      have q4 := fun d os => cell_regrown (N3.out.get (j := 4) rfl) d os
      have q5 := fun d os => cell_regrown (N3.out.get (j := 5) rfl) d os
      refine wp_region_quiet_below (by kernel_rfl) (by kernel_rfl) ?_
      repeat (first | go_big_quiet_step (first
                | (go_at_call 10; with_reducible exact Calls.regrown_of (RC.out _))
                | (go_at_call 11; with_reducible exact Calls.regrown_of (CM.out _))
                | (go_at_call 12; with_reducible exact Calls.regrown_of (HA.out _))
                | (go_at_call 13; with_reducible exact Calls.regrown_of (RH.out _))) | quiet_step (first
                | (go_at_call 10; with_reducible exact Calls.regrown_of (RC.out _))
                | (go_at_call 11; with_reducible exact Calls.regrown_of (CM.out _))
                | (go_at_call 12; with_reducible exact Calls.regrown_of (HA.out _))
                | (go_at_call 13; with_reducible exact Calls.regrown_of (RH.out _))))
      refine wpQuiet_nil ?_
      intro _ hw'
      obtain ⟨⟨dq, osq⟩, hw''⟩ := hw'
      subst hw''
      go_wp2
      go_ret
      exact ⟨rfl, below_step B3.out (below_regrown _ _ _)⟩
    · skip
      have k1 : decide ((c.size : Int) < (o.size : Int)) = false := by rw [decide_eq_false_iff_not]; omega
      have n1 : decide (c.size < o.size) = false := by rw [decide_eq_false_iff_not]; omega
      have k3 : decide ((o.size : Int) < (c.size : Int)) = false := by rw [decide_eq_false_iff_not]; omega
      have n3 : decide (o.size < c.size) = false := by rw [decide_eq_false_iff_not]; omega
      have k2 : ((c.size : Int) == (o.size : Int)) = true := by rw [beq_iff_eq]; omega
      have n2 : (c.size == o.size) = true := by rw [beq_iff_eq]; omega
      clear h1
      go_enter Tryz.func3, Tryz.ntmps3
      go_wp2_with (first
        | (go_at_call 7; go_must (refine AW.out.mono ?_); rintro e w1 ⟨rfl, hb⟩; have B1 := Lib.hid (below_step HB.out hb); have N1 := Lib.hid (HC.out.below hb); have a0 := N1.out.get (j := 0) rfl; have a1 := N1.out.get (j := 1) rfl; have a2 := N1.out.get (j := 2) rfl; have a3 := N1.out.get (j := 3) rfl; have a4 := N1.out.get (j := 4) rfl; have a5 := N1.out.get (j := 5) rfl; clear hb)
        | (go_at_call 8; go_must (refine (LI.out _).mono ?_); rintro e w2 ⟨rfl, hb⟩; have B2 := Lib.hid (below_step B1.out hb); have N2 := Lib.hid (N1.out.below hb); have b0 := N2.out.get (j := 0) rfl; have b1 := N2.out.get (j := 1) rfl; have b2 := N2.out.get (j := 2) rfl; have b3 := N2.out.get (j := 3) rfl; have b4 := N2.out.get (j := 4) rfl; have b5 := N2.out.get (j := 5) rfl; clear hb)
        | (go_at_call 9; go_must (refine (CH.out _ (hG.below B2.out)).mono ?_); rintro e w3 ⟨rfl, hb⟩; have B3 := Lib.hid (below_step B2.out hb); have N3 := Lib.hid (N2.out.below hb); clear hb))
      clear a0 a1 a2 a3 a4 a5 b0 b1 b2 b3 b4 b5
      have q0 := fun d os => cell_regrown (N3.out.get (j := 0) rfl) d os
      have q1 := fun d os => cell_regrown (N3.out.get (j := 1) rfl) d os
      have q2 := fun d os => cell_regrown (N3.out.get (j := 2) rfl) d os
      have q3 := fun d os => cell_regrown (N3.out.get (j := 3) rfl) d os
      have q4 := fun d os => cell_regrown (N3.out.get (j := 4) rfl) d os
      have q5 := fun d os => cell_regrown (N3.out.get (j := 5) rfl) d os
      refine wp_region_quiet_below (by kernel_rfl) (by kernel_rfl) ?_
      repeat (first | go_big_quiet_step (first
                | (go_at_call 10; with_reducible exact Calls.regrown_of (RC.out _))
                | (go_at_call 11; with_reducible exact Calls.regrown_of (CM.out _))
                | (go_at_call 12; with_reducible exact Calls.regrown_of (HA.out _))
                | (go_at_call 13; with_reducible exact Calls.regrown_of (RH.out _))) | quiet_step (first
                | (go_at_call 10; with_reducible exact Calls.regrown_of (RC.out _))
                | (go_at_call 11; with_reducible exact Calls.regrown_of (CM.out _))
                | (go_at_call 12; with_reducible exact Calls.regrown_of (HA.out _))
                | (go_at_call 13; with_reducible exact Calls.regrown_of (RH.out _))))
      refine wpQuiet_nil ?_
      intro _ hw'
      obtain ⟨⟨dq, osq⟩, hw''⟩ := hw'
      subst hw''
      go_wp2
      go_ret
      exact ⟨rfl, below_step B3.out (below_regrown _ _ _)⟩
    · skip
      have k1 : decide ((c.size : Int) < (o.size : Int)) = false := by rw [decide_eq_false_iff_not]; omega
      have n1 : decide (c.size < o.size) = false := by rw [decide_eq_false_iff_not]; omega
      have k3 : decide ((o.size : Int) < (c.size : Int)) = false := by rw [decide_eq_false_iff_not]; omega
      have n3 : decide (o.size < c.size) = false := by rw [decide_eq_false_iff_not]; omega
      have k2 : ((c.size : Int) == (o.size : Int)) = true := by rw [beq_iff_eq]; omega
      have n2 : (c.size == o.size) = true := by rw [beq_iff_eq]; omega
      clear h1
      go_enter Tryz.func3, Tryz.ntmps3
      go_wp2_with (first
        | (go_at_call 7; go_must (refine AW.out.mono ?_); rintro e w1 ⟨rfl, hb⟩; have B1 := Lib.hid (below_step HB.out hb); have N1 := Lib.hid (HC.out.below hb); have a0 := N1.out.get (j := 0) rfl; have a1 := N1.out.get (j := 1) rfl; have a2 := N1.out.get (j := 2) rfl; have a3 := N1.out.get (j := 3) rfl; have a4 := N1.out.get (j := 4) rfl; have a5 := N1.out.get (j := 5) rfl; clear hb)
        | (go_at_call 8; go_must (refine (LI.out _).mono ?_); rintro e w2 ⟨rfl, hb⟩; have B2 := Lib.hid (below_step B1.out hb); have N2 := Lib.hid (N1.out.below hb); have b0 := N2.out.get (j := 0) rfl; have b1 := N2.out.get (j := 1) rfl; have b2 := N2.out.get (j := 2) rfl; have b3 := N2.out.get (j := 3) rfl; have b4 := N2.out.get (j := 4) rfl; have b5 := N2.out.get (j := 5) rfl; clear hb)
        | (go_at_call 9; go_must (refine (CH.out _ (hG.below B2.out)).mono ?_); rintro e w3 ⟨rfl, hb⟩; have B3 := Lib.hid (below_step B2.out hb); have N3 := Lib.hid (N2.out.below hb); clear hb))
      clear a0 a1 a2 a3 a4 a5 b0 b1 b2 b3 b4 b5
      have q0 := fun d os => cell_regrown (N3.out.get (j := 0) rfl) d os
      have q1 := fun d os => cell_regrown (N3.out.get (j := 1) rfl) d os
      have q2 := fun d os => cell_regrown (N3.out.get (j := 2) rfl) d os
      have q3 := fun d os => cell_regrown (N3.out.get (j := 3) rfl) d os
      have q4 := fun d os => cell_regrown (N3.out.get (j := 4) rfl) d os
      have q5 := fun d os => cell_regrown (N3.out.get (j := 5) rfl) d os
      refine wp_region_quiet_below (by kernel_rfl) (by kernel_rfl) ?_
      repeat (first | go_big_quiet_step (first
                | (go_at_call 10; with_reducible exact Calls.regrown_of (RC.out _))
                | (go_at_call 11; with_reducible exact Calls.regrown_of (CM.out _))
                | (go_at_call 12; with_reducible exact Calls.regrown_of (HA.out _))
                | (go_at_call 13; with_reducible exact Calls.regrown_of (RH.out _))) | quiet_step (first
                | (go_at_call 10; with_reducible exact Calls.regrown_of (RC.out _))
                | (go_at_call 11; with_reducible exact Calls.regrown_of (CM.out _))
                | (go_at_call 12; with_reducible exact Calls.regrown_of (HA.out _))
                | (go_at_call 13; with_reducible exact Calls.regrown_of (RH.out _))))
      refine wpQuiet_nil ?_
      intro _ hw'
      obtain ⟨⟨dq, osq⟩, hw''⟩ := hw'
      subst hw''
      go_wp2
      go_ret
      exact ⟨rfl, below_step B3.out (below_regrown _ _ _)⟩
  · clear RHX
    have RH := Lib.hid (show True ∧ True from ⟨trivial, trivial⟩)
    rcases hcase with ⟨h1, rfl⟩ | ⟨h1, rfl⟩ | ⟨h1, k4, rfl⟩ | ⟨h1, k4, k5, rfl⟩ | ⟨h1, k4, k5, rfl⟩
    · skip
      have k1 : decide ((c.size : Int) < (o.size : Int)) = true := by rw [decide_eq_true_eq]; omega
      have n1 : decide (c.size < o.size) = true := by rw [decide_eq_true_eq]; omega
      have k3 : decide ((o.size : Int) < (c.size : Int)) = false := by rw [decide_eq_false_iff_not]; omega
      have n3 : decide (o.size < c.size) = false := by rw [decide_eq_false_iff_not]; omega
      have k2 : ((c.size : Int) == (o.size : Int)) = false := by rw [beq_eq_false_iff_ne, ne_eq]; omega
      have n2 : (c.size == o.size) = false := by rw [beq_eq_false_iff_ne, ne_eq]; omega
      clear h1
      go_enter Tryz.func3, Tryz.ntmps3
      go_wp2_with (first
        | (go_at_call 7; go_must (refine AW.out.mono ?_); rintro e w1 ⟨rfl, hb⟩; have B1 := Lib.hid (below_step HB.out hb); have N1 := Lib.hid (HC.out.below hb); have a0 := N1.out.get (j := 0) rfl; have a1 := N1.out.get (j := 1) rfl; have a2 := N1.out.get (j := 2) rfl; have a3 := N1.out.get (j := 3) rfl; have a4 := N1.out.get (j := 4) rfl; have a5 := N1.out.get (j := 5) rfl; clear hb)
        | (go_at_call 8; go_must (refine (LI.out _).mono ?_); rintro e w2 ⟨rfl, hb⟩; have B2 := Lib.hid (below_step B1.out hb); have N2 := Lib.hid (N1.out.below hb); have b0 := N2.out.get (j := 0) rfl; have b1 := N2.out.get (j := 1) rfl; have b2 := N2.out.get (j := 2) rfl; have b3 := N2.out.get (j := 3) rfl; have b4 := N2.out.get (j := 4) rfl; have b5 := N2.out.get (j := 5) rfl; clear hb)
        | (go_at_call 9; go_must (refine (CH.out _ (hG.below B2.out)).mono ?_); rintro e w3 ⟨rfl, hb⟩; have B3 := Lib.hid (below_step B2.out hb); have N3 := Lib.hid (N2.out.below hb); clear hb))
      clear a0 a1 a2 a3 a4 a5 b0 b1 b2 b3 b4 b5
      have q0 := fun d os => cell_regrown (N3.out.get (j := 0) rfl) d os
      have q1 := fun d os => cell_regrown (N3.out.get (j := 1) rfl) d os
      have q2 := fun d os => cell_regrown (N3.out.get (j := 2) rfl) d os
      have q3 := fun d os => cell_regrown (N3.out.get (j := 3) rfl) d os
      have q4 := fun d os => cell_regrown (N3.out.get (j := 4) rfl) d os
      have q5 := fun d os => cell_regrown (N3.out.get (j := 5) rfl) d os
      refine wp_region_quiet_below (by kernel_rfl) (by kernel_rfl) ?_
      repeat (first | go_big_quiet_step (first
                | (go_at_call 10; with_reducible exact Calls.regrown_of (RC.out _))
                | (go_at_call 11; with_reducible exact Calls.regrown_of (CM.out _))
                | (go_at_call 12; with_reducible exact Calls.regrown_of (HA.out _))
                | (go_at_call 13; with_reducible exact Calls.regrown_of (RH.out _))) | quiet_step (first
                | (go_at_call 10; with_reducible exact Calls.regrown_of (RC.out _))
                | (go_at_call 11; with_reducible exact Calls.regrown_of (CM.out _))
                | (go_at_call 12; with_reducible exact Calls.regrown_of (HA.out _))
                | (go_at_call 13; with_reducible exact Calls.regrown_of (RH.out _))))
      refine wpQuiet_nil ?_
      intro _ hw'
      obtain ⟨⟨dq, osq⟩, hw''⟩ := hw'
      subst hw''
      go_wp2
      go_ret
      exact ⟨rfl, below_step B3.out (below_regrown _ _ _)⟩
    · skip
      have k1 : decide ((c.size : Int) < (o.size : Int)) = false := by rw [decide_eq_false_iff_not]; omega
      have n1 : decide (c.size < o.size) = false := by rw [decide_eq_false_iff_not]; omega
      have k3 : decide ((o.size : Int) < (c.size : Int)) = true := by rw [decide_eq_true_eq]; omega
      have n3 : decide (o.size < c.size) = true := by rw [decide_eq_true_eq]; omega
      have k2 : ((c.size : Int) == (o.size : Int)) = false := by rw [beq_eq_false_iff_ne, ne_eq]; omega
      have n2 : (c.size == o.size) = false := by rw [beq_eq_false_iff_ne, ne_eq]; omega
      clear h1
      go_enter Tryz.func3, Tryz.ntmps3
      go_wp2_with (first
        | (go_at_call 7; go_must (refine AW.out.mono ?_); rintro e w1 ⟨rfl, hb⟩; have B1 := Lib.hid (below_step HB.out hb); have N1 := Lib.hid (HC.out.below hb); have a0 := N1.out.get (j := 0) rfl; have a1 := N1.out.get (j := 1) rfl; have a2 := N1.out.get (j := 2) rfl; have a3 := N1.out.get (j := 3) rfl; have a4 := N1.out.get (j := 4) rfl; have a5 := N1.out.get (j := 5) rfl; clear hb)
        | (go_at_call 8; go_must (refine (LI.out _).mono ?_); rintro e w2 ⟨rfl, hb⟩; have B2 := Lib.hid (below_step B1.out hb); have N2 := Lib.hid (N1.out.below hb); have b0 := N2.out.get (j := 0) rfl; have b1 := N2.out.get (j := 1) rfl; have b2 := N2.out.get (j := 2) rfl; have b3 := N2.out.get (j := 3) rfl; have b4 := N2.out.get (j := 4) rfl; have b5 := N2.out.get (j := 5) rfl; clear hb)
        | (go_at_call 9; go_must (refine (CH.out _ (hG.below B2.out)).mono ?_); rintro e w3 ⟨rfl, hb⟩; have B3 := Lib.hid (below_step B2.out hb); have N3 := Lib.hid (N2.out.below hb); clear hb))
      clear a0 a1 a2 a3 a4 a5 b0 b1 b2 b3 b4 b5
      have q0 := fun d os => cell_regrown (N3.out.get (j := 0) rfl) d os
      have q1 := fun d os => cell_regrown (N3.out.get (j := 1) rfl) d os
      have q2 := fun d os => cell_regrown (N3.out.get (j := 2) rfl) d os
      have q3 := fun d os => cell_regrown (N3.out.get (j := 3) rfl) d os
      have q4 := fun d os => cell_regrown (N3.out.get (j := 4) rfl) d os
      have q5 := fun d os => cell_regrown (N3.out.get (j := 5) rfl) d os
      refine wp_region_quiet_below (by kernel_rfl) (by kernel_rfl) ?_
      repeat (first | go_big_quiet_step (first
                | (go_at_call 10; with_reducible exact Calls.regrown_of (RC.out _))
                | (go_at_call 11; with_reducible exact Calls.regrown_of (CM.out _))
                | (go_at_call 12; with_reducible exact Calls.regrown_of (HA.out _))
                | (go_at_call 13; with_reducible exact Calls.regrown_of (RH.out _))) | quiet_step (first
                | (go_at_call 10; with_reducible exact Calls.regrown_of (RC.out _))
                | (go_at_call 11; with_reducible exact Calls.regrown_of (CM.out _))
                | (go_at_call 12; with_reducible exact Calls.regrown_of (HA.out _))
                | (go_at_call 13; with_reducible exact Calls.regrown_of (RH.out _))))
      refine wpQuiet_nil ?_
      intro _ hw'
      obtain ⟨⟨dq, osq⟩, hw''⟩ := hw'
      subst hw''
      go_wp2
      go_ret
      exact ⟨rfl, below_step B3.out (below_regrown _ _ _)⟩
    · skip
      have k1 : decide ((c.size : Int) < (o.size : Int)) = false := by rw [decide_eq_false_iff_not]; omega
      have n1 : decide (c.size < o.size) = false := by rw [decide_eq_false_iff_not]; omega
      have k3 : decide ((o.size : Int) < (c.size : Int)) = false := by rw [decide_eq_false_iff_not]; omega
      have n3 : decide (o.size < c.size) = false := by rw [decide_eq_false_iff_not]; omega
      have k2 : ((c.size : Int) == (o.size : Int)) = true := by rw [beq_iff_eq]; omega
      have n2 : (c.size == o.size) = true := by rw [beq_iff_eq]; omega
      clear h1
      go_enter Tryz.func3, Tryz.ntmps3
      go_wp2_with (first
        | (go_at_call 7; go_must (refine AW.out.mono ?_); rintro e w1 ⟨rfl, hb⟩; have B1 := Lib.hid (below_step HB.out hb); have N1 := Lib.hid (HC.out.below hb); have a0 := N1.out.get (j := 0) rfl; have a1 := N1.out.get (j := 1) rfl; have a2 := N1.out.get (j := 2) rfl; have a3 := N1.out.get (j := 3) rfl; have a4 := N1.out.get (j := 4) rfl; have a5 := N1.out.get (j := 5) rfl; clear hb)
        | (go_at_call 8; go_must (refine (LI.out _).mono ?_); rintro e w2 ⟨rfl, hb⟩; have B2 := Lib.hid (below_step B1.out hb); have N2 := Lib.hid (N1.out.below hb); have b0 := N2.out.get (j := 0) rfl; have b1 := N2.out.get (j := 1) rfl; have b2 := N2.out.get (j := 2) rfl; have b3 := N2.out.get (j := 3) rfl; have b4 := N2.out.get (j := 4) rfl; have b5 := N2.out.get (j := 5) rfl; clear hb)
        | (go_at_call 9; go_must (refine (CH.out _ (hG.below B2.out)).mono ?_); rintro e w3 ⟨rfl, hb⟩; have B3 := Lib.hid (below_step B2.out hb); have N3 := Lib.hid (N2.out.below hb); clear hb))
      clear a0 a1 a2 a3 a4 a5 b0 b1 b2 b3 b4 b5
      have q0 := fun d os => cell_regrown (N3.out.get (j := 0) rfl) d os
      have q1 := fun d os => cell_regrown (N3.out.get (j := 1) rfl) d os
      have q2 := fun d os => cell_regrown (N3.out.get (j := 2) rfl) d os
      have q3 := fun d os => cell_regrown (N3.out.get (j := 3) rfl) d os
      have q4 := fun d os => cell_regrown (N3.out.get (j := 4) rfl) d os
      have q5 := fun d os => cell_regrown (N3.out.get (j := 5) rfl) d os
      refine wp_region_quiet_below (by kernel_rfl) (by kernel_rfl) ?_
      repeat (first | go_big_quiet_step (first
                | (go_at_call 10; with_reducible exact Calls.regrown_of (RC.out _))
                | (go_at_call 11; with_reducible exact Calls.regrown_of (CM.out _))
                | (go_at_call 12; with_reducible exact Calls.regrown_of (HA.out _))
                | (go_at_call 13; with_reducible exact Calls.regrown_of (RH.out _))) | quiet_step (first
                | (go_at_call 10; with_reducible exact Calls.regrown_of (RC.out _))
                | (go_at_call 11; with_reducible exact Calls.regrown_of (CM.out _))
                | (go_at_call 12; with_reducible exact Calls.regrown_of (HA.out _))
                | (go_at_call 13; with_reducible exact Calls.regrown_of (RH.out _))))
      refine wpQuiet_nil ?_
      intro _ hw'
      obtain ⟨⟨dq, osq⟩, hw''⟩ := hw'
      subst hw''
      go_wp2
      go_ret
      exact ⟨rfl, below_step B3.out (below_regrown _ _ _)⟩
    · skip
      have k1 : decide ((c.size : Int) < (o.size : Int)) = false := by rw [decide_eq_false_iff_not]; omega
      have n1 : decide (c.size < o.size) = false := by rw [decide_eq_false_iff_not]; omega
      have k3 : decide ((o.size : Int) < (c.size : Int)) = false := by rw [decide_eq_false_iff_not]; omega
      have n3 : decide (o.size < c.size) = false := by rw [decide_eq_false_iff_not]; omega
      have k2 : ((c.size : Int) == (o.size : Int)) = true := by rw [beq_iff_eq]; omega
      have n2 : (c.size == o.size) = true := by rw [beq_iff_eq]; omega
      clear h1
      go_enter Tryz.func3, Tryz.ntmps3
      go_wp2_with (first
        | (go_at_call 7; go_must (refine AW.out.mono ?_); rintro e w1 ⟨rfl, hb⟩; have B1 := Lib.hid (below_step HB.out hb); have N1 := Lib.hid (HC.out.below hb); have a0 := N1.out.get (j := 0) rfl; have a1 := N1.out.get (j := 1) rfl; have a2 := N1.out.get (j := 2) rfl; have a3 := N1.out.get (j := 3) rfl; have a4 := N1.out.get (j := 4) rfl; have a5 := N1.out.get (j := 5) rfl; clear hb)
        | (go_at_call 8; go_must (refine (LI.out _).mono ?_); rintro e w2 ⟨rfl, hb⟩; have B2 := Lib.hid (below_step B1.out hb); have N2 := Lib.hid (N1.out.below hb); have b0 := N2.out.get (j := 0) rfl; have b1 := N2.out.get (j := 1) rfl; have b2 := N2.out.get (j := 2) rfl; have b3 := N2.out.get (j := 3) rfl; have b4 := N2.out.get (j := 4) rfl; have b5 := N2.out.get (j := 5) rfl; clear hb)
        | (go_at_call 9; go_must (refine (CH.out _ (hG.below B2.out)).mono ?_); rintro e w3 ⟨rfl, hb⟩; have B3 := Lib.hid (below_step B2.out hb); have N3 := Lib.hid (N2.out.below hb); clear hb))
      clear a0 a1 a2 a3 a4 a5 b0 b1 b2 b3 b4 b5
      have q0 := fun d os => cell_regrown (N3.out.get (j := 0) rfl) d os
      have q1 := fun d os => cell_regrown (N3.out.get (j := 1) rfl) d os
      have q2 := fun d os => cell_regrown (N3.out.get (j := 2) rfl) d os
      have q3 := fun d os => cell_regrown (N3.out.get (j := 3) rfl) d os
      have q4 := fun d os => cell_regrown (N3.out.get (j := 4) rfl) d os
      have q5 := fun d os => cell_regrown (N3.out.get (j := 5) rfl) d os
      refine wp_region_quiet_below (by kernel_rfl) (by kernel_rfl) ?_
      repeat (first | go_big_quiet_step (first
                | (go_at_call 10; with_reducible exact Calls.regrown_of (RC.out _))
                | (go_at_call 11; with_reducible exact Calls.regrown_of (CM.out _))
                | (go_at_call 12; with_reducible exact Calls.regrown_of (HA.out _))
                | (go_at_call 13; with_reducible exact Calls.regrown_of (RH.out _))) | quiet_step (first
                | (go_at_call 10; with_reducible exact Calls.regrown_of (RC.out _))
                | (go_at_call 11; with_reducible exact Calls.regrown_of (CM.out _))
                | (go_at_call 12; with_reducible exact Calls.regrown_of (HA.out _))
                | (go_at_call 13; with_reducible exact Calls.regrown_of (RH.out _))))
      refine wpQuiet_nil ?_
      intro _ hw'
      obtain ⟨⟨dq, osq⟩, hw''⟩ := hw'
      subst hw''
      go_wp2
      go_ret
      exact ⟨rfl, below_step B3.out (below_regrown _ _ _)⟩
    · skip
      have k1 : decide ((c.size : Int) < (o.size : Int)) = false := by rw [decide_eq_false_iff_not]; omega
      have n1 : decide (c.size < o.size) = false := by rw [decide_eq_false_iff_not]; omega
      have k3 : decide ((o.size : Int) < (c.size : Int)) = false := by rw [decide_eq_false_iff_not]; omega
      have n3 : decide (o.size < c.size) = false := by rw [decide_eq_false_iff_not]; omega
      have k2 : ((c.size : Int) == (o.size : Int)) = true := by rw [beq_iff_eq]; omega
      have n2 : (c.size == o.size) = true := by rw [beq_iff_eq]; omega
      clear h1
      go_enter Tryz.func3, Tryz.ntmps3
      go_wp2_with (first
        | (go_at_call 7; go_must (refine AW.out.mono ?_); rintro e w1 ⟨rfl, hb⟩; have B1 := Lib.hid (below_step HB.out hb); have N1 := Lib.hid (HC.out.below hb); have a0 := N1.out.get (j := 0) rfl; have a1 := N1.out.get (j := 1) rfl; have a2 := N1.out.get (j := 2) rfl; have a3 := N1.out.get (j := 3) rfl; have a4 := N1.out.get (j := 4) rfl; have a5 := N1.out.get (j := 5) rfl; clear hb)
        | (go_at_call 8; go_must (refine (LI.out _).mono ?_); rintro e w2 ⟨rfl, hb⟩; have B2 := Lib.hid (below_step B1.out hb); have N2 := Lib.hid (N1.out.below hb); have b0 := N2.out.get (j := 0) rfl; have b1 := N2.out.get (j := 1) rfl; have b2 := N2.out.get (j := 2) rfl; have b3 := N2.out.get (j := 3) rfl; have b4 := N2.out.get (j := 4) rfl; have b5 := N2.out.get (j := 5) rfl; clear hb)
        | (go_at_call 9; go_must (refine (CH.out _ (hG.below B2.out)).mono ?_); rintro e w3 ⟨rfl, hb⟩; have B3 := Lib.hid (below_step B2.out hb); have N3 := Lib.hid (N2.out.below hb); clear hb))
      clear a0 a1 a2 a3 a4 a5 b0 b1 b2 b3 b4 b5
      have q0 := fun d os => cell_regrown (N3.out.get (j := 0) rfl) d os
      have q1 := fun d os => cell_regrown (N3.out.get (j := 1) rfl) d os
      have q2 := fun d os => cell_regrown (N3.out.get (j := 2) rfl) d os
      have q3 := fun d os => cell_regrown (N3.out.get (j := 3) rfl) d os
      have q4 := fun d os => cell_regrown (N3.out.get (j := 4) rfl) d os
      have q5 := fun d os => cell_regrown (N3.out.get (j := 5) rfl) d os
      refine wp_region_quiet_below (by kernel_rfl) (by kernel_rfl) ?_
      repeat (first | go_big_quiet_step (first
                | (go_at_call 10; with_reducible exact Calls.regrown_of (RC.out _))
                | (go_at_call 11; with_reducible exact Calls.regrown_of (CM.out _))
                | (go_at_call 12; with_reducible exact Calls.regrown_of (HA.out _))
                | (go_at_call 13; with_reducible exact Calls.regrown_of (RH.out _))) | quiet_step (first
                | (go_at_call 10; with_reducible exact Calls.regrown_of (RC.out _))
                | (go_at_call 11; with_reducible exact Calls.regrown_of (CM.out _))
                | (go_at_call 12; with_reducible exact Calls.regrown_of (HA.out _))
                | (go_at_call 13; with_reducible exact Calls.regrown_of (RH.out _))))
      refine wpQuiet_nil ?_
      intro _ hw'
      obtain ⟨⟨dq, osq⟩, hw''⟩ := hw'
      subst hw''
      go_wp2
      go_ret
      exact ⟨rfl, below_step B3.out (below_regrown _ _ _)⟩

end Go.Proofs.YtiggnmhoececfaaGreatDoor
