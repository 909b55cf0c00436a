/- Texts taken together: RCheck, RCheck2, Neigh0, Neigh1, Neigh2, Tab, TabP, Neigh3, Add, New. -/
import Derived.Test.YtiggnmhoececfaaGreatDoorQ2
import Derived.Lib.QuietBelow
import Derived.Deep.RegionHeld3

namespace Go.Proofs.YtiggnmhoececfaaGreatDoor
set_option linter.unusedVariables false
set_option linter.unusedSimpArgs false
open Go.RowKit Go.Proofs.YtiggnmhoececfaaGreatDoorW.PrintWords Go.Proofs.YtiggnmhoececfaaGreatDoorW.PrintMore

set_option maxHeartbeats 16000000 in
set_option maxRecDepth 1000000 in
theorem rcheck_walk (f t n lo hi c o : ByteArray) (m E X M : Int) (hs ez : Bool) (w : World) (hG : Glob w)
    (li : ∀ W, Calls Tryz.prog 8 #[rangeV f t n lo hi m] W fun e w' => e = .returned (.bool true) ∧ Below W.heap.size W w')
    (hM : ∀ ats ty, Builtin.max_ ats ty #[.int .i64 c.size, .int .i64 o.size] = pure (.int .i64 M)) (hM2 : decide (60 < M) = false)
    (ch : ∀ W, Glob W → Calls Tryz.prog 9 #[rangeV f t n lo hi m] W fun e w' => e = .returned (.int .i64 E) ∧ Below W.heap.size W w')
    (rc : ∀ W, Calls Tryz.prog 10 #[rangeV f t n lo hi m] W fun e w' => e = .returned (.int .i64 E) ∧ Below W.heap.size W w')
    (cm : ∀ W, Calls Tryz.prog 11 #[.string c, .string o] W fun e w' => e = .returned (.int .i64 X) ∧ Below W.heap.size W w')
    (ha : ∀ W, Calls Tryz.prog 12 #[rangeV f t n lo hi m, .string c] W fun e w' => e = .returned (.bool hs) ∧ Below W.heap.size W w')
    (hez : (E != 0) = ez)
    (rh : ez = false → ∀ W, Calls Tryz.prog 13 #[rangeV f t n lo hi m, .string c] W fun e w' => e = .returned (.bool hs) ∧ Below W.heap.size W w')
    (hcase : (c.size < o.size ∧ X = -1) ∨ (o.size < c.size ∧ X = 1) ∨ (c.size = o.size ∧ Op.bytesLess c.toList o.toList = true ∧ X = -1) ∨
      (c.size = o.size ∧ Op.bytesLess c.toList o.toList = false ∧ (c.toList == o.toList) = false ∧ X = 1) ∨ (c.size = o.size ∧ Op.bytesLess c.toList o.toList = false ∧ (c.toList == o.toList) = true ∧ X = 0)) :
    Calls Tryz.prog 3 #[rangeV f t n lo hi m, .string c, .string o] w fun e w' => e = .returned (.bool true) ∧ Below w.heap.size w w' := by
  have HC := Lib.hid (CellsAt.new w (rangeC f t n lo hi m) 23)
  have HB := Lib.hid (below_alloc (Below.refl w.heap.size w) (.cells (rangeC f t n lo hi m).toArray 23))
  have AW := Lib.hid (awake18_any (w.alloc (.cells (rangeC f t n lo hi m).toArray 23)) (hG.below HB.out))
  have LI := Lib.hid li
  have CH := Lib.hid ch
  have RC := Lib.hid rc
  have CM := Lib.hid cm
  have HA := Lib.hid ha
  have RHX := Lib.hid rh
  clear li ch rc cm ha rh
  cases ez
  · have RH := Lib.hid (RHX.out rfl)
    clear RHX
    rcases hcase with ⟨h1, rfl⟩ | ⟨h1, rfl⟩ | ⟨h1, k4, rfl⟩ | ⟨h1, k4, k5, rfl⟩ | ⟨h1, k4, k5, rfl⟩
    · skip
      have k1 : decide ((c.size : Int) < (o.size : Int)) = true := by rw [decide_eq_true_eq]; omega
      have n1 : decide (c.size < o.size) = true := by rw [decide_eq_true_eq]; omega
      have k3 : decide ((o.size : Int) < (c.size : Int)) = false := by rw [decide_eq_false_iff_not]; omega
      have n3 : decide (o.size < c.size) = false := by rw [decide_eq_false_iff_not]; omega
      have k2 : ((c.size : Int) == (o.size : Int)) = false := by rw [beq_eq_false_iff_ne, ne_eq]; omega
      have n2 : (c.size == o.size) = false := by rw [beq_eq_false_iff_ne, ne_eq]; omega
      clear h1
      go_enter Tryz.func3, Tryz.ntmps3
      go_wp2_with (first
        | (go_at_call 7; go_must (refine AW.out.mono ?_); rintro e w1 ⟨rfl, hb⟩; have B1 := Lib.hid (below_step HB.out hb); have N1 := Lib.hid (HC.out.below hb); have a0 := N1.out.get (j := 0) rfl; have a1 := N1.out.get (j := 1) rfl; have a2 := N1.out.get (j := 2) rfl; have a3 := N1.out.get (j := 3) rfl; have a4 := N1.out.get (j := 4) rfl; have a5 := N1.out.get (j := 5) rfl; clear hb)
        | (go_at_call 8; go_must (refine (LI.out _).mono ?_); rintro e w2 ⟨rfl, hb⟩; have B2 := Lib.hid (below_step B1.out hb); have N2 := Lib.hid (N1.out.below hb); have b0 := N2.out.get (j := 0) rfl; have b1 := N2.out.get (j := 1) rfl; have b2 := N2.out.get (j := 2) rfl; have b3 := N2.out.get (j := 3) rfl; have b4 := N2.out.get (j := 4) rfl; have b5 := N2.out.get (j := 5) rfl; clear hb)
        | (go_at_call 9; go_must (refine (CH.out _ (hG.below B2.out)).mono ?_); rintro e w3 ⟨rfl, hb⟩; have B3 := Lib.hid (below_step B2.out hb); have N3 := Lib.hid (N2.out.below hb); clear hb))
      clear a0 a1 a2 a3 a4 a5 b0 b1 b2 b3 b4 b5
      have q0 := fun d os => cell_regrown (N3.out.get (j := 0) rfl) d os
      have q1 := fun d os => cell_regrown (N3.out.get (j := 1) rfl) d os
      have q2 := fun d os => cell_regrown (N3.out.get (j := 2) rfl) d os
      have q3 := fun d os => cell_regrown (N3.out.get (j := 3) rfl) d os
      have q4 := fun d os => cell_regrown (N3.out.get (j := 4) rfl) d os
      have q5 := fun d os => cell_regrown (N3.out.get (j := 5) rfl) d os
      refine wp_region_quiet_below (by kernel_rfl) (by kernel_rfl) ?_
      repeat (first | go_big_quiet_step (first
                | (go_at_call 10; with_reducible exact Calls.regrown_of (RC.out _))
                | (go_at_call 11; with_reducible exact Calls.regrown_of (CM.out _))
                | (go_at_call 12; with_reducible exact Calls.regrown_of (HA.out _))
                | (go_at_call 13; with_reducible exact Calls.regrown_of (RH.out _))) | quiet_step (first
                | (go_at_call 10; with_reducible exact Calls.regrown_of (RC.out _))
                | (go_at_call 11; with_reducible exact Calls.regrown_of (CM.out _))
                | (go_at_call 12; with_reducible exact Calls.regrown_of (HA.out _))
                | (go_at_call 13; with_reducible exact Calls.regrown_of (RH.out _))))
      refine wpQuiet_nil ?_
      intro _ hw'
      obtain ⟨⟨dq, osq⟩, hw''⟩ := hw'
      subst hw''
      go_wp2
      go_ret
      exact ⟨rfl, below_step B3.out (below_regrown _ _ _)⟩
    · skip
      have k1 : decide ((c.size : Int) < (o.size : Int)) = false := by rw [decide_eq_false_iff_not]; omega
      have n1 : decide (c.size < o.size) = false := by rw [decide_eq_false_iff_not]; omega
      have k3 : decide ((o.size : Int) < (c.size : Int)) = true := by rw [decide_eq_true_eq]; omega
      have n3 : decide (o.size < c.size) = true := by rw [decide_eq_true_eq]; omega
      have k2 : ((c.size : Int) == (o.size : Int)) = false := by rw [beq_eq_false_iff_ne, ne_eq]; omega
      have n2 : (c.size == o.size) = false := by rw [beq_eq_false_iff_ne, ne_eq]; omega
      clear h1
      go_enter Tryz.func3, Tryz.ntmps3
      go_wp2_with (first
        | (go_at_call 7; go_must (refine AW.out.mono ?_); rintro e w1 ⟨rfl, hb⟩; have B1 := Lib.hid (below_step HB.out hb); have N1 := Lib.hid (HC.out.below hb); have a0 := N1.out.get (j := 0) rfl; have a1 := N1.out.get (j := 1) rfl; have a2 := N1.out.get (j := 2) rfl; have a3 := N1.out.get (j := 3) rfl; have a4 := N1.out.get (j := 4) rfl; have a5 := N1.out.get (j := 5) rfl; clear hb)
        | (go_at_call 8; go_must (refine (LI.out _).mono ?_); rintro e w2 ⟨rfl, hb⟩; have B2 := Lib.hid (below_step B1.out hb); have N2 := Lib.hid (N1.out.below hb); have b0 := N2.out.get (j := 0) rfl; have b1 := N2.out.get (j := 1) rfl; have b2 := N2.out.get (j := 2) rfl; have b3 := N2.out.get (j := 3) rfl; have b4 := N2.out.get (j := 4) rfl; have b5 := N2.out.get (j := 5) rfl; clear hb)
        | (go_at_call 9; go_must (refine (CH.out _ (hG.below B2.out)).mono ?_); rintro e w3 ⟨rfl, hb⟩; have B3 := Lib.hid (below_step B2.out hb); have N3 := Lib.hid (N2.out.below hb); clear hb))
      clear a0 a1 a2 a3 a4 a5 b0 b1 b2 b3 b4 b5
      have q0 := fun d os => cell_regrown (N3.out.get (j := 0) rfl) d os
      have q1 := fun d os => cell_regrown (N3.out.get (j := 1) rfl) d os
      have q2 := fun d os => cell_regrown (N3.out.get (j := 2) rfl) d os
      have q3 := fun d os => cell_regrown (N3.out.get (j := 3) rfl) d os
      have q4 := fun d os => cell_regrown (N3.out.get (j := 4) rfl) d os
      have q5 := fun d os => cell_regrown (N3.out.get (j := 5) rfl) d os
      refine wp_region_quiet_below (by kernel_rfl) (by kernel_rfl) ?_
      repeat (first | go_big_quiet_step (first
                | (go_at_call 10; with_reducible exact Calls.regrown_of (RC.out _))
                | (go_at_call 11; with_reducible exact Calls.regrown_of (CM.out _))
                | (go_at_call 12; with_reducible exact Calls.regrown_of (HA.out _))
                | (go_at_call 13; with_reducible exact Calls.regrown_of (RH.out _))) | quiet_step (first
                | (go_at_call 10; with_reducible exact Calls.regrown_of (RC.out _))
                | (go_at_call 11; with_reducible exact Calls.regrown_of (CM.out _))
                | (go_at_call 12; with_reducible exact Calls.regrown_of (HA.out _))
                | (go_at_call 13; with_reducible exact Calls.regrown_of (RH.out _))))
      refine wpQuiet_nil ?_
      intro _ hw'
      obtain ⟨⟨dq, osq⟩, hw''⟩ := hw'
      subst hw''
      go_wp2
      go_ret
      exact ⟨rfl, below_step B3.out (below_regrown _ _ _)⟩
    · skip
      have k1 : decide ((c.size : Int) < (o.size : Int)) = false := by rw [decide_eq_false_iff_not]; omega
      have n1 : decide (c.size < o.size) = false := by rw [decide_eq_false_iff_not]; omega
      have k3 : decide ((o.size : Int) < (c.size : Int)) = false := by rw [decide_eq_false_iff_not]; omega
      have n3 : decide (o.size < c.size) = false := by rw [decide_eq_false_iff_not]; omega
      have k2 : ((c.size : Int) == (o.size : Int)) = true := by rw [beq_iff_eq]; omega
      have n2 : (c.size == o.size) = true := by rw [beq_iff_eq]; omega
      clear h1
      go_enter Tryz.func3, Tryz.ntmps3
      go_wp2_with (first
        | (go_at_call 7; go_must (refine AW.out.mono ?_); rintro e w1 ⟨rfl, hb⟩; have B1 := Lib.hid (below_step HB.out hb); have N1 := Lib.hid (HC.out.below hb); have a0 := N1.out.get (j := 0) rfl; have a1 := N1.out.get (j := 1) rfl; have a2 := N1.out.get (j := 2) rfl; have a3 := N1.out.get (j := 3) rfl; have a4 := N1.out.get (j := 4) rfl; have a5 := N1.out.get (j := 5) rfl; clear hb)
        | (go_at_call 8; go_must (refine (LI.out _).mono ?_); rintro e w2 ⟨rfl, hb⟩; have B2 := Lib.hid (below_step B1.out hb); have N2 := Lib.hid (N1.out.below hb); have b0 := N2.out.get (j := 0) rfl; have b1 := N2.out.get (j := 1) rfl; have b2 := N2.out.get (j := 2) rfl; have b3 := N2.out.get (j := 3) rfl; have b4 := N2.out.get (j := 4) rfl; have b5 := N2.out.get (j := 5) rfl; clear hb)
        | (go_at_call 9; go_must (refine (CH.out _ (hG.below B2.out)).mono ?_); rintro e w3 ⟨rfl, hb⟩; have B3 := Lib.hid (below_step B2.out hb); have N3 := Lib.hid (N2.out.below hb); clear hb))
      clear a0 a1 a2 a3 a4 a5 b0 b1 b2 b3 b4 b5
      have q0 := fun d os => cell_regrown (N3.out.get (j := 0) rfl) d os
      have q1 := fun d os => cell_regrown (N3.out.get (j := 1) rfl) d os
      have q2 := fun d os => cell_regrown (N3.out.get (j := 2) rfl) d os
      have q3 := fun d os => cell_regrown (N3.out.get (j := 3) rfl) d os
      have q4 := fun d os => cell_regrown (N3.out.get (j := 4) rfl) d os
      have q5 := fun d os => cell_regrown (N3.out.get (j := 5) rfl) d os
      refine wp_region_quiet_below (by kernel_rfl) (by kernel_rfl) ?_
      repeat (first | go_big_quiet_step (first
                | (go_at_call 10; with_reducible exact Calls.regrown_of (RC.out _))
                | (go_at_call 11; with_reducible exact Calls.regrown_of (CM.out _))
                | (go_at_call 12; with_reducible exact Calls.regrown_of (HA.out _))
                | (go_at_call 13; with_reducible exact Calls.regrown_of (RH.out _))) | quiet_step (first
                | (go_at_call 10; with_reducible exact Calls.regrown_of (RC.out _))
                | (go_at_call 11; with_reducible exact Calls.regrown_of (CM.out _))
                | (go_at_call 12; with_reducible exact Calls.regrown_of (HA.out _))
                | (go_at_call 13; with_reducible exact Calls.regrown_of (RH.out _))))
      refine wpQuiet_nil ?_
      intro _ hw'
      obtain ⟨⟨dq, osq⟩, hw''⟩ := hw'
      subst hw''
      go_wp2
      go_ret
      exact ⟨rfl, below_step B3.out (below_regrown _ _ _)⟩
    · skip
      have k1 : decide ((c.size : Int) < (o.size : Int)) = false := by rw [decide_eq_false_iff_not]; omega
      have n1 : decide (c.size < o.size) = false := by rw [decide_eq_false_iff_not]; omega
      have k3 : decide ((o.size : Int) < (c.size : Int)) = false := by rw [decide_eq_false_iff_not]; omega
      have n3 : decide (o.size < c.size) = false := by rw [decide_eq_false_iff_not]; omega
      have k2 : ((c.size : Int) == (o.size : Int)) = true := by rw [beq_iff_eq]; omega
      have n2 : (c.size == o.size) = true := by rw [beq_iff_eq]; omega
      clear h1
      go_enter Tryz.func3, Tryz.ntmps3
      go_wp2_with (first
        | (go_at_call 7; go_must (refine AW.out.mono ?_); rintro e w1 ⟨rfl, hb⟩; have B1 := Lib.hid (below_step HB.out hb); have N1 := Lib.hid (HC.out.below hb); have a0 := N1.out.get (j := 0) rfl; have a1 := N1.out.get (j := 1) rfl; have a2 := N1.out.get (j := 2) rfl; have a3 := N1.out.get (j := 3) rfl; have a4 := N1.out.get (j := 4) rfl; have a5 := N1.out.get (j := 5) rfl; clear hb)
        | (go_at_call 8; go_must (refine (LI.out _).mono ?_); rintro e w2 ⟨rfl, hb⟩; have B2 := Lib.hid (below_step B1.out hb); have N2 := Lib.hid (N1.out.below hb); have b0 := N2.out.get (j := 0) rfl; have b1 := N2.out.get (j := 1) rfl; have b2 := N2.out.get (j := 2) rfl; have b3 := N2.out.get (j := 3) rfl; have b4 := N2.out.get (j := 4) rfl; have b5 := N2.out.get (j := 5) rfl; clear hb)
        | (go_at_call 9; go_must (refine (CH.out _ (hG.below B2.out)).mono ?_); rintro e w3 ⟨rfl, hb⟩; have B3 := Lib.hid (below_step B2.out hb); have N3 := Lib.hid (N2.out.below hb); clear hb))
      clear a0 a1 a2 a3 a4 a5 b0 b1 b2 b3 b4 b5
      have q0 := fun d os => cell_regrown (N3.out.get (j := 0) rfl) d os
      have q1 := fun d os => cell_regrown (N3.out.get (j := 1) rfl) d os
      have q2 := fun d os => cell_regrown (N3.out.get (j := 2) rfl) d os
      have q3 := fun d os => cell_regrown (N3.out.get (j := 3) rfl) d os
      have q4 := fun d os => cell_regrown (N3.out.get (j := 4) rfl) d os
      have q5 := fun d os => cell_regrown (N3.out.get (j := 5) rfl) d os
      refine wp_region_quiet_below (by kernel_rfl) (by kernel_rfl) ?_
      repeat (first | go_big_quiet_step (first
                | (go_at_call 10; with_reducible exact Calls.regrown_of (RC.out _))
                | (go_at_call 11; with_reducible exact Calls.regrown_of (CM.out _))
                | (go_at_call 12; with_reducible exact Calls.regrown_of (HA.out _))
                | (go_at_call 13; with_reducible exact Calls.regrown_of (RH.out _))) | quiet_step (first
                | (go_at_call 10; with_reducible exact Calls.regrown_of (RC.out _))
                | (go_at_call 11; with_reducible exact Calls.regrown_of (CM.out _))
                | (go_at_call 12; with_reducible exact Calls.regrown_of (HA.out _))
                | (go_at_call 13; with_reducible exact Calls.regrown_of (RH.out _))))
      refine wpQuiet_nil ?_
      intro _ hw'
      obtain ⟨⟨dq, osq⟩, hw''⟩ := hw'
      subst hw''
      go_wp2
      go_ret
      exact ⟨rfl, below_step B3.out (below_regrown _ _ _)⟩
    · skip
      have k1 : decide ((c.size : Int) < (o.size : Int)) = false := by rw [decide_eq_false_iff_not]; omega
      have n1 : decide (c.size < o.size) = false := by rw [decide_eq_false_iff_not]; omega
      have k3 : decide ((o.size : Int) < (c.size : Int)) = false := by rw [decide_eq_false_iff_not]; omega
      have n3 : decide (o.size < c.size) = false := by rw [decide_eq_false_iff_not]; omega
      have k2 : ((c.size : Int) == (o.size : Int)) = true := by rw [beq_iff_eq]; omega
      have n2 : (c.size == o.size) = true := by rw [beq_iff_eq]; omega
      clear h1
      go_enter Tryz.func3, Tryz.ntmps3
      go_wp2_with (first
        | (go_at_call 7; go_must (refine AW.out.mono ?_); rintro e w1 ⟨rfl, hb⟩; have B1 := Lib.hid (below_step HB.out hb); have N1 := Lib.hid (HC.out.below hb); have a0 := N1.out.get (j := 0) rfl; have a1 := N1.out.get (j := 1) rfl; have a2 := N1.out.get (j := 2) rfl; have a3 := N1.out.get (j := 3) rfl; have a4 := N1.out.get (j := 4) rfl; have a5 := N1.out.get (j := 5) rfl; clear hb)
        | (go_at_call 8; go_must (refine (LI.out _).mono ?_); rintro e w2 ⟨rfl, hb⟩; have B2 := Lib.hid (below_step B1.out hb); have N2 := Lib.hid (N1.out.below hb); have b0 := N2.out.get (j := 0) rfl; have b1 := N2.out.get (j := 1) rfl; have b2 := N2.out.get (j := 2) rfl; have b3 := N2.out.get (j := 3) rfl; have b4 := N2.out.get (j := 4) rfl; have b5 := N2.out.get (j := 5) rfl; clear hb)
        | (go_at_call 9; go_must (refine (CH.out _ (hG.below B2.out)).mono ?_); rintro e w3 ⟨rfl, hb⟩; have B3 := Lib.hid (below_step B2.out hb); have N3 := Lib.hid (N2.out.below hb); clear hb))
      clear a0 a1 a2 a3 a4 a5 b0 b1 b2 b3 b4 b5
      have q0 := fun d os => cell_regrown (N3.out.get (j := 0) rfl) d os
      have q1 := fun d os => cell_regrown (N3.out.get (j := 1) rfl) d os
      have q2 := fun d os => cell_regrown (N3.out.get (j := 2) rfl) d os
      have q3 := fun d os => cell_regrown (N3.out.get (j := 3) rfl) d os
      have q4 := fun d os => cell_regrown (N3.out.get (j := 4) rfl) d os
      have q5 := fun d os => cell_regrown (N3.out.get (j := 5) rfl) d os
      refine wp_region_quiet_below (by kernel_rfl) (by kernel_rfl) ?_
      repeat (first | go_big_quiet_step (first
                | (go_at_call 10; with_reducible exact Calls.regrown_of (RC.out _))
                | (go_at_call 11; with_reducible exact Calls.regrown_of (CM.out _))
                | (go_at_call 12; with_reducible exact Calls.regrown_of (HA.out _))
                | (go_at_call 13; with_reducible exact Calls.regrown_of (RH.out _))) | quiet_step (first
                | (go_at_call 10; with_reducible exact Calls.regrown_of (RC.out _))
                | (go_at_call 11; with_reducible exact Calls.regrown_of (CM.out _))
                | (go_at_call 12; with_reducible exact Calls.regrown_of (HA.out _))
                | (go_at_call 13; with_reducible exact Calls.regrown_of (RH.out _))))
      refine wpQuiet_nil ?_
      intro _ hw'
      obtain ⟨⟨dq, osq⟩, hw''⟩ := hw'
      subst hw''
      go_wp2
      go_ret
      exact ⟨rfl, below_step B3.out (below_regrown _ _ _)⟩
  · clear RHX
    have RH := Lib.hid (show True ∧ True from ⟨trivial, trivial⟩)
    rcases hcase with ⟨h1, rfl⟩ | ⟨h1, rfl⟩ | ⟨h1, k4, rfl⟩ | ⟨h1, k4, k5, rfl⟩ | ⟨h1, k4, k5, rfl⟩
    · skip
      have k1 : decide ((c.size : Int) < (o.size : Int)) = true := by rw [decide_eq_true_eq]; omega
      have n1 : decide (c.size < o.size) = true := by rw [decide_eq_true_eq]; omega
      have k3 : decide ((o.size : Int) < (c.size : Int)) = false := by rw [decide_eq_false_iff_not]; omega
      have n3 : decide (o.size < c.size) = false := by rw [decide_eq_false_iff_not]; omega
      have k2 : ((c.size : Int) == (o.size : Int)) = false := by rw [beq_eq_false_iff_ne, ne_eq]; omega
      have n2 : (c.size == o.size) = false := by rw [beq_eq_false_iff_ne, ne_eq]; omega
      clear h1
      go_enter Tryz.func3, Tryz.ntmps3
      go_wp2_with (first
        | (go_at_call 7; go_must (refine AW.out.mono ?_); rintro e w1 ⟨rfl, hb⟩; have B1 := Lib.hid (below_step HB.out hb); have N1 := Lib.hid (HC.out.below hb); have a0 := N1.out.get (j := 0) rfl; have a1 := N1.out.get (j := 1) rfl; have a2 := N1.out.get (j := 2) rfl; have a3 := N1.out.get (j := 3) rfl; have a4 := N1.out.get (j := 4) rfl; have a5 := N1.out.get (j := 5) rfl; clear hb)
        | (go_at_call 8; go_must (refine (LI.out _).mono ?_); rintro e w2 ⟨rfl, hb⟩; have B2 := Lib.hid (below_step B1.out hb); have N2 := Lib.hid (N1.out.below hb); have b0 := N2.out.get (j := 0) rfl; have b1 := N2.out.get (j := 1) rfl; have b2 := N2.out.get (j := 2) rfl; have b3 := N2.out.get (j := 3) rfl; have b4 := N2.out.get (j := 4) rfl; have b5 := N2.out.get (j := 5) rfl; clear hb)
        | (go_at_call 9; go_must (refine (CH.out _ (hG.below B2.out)).mono ?_); rintro e w3 ⟨rfl, hb⟩; have B3 := Lib.hid (below_step B2.out hb); have N3 := Lib.hid (N2.out.below hb); clear hb))
      clear a0 a1 a2 a3 a4 a5 b0 b1 b2 b3 b4 b5
      have q0 := fun d os => cell_regrown (N3.out.get (j := 0) rfl) d os
      have q1 := fun d os => cell_regrown (N3.out.get (j := 1) rfl) d os
      have q2 := fun d os => cell_regrown (N3.out.get (j := 2) rfl) d os
      have q3 := fun d os => cell_regrown (N3.out.get (j := 3) rfl) d os
      have q4 := fun d os => cell_regrown (N3.out.get (j := 4) rfl) d os
      have q5 := fun d os => cell_regrown (N3.out.get (j := 5) rfl) d os
      refine wp_region_quiet_below (by kernel_rfl) (by kernel_rfl) ?_
      repeat (first | go_big_quiet_step (first
                | (go_at_call 10; with_reducible exact Calls.regrown_of (RC.out _))
                | (go_at_call 11; with_reducible exact Calls.regrown_of (CM.out _))
                | (go_at_call 12; with_reducible exact Calls.regrown_of (HA.out _))
                | (go_at_call 13; with_reducible exact Calls.regrown_of (RH.out _))) | quiet_step (first
                | (go_at_call 10; with_reducible exact Calls.regrown_of (RC.out _))
                | (go_at_call 11; with_reducible exact Calls.regrown_of (CM.out _))
                | (go_at_call 12; with_reducible exact Calls.regrown_of (HA.out _))
                | (go_at_call 13; with_reducible exact Calls.regrown_of (RH.out _))))
      refine wpQuiet_nil ?_
      intro _ hw'
      obtain ⟨⟨dq, osq⟩, hw''⟩ := hw'
      subst hw''
      go_wp2
      go_ret
      exact ⟨rfl, below_step B3.out (below_regrown _ _ _)⟩
    · skip
      have k1 : decide ((c.size : Int) < (o.size : Int)) = false := by rw [decide_eq_false_iff_not]; omega
      have n1 : decide (c.size < o.size) = false := by rw [decide_eq_false_iff_not]; omega
      have k3 : decide ((o.size : Int) < (c.size : Int)) = true := by rw [decide_eq_true_eq]; omega
      have n3 : decide (o.size < c.size) = true := by rw [decide_eq_true_eq]; omega
      have k2 : ((c.size : Int) == (o.size : Int)) = false := by rw [beq_eq_false_iff_ne, ne_eq]; omega
      have n2 : (c.size == o.size) = false := by rw [beq_eq_false_iff_ne, ne_eq]; omega
      clear h1
      go_enter Tryz.func3, Tryz.ntmps3
      go_wp2_with (first
        | (go_at_call 7; go_must (refine AW.out.mono ?_); rintro e w1 ⟨rfl, hb⟩; have B1 := Lib.hid (below_step HB.out hb); have N1 := Lib.hid (HC.out.below hb); have a0 := N1.out.get (j := 0) rfl; have a1 := N1.out.get (j := 1) rfl; have a2 := N1.out.get (j := 2) rfl; have a3 := N1.out.get (j := 3) rfl; have a4 := N1.out.get (j := 4) rfl; have a5 := N1.out.get (j := 5) rfl; clear hb)
        | (go_at_call 8; go_must (refine (LI.out _).mono ?_); rintro e w2 ⟨rfl, hb⟩; have B2 := Lib.hid (below_step B1.out hb); have N2 := Lib.hid (N1.out.below hb); have b0 := N2.out.get (j := 0) rfl; have b1 := N2.out.get (j := 1) rfl; have b2 := N2.out.get (j := 2) rfl; have b3 := N2.out.get (j := 3) rfl; have b4 := N2.out.get (j := 4) rfl; have b5 := N2.out.get (j := 5) rfl; clear hb)
        | (go_at_call 9; go_must (refine (CH.out _ (hG.below B2.out)).mono ?_); rintro e w3 ⟨rfl, hb⟩; have B3 := Lib.hid (below_step B2.out hb); have N3 := Lib.hid (N2.out.below hb); clear hb))
      clear a0 a1 a2 a3 a4 a5 b0 b1 b2 b3 b4 b5
      have q0 := fun d os => cell_regrown (N3.out.get (j := 0) rfl) d os
      have q1 := fun d os => cell_regrown (N3.out.get (j := 1) rfl) d os
      have q2 := fun d os => cell_regrown (N3.out.get (j := 2) rfl) d os
      have q3 := fun d os => cell_regrown (N3.out.get (j := 3) rfl) d os
      have q4 := fun d os => cell_regrown (N3.out.get (j := 4) rfl) d os
      have q5 := fun d os => cell_regrown (N3.out.get (j := 5) rfl) d os
      refine wp_region_quiet_below (by kernel_rfl) (by kernel_rfl) ?_
      repeat (first | go_big_quiet_step (first
                | (go_at_call 10; with_reducible exact Calls.regrown_of (RC.out _))
                | (go_at_call 11; with_reducible exact Calls.regrown_of (CM.out _))
                | (go_at_call 12; with_reducible exact Calls.regrown_of (HA.out _))
                | (go_at_call 13; with_reducible exact Calls.regrown_of (RH.out _))) | quiet_step (first
                | (go_at_call 10; with_reducible exact Calls.regrown_of (RC.out _))
                | (go_at_call 11; with_reducible exact Calls.regrown_of (CM.out _))
                | (go_at_call 12; with_reducible exact Calls.regrown_of (HA.out _))
                | (go_at_call 13; with_reducible exact Calls.regrown_of (RH.out _))))
      refine wpQuiet_nil ?_
      intro _ hw'
      obtain ⟨⟨dq, osq⟩, hw''⟩ := hw'
      subst hw''
      go_wp2
      go_ret
      exact ⟨rfl, below_step B3.out (below_regrown _ _ _)⟩
    · skip
      have k1 : decide ((c.size : Int) < (o.size : Int)) = false := by rw [decide_eq_false_iff_not]; omega
      have n1 : decide (c.size < o.size) = false := by rw [decide_eq_false_iff_not]; omega
      have k3 : decide ((o.size : Int) < (c.size : Int)) = false := by rw [decide_eq_false_iff_not]; omega
      have n3 : decide (o.size < c.size) = false := by rw [decide_eq_false_iff_not]; omega
      have k2 : ((c.size : Int) == (o.size : Int)) = true := by rw [beq_iff_eq]; omega
      have n2 : (c.size == o.size) = true := by rw [beq_iff_eq]; omega
      clear h1
      go_enter Tryz.func3, Tryz.ntmps3
      go_wp2_with (first
        | (go_at_call 7; go_must (refine AW.out.mono ?_); rintro e w1 ⟨rfl, hb⟩; have B1 := Lib.hid (below_step HB.out hb); have N1 := Lib.hid (HC.out.below hb); have a0 := N1.out.get (j := 0) rfl; have a1 := N1.out.get (j := 1) rfl; have a2 := N1.out.get (j := 2) rfl; have a3 := N1.out.get (j := 3) rfl; have a4 := N1.out.get (j := 4) rfl; have a5 := N1.out.get (j := 5) rfl; clear hb)
        | (go_at_call 8; go_must (refine (LI.out _).mono ?_); rintro e w2 ⟨rfl, hb⟩; have B2 := Lib.hid (below_step B1.out hb); have N2 := Lib.hid (N1.out.below hb); have b0 := N2.out.get (j := 0) rfl; have b1 := N2.out.get (j := 1) rfl; have b2 := N2.out.get (j := 2) rfl; have b3 := N2.out.get (j := 3) rfl; have b4 := N2.out.get (j := 4) rfl; have b5 := N2.out.get (j := 5) rfl; clear hb)
        | (go_at_call 9; go_must (refine (CH.out _ (hG.below B2.out)).mono ?_); rintro e w3 ⟨rfl, hb⟩; have B3 := Lib.hid (below_step B2.out hb); have N3 := Lib.hid (N2.out.below hb); clear hb))
      clear a0 a1 a2 a3 a4 a5 b0 b1 b2 b3 b4 b5
      have q0 := fun d os => cell_regrown (N3.out.get (j := 0) rfl) d os
      have q1 := fun d os => cell_regrown (N3.out.get (j := 1) rfl) d os
      have q2 := fun d os => cell_regrown (N3.out.get (j := 2) rfl) d os
      have q3 := fun d os => cell_regrown (N3.out.get (j := 3) rfl) d os
      have q4 := fun d os => cell_regrown (N3.out.get (j := 4) rfl) d os
      have q5 := fun d os => cell_regrown (N3.out.get (j := 5) rfl) d os
      refine wp_region_quiet_below (by kernel_rfl) (by kernel_rfl) ?_
      repeat (first | go_big_quiet_step (first
                | (go_at_call 10; with_reducible exact Calls.regrown_of (RC.out _))
                | (go_at_call 11; with_reducible exact Calls.regrown_of (CM.out _))
                | (go_at_call 12; with_reducible exact Calls.regrown_of (HA.out _))
                | (go_at_call 13; with_reducible exact Calls.regrown_of (RH.out _))) | quiet_step (first
                | (go_at_call 10; with_reducible exact Calls.regrown_of (RC.out _))
                | (go_at_call 11; with_reducible exact Calls.regrown_of (CM.out _))
                | (go_at_call 12; with_reducible exact Calls.regrown_of (HA.out _))
                | (go_at_call 13; with_reducible exact Calls.regrown_of (RH.out _))))
      refine wpQuiet_nil ?_
      intro _ hw'
      obtain ⟨⟨dq, osq⟩, hw''⟩ := hw'
      subst hw''
      go_wp2
      go_ret
      exact ⟨rfl, below_step B3.out (below_regrown _ _ _)⟩
    · skip
      have k1 : decide ((c.size : Int) < (o.size : Int)) = false := by rw [decide_eq_false_iff_not]; omega
      have n1 : decide (c.size < o.size) = false := by rw [decide_eq_false_iff_not]; omega
      have k3 : decide ((o.size : Int) < (c.size : Int)) = false := by rw [decide_eq_false_iff_not]; omega
      have n3 : decide (o.size < c.size) = false := by rw [decide_eq_false_iff_not]; omega
      have k2 : ((c.size : Int) == (o.size : Int)) = true := by rw [beq_iff_eq]; omega
      have n2 : (c.size == o.size) = true := by rw [beq_iff_eq]; omega
      clear h1
      go_enter Tryz.func3, Tryz.ntmps3
      go_wp2_with (first
        | (go_at_call 7; go_must (refine AW.out.mono ?_); rintro e w1 ⟨rfl, hb⟩; have B1 := Lib.hid (below_step HB.out hb); have N1 := Lib.hid (HC.out.below hb); have a0 := N1.out.get (j := 0) rfl; have a1 := N1.out.get (j := 1) rfl; have a2 := N1.out.get (j := 2) rfl; have a3 := N1.out.get (j := 3) rfl; have a4 := N1.out.get (j := 4) rfl; have a5 := N1.out.get (j := 5) rfl; clear hb)
        | (go_at_call 8; go_must (refine (LI.out _).mono ?_); rintro e w2 ⟨rfl, hb⟩; have B2 := Lib.hid (below_step B1.out hb); have N2 := Lib.hid (N1.out.below hb); have b0 := N2.out.get (j := 0) rfl; have b1 := N2.out.get (j := 1) rfl; have b2 := N2.out.get (j := 2) rfl; have b3 := N2.out.get (j := 3) rfl; have b4 := N2.out.get (j := 4) rfl; have b5 := N2.out.get (j := 5) rfl; clear hb)
        | (go_at_call 9; go_must (refine (CH.out _ (hG.below B2.out)).mono ?_); rintro e w3 ⟨rfl, hb⟩; have B3 := Lib.hid (below_step B2.out hb); have N3 := Lib.hid (N2.out.below hb); clear hb))
      clear a0 a1 a2 a3 a4 a5 b0 b1 b2 b3 b4 b5
      have q0 := fun d os => cell_regrown (N3.out.get (j := 0) rfl) d os
      have q1 := fun d os => cell_regrown (N3.out.get (j := 1) rfl) d os
      have q2 := fun d os => cell_regrown (N3.out.get (j := 2) rfl) d os
      have q3 := fun d os => cell_regrown (N3.out.get (j := 3) rfl) d os
      have q4 := fun d os => cell_regrown (N3.out.get (j := 4) rfl) d os
      have q5 := fun d os => cell_regrown (N3.out.get (j := 5) rfl) d os
      refine wp_region_quiet_below (by kernel_rfl) (by kernel_rfl) ?_
      repeat (first | go_big_quiet_step (first
                | (go_at_call 10; with_reducible exact Calls.regrown_of (RC.out _))
                | (go_at_call 11; with_reducible exact Calls.regrown_of (CM.out _))
                | (go_at_call 12; with_reducible exact Calls.regrown_of (HA.out _))
                | (go_at_call 13; with_reducible exact Calls.regrown_of (RH.out _))) | quiet_step (first
                | (go_at_call 10; with_reducible exact Calls.regrown_of (RC.out _))
                | (go_at_call 11; with_reducible exact Calls.regrown_of (CM.out _))
                | (go_at_call 12; with_reducible exact Calls.regrown_of (HA.out _))
                | (go_at_call 13; with_reducible exact Calls.regrown_of (RH.out _))))
      refine wpQuiet_nil ?_
      intro _ hw'
      obtain ⟨⟨dq, osq⟩, hw''⟩ := hw'
      subst hw''
      go_wp2
      go_ret
      exact ⟨rfl, below_step B3.out (below_regrown _ _ _)⟩
    · skip
      have k1 : decide ((c.size : Int) < (o.size : Int)) = false := by rw [decide_eq_false_iff_not]; omega
      have n1 : decide (c.size < o.size) = false := by rw [decide_eq_false_iff_not]; omega
      have k3 : decide ((o.size : Int) < (c.size : Int)) = false := by rw [decide_eq_false_iff_not]; omega
      have n3 : decide (o.size < c.size) = false := by rw [decide_eq_false_iff_not]; omega
      have k2 : ((c.size : Int) == (o.size : Int)) = true := by rw [beq_iff_eq]; omega
      have n2 : (c.size == o.size) = true := by rw [beq_iff_eq]; omega
      clear h1
      go_enter Tryz.func3, Tryz.ntmps3
      go_wp2_with (first
        | (go_at_call 7; go_must (refine AW.out.mono ?_); rintro e w1 ⟨rfl, hb⟩; have B1 := Lib.hid (below_step HB.out hb); have N1 := Lib.hid (HC.out.below hb); have a0 := N1.out.get (j := 0) rfl; have a1 := N1.out.get (j := 1) rfl; have a2 := N1.out.get (j := 2) rfl; have a3 := N1.out.get (j := 3) rfl; have a4 := N1.out.get (j := 4) rfl; have a5 := N1.out.get (j := 5) rfl; clear hb)
        | (go_at_call 8; go_must (refine (LI.out _).mono ?_); rintro e w2 ⟨rfl, hb⟩; have B2 := Lib.hid (below_step B1.out hb); have N2 := Lib.hid (N1.out.below hb); have b0 := N2.out.get (j := 0) rfl; have b1 := N2.out.get (j := 1) rfl; have b2 := N2.out.get (j := 2) rfl; have b3 := N2.out.get (j := 3) rfl; have b4 := N2.out.get (j := 4) rfl; have b5 := N2.out.get (j := 5) rfl; clear hb)
        | (go_at_call 9; go_must (refine (CH.out _ (hG.below B2.out)).mono ?_); rintro e w3 ⟨rfl, hb⟩; have B3 := Lib.hid (below_step B2.out hb); have N3 := Lib.hid (N2.out.below hb); clear hb))
      clear a0 a1 a2 a3 a4 a5 b0 b1 b2 b3 b4 b5
      have q0 := fun d os => cell_regrown (N3.out.get (j := 0) rfl) d os
      have q1 := fun d os => cell_regrown (N3.out.get (j := 1) rfl) d os
      have q2 := fun d os => cell_regrown (N3.out.get (j := 2) rfl) d os
      have q3 := fun d os => cell_regrown (N3.out.get (j := 3) rfl) d os
      have q4 := fun d os => cell_regrown (N3.out.get (j := 4) rfl) d os
      have q5 := fun d os => cell_regrown (N3.out.get (j := 5) rfl) d os
      refine wp_region_quiet_below (by kernel_rfl) (by kernel_rfl) ?_
      repeat (first | go_big_quiet_step (first
                | (go_at_call 10; with_reducible exact Calls.regrown_of (RC.out _))
                | (go_at_call 11; with_reducible exact Calls.regrown_of (CM.out _))
                | (go_at_call 12; with_reducible exact Calls.regrown_of (HA.out _))
                | (go_at_call 13; with_reducible exact Calls.regrown_of (RH.out _))) | quiet_step (first
                | (go_at_call 10; with_reducible exact Calls.regrown_of (RC.out _))
                | (go_at_call 11; with_reducible exact Calls.regrown_of (CM.out _))
                | (go_at_call 12; with_reducible exact Calls.regrown_of (HA.out _))
                | (go_at_call 13; with_reducible exact Calls.regrown_of (RH.out _))))
      refine wpQuiet_nil ?_
      intro _ hw'
      obtain ⟨⟨dq, osq⟩, hw''⟩ := hw'
      subst hw''
      go_wp2
      go_ret
      exact ⟨rfl, below_step B3.out (below_regrown _ _ _)⟩

end Go.Proofs.YtiggnmhoececfaaGreatDoor

namespace Go.Proofs.YtiggnmhoececfaaGreatDoor
set_option linter.unusedVariables false
set_option linter.unusedSimpArgs false
open Go.RowKit Go.Proofs.YtiggnmhoececfaaGreatDoorW.PrintWords Go.Proofs.YtiggnmhoececfaaGreatDoorW.PrintMore

theorem compare_bl : ∀ a b : Bytes, Lib.compareBytes a b = ord3 a b
  | [], [] => rfl
  | [], _ :: _ => rfl
  | _ :: _, [] => rfl
  | x :: r, y :: s => by
    have ih := compare_bl r s
    unfold Lib.compareBytes
    unfold ord3 at ih ⊢
    show (if x < y then -1 else if y < x then 1 else Lib.compareBytes r s) = (if (if x < y then true else if y < x then false else bl r s) = true then -1 else if (if y < x then true else if x < y then false else bl s r) = true then 1 else 0)
    by_cases h : x < y
    · rw [if_pos h, if_pos h]; rfl
    · rw [if_neg h, if_neg h]
      by_cases h' : y < x
      · rw [if_pos h', if_pos h', if_pos h']; rfl
      · rw [if_neg h', if_neg h', if_neg h', if_neg h, ih]

set_option maxHeartbeats 1600000 in
theorem rcheck_dark (f t n lo hi c o : ByteArray) (m : Int) (w : World) (hG : Glob w)
    (li : ∀ W, Calls Tryz.prog 8 #[rangeV f t n lo hi m] W fun e w' => e = .returned (.bool false) ∧ Below W.heap.size W w') :
    Calls Tryz.prog 3 #[rangeV f t n lo hi m, .string c, .string o] w fun e w' => e = .returned (.bool true) ∧ Below w.heap.size w w' := by
  have HC := Lib.hid (CellsAt.new w (rangeC f t n lo hi m) 23)
  have HB := Lib.hid (below_alloc (Below.refl w.heap.size w) (.cells (rangeC f t n lo hi m).toArray 23))
  have AW := Lib.hid (awake18_any (w.alloc (.cells (rangeC f t n lo hi m).toArray 23)) (hG.below HB.out))
  have LI := Lib.hid li
  clear li
  go_enter Tryz.func3, Tryz.ntmps3
  go_wp2_with (first
    | (go_at_call 7; go_must (refine AW.out.mono ?_); rintro e w1 ⟨rfl, hb⟩; have B1 := Lib.hid (below_step HB.out hb); have N1 := Lib.hid (HC.out.below hb); have a0 := N1.out.get (j := 0) rfl; have a1 := N1.out.get (j := 1) rfl; have a2 := N1.out.get (j := 2) rfl; have a3 := N1.out.get (j := 3) rfl; have a4 := N1.out.get (j := 4) rfl; have a5 := N1.out.get (j := 5) rfl; clear hb)
    | (go_at_call 8; go_must (refine (LI.out _).mono ?_); rintro e w2 ⟨rfl, hb⟩; have B2 := Lib.hid (below_step B1.out hb); clear hb))
  go_ret
  exact ⟨rfl, B2.out⟩

set_option maxHeartbeats 1600000 in
theorem rcheck_long (f t n lo hi c o : ByteArray) (m M : Int) (w : World) (hG : Glob w)
    (hM : ∀ ats ty, Builtin.max_ ats ty #[.int .i64 c.size, .int .i64 o.size] = pure (.int .i64 M)) (hM2 : decide (60 < M) = true)
    (li : ∀ W, Calls Tryz.prog 8 #[rangeV f t n lo hi m] W fun e w' => e = .returned (.bool true) ∧ Below W.heap.size W w') :
    Calls Tryz.prog 3 #[rangeV f t n lo hi m, .string c, .string o] w fun e w' => e = .returned (.bool true) ∧ Below w.heap.size w w' := by
  have HC := Lib.hid (CellsAt.new w (rangeC f t n lo hi m) 23)
  have HB := Lib.hid (below_alloc (Below.refl w.heap.size w) (.cells (rangeC f t n lo hi m).toArray 23))
  have AW := Lib.hid (awake18_any (w.alloc (.cells (rangeC f t n lo hi m).toArray 23)) (hG.below HB.out))
  have LI := Lib.hid li
  clear li
  go_enter Tryz.func3, Tryz.ntmps3
  go_wp2_with (first
    | (go_at_call 7; go_must (refine AW.out.mono ?_); rintro e w1 ⟨rfl, hb⟩; have B1 := Lib.hid (below_step HB.out hb); have N1 := Lib.hid (HC.out.below hb); have a0 := N1.out.get (j := 0) rfl; have a1 := N1.out.get (j := 1) rfl; have a2 := N1.out.get (j := 2) rfl; have a3 := N1.out.get (j := 3) rfl; have a4 := N1.out.get (j := 4) rfl; have a5 := N1.out.get (j := 5) rfl; clear hb)
    | (go_at_call 8; go_must (refine (LI.out _).mono ?_); rintro e w2 ⟨rfl, hb⟩; have B2 := Lib.hid (below_step B1.out hb); clear hb))
  go_ret
  exact ⟨rfl, B2.out⟩

theorem chk_zero (p q s l nm wi : Bool) (m : Int) (h : chk p q s l nm wi m = 0) : p = true ∧ q = true ∧ s = true := by
  unfold chk at h
  cases p
  · simp at h
  · cases q
    · simp at h
    · cases s
      · simp at h
      · exact ⟨rfl, rfl, rfl⟩

theorem rcheck_any (f t n lo hi : ByteArray) (m : Int) (c o : ByteArray) (w : World) (hG : Glob w) :
    Calls Tryz.prog 3 #[rangeV f t n lo hi m, .string c, .string o] w fun e w' => e = .returned (.bool true) ∧ Below w.heap.size w w' := by
  have li := fun W => light_any f t n lo hi m W
  cases hL : lightV f t n lo hi with
  | false => rw [hL] at li; exact rcheck_dark f t n lo hi c o m w hG li
  | true =>
    rw [hL] at li
    obtain ⟨M, hM, hiff⟩ := max2_is c.size o.size
    by_cases hlong : 60 < M
    · exact rcheck_long f t n lo hi c o m M w hG hM (decide_eq_true hlong) li
    · simp only [lightV, Bool.and_eq_true, decide_eq_true_eq] at hL
      have hc : c.size ≤ 60 := by omega
      refine rcheck_walk f t n lo hi c o m (checkV f t n lo hi m) (rcmpV c o) M (hasV f t c) _ w hG li hM (decide_eq_false hlong)
        (fun W hW => check_any f t n lo hi m (by omega) (by omega) (by omega) W hW)
        (fun W => PRef.cashierref18_Check.calls 8000 f t n lo hi m _ W (ref_check18 f t n lo hi m (by omega) (by omega) (by omega) (by omega) (by omega)))
        (fun W => (rcmp_any c o W).mono fun e w' h => ⟨h.1, by rw [h.2]; exact Below.refl _ _⟩)
        (fun W => has_any f t n lo hi c m W) rfl (fun hez W => ?_) ?_
      · have h0 : checkV f t n lo hi m = 0 := by simpa using hez
        obtain ⟨h1, h2, h3⟩ := chk_zero _ _ _ _ _ _ _ h0
        simp only [cardOk, Bool.and_eq_true, decide_eq_true_eq] at h1 h2 h3
        exact PRef.cashierref18_Has.calls 8000 f t n lo hi m c _ W (ref_has f t n lo hi c m h1.1.1 h2.1.1 h3 (by omega) (by omega))
      · unfold rcmpV
        by_cases h : c.size = o.size
        · rw [if_pos h, compare_bl, ByteArray.toList_eq, ByteArray.toList_eq, bl_eq]
          unfold ord3
          cases h1 : bl c.data.toList o.data.toList with
          | true => exact .inr (.inr (.inl ⟨h, rfl, by simp⟩))
          | false =>
            cases h2 : bl o.data.toList c.data.toList with
            | true =>
              refine .inr (.inr (.inr (.inl ⟨h, rfl, ?_, by simp⟩)))
              rw [beq_eq_false_iff_ne]
              intro e
              rw [e] at h1 h2
              rw [h1] at h2
              cases h2
            | false => exact .inr (.inr (.inr (.inr ⟨h, rfl, by rw [bl_total _ _ h1 h2]; exact beq_self_eq_true _, by simp⟩)))
        · rw [if_neg h]
          unfold cmpZ
          by_cases h1 : c.size < o.size
          · exact .inl ⟨h1, by rw [if_pos (by omega)]⟩
          · exact .inr (.inl ⟨by omega, by rw [if_neg (by omega), if_pos (by omega)]⟩)

end Go.Proofs.YtiggnmhoececfaaGreatDoor

namespace Go.Proofs.YtiggnmhoececfaaGreatDoor
set_option linter.unusedVariables false
set_option linter.unusedSimpArgs false
open Go.RowKit

/-- What place$1 answers of a range and a card. -/
def placeV (f t c : ByteArray) : Int := if rcmpV t c < 0 then -1 else if 0 < rcmpV f c then 1 else 0

/-- What a second range is told by a table of a first one. -/
def thereV (f t f' t' : ByteArray) : Bool := decide (placeV f t f' = 0) || (decide (placeV f t f' = 1) && decide (rcmpV f t' ≤ 0))

theorem rcmp_lt (a b : ByteArray) (h : a.size = b.size) : decide (rcmpV a b < 0) = bl a.data.toList b.data.toList := by
  unfold rcmpV
  rw [if_pos h, compare_bl, ord3_lt]
theorem rcmp_le (a b : ByteArray) (h : a.size = b.size) : decide (rcmpV a b ≤ 0) = !(bl b.data.toList a.data.toList) := by
  unfold rcmpV
  rw [if_pos h, compare_bl, ord3_le]

/-- not greater -/
def le (a b : Bytes) : Bool := !(bl b a)

theorem bl_trans : ∀ a b c : Bytes, bl a b = true → bl b c = true → bl a c = true
  | _, _, [], _, h => by
    exfalso
    rename_i b _
    cases b <;> simp [bl] at h
  | [], _, _ :: _, _, _ => rfl
  | _ :: _, [], _ :: _, h, _ => by simp [bl] at h
  | x :: a, y :: b, z :: c, h1, h2 => by
    have ih := bl_trans a b c
    unfold bl at h1 h2 ⊢
    by_cases xy : x < y
    · by_cases yz : y < z
      · rw [if_pos (by rw [UInt8.lt_iff_toNat_lt] at xy yz ⊢; omega)]
      · rw [if_neg yz] at h2
        by_cases zy : z < y
        · rw [if_pos zy] at h2; cases h2
        · rw [if_pos (by rw [UInt8.lt_iff_toNat_lt] at xy yz zy ⊢; omega)]
    · rw [if_neg xy] at h1
      by_cases yx : y < x
      · rw [if_pos yx] at h1; cases h1
      · rw [if_neg yx] at h1
        by_cases yz : y < z
        · rw [if_pos (by rw [UInt8.lt_iff_toNat_lt] at xy yx yz ⊢; omega)]
        · rw [if_neg yz] at h2
          by_cases zy : z < y
          · rw [if_pos zy] at h2; cases h2
          · rw [if_neg zy] at h2
            rw [if_neg (by rw [UInt8.lt_iff_toNat_lt] at xy yx yz zy ⊢; omega), if_neg (by rw [UInt8.lt_iff_toNat_lt] at xy yx yz zy ⊢; omega)]
            exact ih h1 h2

theorem le_trans' (a b c : Bytes) (h1 : le a b = true) (h2 : le b c = true) : le a c = true := by
  unfold le at *
  simp only [Bool.not_eq_true'] at *
  cases h : bl c a with
  | false => rfl
  | true =>
    exfalso
    cases h3 : bl a b with
    | true => rw [bl_trans c a b h h3] at h2; cases h2
    | false =>
      rw [bl_total a b h3 h1] at h
      rw [h] at h2
      cases h2

theorem le_total' (a b : Bytes) : le a b = true ∨ le b a = true := by
  unfold le
  cases h : bl b a with
  | false => exact .inl rfl
  | true => exact .inr (by rw [bl_asymm b a h]; rfl)

/-- Two rows of numbers meet, told by their ends. -/
theorem meet_law (F T F' T' : Bytes) (h : le F T = true) (h' : le F' T' = true) :
    ((((le F F' && le F' T) || (le F T' && le T' T)) || (le F' F && le F T')) || (le F' T && le T T')) = (le F' T && (le F F' || le F T')) := by
  rw [Bool.eq_iff_iff]
  simp only [Bool.or_eq_true, Bool.and_eq_true]
  constructor
  · rintro (((⟨a, b⟩ | ⟨a, b⟩) | ⟨a, b⟩) | ⟨a, b⟩)
    · exact ⟨b, .inl a⟩
    · exact ⟨le_trans' _ _ _ h' b, .inr a⟩
    · exact ⟨le_trans' _ _ _ a h, .inr b⟩
    · exact ⟨a, .inr (le_trans' _ _ _ h b)⟩
  · rintro ⟨a, b | b⟩
    · exact .inl (.inl (.inl ⟨b, a⟩))
    · rcases le_total' F F' with c | c
      · exact .inl (.inl (.inl ⟨c, a⟩))
      · exact .inl (.inr ⟨c, b⟩)

theorem hasV_le (f t c : ByteArray) (hn : isNum c.data.toList = true) (hs : c.size = f.size) : hasV f t c = (le f.data.toList c.data.toList && le c.data.toList t.data.toList) := by
  unfold hasV le
  rw [hn, decide_eq_true hs, ByteArray.toList_eq, ByteArray.toList_eq, ByteArray.toList_eq, bl_eq, bl_eq, ← not_less]
  simp

theorem hasV_far (f t c : ByteArray) (hs : c.size ≠ f.size) : hasV f t c = false := by
  unfold hasV
  rw [decide_eq_false hs]
  simp

theorem rcmp_far_lt (a b : ByteArray) (h : a.size < b.size) : rcmpV a b = -1 := by
  unfold rcmpV cmpZ
  rw [if_neg (by omega), if_pos (by omega)]
theorem rcmp_far_gt (a b : ByteArray) (h : b.size < a.size) : rcmpV a b = 1 := by
  unfold rcmpV cmpZ
  rw [if_neg (by omega), if_neg (by omega), if_pos (by omega)]

/-- Whether two ranges meet is what a table of the first one tells the second. -/
theorem meet_there (f t f' t' : ByteArray) (n1 : isNum f.data.toList = true) (n2 : isNum t.data.toList = true) (n3 : isNum f'.data.toList = true) (n4 : isNum t'.data.toList = true)
    (s : f.size = t.size) (s' : f'.size = t'.size) (o : bl t.data.toList f.data.toList = false) (o' : bl t'.data.toList f'.data.toList = false) :
    (((hasV f t f' || hasV f t t') || hasV f' t' f) || hasV f' t' t) = thereV f t f' t' := by
  have h : le f.data.toList t.data.toList = true := by unfold le; rw [o]; rfl
  have h' : le f'.data.toList t'.data.toList = true := by unfold le; rw [o']; rfl
  by_cases e : f.size = f'.size
  · rw [hasV_le f t f' n3 (by omega), hasV_le f t t' n4 (by omega), hasV_le f' t' f n1 (by omega), hasV_le f' t' t n2 (by omega), meet_law _ _ _ _ h h']
    unfold thereV placeV
    have r1 := rcmp_lt t f' (by omega)
    have r2 := rcmp_le f f' (by omega)
    have r3 := rcmp_le f t' (by omega)
    unfold le
    rw [← r2, ← r3, ← r1]
    by_cases a : rcmpV t f' < 0
    · rw [if_pos a, decide_eq_true a]; simp
    · rw [if_neg a, decide_eq_false a]
      by_cases b : rcmpV f f' ≤ 0
      · rw [if_neg (by omega), decide_eq_true b]; simp
      · rw [if_pos (by omega), decide_eq_false b]; simp
  · rw [hasV_far _ _ _ (by omega), hasV_far _ _ _ (by omega), hasV_far _ _ _ (by omega), hasV_far _ _ _ (by omega)]
    unfold thereV placeV
    by_cases a : t.size < f'.size
    · rw [rcmp_far_lt t f' a]; rfl
    · rw [rcmp_far_gt t f' (by omega), rcmp_far_gt f f' (by omega), rcmp_far_gt f t' (by omega)]; rfl

end Go.Proofs.YtiggnmhoececfaaGreatDoor

namespace Go.Proofs.YtiggnmhoececfaaGreatDoor
set_option linter.unusedVariables false
set_option linter.unusedSimpArgs false
open Go.RowKit Go.Proofs.YtiggnmhoececfaaGreatDoorW.PrintWords

set_option maxHeartbeats 800000 in
theorem place1_any (f t n lo hi c : ByteArray) (m : Int) (w : World) :
    Calls Tryz.prog 56 #[rangeV f t n lo hi m, .string c] w fun e w' => e = .returned (.int .i64 (placeV f t c)) ∧ Below w.heap.size w w' := by
  have HC := Lib.hid (CellsAt.new w (rangeC f t n lo hi m) 23)
  have c0 := HC.out.get (j := 0) rfl
  have c1 := HC.out.get (j := 1) rfl
  have HB := Lib.hid (below_alloc (Below.refl w.heap.size w) (.cells (rangeC f t n lo hi m).toArray 23))
  have P1 := Lib.hid (fun W => rcmp_any t c W)
  have P2 := Lib.hid (fun W => rcmp_any f c W)
  unfold placeV
  by_cases a : rcmpV t c < 0
  · rw [if_pos a]
    have k1 := decide_eq_true a
    clear a
    go_enter Tryz.func56, Tryz.ntmps56
    go_wp2_with (go_at_call 11; first | (with_reducible refine (P1.out _).mono ?_; rintro e w' ⟨rfl, rfl⟩) | (with_reducible refine (P2.out _).mono ?_; rintro e w' ⟨rfl, rfl⟩))
    go_ret
    exact ⟨rfl, HB.out⟩
  · rw [if_neg a]
    have k1 := decide_eq_false a
    clear a
    by_cases b : 0 < rcmpV f c
    · rw [if_pos b]
      have k2 := decide_eq_true b
      clear b
      go_enter Tryz.func56, Tryz.ntmps56
      go_wp2_with (go_at_call 11; first | (with_reducible refine (P1.out _).mono ?_; rintro e w' ⟨rfl, rfl⟩) | (with_reducible refine (P2.out _).mono ?_; rintro e w' ⟨rfl, rfl⟩))
      go_ret
      exact ⟨rfl, HB.out⟩
    · rw [if_neg b]
      have k2 := decide_eq_false b
      clear b
      go_enter Tryz.func56, Tryz.ntmps56
      go_wp2_with (go_at_call 11; first | (with_reducible refine (P1.out _).mono ?_; rintro e w' ⟨rfl, rfl⟩) | (with_reducible refine (P2.out _).mono ?_; rintro e w' ⟨rfl, rfl⟩))
      go_ret
      exact ⟨rfl, HB.out⟩

end Go.Proofs.YtiggnmhoececfaaGreatDoor

namespace Go.Proofs.YtiggnmhoececfaaGreatDoor
set_option linter.unusedVariables false
set_option linter.unusedSimpArgs false
open Go.RowKit Go.Proofs.YtiggnmhoececfaaGreatDoorW.PrintWords

structure Rng where
  f : ByteArray
  t : ByteArray
  n : ByteArray
  lo : ByteArray
  hi : ByteArray
  m : Int

abbrev Rng.v (r : Rng) : Value := rangeV r.f r.t r.n r.lo r.hi r.m

/-- The cells of block b hold these ranges. -/
structure RngAt (W : World) (b j : Nat) (r : Rng) : Prop where
  c0 : W.cell? ⟨b, j * 6, none⟩ = some (.string r.f)
  c1 : W.cell? ⟨b, j * 6 + 1, none⟩ = some (.string r.t)
  c2 : W.cell? ⟨b, j * 6 + 2, none⟩ = some (.string r.n)
  c3 : W.cell? ⟨b, j * 6 + 3, none⟩ = some (.string r.lo)
  c4 : W.cell? ⟨b, j * 6 + 4, none⟩ = some (.string r.hi)
  c5 : W.cell? ⟨b, j * 6 + 5, none⟩ = some (.int .i64 r.m)

def RngsAt (W : World) (b : Nat) (l : List Rng) : Prop := ∀ j (h : j < l.length), RngAt W b j l[j]

theorem RngAt.below {w w1 : World} {b j : Nat} {r : Rng} (h : RngAt w b j r) (hb : Below w.heap.size w w1) : RngAt w1 b j r :=
  ⟨cellBelow hb h.c0, cellBelow hb h.c1, cellBelow hb h.c2, cellBelow hb h.c3, cellBelow hb h.c4, cellBelow hb h.c5⟩
theorem RngsAt.below {w w1 : World} {b : Nat} {l : List Rng} (h : RngsAt w b l) (hb : Below w.heap.size w w1) : RngsAt w1 b l := fun j hj => (h j hj).below hb

def bsGo (l : List Rng) (c : ByteArray) (i j : Nat) : Nat :=
  if h : i < j then
    if placeV (l.getD ((i + j) / 2) ⟨c, c, c, c, c, 0⟩).f (l.getD ((i + j) / 2) ⟨c, c, c, c, c, 0⟩).t c < 0 then bsGo l c ((i + j) / 2 + 1) j else bsGo l c i ((i + j) / 2)
  else i
termination_by j - i
decreasing_by all_goals omega

def bsHit (l : List Rng) (c : ByteArray) (i : Nat) : Bool := if h : i < l.length then decide (placeV l[i].f l[i].t c = 0) else false

set_option maxHeartbeats 2000000 in
set_option maxRecDepth 100000 in
theorem bsearch_any (l : List Rng) (c : ByteArray) (b cap : Nat) (w : World) (hl : l.length ≤ 1000) (hc : RngsAt w b l) :
    Calls Tryz.prog 55 #[.slice (some ⟨b, 0, none⟩) l.length cap, .string c, .func (.func 56) #[] #[]] w fun e w' =>
      e = .returned (.tuple #[.int .i64 (bsGo l c 0 l.length : Nat), .bool (bsHit l c (bsGo l c 0 l.length))]) ∧ Below w.heap.size w w' := by
  go_enter Tryz.func55, Tryz.ntmps55
  go_wp2
  go_loopw [9, 10] (fun vi vj wr => ∃ i j : Nat, vi = .int .i64 i ∧ vj = .int .i64 j ∧ i ≤ j ∧ j ≤ l.length ∧ bsGo l c i j = bsGo l c 0 l.length ∧ Below w.heap.size w wr) (fun vi vj _ => (intOf vj).toNat - (intOf vi).toNat)
  case atStart => exact ⟨0, l.length, rfl, rfl, by omega, by omega, rfl, Below.refl _ _⟩
  case round =>
    obtain ⟨i, j, rfl, rfl, hij, hj, hgo, hb⟩ := hrel
    by_cases h : i < j
    · have hgo2 := hgo
      rw [bsGo, dif_pos h] at hgo2
      have hh : (i + j) / 2 < l.length := by omega
      have cc := (hc.below hb) _ hh
      obtain ⟨k0, k1, k2, k3, k4, k5⟩ := cc
      have hd : l.getD ((i + j) / 2) ⟨c, c, c, c, c, 0⟩ = l[(i + j) / 2] := by simp [List.getD, hh]
      rw [hd] at hgo2
      have hp := fun W => place1_any l[(i + j) / 2].f l[(i + j) / 2].t l[(i + j) / 2].n l[(i + j) / 2].lo l[(i + j) / 2].hi c l[(i + j) / 2].m W
      have HB := Lib.hid hb
      have HCC := Lib.hid hc
      clear hgo hd hb hc
      have hm1 : (i + j) / 2 < j := by omega
      have hm2 : i ≤ (i + j) / 2 := by omega
      by_cases hlt : placeV l[(i + j) / 2].f l[(i + j) / 2].t c < 0
      · rw [if_pos hlt] at hgo2
        have k9 := decide_eq_true hlt
        have HGO := Lib.hid hgo2
        clear hgo2 hlt
        have HP := Lib.hid hp
        clear hp
        go_wp2_with (go_at_call 56; go_must (refine (HP.out _).mono ?_); rintro e w1 ⟨rfl, hb1⟩)
        go_roundw
        case rel => exact ⟨(i + j) / 2 + 1, j, by simp, rfl, by omega, hj, HGO.out, below_step HB.out hb1⟩
        case measure => simp [intOf]; omega
      · rw [if_neg hlt] at hgo2
        have k9 := decide_eq_false hlt
        have HGO := Lib.hid hgo2
        clear hgo2 hlt
        have HP := Lib.hid hp
        clear hp
        go_wp2_with (go_at_call 56; go_must (refine (HP.out _).mono ?_); rintro e w1 ⟨rfl, hb1⟩)
        go_roundw
        case rel => exact ⟨i, (i + j) / 2, rfl, by simp, by omega, by omega, HGO.out, below_step HB.out hb1⟩
        case measure => simp [intOf]; omega
    · obtain rfl : i = j := by omega
      have hfin : bsGo l c 0 l.length = i := by rw [← hgo, bsGo, dif_neg h]
      have HFIN := Lib.hid hfin
      clear hgo hfin h
      have HB := Lib.hid hb
      by_cases hi : i < l.length
      · have k8 : decide ((i : Int) < (l.length : Int)) = true := decide_eq_true (by omega)
        have cc := (hc.below hb) _ hi
        obtain ⟨k0, k1, k2, k3, k4, k5⟩ := cc
        have HP := Lib.hid (fun W => place1_any l[i].f l[i].t l[i].n l[i].lo l[i].hi c l[i].m W)
        clear hb hc
        go_wp2_with (go_at_call 56; go_must (refine (HP.out _).mono ?_); rintro e w1 ⟨rfl, hb1⟩)
        go_ret2
        exact ⟨by rw [HFIN.out]; unfold bsHit; rw [dif_pos hi]; first | rfl | simp, below_step HB.out hb1⟩
      · have k8 : decide ((i : Int) < (l.length : Int)) = false := decide_eq_false (by omega)
        clear hb hc
        go_wp2
        go_ret2
        exact ⟨by rw [HFIN.out]; unfold bsHit; rw [dif_neg hi]; rfl, HB.out⟩

end Go.Proofs.YtiggnmhoececfaaGreatDoor

namespace Go.Proofs.YtiggnmhoececfaaGreatDoor
set_option linter.unusedVariables false
set_option linter.unusedSimpArgs false
open Go.RowKit Go.Proofs.YtiggnmhoececfaaGreatDoorW.PrintWords

def Rng.cells (r : Rng) : List Value := rangeC r.f r.t r.n r.lo r.hi r.m
def rcells (l : List Rng) : List Value := l.flatMap Rng.cells
theorem Rng.cells_len (r : Rng) : r.cells.length = 6 := rfl
theorem rcells_nil : rcells [] = [] := rfl
theorem rcells_cons (r : Rng) (l : List Rng) : rcells (r :: l) = r.cells ++ rcells l := rfl
theorem rcells_app (a b : List Rng) : rcells (a ++ b) = rcells a ++ rcells b := by simp [rcells]
theorem rcells_one (r : Rng) : rcells [r] = r.cells := by simp [rcells]
theorem rcells_len : ∀ l : List Rng, (rcells l).length = l.length * 6
  | [] => rfl
  | r :: l => by rw [rcells_cons, List.length_append, rcells_len l, Rng.cells_len, List.length_cons]; omega
theorem rcells_take : ∀ (l : List Rng) (i : Nat), (rcells l).take (i * 6) = rcells (l.take i)
  | [], i => by simp [rcells]
  | r :: l, 0 => by simp [rcells]
  | r :: l, i + 1 => by
    rw [List.take_succ_cons, rcells_cons, rcells_cons, List.take_append, Rng.cells_len, List.take_of_length_le (by rw [Rng.cells_len]; omega), show (i + 1) * 6 - 6 = i * 6 by omega, rcells_take l i]
theorem rcells_drop : ∀ (l : List Rng) (i : Nat), (rcells l).drop (i * 6) = rcells (l.drop i)
  | [], i => by simp [rcells]
  | r :: l, 0 => by simp [rcells]
  | r :: l, i + 1 => by
    rw [List.drop_succ_cons, rcells_cons, List.drop_append, Rng.cells_len, List.drop_of_length_le (by rw [Rng.cells_len]; omega), show (i + 1) * 6 - 6 = i * 6 by omega, rcells_drop l i, List.nil_append]
theorem rcells_at : ∀ (l : List Rng) (j k : Nat) (h : j < l.length), k < 6 → (rcells l)[j * 6 + k]? = l[j].cells[k]?
  | r :: l, 0, k, _, hk => by rw [rcells_cons, List.getElem?_append_left (by rw [Rng.cells_len]; omega)]; simp
  | r :: l, j + 1, k, h, hk => by
    rw [rcells_cons, List.getElem?_append_right (by rw [Rng.cells_len]; omega), Rng.cells_len, show (j + 1) * 6 + k - 6 = j * 6 + k by omega, rcells_at l j k (by simpa using h) hk]
    simp
theorem rcells_oneCell (l : List Rng) : ∀ u ∈ rcells l, u.oneCell' = true := by
  intro u hu
  unfold rcells at hu
  obtain ⟨r, _, hr⟩ := List.mem_flatMap.1 hu
  unfold Rng.cells at hr
  simp only [List.mem_cons, List.not_mem_nil, or_false] at hr
  rcases hr with rfl | rfl | rfl | rfl | rfl | rfl <;> rfl

/-- A slice of ranges that may be read. -/
def Tab (w : World) (v : Value) (l : List Rng) : Prop :=
  (v = .slice none 0 0 ∧ l = []) ∨ ∃ g cap, v = .slice (some ⟨g, 0, none⟩) l.length cap ∧ l.length ≤ cap ∧ cap ≤ maxLen ∧ g < w.heap.size ∧ ∀ j u, (rcells l)[j]? = some u → w.cell? ⟨g, j, none⟩ = some u

theorem Tab.below {w w1 : World} {v : Value} {l : List Rng} (h : Tab w v l) (hb : Below w.heap.size w w1) : Tab w1 v l := by
  rcases h with h | ⟨g, cap, rfl, h1, h2, h3, h4⟩
  · exact .inl h
  · exact .inr ⟨g, cap, rfl, h1, h2, Nat.lt_of_lt_of_le h3 hb.size, fun j u hj => cellBelow hb (h4 j u hj)⟩

theorem Tab.of_owns {w : World} {base : Nat} {v : Value} {l : List Rng} (h : w.ownsRow base 23 6 v l.length (rcells l)) : Tab w v l := by
  have hlt := h.lt
  have hcl := fun g hg => h.cells (g := g) hg
  obtain ⟨_, ⟨rfl, h0⟩ | ⟨g, cap, cur, rfl, hb, hh, hc, hm, hs, hx⟩⟩ := h
  · exact .inl ⟨rfl, List.length_eq_zero_iff.1 h0⟩
  · exact .inr ⟨g, cap, rfl, hc, hm, (hlt g rfl).2, fun j u hj => by have := hcl g rfl j u hj; rwa [Lib.add_plain, Nat.zero_add] at this⟩

theorem Tab.rngs {w : World} {b : Nat} {l : List Rng} (h : ∀ j u, (rcells l)[j]? = some u → w.cell? ⟨b, j, none⟩ = some u) : RngsAt w b l := fun j hj =>
  ⟨h (j * 6) _ ((rcells_at l j 0 hj (by omega)).trans rfl), h (j * 6 + 1) _ ((rcells_at l j 1 hj (by omega)).trans rfl), h (j * 6 + 2) _ ((rcells_at l j 2 hj (by omega)).trans rfl), h (j * 6 + 3) _ ((rcells_at l j 3 hj (by omega)).trans rfl), h (j * 6 + 4) _ ((rcells_at l j 4 hj (by omega)).trans rfl), h (j * 6 + 5) _ ((rcells_at l j 5 hj (by omega)).trans rfl)⟩

theorem Tab.slice {w : World} {v : Value} {l : List Rng} (h : Tab w v l) : ∃ A c, v = .slice A l.length c := by
  rcases h with ⟨rfl, rfl⟩ | ⟨g, cap, rfl, _⟩
  · exact ⟨none, 0, rfl⟩
  · exact ⟨_, _, rfl⟩

theorem Tab.far {w : World} {v : Value} {l : List Rng} (h : Tab w v l) {p : Addr} (hp : v.ownBlock ≠ some p.block) (u : Value) : Tab (w.setCell p u) v l := by
  rcases h with h | ⟨g, cap, rfl, h1, h2, h3, h4⟩
  · exact .inl h
  · refine .inr ⟨g, cap, rfl, h1, h2, by simpa [World.setCell] using h3, fun j x hj => ?_⟩
    exact (World.cell?_of_block (a := ⟨g, j, none⟩) (Below.heap_setCell w p u g (fun e => hp (by rw [← e]; rfl)))).trans (h4 j x hj)

end Go.Proofs.YtiggnmhoececfaaGreatDoor

namespace Go.Proofs.YtiggnmhoececfaaGreatDoor
set_option linter.unusedVariables false
set_option linter.unusedSimpArgs false
open Go.RowKit

/-- ahead -/
def klt (a b : ByteArray) : Bool := decide (rcmpV a b < 0)

theorem klt_is (a b : ByteArray) : klt a b = (decide (a.size < b.size) || (decide (a.size = b.size) && bl a.data.toList b.data.toList)) := by
  unfold klt
  by_cases h : a.size = b.size
  · rw [rcmp_lt a b h, h]; simp
  · by_cases h2 : a.size < b.size
    · rw [rcmp_far_lt a b h2]; simp [h2]
    · rw [rcmp_far_gt a b (by omega)]; simp [h, h2]

theorem klt_cases (a b : ByteArray) : klt a b = true ↔ a.size < b.size ∨ (a.size = b.size ∧ bl a.data.toList b.data.toList = true) := by
  rw [klt_is]; simp

theorem klt_irrefl (a : ByteArray) : klt a a = false := by
  rw [← Bool.not_eq_true, klt_cases]
  rintro (h | ⟨_, h⟩)
  · omega
  · rw [bl_irrefl] at h; cases h

theorem klt_trans {a b c : ByteArray} (h1 : klt a b = true) (h2 : klt b c = true) : klt a c = true := by
  rw [klt_cases] at *
  rcases h1 with h1 | ⟨e1, h1⟩ <;> rcases h2 with h2 | ⟨e2, h2⟩
  · exact .inl (by omega)
  · exact .inl (by omega)
  · exact .inl (by omega)
  · exact .inr ⟨by omega, bl_trans _ _ _ h1 h2⟩

theorem klt_asymm {a b : ByteArray} (h : klt a b = true) : klt b a = false := by
  cases h2 : klt b a with
  | false => rfl
  | true => have := klt_trans h h2; rw [klt_irrefl] at this; cases this

theorem bytes_ext {a b : ByteArray} (h : a.data.toList = b.data.toList) : a = b := by
  cases a; cases b
  congr 1
  exact Array.ext' h

theorem klt_total {a b : ByteArray} (h1 : klt a b = false) (h2 : klt b a = false) : a = b := by
  rw [klt_is] at h1 h2
  simp only [Bool.or_eq_false_iff, decide_eq_false_iff_not, Bool.and_eq_false_iff] at h1 h2
  have e : a.size = b.size := by omega
  obtain ⟨_, h1⟩ := h1
  obtain ⟨_, h2⟩ := h2
  exact bytes_ext (bl_total _ _ (h1.resolve_left (by omega)) (h2.resolve_left (by omega)))

/-- ahead, and not behind -/
theorem klt_le {a b c : ByteArray} (h1 : klt a b = true) (h2 : klt c b = false) : klt a c = true := by
  cases h3 : klt b c with
  | true => exact klt_trans h1 h3
  | false => rw [← klt_total h3 h2]; exact h1
theorem le_klt {a b c : ByteArray} (h1 : klt b a = false) (h2 : klt b c = true) : klt a c = true := by
  cases h3 : klt a b with
  | true => exact klt_trans h3 h2
  | false => rw [klt_total h3 h1]; exact h2
theorem le_le {a b c : ByteArray} (h1 : klt b a = false) (h2 : klt c b = false) : klt c a = false := by
  cases h3 : klt c a with
  | false => rfl
  | true => have := klt_le h3 h1; rw [this] at h2; cases h2

theorem rcmp_neg (a b : ByteArray) : rcmpV a b < 0 ↔ klt a b = true := by unfold klt; simp
theorem rcmp_pos (a b : ByteArray) : 0 < rcmpV a b ↔ klt b a = true := by
  rw [klt_cases]
  by_cases h : a.size = b.size
  · have := rcmp_le a b h
    constructor
    · intro h0
      rw [decide_eq_false (by omega)] at this
      exact .inr ⟨h.symm, by simpa using this⟩
    · rintro (h1 | ⟨_, h1⟩)
      · omega
      · rw [h1] at this
        have := of_decide_eq_false this
        omega
  · by_cases h2 : a.size < b.size
    · rw [rcmp_far_lt a b h2]
      exact ⟨fun h => absurd h (by decide), fun h => by omega⟩
    · rw [rcmp_far_gt a b (by omega)]
      exact ⟨fun _ => .inl (by omega), fun _ => by decide⟩
theorem rcmp_le0 (a b : ByteArray) : rcmpV a b ≤ 0 ↔ klt b a = false := by
  rw [← Bool.not_eq_true, ← rcmp_pos]; omega

theorem place_is (f t c : ByteArray) : placeV f t c = if klt t c = true then -1 else if klt c f = true then 1 else 0 := by
  unfold placeV
  by_cases h : klt t c = true
  · rw [if_pos h, if_pos ((rcmp_neg _ _).2 h)]
  · rw [if_neg h, if_neg (fun k => h ((rcmp_neg _ _).1 k))]
    by_cases h2 : klt c f = true
    · rw [if_pos h2, if_pos ((rcmp_pos _ _).2 h2)]
    · rw [if_neg h2, if_neg (fun k => h2 ((rcmp_pos _ _).1 k))]

/-- A range that may be (as far as its ends go). -/
structure VR (r : Rng) : Prop where
  f : cardOk r.f = true
  t : cardOk r.t = true
  s : r.f.size = r.t.size
  o : klt r.t r.f = false

def TabOk (l : List Rng) : Prop := (∀ r ∈ l, VR r) ∧ l.Pairwise (fun x y => klt x.t y.f = true)

theorem TabOk.tail {r : Rng} {l : List Rng} (h : TabOk (r :: l)) : TabOk l := ⟨fun x hx => h.1 x (List.mem_cons_of_mem _ hx), (List.pairwise_cons.1 h.2).2⟩
theorem TabOk.nil : TabOk [] := ⟨fun _ h => absurd h List.not_mem_nil, List.Pairwise.nil⟩

/-- how many stand ahead of a card -/
def posOf : List Rng → ByteArray → Nat
  | [], _ => 0
  | r :: l, c => if klt r.t c = true then posOf l c + 1 else 0

theorem pos_le : ∀ (l : List Rng) (c : ByteArray), posOf l c ≤ l.length
  | [], _ => Nat.le_refl _
  | r :: l, c => by unfold posOf; have := pos_le l c; split <;> simp <;> omega

theorem pos_lt : ∀ (l : List Rng) (c : ByteArray) (j : Nat) (h : j < l.length), j < posOf l c → klt l[j].t c = true
  | r :: l, c, 0, _, hp => by
    unfold posOf at hp
    by_cases h : klt r.t c = true
    · exact h
    · rw [if_neg h] at hp; omega
  | r :: l, c, j + 1, hj, hp => by
    unfold posOf at hp
    by_cases h : klt r.t c = true
    · rw [if_pos h] at hp; exact pos_lt l c j (by simpa using hj) (by omega)
    · rw [if_neg h] at hp; omega

theorem pos_ge : ∀ (l : List Rng) (c : ByteArray), TabOk l → ∀ (j : Nat) (h : j < l.length), posOf l c ≤ j → klt l[j].t c = false
  | r :: l, c, hl, 0, _, hp => by
    unfold posOf at hp
    by_cases h : klt r.t c = true
    · rw [if_pos h] at hp; omega
    · simpa using h
  | r :: l, c, hl, j + 1, hj, hp => by
    have hj' : j < l.length := by simpa using hj
    unfold posOf at hp
    by_cases h : klt r.t c = true
    · rw [if_pos h] at hp; exact pos_ge l c hl.tail j hj' (by omega)
    · have h1 := (List.pairwise_cons.1 hl.2).1 l[j] (List.getElem_mem hj')
      have h2 := (hl.1 l[j] (List.mem_cons_of_mem _ (List.getElem_mem hj'))).o
      show klt l[j].t c = false
      exact le_le (by simpa using h) (le_le (klt_asymm h1) h2)

theorem bsGo_pos (l : List Rng) (c : ByteArray) (hl : TabOk l) : ∀ (d i j : Nat), j - i = d → i ≤ posOf l c → posOf l c ≤ j → j ≤ l.length → bsGo l c i j = posOf l c := by
  intro d
  induction d using Nat.strongRecOn with
  | _ d ih =>
    intro i j hd h1 h2 h3
    rw [bsGo]
    by_cases h : i < j
    · rw [dif_pos h]
      have hm : (i + j) / 2 < l.length := by omega
      have hg : l.getD ((i + j) / 2) ⟨c, c, c, c, c, 0⟩ = l[(i + j) / 2] := by simp [List.getD, hm]
      rw [hg]
      cases hk : klt l[(i + j) / 2].t c with
      | true =>
        rw [if_pos (by rw [place_is, if_pos hk]; decide)]
        have : (i + j) / 2 < posOf l c := by
          rcases Nat.lt_or_ge ((i + j) / 2) (posOf l c) with h | h
          · exact h
          · have := pos_ge l c hl _ hm h; rw [hk] at this; cases this
        exact ih _ (by omega) _ _ rfl (by omega) h2 h3
      | false =>
        have : posOf l c ≤ (i + j) / 2 := by
          rcases Nat.lt_or_ge ((i + j) / 2) (posOf l c) with h | h
          · have := pos_lt l c _ hm h; rw [hk] at this; cases this
          · exact h
        rw [if_neg (by rw [place_is, if_neg (by rw [hk]; decide)]; split <;> decide)]
        exact ih _ (by omega) _ _ rfl h1 (by omega) (by omega)
    · rw [dif_neg h]; omega

theorem bs_pos (l : List Rng) (c : ByteArray) (hl : TabOk l) : bsGo l c 0 l.length = posOf l c := bsGo_pos l c hl _ 0 _ rfl (Nat.zero_le _) (pos_le l c) (Nat.le_refl _)

/-- What Add asks of the place that it has found. -/
def clash (l : List Rng) (r : Rng) : Bool := bsHit l r.f (bsGo l r.f 0 l.length) || (if h : bsGo l r.f 0 l.length < l.length then decide (rcmpV l[bsGo l r.f 0 l.length].f r.t ≤ 0) else false)
def addE (l : List Rng) (r : Rng) : Int := if checkV r.f r.t r.n r.lo r.hi r.m = 0 then (if 64 ≤ l.length then 6 else if clash l r = true then 17 else 0) else checkV r.f r.t r.n r.lo r.hi r.m
def addL (l : List Rng) (r : Rng) : List Rng := l.take (bsGo l r.f 0 l.length) ++ [r] ++ l.drop (bsGo l r.f 0 l.length)

/-- Is a range apart from all? -/
def free (l : List Rng) (r : Rng) : Prop := ∀ x ∈ l, klt x.t r.f = true ∨ klt r.t x.f = true

theorem clash_free (l : List Rng) (r : Rng) (hl : TabOk l) (hr : klt r.t r.f = false) : clash l r = false ↔ free l r := by
  unfold clash bsHit
  rw [bs_pos l r.f hl]
  by_cases h : posOf l r.f < l.length
  · rw [dif_pos h, dif_pos h, place_is, if_neg (by rw [pos_ge l r.f hl _ h (Nat.le_refl _)]; decide)]
    have e1 : decide (rcmpV l[posOf l r.f].f r.t ≤ 0) = !(klt r.t l[posOf l r.f].f) := by
      cases hk : klt r.t l[posOf l r.f].f with
      | true => exact decide_eq_false (fun k => by rw [(rcmp_le0 _ _).1 k] at hk; cases hk)
      | false => exact decide_eq_true ((rcmp_le0 _ _).2 hk)
    rw [e1]
    constructor
    · intro hc x hx
      rw [Bool.or_eq_false_iff] at hc
      have hk : klt r.t l[posOf l r.f].f = true := by simpa using hc.2
      obtain ⟨j, hj, rfl⟩ := List.getElem_of_mem hx
      rcases Nat.lt_or_ge j (posOf l r.f) with hp | hp
      · exact .inl (pos_lt l r.f j hj hp)
      · refine .inr ?_
        rcases Nat.eq_or_lt_of_le hp with e | hlt
        · subst e; exact hk
        · have := List.pairwise_iff_getElem.1 hl.2 _ _ h hj hlt
          exact klt_trans hk (le_klt (hl.1 _ (List.getElem_mem h)).o this)
    · intro hf
      have hk : klt r.t l[posOf l r.f].f = true := by
        rcases hf _ (List.getElem_mem h) with h1 | h1
        · rw [pos_ge l r.f hl _ h (Nat.le_refl _)] at h1; cases h1
        · exact h1
      have hk2 : klt r.f l[posOf l r.f].f = true := le_klt hr hk
      rw [hk, if_pos hk2]
      rfl
  · rw [dif_neg h, dif_neg h]
    refine ⟨fun _ x hx => ?_, fun _ => rfl⟩
    obtain ⟨j, hj, rfl⟩ := List.getElem_of_mem hx
    exact .inl (pos_lt l r.f j hj (by omega))

theorem addL_ok (l : List Rng) (r : Rng) (hl : TabOk l) (hr : VR r) (hf : free l r) : TabOk (addL l r) := by
  unfold addL
  rw [bs_pos l r.f hl]
  refine ⟨fun x hx => ?_, ?_⟩
  · simp only [List.mem_append, List.mem_singleton] at hx
    rcases hx with (hx | rfl) | hx
    · exact hl.1 x (List.mem_of_mem_take hx)
    · exact hr
    · exact hl.1 x (List.mem_of_mem_drop hx)
  · have hd : ∀ x ∈ l.drop (posOf l r.f), klt r.t x.f = true := by
      intro x hx
      obtain ⟨j, hj, rfl⟩ := List.getElem_of_mem hx
      rw [List.length_drop] at hj
      rw [List.getElem_drop]
      rcases hf _ (List.getElem_mem (l := l) (n := posOf l r.f + j) (by omega)) with h | h
      · rw [pos_ge l r.f hl _ (by omega) (by omega)] at h; cases h
      · exact h
    have ht : ∀ x ∈ l.take (posOf l r.f), klt x.t r.f = true := by
      intro x hx
      obtain ⟨j, hj, rfl⟩ := List.getElem_of_mem hx
      rw [List.length_take] at hj
      rw [List.getElem_take]
      exact pos_lt l r.f _ (by omega) (by omega)
    rw [List.append_assoc, List.pairwise_append]
    refine ⟨hl.2.sublist (List.take_sublist _ _), ?_, ?_⟩
    · rw [List.singleton_append, List.pairwise_cons]
      exact ⟨hd, hl.2.sublist (List.drop_sublist _ _)⟩
    · intro x hx y hy
      simp only [List.singleton_append, List.mem_cons] at hy
      rcases hy with rfl | hy
      · exact ht x hx
      · exact klt_trans (ht x hx) (le_klt hr.o (hd y hy))

theorem addL_len (l : List Rng) (r : Rng) : (addL l r).length = l.length + 1 := by
  unfold addL; simp; omega
theorem addL_mem (l : List Rng) (r x : Rng) : x ∈ addL l r ↔ x = r ∨ x ∈ l := by
  unfold addL
  rw [List.mem_append, List.mem_append, List.mem_singleton, or_comm (b := x = r), or_assoc, ← List.mem_append, List.take_append_drop]

end Go.Proofs.YtiggnmhoececfaaGreatDoor

namespace Go.Proofs.YtiggnmhoececfaaGreatDoor
set_option linter.unusedVariables false
set_option linter.unusedSimpArgs false
open Go.RowKit Go.Proofs.YtiggnmhoececfaaGreatDoorW.PrintWords

theorem bsearch_nil (c : ByteArray) (A : Option Addr) (cap : Nat) (w : World) :
    Calls Tryz.prog 55 #[.slice A 0 cap, .string c, .func (.func 56) #[] #[]] w fun e w' =>
      e = .returned (.tuple #[.int .i64 0, .bool false]) ∧ Below w.heap.size w w' := by
  go_enter Tryz.func55, Tryz.ntmps55
  go_wp2
  go_loopw [9, 10] (fun vi vj wr => vi = .int .i64 0 ∧ vj = .int .i64 0 ∧ wr = w) (fun _ _ _ => 0)
  case atStart => exact ⟨rfl, rfl, rfl⟩
  case round =>
    obtain ⟨rfl, rfl, rfl⟩ := hrel
    go_wp2
    go_ret2
    exact ⟨rfl, Below.refl _ _⟩

theorem place_any (A : Option Addr) (n cap : Nat) (c : ByteArray) (x : Int) (hit : Bool) (w : World)
    (h : ∀ W, Below w.heap.size w W → Calls Tryz.prog 55 #[.slice A n cap, .string c, .func (.func 56) #[] #[]] W fun e w' => e = .returned (.tuple #[.int .i64 x, .bool hit]) ∧ Below W.heap.size W w') :
    Calls Tryz.prog 42 #[.agg #[.slice A n cap], .string c] w fun e w' => e = .returned (.tuple #[.int .i64 x, .bool hit]) ∧ Below w.heap.size w w' := by
  have HB := Lib.hid (below_alloc (Below.refl w.heap.size w) (.cells #[.slice A n cap] 36))
  have H1 := Lib.hid (h _ HB.out)
  go_enter Tryz.func42, Tryz.ntmps42
  go_wp2_with (go_at_call 55; go_must (refine H1.out.mono ?_); rintro e w1 ⟨rfl, hb⟩)
  go_ret2
  exact ⟨rfl, below_step HB.out hb⟩

end Go.Proofs.YtiggnmhoececfaaGreatDoor

namespace Go.Proofs.YtiggnmhoececfaaGreatDoor
set_option linter.unusedVariables false
set_option linter.unusedSimpArgs false
open Go.RowKit Go.Proofs.YtiggnmhoececfaaGreatDoorW.PrintWords

def ClonePost (l : List Rng) (w : World) (e : Ending) (w' : World) : Prop :=
  ∃ v', e = .returned v' ∧ w'.ownsRow w.heap.size 23 6 v' l.length (rcells l) ∧ Below w.heap.size w w'

set_option maxHeartbeats 2000000 in
set_option maxRecDepth 100000 in
theorem clone_any (v : Value) (l : List Rng) (w : World) (h : Tab w v l) (hl : l.length ≤ 1000) :
    Calls Tryz.prog 41 #[v] w (ClonePost l w) := by
  have q : ∀ (w : World) (a : Option Addr) (n c n' c' : Nat), (binOp .eql 34 (.slice a n c) (.slice none n' c')).run Tryz.prog w = .ok (.bool a.isNone) w := fun w a n c n' c' => Lib.run_eql_slice_nil w _ _ a n c n' c' Tryz.underlying34
  rcases h with ⟨rfl, rfl⟩ | ⟨g, cap, rfl, hc, hm, hg, hcell⟩
  · go_enter Tryz.func41, Tryz.ntmps41
    go_wp2
    go_ret
    exact ⟨_, rfl, World.ownsRow_nil _ _ _ _, Below.refl _ _⟩
  · obtain ⟨i0, hi0, hz0, hz1, hz2⟩ := info_parts info_range
    have HC := Lib.hid hcell
    have HL := Lib.hid (rcells_len l)
    have H1 := Lib.hid (rcells_oneCell l)
    unfold maxLen at hm
    clear hcell
    go_enter Tryz.func41, Tryz.ntmps41
    go_wp2_with (at_builtin; refine wpList_append_own _ rfl _ _ 34 rfl w.heap.size 23 i0 _ 6 88 Tryz.underlying34 hi0 hz0 hz1 hz2 rfl (by decide) _ _ _ rfl (World.ownsRow_made w #[] 0 (Nat.le_refl _) (Nat.zero_le _) (by simp)) ⟨g, 0, none⟩ l.length cap (rcells l) rfl HL.out (fun j u hj => by rw [Addr.add_lit, Nat.zero_add]; exact cellBelow (below_alloc (Below.refl _ w) _) (HC.out j u hj)) H1.out (by unfold maxLen; omega) (by omega) (by simp) ?_)
    intro v' w1 hown hgrow hnil
    go_wp2
    go_ret
    refine ⟨v', rfl, by simpa using hown, ?_⟩
    exact ((Below.refl _ w).alloc (Nat.le_refl _) _).grown hgrow (by simp) (by intro k hk; simp [Value.ownBlock] at hk; omega)

/-- What place answers of a table. -/
theorem place_tab (v : Value) (l : List Rng) (c : ByteArray) (w : World) (h : Tab w v l) (hl : l.length ≤ 1000) :
    Calls Tryz.prog 42 #[.agg #[v], .string c] w fun e w' => e = .returned (.tuple #[.int .i64 (bsGo l c 0 l.length : Nat), .bool (bsHit l c (bsGo l c 0 l.length))]) ∧ Below w.heap.size w w' := by
  rcases h with ⟨rfl, rfl⟩ | ⟨g, cap, rfl, hc, hm, hg, hcell⟩
  · refine place_any none 0 0 c _ _ w (fun W hW => ?_)
    have := bsearch_nil c none 0 W
    rw [show bsGo [] c 0 ([] : List Rng).length = 0 by rw [bsGo]; rfl]
    exact this
  · exact place_any _ _ _ c _ _ w (fun W hW => bsearch_any l c g cap W hl (Tab.rngs (fun j u hj => cellBelow hW (hcell j u hj))))

def AddPost (l : List Rng) (r : Rng) (w : World) (e : Ending) (w' : World) : Prop :=
  ∃ v', e = .returned (.tuple #[.agg #[v'], .int .i64 (addE l r)]) ∧ Tab w' v' (if addE l r = 0 then addL l r else []) ∧ Below w.heap.size w w' ∧ (∀ k, v'.ownBlock = some k → w.heap.size ≤ k)

theorem blk_of_allocs (w : World) (os : List Obj) (i : Nat) (o : Obj) (h : os[i]? = some o) : (allocs w os).heap[w.heap.size + i]? = some o := allocs_get w os i o h

set_option maxHeartbeats 2000000 in
set_option maxRecDepth 100000 in
theorem add_fault (v : Value) (f t n lo hi : ByteArray) (m E : Int) (w : World) (hG : Glob w)
    (hE : E ≠ 0) (hc : ∀ W, Glob W → Calls Tryz.prog 9 #[.agg #[.string f, .string t, .string n, .string lo, .string hi, .int .i64 m]] W fun e w' => e = .returned (.int .i64 E) ∧ Below W.heap.size W w') :
    Calls Tryz.prog 19 #[.agg #[v], .agg #[.string f, .string t, .string n, .string lo, .string hi, .int .i64 m]] w fun e w' => e = .returned (.tuple #[.agg #[.slice none 0 0], .int .i64 E]) ∧ Below w.heap.size w w' := by
  have F0 := Lib.hid (show (((w.alloc (.cells #[v] 36)).alloc (.cells #[.string f, .string t, .string n, .string lo, .string hi, .int .i64 m] 23)).alloc (.cells #[.slice none 0 0] 36)).heap[w.heap.size]? = some (.cells #[v] 36) from allocs_get w [.cells #[v] 36, .cells #[.string f, .string t, .string n, .string lo, .string hi, .int .i64 m] 23, .cells #[.slice none 0 0] 36] 0 _ rfl); have F1 := Lib.hid (show (((w.alloc (.cells #[v] 36)).alloc (.cells #[.string f, .string t, .string n, .string lo, .string hi, .int .i64 m] 23)).alloc (.cells #[.slice none 0 0] 36)).heap[w.heap.size + 1]? = some (.cells #[.string f, .string t, .string n, .string lo, .string hi, .int .i64 m] 23) from allocs_get w [.cells #[v] 36, .cells #[.string f, .string t, .string n, .string lo, .string hi, .int .i64 m] 23, .cells #[.slice none 0 0] 36] 1 _ rfl); have F2 := Lib.hid (show (((w.alloc (.cells #[v] 36)).alloc (.cells #[.string f, .string t, .string n, .string lo, .string hi, .int .i64 m] 23)).alloc (.cells #[.slice none 0 0] 36)).heap[w.heap.size + 1 + 1]? = some (.cells #[.slice none 0 0] 36) from allocs_get w [.cells #[v] 36, .cells #[.string f, .string t, .string n, .string lo, .string hi, .int .i64 m] 23, .cells #[.slice none 0 0] 36] 2 _ rfl); have B := Lib.hid (show Below w.heap.size w (((w.alloc (.cells #[v] 36)).alloc (.cells #[.string f, .string t, .string n, .string lo, .string hi, .int .i64 m] 23)).alloc (.cells #[.slice none 0 0] 36)) from allocs_below w [.cells #[v] 36, .cells #[.string f, .string t, .string n, .string lo, .string hi, .int .i64 m] 23, .cells #[.slice none 0 0] 36])
  have HC := Lib.hid hc
  have k1 : (E != 0) = true := by simpa using hE
  clear hc hE
  go_enter Tryz.func19, Tryz.ntmps19
  go_wp2_with (go_at_call 9; go_must (refine (HC.out _ (hG.below B.out)).mono ?_); rintro e w1 ⟨rfl, hb⟩; replace B := Lib.hid (below_step B.out hb); replace F0 := Lib.hid (blk_below F0.out hb); replace F0_0 := blkc F0.out 0 rfl; replace F2 := Lib.hid (blk_below F2.out hb); replace F2_0 := blkc F2.out 0 rfl; replace F2_f := blk_frozen F2.out 0; clear hb)
  have F2_0 := blkc (blk_set F2.out 0 (.slice none 0 0)) 0 rfl
  exact bodyPost_ret (v := .tuple #[.agg #[.slice none 0 0], .int .i64 E]) (by simp [results, Tryz.results19, go_sem, F2_0]) rfl ⟨rfl, B.out.setCell (by simp; omega) _⟩

set_option maxHeartbeats 2000000 in
set_option maxRecDepth 100000 in
theorem add_many (A : Option Addr) (N c : Nat) (f t n lo hi : ByteArray) (m : Int) (w : World) (hG : Glob w) (hN : 64 ≤ N)
    (hc : ∀ W, Glob W → Calls Tryz.prog 9 #[.agg #[.string f, .string t, .string n, .string lo, .string hi, .int .i64 m]] W fun e w' => e = .returned (.int .i64 0) ∧ Below W.heap.size W w') :
    Calls Tryz.prog 19 #[.agg #[.slice A N c], .agg #[.string f, .string t, .string n, .string lo, .string hi, .int .i64 m]] w fun e w' => e = .returned (.tuple #[.agg #[.slice none 0 0], .int .i64 6]) ∧ Below w.heap.size w w' := by
  have F0 := Lib.hid (show (((w.alloc (.cells #[.slice A N c] 36)).alloc (.cells #[.string f, .string t, .string n, .string lo, .string hi, .int .i64 m] 23)).alloc (.cells #[.slice none 0 0] 36)).heap[w.heap.size]? = some (.cells #[.slice A N c] 36) from allocs_get w [.cells #[.slice A N c] 36, .cells #[.string f, .string t, .string n, .string lo, .string hi, .int .i64 m] 23, .cells #[.slice none 0 0] 36] 0 _ rfl); have F1 := Lib.hid (show (((w.alloc (.cells #[.slice A N c] 36)).alloc (.cells #[.string f, .string t, .string n, .string lo, .string hi, .int .i64 m] 23)).alloc (.cells #[.slice none 0 0] 36)).heap[w.heap.size + 1]? = some (.cells #[.string f, .string t, .string n, .string lo, .string hi, .int .i64 m] 23) from allocs_get w [.cells #[.slice A N c] 36, .cells #[.string f, .string t, .string n, .string lo, .string hi, .int .i64 m] 23, .cells #[.slice none 0 0] 36] 1 _ rfl); have F2 := Lib.hid (show (((w.alloc (.cells #[.slice A N c] 36)).alloc (.cells #[.string f, .string t, .string n, .string lo, .string hi, .int .i64 m] 23)).alloc (.cells #[.slice none 0 0] 36)).heap[w.heap.size + 1 + 1]? = some (.cells #[.slice none 0 0] 36) from allocs_get w [.cells #[.slice A N c] 36, .cells #[.string f, .string t, .string n, .string lo, .string hi, .int .i64 m] 23, .cells #[.slice none 0 0] 36] 2 _ rfl); have B := Lib.hid (show Below w.heap.size w (((w.alloc (.cells #[.slice A N c] 36)).alloc (.cells #[.string f, .string t, .string n, .string lo, .string hi, .int .i64 m] 23)).alloc (.cells #[.slice none 0 0] 36)) from allocs_below w [.cells #[.slice A N c] 36, .cells #[.string f, .string t, .string n, .string lo, .string hi, .int .i64 m] 23, .cells #[.slice none 0 0] 36])
  have HC := Lib.hid hc
  have k2 : decide ((64 : Int) ≤ (N : Int)) = true := decide_eq_true (by omega)
  clear hc hN
  go_enter Tryz.func19, Tryz.ntmps19
  go_wp2_with (go_at_call 9; go_must (refine (HC.out _ (hG.below B.out)).mono ?_); rintro e w1 ⟨rfl, hb⟩; replace B := Lib.hid (below_step B.out hb); replace F0 := Lib.hid (blk_below F0.out hb); replace F0_0 := blkc F0.out 0 rfl; replace F1 := Lib.hid (blk_below F1.out hb); replace F1_0 := blkc F1.out 0 rfl; replace F1_1 := blkc F1.out 1 rfl; replace F1_2 := blkc F1.out 2 rfl; replace F1_3 := blkc F1.out 3 rfl; replace F1_4 := blkc F1.out 4 rfl; replace F1_5 := blkc F1.out 5 rfl; replace F2 := Lib.hid (blk_below F2.out hb); replace F2_0 := blkc F2.out 0 rfl; replace F2_f := blk_frozen F2.out 0; clear hb)
  have F2_0 := blkc (blk_set F2.out 0 (.slice none 0 0)) 0 rfl
  exact bodyPost_ret (v := .tuple #[.agg #[.slice none 0 0], .int .i64 6]) (by simp [results, Tryz.results19, go_sem, F2_0]) rfl ⟨rfl, B.out.setCell (by simp; omega) _⟩

set_option maxHeartbeats 2000000 in
set_option maxRecDepth 100000 in
theorem add_hit (A : Option Addr) (N c : Nat) (f t n lo hi : ByteArray) (m i : Int) (w : World) (hG : Glob w) (hN : N < 64)
    (hc : ∀ W, Glob W → Calls Tryz.prog 9 #[.agg #[.string f, .string t, .string n, .string lo, .string hi, .int .i64 m]] W fun e w' => e = .returned (.int .i64 0) ∧ Below W.heap.size W w')
    (hp : ∀ W, Below w.heap.size w W → Calls Tryz.prog 42 #[.agg #[.slice A N c], .string f] W fun e w' => e = .returned (.tuple #[.int .i64 i, .bool true]) ∧ Below W.heap.size W w') :
    Calls Tryz.prog 19 #[.agg #[.slice A N c], .agg #[.string f, .string t, .string n, .string lo, .string hi, .int .i64 m]] w fun e w' => e = .returned (.tuple #[.agg #[.slice none 0 0], .int .i64 17]) ∧ Below w.heap.size w w' := by
  have F0 := Lib.hid (show (((w.alloc (.cells #[.slice A N c] 36)).alloc (.cells #[.string f, .string t, .string n, .string lo, .string hi, .int .i64 m] 23)).alloc (.cells #[.slice none 0 0] 36)).heap[w.heap.size]? = some (.cells #[.slice A N c] 36) from allocs_get w [.cells #[.slice A N c] 36, .cells #[.string f, .string t, .string n, .string lo, .string hi, .int .i64 m] 23, .cells #[.slice none 0 0] 36] 0 _ rfl); have F1 := Lib.hid (show (((w.alloc (.cells #[.slice A N c] 36)).alloc (.cells #[.string f, .string t, .string n, .string lo, .string hi, .int .i64 m] 23)).alloc (.cells #[.slice none 0 0] 36)).heap[w.heap.size + 1]? = some (.cells #[.string f, .string t, .string n, .string lo, .string hi, .int .i64 m] 23) from allocs_get w [.cells #[.slice A N c] 36, .cells #[.string f, .string t, .string n, .string lo, .string hi, .int .i64 m] 23, .cells #[.slice none 0 0] 36] 1 _ rfl); have F2 := Lib.hid (show (((w.alloc (.cells #[.slice A N c] 36)).alloc (.cells #[.string f, .string t, .string n, .string lo, .string hi, .int .i64 m] 23)).alloc (.cells #[.slice none 0 0] 36)).heap[w.heap.size + 1 + 1]? = some (.cells #[.slice none 0 0] 36) from allocs_get w [.cells #[.slice A N c] 36, .cells #[.string f, .string t, .string n, .string lo, .string hi, .int .i64 m] 23, .cells #[.slice none 0 0] 36] 2 _ rfl); have B := Lib.hid (show Below w.heap.size w (((w.alloc (.cells #[.slice A N c] 36)).alloc (.cells #[.string f, .string t, .string n, .string lo, .string hi, .int .i64 m] 23)).alloc (.cells #[.slice none 0 0] 36)) from allocs_below w [.cells #[.slice A N c] 36, .cells #[.string f, .string t, .string n, .string lo, .string hi, .int .i64 m] 23, .cells #[.slice none 0 0] 36])
  have HC := Lib.hid hc
  have HP := Lib.hid hp
  have k2 : decide ((64 : Int) ≤ (N : Int)) = false := decide_eq_false (by omega)
  clear hc hN hp
  go_enter Tryz.func19, Tryz.ntmps19
  go_wp2_with (first | (go_at_call 9; go_must (refine (HC.out _ (hG.below B.out)).mono ?_); rintro e w1 ⟨rfl, hb⟩; replace B := Lib.hid (below_step B.out hb); replace F0 := Lib.hid (blk_below F0.out hb); replace F0_0 := blkc F0.out 0 rfl; replace F1 := Lib.hid (blk_below F1.out hb); replace F1_0 := blkc F1.out 0 rfl; replace F1_1 := blkc F1.out 1 rfl; replace F1_2 := blkc F1.out 2 rfl; replace F1_3 := blkc F1.out 3 rfl; replace F1_4 := blkc F1.out 4 rfl; replace F1_5 := blkc F1.out 5 rfl; replace F2 := Lib.hid (blk_below F2.out hb); replace F2_0 := blkc F2.out 0 rfl; replace F2_f := blk_frozen F2.out 0; clear hb) | (go_at_call 42; go_must (refine (HP.out _ B.out).mono ?_); rintro e w2 ⟨rfl, hb⟩; replace B := Lib.hid (below_step B.out hb); replace F0 := Lib.hid (blk_below F0.out hb); replace F0_0 := blkc F0.out 0 rfl; replace F1 := Lib.hid (blk_below F1.out hb); replace F1_0 := blkc F1.out 0 rfl; replace F1_1 := blkc F1.out 1 rfl; replace F1_2 := blkc F1.out 2 rfl; replace F1_3 := blkc F1.out 3 rfl; replace F1_4 := blkc F1.out 4 rfl; replace F1_5 := blkc F1.out 5 rfl; replace F2 := Lib.hid (blk_below F2.out hb); replace F2_0 := blkc F2.out 0 rfl; replace F2_f := blk_frozen F2.out 0; clear hb))
  refine wp_region_quiet_below (by kernel_rfl) (by kernel_rfl) ?_
  repeat (first | go_big_quiet_step (first | (fail)) | quiet_step (first | (fail)))
  refine wpQuiet_nil ?_
  intro _ hw'
  obtain ⟨⟨dq, osq⟩, hw''⟩ := hw'
  subst hw''
  have hb := below_regrown w2 dq osq
  generalize Go.Sort.grow (redrawn w2 dq) osq = w3 at hb ⊢
  replace B := Lib.hid (below_step B.out hb); replace F2 := Lib.hid (blk_below F2.out hb); replace F2_0 := blkc F2.out 0 rfl; replace F2_f := blk_frozen F2.out 0; clear hb
  go_wp2
  have F2_0 := blkc (blk_set F2.out 0 (.slice none 0 0)) 0 rfl
  exact bodyPost_ret (v := .tuple #[.agg #[.slice none 0 0], .int .i64 17]) (by simp [results, Tryz.results19, go_sem, F2_0]) rfl ⟨rfl, B.out.setCell (by simp; omega) _⟩

set_option maxHeartbeats 2000000 in
set_option maxRecDepth 100000 in
theorem add_clash (g N c i : Nat) (f t n lo hi xf : ByteArray) (m : Int) (w : World) (hG : Glob w) (hN : N < 64) (hi' : i < N) (hx : w.cell? ⟨g, i * 6, none⟩ = some (.string xf)) (hcmp : rcmpV xf t ≤ 0)
    (hc : ∀ W, Glob W → Calls Tryz.prog 9 #[.agg #[.string f, .string t, .string n, .string lo, .string hi, .int .i64 m]] W fun e w' => e = .returned (.int .i64 0) ∧ Below W.heap.size W w')
    (hp : ∀ W, Below w.heap.size w W → Calls Tryz.prog 42 #[.agg #[.slice (some ⟨g, 0, none⟩) N c], .string f] W fun e w' => e = .returned (.tuple #[.int .i64 i, .bool false]) ∧ Below W.heap.size W w') :
    Calls Tryz.prog 19 #[.agg #[.slice (some ⟨g, 0, none⟩) N c], .agg #[.string f, .string t, .string n, .string lo, .string hi, .int .i64 m]] w fun e w' => e = .returned (.tuple #[.agg #[.slice none 0 0], .int .i64 17]) ∧ Below w.heap.size w w' := by
  have F0 := Lib.hid (show (((w.alloc (.cells #[.slice (some ⟨g, 0, none⟩) N c] 36)).alloc (.cells #[.string f, .string t, .string n, .string lo, .string hi, .int .i64 m] 23)).alloc (.cells #[.slice none 0 0] 36)).heap[w.heap.size]? = some (.cells #[.slice (some ⟨g, 0, none⟩) N c] 36) from allocs_get w [.cells #[.slice (some ⟨g, 0, none⟩) N c] 36, .cells #[.string f, .string t, .string n, .string lo, .string hi, .int .i64 m] 23, .cells #[.slice none 0 0] 36] 0 _ rfl); have F1 := Lib.hid (show (((w.alloc (.cells #[.slice (some ⟨g, 0, none⟩) N c] 36)).alloc (.cells #[.string f, .string t, .string n, .string lo, .string hi, .int .i64 m] 23)).alloc (.cells #[.slice none 0 0] 36)).heap[w.heap.size + 1]? = some (.cells #[.string f, .string t, .string n, .string lo, .string hi, .int .i64 m] 23) from allocs_get w [.cells #[.slice (some ⟨g, 0, none⟩) N c] 36, .cells #[.string f, .string t, .string n, .string lo, .string hi, .int .i64 m] 23, .cells #[.slice none 0 0] 36] 1 _ rfl); have F2 := Lib.hid (show (((w.alloc (.cells #[.slice (some ⟨g, 0, none⟩) N c] 36)).alloc (.cells #[.string f, .string t, .string n, .string lo, .string hi, .int .i64 m] 23)).alloc (.cells #[.slice none 0 0] 36)).heap[w.heap.size + 1 + 1]? = some (.cells #[.slice none 0 0] 36) from allocs_get w [.cells #[.slice (some ⟨g, 0, none⟩) N c] 36, .cells #[.string f, .string t, .string n, .string lo, .string hi, .int .i64 m] 23, .cells #[.slice none 0 0] 36] 2 _ rfl); have B := Lib.hid (show Below w.heap.size w (((w.alloc (.cells #[.slice (some ⟨g, 0, none⟩) N c] 36)).alloc (.cells #[.string f, .string t, .string n, .string lo, .string hi, .int .i64 m] 23)).alloc (.cells #[.slice none 0 0] 36)) from allocs_below w [.cells #[.slice (some ⟨g, 0, none⟩) N c] 36, .cells #[.string f, .string t, .string n, .string lo, .string hi, .int .i64 m] 23, .cells #[.slice none 0 0] 36])
  have HC := Lib.hid hc
  have HP := Lib.hid hp
  have HX := Lib.hid hx
  have CM := Lib.hid (fun W => (rcmp_any xf t W).mono fun e w' h => (⟨h.1, by rw [h.2]; exact Below.refl _ _⟩ : e = .returned (.int .i64 (rcmpV xf t)) ∧ Below W.heap.size W w'))
  have k2 : decide ((64 : Int) ≤ (N : Int)) = false := decide_eq_false (by omega)
  have k3 : decide (rcmpV xf t ≤ 0) = true := decide_eq_true hcmp
  have k4 : decide ((i : Int) < (N : Int)) = true := decide_eq_true (by omega)
  have k5 : decide (i < N) = true := decide_eq_true hi'
  clear hc hN hp hx hcmp
  go_enter Tryz.func19, Tryz.ntmps19
  go_wp2_with (first | (go_at_call 9; go_must (refine (HC.out _ (hG.below B.out)).mono ?_); rintro e w1 ⟨rfl, hb⟩; replace B := Lib.hid (below_step B.out hb); replace F0 := Lib.hid (blk_below F0.out hb); replace F0_0 := blkc F0.out 0 rfl; replace F1 := Lib.hid (blk_below F1.out hb); replace F1_0 := blkc F1.out 0 rfl; replace F1_1 := blkc F1.out 1 rfl; replace F1_2 := blkc F1.out 2 rfl; replace F1_3 := blkc F1.out 3 rfl; replace F1_4 := blkc F1.out 4 rfl; replace F1_5 := blkc F1.out 5 rfl; replace F2 := Lib.hid (blk_below F2.out hb); replace F2_0 := blkc F2.out 0 rfl; replace F2_f := blk_frozen F2.out 0; clear hb) | (go_at_call 42; go_must (refine (HP.out _ B.out).mono ?_); rintro e w2 ⟨rfl, hb⟩; replace B := Lib.hid (below_step B.out hb); replace F0 := Lib.hid (blk_below F0.out hb); replace F0_0 := blkc F0.out 0 rfl; replace F1 := Lib.hid (blk_below F1.out hb); replace F1_0 := blkc F1.out 0 rfl; replace F1_1 := blkc F1.out 1 rfl; replace F1_2 := blkc F1.out 2 rfl; replace F1_3 := blkc F1.out 3 rfl; replace F1_4 := blkc F1.out 4 rfl; replace F1_5 := blkc F1.out 5 rfl; replace F2 := Lib.hid (blk_below F2.out hb); replace F2_0 := blkc F2.out 0 rfl; replace F2_f := blk_frozen F2.out 0; clear hb))
  have q0 := fun d os => cell_regrown F0_0 d os
  have q1 := fun d os => cell_regrown F1_1 d os
  have q2 := fun d os => cell_regrown (cellBelow B.out HX.out) d os
  refine wp_region_quiet_below (by kernel_rfl) (by kernel_rfl) ?_
  repeat (first | go_big_quiet_step (first | (go_at_call 11; with_reducible exact Calls.regrown_of (CM.out _))) | quiet_step (first | (go_at_call 11; with_reducible exact Calls.regrown_of (CM.out _))))
  refine wpQuiet_nil ?_
  intro _ hw'
  obtain ⟨⟨dq, osq⟩, hw''⟩ := hw'
  subst hw''
  have hb := below_regrown w2 dq osq
  generalize Go.Sort.grow (redrawn w2 dq) osq = w3 at hb ⊢
  replace B := Lib.hid (below_step B.out hb); replace F2 := Lib.hid (blk_below F2.out hb); replace F2_0 := blkc F2.out 0 rfl; replace F2_f := blk_frozen F2.out 0; clear hb
  go_wp2
  have F2_0 := blkc (blk_set F2.out 0 (.slice none 0 0)) 0 rfl
  exact bodyPost_ret (v := .tuple #[.agg #[.slice none 0 0], .int .i64 17]) (by simp [results, Tryz.results19, go_sem, F2_0]) rfl ⟨rfl, B.out.setCell (by simp; omega) _⟩

theorem cellFar {w : World} {a p : Addr} {v u : Value} (h : w.cell? a = some v) (hne : a.block ≠ p.block) : (w.setCell p u).cell? a = some v :=
  (World.cell?_of_block (Below.heap_setCell w p u a.block hne)).trans h

theorem own_some {w : World} {base e size n : Nat} {v : Value} {xs : List Value} (h : w.ownsRow base e size v n xs) (hn : v ≠ .slice none 0 0) : ∃ g c, v = .slice (some ⟨g, 0, none⟩) n c := by
  obtain ⟨_, ⟨rfl, _⟩ | ⟨g, cap, cur, rfl, _⟩⟩ := h
  · exact absurd rfl hn
  · exact ⟨g, cap, rfl⟩

/-- What Add leaves: the slice's cells, and this range's at place i. -/
def AddedPost (l : List Rng) (i : Nat) (vs : List Value) (w : World) (e : Ending) (w' : World) : Prop :=
  ∃ v', e = .returned (.tuple #[.agg #[v'], .int .i64 0]) ∧ w'.ownsRow w.heap.size 23 6 v' (l.length + 1) ((rcells l).take (i * 6) ++ vs ++ (rcells l).drop (i * 6)) ∧ Below w.heap.size w w'

set_option maxHeartbeats 4000000 in
set_option maxRecDepth 100000 in
theorem add_last (l : List Rng) (A : Option Addr) (c i : Nat) (f t n lo hi : ByteArray) (m : Int) (w : World) (hG : Glob w) (hN : l.length < 64) (hT : Tab w (.slice A l.length c) l) (hi0 : ¬ i < l.length) (hi1 : ¬ l.length < i)
    (hc : ∀ W, Glob W → Calls Tryz.prog 9 #[.agg #[.string f, .string t, .string n, .string lo, .string hi, .int .i64 m]] W fun e w' => e = .returned (.int .i64 0) ∧ Below W.heap.size W w')
    (hp : ∀ W, Below w.heap.size w W → Calls Tryz.prog 42 #[.agg #[.slice A l.length c], .string f] W fun e w' => e = .returned (.tuple #[.int .i64 i, .bool false]) ∧ Below W.heap.size W w') :
    Calls Tryz.prog 19 #[.agg #[.slice A l.length c], .agg #[.string f, .string t, .string n, .string lo, .string hi, .int .i64 m]] w (AddedPost l i [.string f, .string t, .string n, .string lo, .string hi, .int .i64 m] w) := by
  have F0 := Lib.hid (show (((w.alloc (.cells #[.slice A l.length c] 36)).alloc (.cells #[.string f, .string t, .string n, .string lo, .string hi, .int .i64 m] 23)).alloc (.cells #[.slice none 0 0] 36)).heap[w.heap.size]? = some (.cells #[.slice A l.length c] 36) from allocs_get w [.cells #[.slice A l.length c] 36, .cells #[.string f, .string t, .string n, .string lo, .string hi, .int .i64 m] 23, .cells #[.slice none 0 0] 36] 0 _ rfl); have F1 := Lib.hid (show (((w.alloc (.cells #[.slice A l.length c] 36)).alloc (.cells #[.string f, .string t, .string n, .string lo, .string hi, .int .i64 m] 23)).alloc (.cells #[.slice none 0 0] 36)).heap[w.heap.size + 1]? = some (.cells #[.string f, .string t, .string n, .string lo, .string hi, .int .i64 m] 23) from allocs_get w [.cells #[.slice A l.length c] 36, .cells #[.string f, .string t, .string n, .string lo, .string hi, .int .i64 m] 23, .cells #[.slice none 0 0] 36] 1 _ rfl); have F2 := Lib.hid (show (((w.alloc (.cells #[.slice A l.length c] 36)).alloc (.cells #[.string f, .string t, .string n, .string lo, .string hi, .int .i64 m] 23)).alloc (.cells #[.slice none 0 0] 36)).heap[w.heap.size + 1 + 1]? = some (.cells #[.slice none 0 0] 36) from allocs_get w [.cells #[.slice A l.length c] 36, .cells #[.string f, .string t, .string n, .string lo, .string hi, .int .i64 m] 23, .cells #[.slice none 0 0] 36] 2 _ rfl); have B := Lib.hid (show Below w.heap.size w (((w.alloc (.cells #[.slice A l.length c] 36)).alloc (.cells #[.string f, .string t, .string n, .string lo, .string hi, .int .i64 m] 23)).alloc (.cells #[.slice none 0 0] 36)) from allocs_below w [.cells #[.slice A l.length c] 36, .cells #[.string f, .string t, .string n, .string lo, .string hi, .int .i64 m] 23, .cells #[.slice none 0 0] 36])
  have HC := Lib.hid hc
  have HP := Lib.hid hp
  have HT := Lib.hid hT
  have k2 : decide ((64 : Int) ≤ (l.length : Int)) = false := decide_eq_false (by omega)
  have k4 : decide ((i : Int) < (l.length : Int)) = false := decide_eq_false (by omega)
  have k5 : decide (i < l.length) = false := decide_eq_false (by omega)
  have hl : l.length ≤ 1000 := by omega
  have hil : i ≤ l.length := by omega
  clear hc hN hp hT hi0 hi1
  go_enter Tryz.func19, Tryz.ntmps19
  go_wp2_with (first | (go_at_call 9; go_must (refine (HC.out _ (hG.below B.out)).mono ?_); rintro e w1 ⟨rfl, hb⟩; replace B := Lib.hid (below_step B.out hb); replace F0 := Lib.hid (blk_below F0.out hb); replace F0_0 := blkc F0.out 0 rfl; replace F1 := Lib.hid (blk_below F1.out hb); replace F1_0 := blkc F1.out 0 rfl; replace F1_1 := blkc F1.out 1 rfl; replace F1_2 := blkc F1.out 2 rfl; replace F1_3 := blkc F1.out 3 rfl; replace F1_4 := blkc F1.out 4 rfl; replace F1_5 := blkc F1.out 5 rfl; replace F2 := Lib.hid (blk_below F2.out hb); replace F2_0 := blkc F2.out 0 rfl; replace F2_f := blk_frozen F2.out 0; clear hb) | (go_at_call 42; go_must (refine (HP.out _ B.out).mono ?_); rintro e w2 ⟨rfl, hb⟩; replace B := Lib.hid (below_step B.out hb); replace F0 := Lib.hid (blk_below F0.out hb); replace F0_0 := blkc F0.out 0 rfl; replace F1 := Lib.hid (blk_below F1.out hb); replace F1_0 := blkc F1.out 0 rfl; replace F1_1 := blkc F1.out 1 rfl; replace F1_2 := blkc F1.out 2 rfl; replace F1_3 := blkc F1.out 3 rfl; replace F1_4 := blkc F1.out 4 rfl; replace F1_5 := blkc F1.out 5 rfl; replace F2 := Lib.hid (blk_below F2.out hb); replace F2_0 := blkc F2.out 0 rfl; replace F2_f := blk_frozen F2.out 0; clear hb))
  have q0 := fun d os => cell_regrown F0_0 d os
  refine wp_region_quiet_below (by kernel_rfl) (by kernel_rfl) ?_
  repeat (first | go_big_quiet_step (first | (fail)) | quiet_step (first | (fail)))
  refine wpQuiet_nil ?_
  intro _ hw'
  obtain ⟨⟨dq, osq⟩, hw''⟩ := hw'
  subst hw''
  have hb := below_regrown w2 dq osq
  generalize Go.Sort.grow (redrawn w2 dq) osq = w3 at hb ⊢
  replace B := Lib.hid (below_step B.out hb); replace F0 := Lib.hid (blk_below F0.out hb); replace F0_0 := blkc F0.out 0 rfl; replace F1 := Lib.hid (blk_below F1.out hb); replace F1_0 := blkc F1.out 0 rfl; replace F1_1 := blkc F1.out 1 rfl; replace F1_2 := blkc F1.out 2 rfl; replace F1_3 := blkc F1.out 3 rfl; replace F1_4 := blkc F1.out 4 rfl; replace F1_5 := blkc F1.out 5 rfl; replace F2 := Lib.hid (blk_below F2.out hb); replace F2_0 := blkc F2.out 0 rfl; replace F2_f := blk_frozen F2.out 0; clear hb
  go_wp2_with fail
  have T3 := Lib.hid (HT.out.below B.out)
  have hw3 : w.heap.size + 1 + 1 < w3.heap.size := blk_lt F2.out
  go_region_held3 (fun W => W.cell? ⟨w.heap.size, 0, none⟩ = some (.slice A l.length c) ∧ W.cell? ⟨w.heap.size + 1, 0, none⟩ = some (.string f) ∧ W.cell? ⟨w.heap.size + 1, 1, none⟩ = some (.string t) ∧ W.cell? ⟨w.heap.size + 1, 2, none⟩ = some (.string n) ∧ W.cell? ⟨w.heap.size + 1, 3, none⟩ = some (.string lo) ∧ W.cell? ⟨w.heap.size + 1, 4, none⟩ = some (.string hi) ∧ W.cell? ⟨w.heap.size + 1, 5, none⟩ = some (.int .i64 m))
    (first | exact ⟨F0_0, F1_0, F1_1, F1_2, F1_3, F1_4, F1_5⟩ | exact ⟨cellBelow (w := w3) (below_alloc (below_drew (Below.refl _ _)) _) F0_0, cellBelow (w := w3) (below_alloc (below_drew (Below.refl _ _)) _) F1_0, cellBelow (w := w3) (below_alloc (below_drew (Below.refl _ _)) _) F1_1, cellBelow (w := w3) (below_alloc (below_drew (Below.refl _ _)) _) F1_2, cellBelow (w := w3) (below_alloc (below_drew (Below.refl _ _)) _) F1_3, cellBelow (w := w3) (below_alloc (below_drew (Below.refl _ _)) _) F1_4, cellBelow (w := w3) (below_alloc (below_drew (Below.refl _ _)) _) F1_5⟩ | exact ⟨cellBelow (w := w3) (G4.out) F0_0, cellBelow (w := w3) (G4.out) F1_0, cellBelow (w := w3) (G4.out) F1_1, cellBelow (w := w3) (G4.out) F1_2, cellBelow (w := w3) (G4.out) F1_3, cellBelow (w := w3) (G4.out) F1_4, cellBelow (w := w3) (G4.out) F1_5⟩ | exact ⟨cellBelow (w := w3) (below_alloc G4.out _) F0_0, cellBelow (w := w3) (below_alloc G4.out _) F1_0, cellBelow (w := w3) (below_alloc G4.out _) F1_1, cellBelow (w := w3) (below_alloc G4.out _) F1_2, cellBelow (w := w3) (below_alloc G4.out _) F1_3, cellBelow (w := w3) (below_alloc G4.out _) F1_4, cellBelow (w := w3) (below_alloc G4.out _) F1_5⟩ | exact ⟨cellBelow (w := w3) (G5.out) F0_0, cellBelow (w := w3) (G5.out) F1_0, cellBelow (w := w3) (G5.out) F1_1, cellBelow (w := w3) (G5.out) F1_2, cellBelow (w := w3) (G5.out) F1_3, cellBelow (w := w3) (G5.out) F1_4, cellBelow (w := w3) (G5.out) F1_5⟩ | exact ⟨cellFar (cellBelow (w := w3) G5.out F0_0) (by dsimp only; omega), cellFar (cellBelow (w := w3) G5.out F1_0) (by dsimp only; omega), cellFar (cellBelow (w := w3) G5.out F1_1) (by dsimp only; omega), cellFar (cellBelow (w := w3) G5.out F1_2) (by dsimp only; omega), cellFar (cellBelow (w := w3) G5.out F1_3) (by dsimp only; omega), cellFar (cellBelow (w := w3) G5.out F1_4) (by dsimp only; omega), cellFar (cellBelow (w := w3) G5.out F1_5) (by dsimp only; omega)⟩)
    (first
      | (go_at_call 41; refine (clone_any _ l _ (T3.out.below (by first | exact below_drew (Below.refl _ _) | exact below_alloc (below_drew (Below.refl _ _)) _)) hl).mono ?_; rintro e w4 ⟨v4, rfl, hown4, hb4⟩; have G4 := Lib.hid (below_step (show Below w3.heap.size w3 _ by first | exact below_drew (Below.refl _ _) | exact below_alloc (below_drew (Below.refl _ _)) _) hb4); have O4 := Lib.hid hown4; have B4 := Lib.hid hb4; clear hown4 hb4)
      | (go_at_call 43; first
          | ((with_reducible refine (ins_any (base := w3.heap.size) v4 l.length i (rcells l) [.string f, .string t, .string n, .string lo, .string hi, .int .i64 m] w4.heap.size 23 (w4.alloc (.cells #[.string f, .string t, .string n, .string lo, .string hi, .int .i64 m] 23)) (by have := G4.out.size; simp; omega) ((own_weaken O4.out (by simp)).alloc _) (rcells_oneCell l) hil hl rfl (blk_new _ _) (fun e => by have := (O4.out.lt _ e).2; omega) (by simp [Value.oneCell'])).mono ?_); rintro e w5 ⟨v5, rfl, hown5, hgr5, hnn5⟩; obtain ⟨g5, c5, rfl⟩ := own_some hown5 hnn5; have G5 := Lib.hid ((below_alloc G4.out _).grown hgr5 (by have := G4.out.size; simp; omega) (fun k hk => (by have := (O4.out.lt k hk).1; simp at this; omega))); have O5 := Lib.hid hown5; have F5 := Lib.hid (blk_below F2.out G5.out); have F5_0 := blkc F5.out 0 rfl; have F5_f := blk_frozen F5.out 0; clear hown5 hgr5 hnn5)
          | ((with_reducible refine (ins_any (base := w3.heap.size) v4 l.length i (rcells l) [.string f, .string t, .string n, .string lo, .string hi, .int .i64 m] w3.heap.size 23 w4 G4.out.size (own_weaken O4.out (by simp)) (rcells_oneCell l) hil hl rfl (blk_below (blk_new w3.drew (.cells #[.string f, .string t, .string n, .string lo, .string hi, .int .i64 m] 23)) B4.out) (fun e => by have := (O4.out.lt _ e).1; simp at this; omega) (by simp [Value.oneCell'])).mono ?_); rintro e w5 ⟨v5, rfl, hown5, hgr5, hnn5⟩; obtain ⟨g5, c5, rfl⟩ := own_some hown5 hnn5; have G5 := Lib.hid (G4.out.grown hgr5 G4.out.size (fun k hk => (by have := (O4.out.lt k hk).1; simp at this; omega))); have O5 := Lib.hid hown5; have F5 := Lib.hid (blk_below F2.out G5.out); have F5_0 := blkc F5.out 0 rfl; have F5_f := blk_frozen F5.out 0; clear hown5 hgr5 hnn5)))
  all_goals
    go_wp2
    have F6_0 := blkc (blk_set F5.out 0 (.slice (some ⟨g5, 0, none⟩) (l.length + 1) c5)) 0 rfl
    refine bodyPost_ret (v := .tuple #[.agg #[.slice (some ⟨g5, 0, none⟩) (l.length + 1) c5], .int .i64 0]) (by simp [results, Tryz.results19, go_sem, F6_0]) rfl ⟨_, rfl, ?_, (below_step B.out G5.out).setCell (by simp; omega) _⟩
    exact own_move (own_weaken O5.out (by omega)) (fun k hk => Below.heap_setCell _ _ _ k (by have := (O5.out.lt k hk).1; dsimp only; omega))

set_option maxHeartbeats 4000000 in
set_option maxRecDepth 100000 in
theorem add_mid (l : List Rng) (g c i : Nat) (xf : ByteArray) (f t n lo hi : ByteArray) (m : Int) (w : World) (hG : Glob w) (hN : l.length < 64) (hT : Tab w (.slice (some ⟨g, 0, none⟩) l.length c) l) (hi0 : i < l.length) (hx : w.cell? ⟨g, i * 6, none⟩ = some (.string xf)) (hcmp : ¬ rcmpV xf t ≤ 0)
    (hc : ∀ W, Glob W → Calls Tryz.prog 9 #[.agg #[.string f, .string t, .string n, .string lo, .string hi, .int .i64 m]] W fun e w' => e = .returned (.int .i64 0) ∧ Below W.heap.size W w')
    (hp : ∀ W, Below w.heap.size w W → Calls Tryz.prog 42 #[.agg #[.slice (some ⟨g, 0, none⟩) l.length c], .string f] W fun e w' => e = .returned (.tuple #[.int .i64 i, .bool false]) ∧ Below W.heap.size W w') :
    Calls Tryz.prog 19 #[.agg #[.slice (some ⟨g, 0, none⟩) l.length c], .agg #[.string f, .string t, .string n, .string lo, .string hi, .int .i64 m]] w (AddedPost l i [.string f, .string t, .string n, .string lo, .string hi, .int .i64 m] w) := by
  have F0 := Lib.hid (show (((w.alloc (.cells #[.slice (some ⟨g, 0, none⟩) l.length c] 36)).alloc (.cells #[.string f, .string t, .string n, .string lo, .string hi, .int .i64 m] 23)).alloc (.cells #[.slice none 0 0] 36)).heap[w.heap.size]? = some (.cells #[.slice (some ⟨g, 0, none⟩) l.length c] 36) from allocs_get w [.cells #[.slice (some ⟨g, 0, none⟩) l.length c] 36, .cells #[.string f, .string t, .string n, .string lo, .string hi, .int .i64 m] 23, .cells #[.slice none 0 0] 36] 0 _ rfl); have F1 := Lib.hid (show (((w.alloc (.cells #[.slice (some ⟨g, 0, none⟩) l.length c] 36)).alloc (.cells #[.string f, .string t, .string n, .string lo, .string hi, .int .i64 m] 23)).alloc (.cells #[.slice none 0 0] 36)).heap[w.heap.size + 1]? = some (.cells #[.string f, .string t, .string n, .string lo, .string hi, .int .i64 m] 23) from allocs_get w [.cells #[.slice (some ⟨g, 0, none⟩) l.length c] 36, .cells #[.string f, .string t, .string n, .string lo, .string hi, .int .i64 m] 23, .cells #[.slice none 0 0] 36] 1 _ rfl); have F2 := Lib.hid (show (((w.alloc (.cells #[.slice (some ⟨g, 0, none⟩) l.length c] 36)).alloc (.cells #[.string f, .string t, .string n, .string lo, .string hi, .int .i64 m] 23)).alloc (.cells #[.slice none 0 0] 36)).heap[w.heap.size + 1 + 1]? = some (.cells #[.slice none 0 0] 36) from allocs_get w [.cells #[.slice (some ⟨g, 0, none⟩) l.length c] 36, .cells #[.string f, .string t, .string n, .string lo, .string hi, .int .i64 m] 23, .cells #[.slice none 0 0] 36] 2 _ rfl); have B := Lib.hid (show Below w.heap.size w (((w.alloc (.cells #[.slice (some ⟨g, 0, none⟩) l.length c] 36)).alloc (.cells #[.string f, .string t, .string n, .string lo, .string hi, .int .i64 m] 23)).alloc (.cells #[.slice none 0 0] 36)) from allocs_below w [.cells #[.slice (some ⟨g, 0, none⟩) l.length c] 36, .cells #[.string f, .string t, .string n, .string lo, .string hi, .int .i64 m] 23, .cells #[.slice none 0 0] 36])
  have HC := Lib.hid hc
  have HP := Lib.hid hp
  have HT := Lib.hid hT
  have k2 : decide ((64 : Int) ≤ (l.length : Int)) = false := decide_eq_false (by omega)
  have HX := Lib.hid hx
  have CM := Lib.hid (fun W => (rcmp_any xf t W).mono fun e w' h => (⟨h.1, by rw [h.2]; exact Below.refl _ _⟩ : e = .returned (.int .i64 (rcmpV xf t)) ∧ Below W.heap.size W w'))
  have k3 : decide (rcmpV xf t ≤ 0) = false := decide_eq_false hcmp
  have k4 : decide ((i : Int) < (l.length : Int)) = true := decide_eq_true (by omega)
  have k5 : decide (i < l.length) = true := decide_eq_true hi0
  have hl : l.length ≤ 1000 := by omega
  have hil : i ≤ l.length := by omega
  clear hc hN hp hT hx hcmp
  go_enter Tryz.func19, Tryz.ntmps19
  go_wp2_with (first | (go_at_call 9; go_must (refine (HC.out _ (hG.below B.out)).mono ?_); rintro e w1 ⟨rfl, hb⟩; replace B := Lib.hid (below_step B.out hb); replace F0 := Lib.hid (blk_below F0.out hb); replace F0_0 := blkc F0.out 0 rfl; replace F1 := Lib.hid (blk_below F1.out hb); replace F1_0 := blkc F1.out 0 rfl; replace F1_1 := blkc F1.out 1 rfl; replace F1_2 := blkc F1.out 2 rfl; replace F1_3 := blkc F1.out 3 rfl; replace F1_4 := blkc F1.out 4 rfl; replace F1_5 := blkc F1.out 5 rfl; replace F2 := Lib.hid (blk_below F2.out hb); replace F2_0 := blkc F2.out 0 rfl; replace F2_f := blk_frozen F2.out 0; clear hb) | (go_at_call 42; go_must (refine (HP.out _ B.out).mono ?_); rintro e w2 ⟨rfl, hb⟩; replace B := Lib.hid (below_step B.out hb); replace F0 := Lib.hid (blk_below F0.out hb); replace F0_0 := blkc F0.out 0 rfl; replace F1 := Lib.hid (blk_below F1.out hb); replace F1_0 := blkc F1.out 0 rfl; replace F1_1 := blkc F1.out 1 rfl; replace F1_2 := blkc F1.out 2 rfl; replace F1_3 := blkc F1.out 3 rfl; replace F1_4 := blkc F1.out 4 rfl; replace F1_5 := blkc F1.out 5 rfl; replace F2 := Lib.hid (blk_below F2.out hb); replace F2_0 := blkc F2.out 0 rfl; replace F2_f := blk_frozen F2.out 0; clear hb))
  have q0 := fun d os => cell_regrown F0_0 d os
  have q1 := fun d os => cell_regrown F1_1 d os
  have q2 := fun d os => cell_regrown (cellBelow B.out HX.out) d os
  refine wp_region_quiet_below (by kernel_rfl) (by kernel_rfl) ?_
  repeat (first | go_big_quiet_step (first | (go_at_call 11; with_reducible exact Calls.regrown_of (CM.out _))) | quiet_step (first | (go_at_call 11; with_reducible exact Calls.regrown_of (CM.out _))))
  refine wpQuiet_nil ?_
  intro _ hw'
  obtain ⟨⟨dq, osq⟩, hw''⟩ := hw'
  subst hw''
  have hb := below_regrown w2 dq osq
  generalize Go.Sort.grow (redrawn w2 dq) osq = w3 at hb ⊢
  replace B := Lib.hid (below_step B.out hb); replace F0 := Lib.hid (blk_below F0.out hb); replace F0_0 := blkc F0.out 0 rfl; replace F1 := Lib.hid (blk_below F1.out hb); replace F1_0 := blkc F1.out 0 rfl; replace F1_1 := blkc F1.out 1 rfl; replace F1_2 := blkc F1.out 2 rfl; replace F1_3 := blkc F1.out 3 rfl; replace F1_4 := blkc F1.out 4 rfl; replace F1_5 := blkc F1.out 5 rfl; replace F2 := Lib.hid (blk_below F2.out hb); replace F2_0 := blkc F2.out 0 rfl; replace F2_f := blk_frozen F2.out 0; clear hb
  go_wp2_with fail
  have T3 := Lib.hid (HT.out.below B.out)
  have hw3 : w.heap.size + 1 + 1 < w3.heap.size := blk_lt F2.out
  go_region_held3 (fun W => W.cell? ⟨w.heap.size, 0, none⟩ = some (.slice (some ⟨g, 0, none⟩) l.length c) ∧ W.cell? ⟨w.heap.size + 1, 0, none⟩ = some (.string f) ∧ W.cell? ⟨w.heap.size + 1, 1, none⟩ = some (.string t) ∧ W.cell? ⟨w.heap.size + 1, 2, none⟩ = some (.string n) ∧ W.cell? ⟨w.heap.size + 1, 3, none⟩ = some (.string lo) ∧ W.cell? ⟨w.heap.size + 1, 4, none⟩ = some (.string hi) ∧ W.cell? ⟨w.heap.size + 1, 5, none⟩ = some (.int .i64 m))
    (first | exact ⟨F0_0, F1_0, F1_1, F1_2, F1_3, F1_4, F1_5⟩ | exact ⟨cellBelow (w := w3) (below_alloc (below_drew (Below.refl _ _)) _) F0_0, cellBelow (w := w3) (below_alloc (below_drew (Below.refl _ _)) _) F1_0, cellBelow (w := w3) (below_alloc (below_drew (Below.refl _ _)) _) F1_1, cellBelow (w := w3) (below_alloc (below_drew (Below.refl _ _)) _) F1_2, cellBelow (w := w3) (below_alloc (below_drew (Below.refl _ _)) _) F1_3, cellBelow (w := w3) (below_alloc (below_drew (Below.refl _ _)) _) F1_4, cellBelow (w := w3) (below_alloc (below_drew (Below.refl _ _)) _) F1_5⟩ | exact ⟨cellBelow (w := w3) (G4.out) F0_0, cellBelow (w := w3) (G4.out) F1_0, cellBelow (w := w3) (G4.out) F1_1, cellBelow (w := w3) (G4.out) F1_2, cellBelow (w := w3) (G4.out) F1_3, cellBelow (w := w3) (G4.out) F1_4, cellBelow (w := w3) (G4.out) F1_5⟩ | exact ⟨cellBelow (w := w3) (below_alloc G4.out _) F0_0, cellBelow (w := w3) (below_alloc G4.out _) F1_0, cellBelow (w := w3) (below_alloc G4.out _) F1_1, cellBelow (w := w3) (below_alloc G4.out _) F1_2, cellBelow (w := w3) (below_alloc G4.out _) F1_3, cellBelow (w := w3) (below_alloc G4.out _) F1_4, cellBelow (w := w3) (below_alloc G4.out _) F1_5⟩ | exact ⟨cellBelow (w := w3) (G5.out) F0_0, cellBelow (w := w3) (G5.out) F1_0, cellBelow (w := w3) (G5.out) F1_1, cellBelow (w := w3) (G5.out) F1_2, cellBelow (w := w3) (G5.out) F1_3, cellBelow (w := w3) (G5.out) F1_4, cellBelow (w := w3) (G5.out) F1_5⟩ | exact ⟨cellFar (cellBelow (w := w3) G5.out F0_0) (by dsimp only; omega), cellFar (cellBelow (w := w3) G5.out F1_0) (by dsimp only; omega), cellFar (cellBelow (w := w3) G5.out F1_1) (by dsimp only; omega), cellFar (cellBelow (w := w3) G5.out F1_2) (by dsimp only; omega), cellFar (cellBelow (w := w3) G5.out F1_3) (by dsimp only; omega), cellFar (cellBelow (w := w3) G5.out F1_4) (by dsimp only; omega), cellFar (cellBelow (w := w3) G5.out F1_5) (by dsimp only; omega)⟩)
    (first
      | (go_at_call 41; refine (clone_any _ l _ (T3.out.below (by first | exact below_drew (Below.refl _ _) | exact below_alloc (below_drew (Below.refl _ _)) _)) hl).mono ?_; rintro e w4 ⟨v4, rfl, hown4, hb4⟩; have G4 := Lib.hid (below_step (show Below w3.heap.size w3 _ by first | exact below_drew (Below.refl _ _) | exact below_alloc (below_drew (Below.refl _ _)) _) hb4); have O4 := Lib.hid hown4; have B4 := Lib.hid hb4; clear hown4 hb4)
      | (go_at_call 43; first
          | ((with_reducible refine (ins_any (base := w3.heap.size) v4 l.length i (rcells l) [.string f, .string t, .string n, .string lo, .string hi, .int .i64 m] w4.heap.size 23 (w4.alloc (.cells #[.string f, .string t, .string n, .string lo, .string hi, .int .i64 m] 23)) (by have := G4.out.size; simp; omega) ((own_weaken O4.out (by simp)).alloc _) (rcells_oneCell l) hil hl rfl (blk_new _ _) (fun e => by have := (O4.out.lt _ e).2; omega) (by simp [Value.oneCell'])).mono ?_); rintro e w5 ⟨v5, rfl, hown5, hgr5, hnn5⟩; obtain ⟨g5, c5, rfl⟩ := own_some hown5 hnn5; have G5 := Lib.hid ((below_alloc G4.out _).grown hgr5 (by have := G4.out.size; simp; omega) (fun k hk => (by have := (O4.out.lt k hk).1; simp at this; omega))); have O5 := Lib.hid hown5; have F5 := Lib.hid (blk_below F2.out G5.out); have F5_0 := blkc F5.out 0 rfl; have F5_f := blk_frozen F5.out 0; clear hown5 hgr5 hnn5)
          | ((with_reducible refine (ins_any (base := w3.heap.size) v4 l.length i (rcells l) [.string f, .string t, .string n, .string lo, .string hi, .int .i64 m] w3.heap.size 23 w4 G4.out.size (own_weaken O4.out (by simp)) (rcells_oneCell l) hil hl rfl (blk_below (blk_new w3.drew (.cells #[.string f, .string t, .string n, .string lo, .string hi, .int .i64 m] 23)) B4.out) (fun e => by have := (O4.out.lt _ e).1; simp at this; omega) (by simp [Value.oneCell'])).mono ?_); rintro e w5 ⟨v5, rfl, hown5, hgr5, hnn5⟩; obtain ⟨g5, c5, rfl⟩ := own_some hown5 hnn5; have G5 := Lib.hid (G4.out.grown hgr5 G4.out.size (fun k hk => (by have := (O4.out.lt k hk).1; simp at this; omega))); have O5 := Lib.hid hown5; have F5 := Lib.hid (blk_below F2.out G5.out); have F5_0 := blkc F5.out 0 rfl; have F5_f := blk_frozen F5.out 0; clear hown5 hgr5 hnn5)))
  all_goals
    go_wp2
    have F6_0 := blkc (blk_set F5.out 0 (.slice (some ⟨g5, 0, none⟩) (l.length + 1) c5)) 0 rfl
    refine bodyPost_ret (v := .tuple #[.agg #[.slice (some ⟨g5, 0, none⟩) (l.length + 1) c5], .int .i64 0]) (by simp [results, Tryz.results19, go_sem, F6_0]) rfl ⟨_, rfl, ?_, (below_step B.out G5.out).setCell (by simp; omega) _⟩
    exact own_move (own_weaken O5.out (by omega)) (fun k hk => Below.heap_setCell _ _ _ k (by have := (O5.out.lt k hk).1; dsimp only; omega))

end Go.Proofs.YtiggnmhoececfaaGreatDoor

namespace Go.Proofs.YtiggnmhoececfaaGreatDoor
set_option linter.unusedVariables false
set_option linter.unusedSimpArgs false
open Go.RowKit Go.Proofs.YtiggnmhoececfaaGreatDoorW.PrintWords

/-- A range whose texts are of a size that may be looked at. -/
structure Small (r : Rng) : Prop where
  n : r.n.size ≤ 1000
  lo : r.lo.size ≤ 1000
  hi : r.hi.size ≤ 1000

theorem checkV_of (r : Rng) (h : Small r) (W : World) (hW : Glob W) : Calls Tryz.prog 9 #[r.v] W fun e w' => e = .returned (.int .i64 (checkV r.f r.t r.n r.lo r.hi r.m)) ∧ Below W.heap.size W w' :=
  check_any r.f r.t r.n r.lo r.hi r.m h.n h.lo h.hi W hW

theorem added_tab {l : List Rng} {r : Rng} {w : World} {e : Ending} {w' : World} (h : AddedPost l (bsGo l r.f 0 l.length) [.string r.f, .string r.t, .string r.n, .string r.lo, .string r.hi, .int .i64 r.m] w e w') :
    ∃ v', e = .returned (.tuple #[.agg #[v'], .int .i64 0]) ∧ Tab w' v' (addL l r) ∧ Below w.heap.size w w' ∧ (∀ k, v'.ownBlock = some k → w.heap.size ≤ k) := by
  obtain ⟨v', he, hown, hb⟩ := h
  refine ⟨v', he, Tab.of_owns (base := w.heap.size) ?_, hb, fun k hk => (hown.lt k hk).1⟩
  rw [addL_len]
  have : rcells (addL l r) = (rcells l).take (bsGo l r.f 0 l.length * 6) ++ [.string r.f, .string r.t, .string r.n, .string r.lo, .string r.hi, .int .i64 r.m] ++ (rcells l).drop (bsGo l r.f 0 l.length * 6) := by
    unfold addL
    rw [rcells_app, rcells_app, rcells_one, rcells_take, rcells_drop]
    rfl
  rw [this]
  exact hown

theorem bsGo_le (l : List Rng) (c : ByteArray) : ∀ (d i j : Nat), j - i = d → i ≤ j → bsGo l c i j ≤ j := by
  intro d
  induction d using Nat.strongRecOn with
  | _ d ih =>
    intro i j hd hij
    rw [bsGo]
    by_cases h : i < j
    · rw [dif_pos h]
      split
      · exact ih _ (by omega) _ _ rfl (by omega)
      · exact Nat.le_trans (ih _ (by omega) i ((i + j) / 2) rfl (by omega)) (by omega)
    · rw [dif_neg h]; omega

theorem add_any (v : Value) (l : List Rng) (r : Rng) (w : World) (hG : Glob w) (hT : Tab w v l) (hr : Small r) (hl : l.length ≤ 1000) :
    Calls Tryz.prog 19 #[.agg #[v], r.v] w (AddPost l r w) := by
  have hc := fun W hW => checkV_of r hr W hW
  have hp := fun W hW => place_tab v l r.f W (hT.below hW) hl
  by_cases h0 : checkV r.f r.t r.n r.lo r.hi r.m = 0
  · rw [h0] at hc
    have hsh : ∃ A c, v = .slice A l.length c := by
      rcases hT with ⟨rfl, rfl⟩ | ⟨g, cap, rfl, _⟩
      · exact ⟨none, 0, rfl⟩
      · exact ⟨_, _, rfl⟩
    obtain ⟨A, c, rfl⟩ := hsh
    by_cases h64 : 64 ≤ l.length
    · have he : addE l r = 6 := by unfold addE; rw [if_pos h0, if_pos h64]
      refine (add_many A l.length c r.f r.t r.n r.lo r.hi r.m w hG h64 hc).mono fun e w' ⟨h1, h2⟩ => ?_
      exact ⟨_, by rw [he]; exact h1, by rw [he]; exact .inl ⟨rfl, rfl⟩, h2, fun k hk => by cases hk⟩
    · cases hh : bsHit l r.f (bsGo l r.f 0 l.length) with
      | true =>
        have he : addE l r = 17 := by unfold addE clash; rw [if_pos h0, if_neg h64, hh]; rfl
        rw [hh] at hp
        refine (add_hit A l.length c r.f r.t r.n r.lo r.hi r.m _ w hG (by omega) hc hp).mono fun e w' ⟨h1, h2⟩ => ?_
        exact ⟨_, by rw [he]; exact h1, by rw [he]; exact .inl ⟨rfl, rfl⟩, h2, fun k hk => by cases hk⟩
      | false =>
        rw [hh] at hp
        have hle := bsGo_le l r.f _ 0 l.length rfl (Nat.zero_le _)
        by_cases hi : bsGo l r.f 0 l.length < l.length
        · rcases id hT with ⟨h1, h2⟩ | ⟨g, cap, h1, h2, h3, h4, h5⟩
          · rw [h2] at hi; exact absurd hi (by simp)
          · obtain ⟨rfl, rfl⟩ : A = some ⟨g, 0, none⟩ ∧ c = cap := by simpa using h1
            have hx : w.cell? ⟨g, bsGo l r.f 0 l.length * 6, none⟩ = some (.string l[bsGo l r.f 0 l.length].f) := (Tab.rngs h5 _ hi).c0
            by_cases hcmp : rcmpV l[bsGo l r.f 0 l.length].f r.t ≤ 0
            · have he : addE l r = 17 := by unfold addE clash; rw [if_pos h0, if_neg h64, hh, dif_pos hi, decide_eq_true hcmp]; rfl
              refine (add_clash g l.length c _ r.f r.t r.n r.lo r.hi _ r.m w hG (by omega) hi hx hcmp hc hp).mono fun e w' ⟨h1, h2⟩ => ?_
              exact ⟨_, by rw [he]; exact h1, by rw [he]; exact .inl ⟨rfl, rfl⟩, h2, fun k hk => by cases hk⟩
            · have he : addE l r = 0 := by unfold addE clash; rw [if_pos h0, if_neg h64, hh, dif_pos hi, decide_eq_false hcmp]; rfl
              refine (add_mid l g c _ _ r.f r.t r.n r.lo r.hi r.m w hG (by omega) hT hi hx hcmp hc hp).mono fun e w' h => ?_
              obtain ⟨v', e1, e2, e3⟩ := added_tab h
              exact ⟨v', by rw [he]; exact e1, by rw [he]; exact e2, e3⟩
        · have he : addE l r = 0 := by unfold addE clash; rw [if_pos h0, if_neg h64, hh, dif_neg hi]; rfl
          refine (add_last l A c _ r.f r.t r.n r.lo r.hi r.m w hG (by omega) hT hi (by omega) hc hp).mono fun e w' h => ?_
          obtain ⟨v', e1, e2, e3⟩ := added_tab h
          exact ⟨v', by rw [he]; exact e1, by rw [he]; exact e2, e3⟩
  · have he : addE l r = checkV r.f r.t r.n r.lo r.hi r.m := by unfold addE; rw [if_neg h0]
    refine (add_fault v r.f r.t r.n r.lo r.hi r.m _ w hG h0 hc).mono fun e w' ⟨h1, h2⟩ => ?_
    exact ⟨_, by rw [he]; exact h1, by rw [he, if_neg h0]; exact .inl ⟨rfl, rfl⟩, h2, fun k hk => by cases hk⟩

/-- What New comes to. -/
def newE : List Rng → List Rng → Int
  | _, [] => 0
  | l, r :: rs => if addE l r = 0 then newE (addL l r) rs else addE l r
def newL : List Rng → List Rng → List Rng
  | l, [] => l
  | l, r :: rs => if addE l r = 0 then newL (addL l r) rs else []

def NewPost (rs : List Rng) (w : World) (e : Ending) (w' : World) : Prop :=
  ∃ v', e = .returned (.tuple #[.agg #[v'], .int .i64 (newE [] rs)]) ∧ Tab w' v' (newL [] rs) ∧ Below w.heap.size w w'

theorem newE_ne {l rs : List Rng} (h : newE l rs ≠ 0) : newL l rs = [] := by
  induction rs generalizing l with
  | nil => exact absurd rfl h
  | cons r rs ih =>
    unfold newE at h
    unfold newL
    by_cases h0 : addE l r = 0
    · rw [if_pos h0] at h ⊢; exact ih h
    · rw [if_neg h0]

/-- What holds between two rounds of New. -/
def NewInv (w : World) (rs : List Rng) (k : Nat) (wr : World) : Prop :=
  ∃ vt lk, wr.heap[w.heap.size + 1]? = some (.cells #[vt] 36 (0, 0)) ∧ wr.heap[w.heap.size]? = some (.cells #[.slice none 0 0] 36 (0, 0)) ∧
    Tab wr vt lk ∧ (∀ k, vt.ownBlock = some k → w.heap.size + 2 ≤ k) ∧ lk.length ≤ k ∧ newE lk (rs.drop k) = newE [] rs ∧ newL lk (rs.drop k) = newL [] rs ∧ Below w.heap.size w wr

theorem newInv0 (w : World) (rs : List Rng) : NewInv w rs 0 ((w.alloc (.cells #[.slice none 0 0] 36)).alloc (.cells #[.slice none 0 0] 36)) := by
  have F0 := Lib.hid (show ((w.alloc (.cells #[.slice none 0 0] 36)).alloc (.cells #[.slice none 0 0] 36)).heap[w.heap.size]? = some (.cells #[.slice none 0 0] 36) from allocs_get w [.cells #[.slice none 0 0] 36, .cells #[.slice none 0 0] 36] 0 _ rfl); have F1 := Lib.hid (show ((w.alloc (.cells #[.slice none 0 0] 36)).alloc (.cells #[.slice none 0 0] 36)).heap[w.heap.size + 1]? = some (.cells #[.slice none 0 0] 36) from allocs_get w [.cells #[.slice none 0 0] 36, .cells #[.slice none 0 0] 36] 1 _ rfl); have B := Lib.hid (show Below w.heap.size w ((w.alloc (.cells #[.slice none 0 0] 36)).alloc (.cells #[.slice none 0 0] 36)) from allocs_below w [.cells #[.slice none 0 0] 36, .cells #[.slice none 0 0] 36])
  exact ⟨_, [], F1.out, F0.out, .inl ⟨rfl, rfl⟩, fun k hk => (by cases hk), Nat.le_refl _, rfl, rfl, B.out⟩

set_option maxHeartbeats 4000000 in
set_option maxRecDepth 100000 in
theorem new_any (g cap : Nat) (rs : List Rng) (w : World) (hG : Glob w) (hcell : ∀ j u, (rcells rs)[j]? = some u → w.cell? ⟨g, j, none⟩ = some u) (hg : g < w.heap.size) (hcap : rs.length ≤ cap) (hcapm : cap ≤ maxLen) (hs : ∀ r ∈ rs, Small r) (hl : rs.length ≤ 900) :
    Calls Tryz.prog 14 #[.slice (some ⟨g, 0, none⟩) rs.length cap] w (NewPost rs w) := by
  have HS := Lib.hid hs
  have HC := Lib.hid hcell
  clear hs hcell
  go_enter Tryz.func14, Tryz.ntmps14
  go_wp2_with fail
  go_loopw [10] (fun vi wr => ∃ k : Nat, k ≤ rs.length ∧ vi = .int .i64 k ∧ NewInv w rs k wr) (fun vi _ => rs.length - (intOf vi).toNat)
  case atStart => exact ⟨0, Nat.zero_le _, rfl, newInv0 w rs⟩
  case round =>
    obtain ⟨k, hk, rfl, vt, lk, F4, F2, hTk, hTn, hlk, hE, hL, hB⟩ := hrel
    obtain ⟨A, c, rfl⟩ := hTk.slice
    have F4_0 := blkc F4 0 rfl
    have F2_0 := blkc F2 0 rfl
    have F2_f := blk_frozen F2 0
    have HF4 := Lib.hid F4
    have HF2 := Lib.hid F2
    have HTk := Lib.hid hTk
    have B := Lib.hid hB
    have hsz := blk_lt F4
    clear F4 F2 hTk hB
    by_cases hlt : k < rs.length
    · have k9 : decide ((k : Int) < (rs.length : Int)) = true := decide_eq_true (by omega)
      obtain ⟨c0, c1, c2, c3, c4, c5⟩ := (Tab.rngs HC.out k hlt).below B.out
      have hd : rs.drop k = rs[k] :: rs.drop (k + 1) := List.drop_eq_getElem_cons hlt
      rw [hd] at hE hL
      have HM := Lib.hid (HS.out rs[k] (List.getElem_mem hlt))
      generalize rs[k] = r at hE hL HM c0 c1 c2 c3 c4 c5
      have HA := Lib.hid (add_any (.slice A lk.length c) lk r (wr.alloc (.cells #[.string r.f, .string r.t, .string r.n, .string r.lo, .string r.hi, .int .i64 r.m] 23)) (hG.below (below_alloc B.out _)) (HTk.out.below (below_alloc (Below.refl _ _) _)) HM.out (by omega))
      have HLK := Lib.hid hlk
      clear hd hlk hTn
      by_cases h0 : addE lk r = 0
      · have k8 : (addE lk r != 0) = false := by simp [h0]
        rw [newE, if_pos h0] at hE
        rw [newL, if_pos h0] at hL
        have HE := Lib.hid hE
        have HL := Lib.hid hL
        have H0 := Lib.hid h0
        clear hE hL h0
        go_wp2_with (go_at_call 19; ((with_reducible refine HA.out.mono ?_); rintro e w1 ⟨v', rfl, hT', hb, hfr⟩); rw [if_pos H0.out] at hT'; obtain ⟨A', c', rfl⟩ := hT'.slice; have B1 := Lib.hid hb; have HT1 := Lib.hid hT'; have HF1 := Lib.hid hfr; replace HF4 := Lib.hid (blk_below (blk_alloc HF4.out _) hb); replace HF2 := Lib.hid (blk_below (blk_alloc HF2.out _) hb); replace F4_0 := blkc HF4.out 0 rfl; have F4_f := blk_frozen HF4.out 0; replace F2_0 := blkc HF2.out 0 rfl; replace F2_f := blk_frozen HF2.out 0; clear hb hT' hfr)
        go_roundw
        case rel =>
          refine ⟨k + 1, by omega, by go_num, _, addL lk r, blk_set HF4.out 0 _, blk_far HF2.out (by dsimp only; omega) _, HT1.out.far (fun e => by have := HF1.out _ e; simp at this; omega) _, fun j e => by have := HF1.out _ e; simp at this; omega, by rw [addL_len]; have := HLK.out; omega, HE.out, HL.out, ?_⟩
          exact (below_step B.out (below_step (below_alloc (Below.refl _ _) _) B1.out)).setCell (by dsimp only; omega) _
        case measure => simp [intOf]; omega
      · have k8 : (addE lk r != 0) = true := by simpa using h0
        rw [newE, if_neg h0] at hE
        rw [newL, if_neg h0] at hL
        have HE := Lib.hid hE
        have HL := Lib.hid hL
        have H0 := Lib.hid h0
        clear hE hL h0
        go_wp2_with (go_at_call 19; ((with_reducible refine HA.out.mono ?_); rintro e w1 ⟨v', rfl, hT', hb, hfr⟩); rw [if_neg H0.out] at hT'; obtain ⟨A', c', rfl⟩ := hT'.slice; have B1 := Lib.hid hb; replace HF4 := Lib.hid (blk_below (blk_alloc HF4.out _) hb); replace HF2 := Lib.hid (blk_below (blk_alloc HF2.out _) hb); replace F4_0 := blkc HF4.out 0 rfl; have F4_f := blk_frozen HF4.out 0; replace F2_0 := blkc HF2.out 0 rfl; replace F2_f := blk_frozen HF2.out 0; clear hb hT' hfr)
        have F9 := blk_set (blk_far HF2.out (p := ⟨w.heap.size + 1, 0, none⟩) (by dsimp only; omega) (.slice A' 0 c')) 0 (.slice none 0 0)
        have F9_0 := blkc F9 0 rfl
        refine bodyPost_ret (v := .tuple #[.agg #[.slice none 0 0], .int .i64 (addE lk r)]) (by simp [results, Tryz.results14, go_sem, F9_0]) rfl ⟨.slice none 0 0, by rw [HE.out], by rw [← HL.out]; exact .inl ⟨rfl, rfl⟩, ?_⟩
        exact ((below_step B.out (below_step (below_alloc (Below.refl _ _) _) B1.out)).setCell (by dsimp only; omega) _).setCell (Nat.le_refl _) _
    · obtain rfl : k = rs.length := by omega
      have k9 : decide ((rs.length : Int) < (rs.length : Int)) = false := by simp
      rw [List.drop_of_length_le (Nat.le_refl _)] at hE hL
      have HE := Lib.hid hE
      have HL := Lib.hid hL
      clear hE hL
      go_wp2
      have F9 := blk_set HF2.out 0 (.slice A lk.length c)
      have F9_0 := blkc F9 0 rfl
      refine bodyPost_ret (v := .tuple #[.agg #[.slice A lk.length c], .int .i64 0]) (by simp [results, Tryz.results14, go_sem, F9_0]) rfl ⟨_, by rw [← HE.out]; rfl, ?_, B.out.setCell (Nat.le_refl _) _⟩
      rw [← HL.out]
      exact HTk.out.far (fun e => by have := hTn _ e; dsimp only at this; omega) _

end Go.Proofs.YtiggnmhoececfaaGreatDoor
