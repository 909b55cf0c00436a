/- VersionOrder. -/
import Derived.Test.YtiggnmhoececfaaDoorEq24
import Derived.Test.YtiggnmhoececfaaDoorLaw17
import Derived.Lib.QuietBelow
namespace Go.Proofs.YtiggnmhoececfaaDoor
open Go.RowKit Go.Proofs.YtiggnmhoececfaaDoorW.PrintWords

abbrev verV (a b c : Nat) : Value := .agg #[.int .u16 a, .int .u16 b, .int .u16 c]

theorem lexc_cases : ∀ l r : List Nat, lexc l r = -1 ∨ lexc l r = 0 ∨ lexc l r = 1
  | [], [] => .inr (.inl rfl)
  | [], _ :: _ => .inl rfl
  | _ :: _, [] => .inr (.inr rfl)
  | x :: l, y :: r => by
    have ih := lexc_cases l r
    simp only [lexc]
    split
    · exact .inl rfl
    · split
      · exact .inr (.inr rfl)
      · exact ih

theorem eq_lexc (a b c x y z : Nat) (w : World) : (Op.equalIn 10000 24 (verV a b c) (verV x y z)).run Tryd.prog w = .ok (lexc [a, b, c] [x, y, z] == 0) w := by
  rw [eqV]
  congr 1
  rw [Bool.eq_iff_iff]
  have := lexc_zero [a, b, c] [x, y, z] rfl
  simp only [Bool.and_eq_true, beq_iff_eq, this, List.cons.injEq, and_true]
  omega

/-- Nine cells of three versions, at three blocks. -/
structure Nine (w : World) (n : Nat) (a b c : Ver) : Prop where
  a0 : w.cell? ⟨n, 0, none⟩ = some (.int .u16 (a.1.1 : Nat))
  a1 : w.cell? ⟨n, 1, none⟩ = some (.int .u16 (a.1.2.1 : Nat))
  a2 : w.cell? ⟨n, 2, none⟩ = some (.int .u16 (a.1.2.2 : Nat))
  b0 : w.cell? ⟨n + 1, 0, none⟩ = some (.int .u16 (b.1.1 : Nat))
  b1 : w.cell? ⟨n + 1, 1, none⟩ = some (.int .u16 (b.1.2.1 : Nat))
  b2 : w.cell? ⟨n + 1, 2, none⟩ = some (.int .u16 (b.1.2.2 : Nat))
  c0 : w.cell? ⟨n + 1 + 1, 0, none⟩ = some (.int .u16 (c.1.1 : Nat))
  c1 : w.cell? ⟨n + 1 + 1, 1, none⟩ = some (.int .u16 (c.1.2.1 : Nat))
  c2 : w.cell? ⟨n + 1 + 1, 2, none⟩ = some (.int .u16 (c.1.2.2 : Nat))

theorem Nine.below {w w1 : World} {n : Nat} {a b c : Ver} (h : Nine w n a b c) (hb : Below w.heap.size w w1) : Nine w1 n a b c :=
  ⟨cellBelow hb h.a0, cellBelow hb h.a1, cellBelow hb h.a2, cellBelow hb h.b0, cellBelow hb h.b1, cellBelow hb h.b2, cellBelow hb h.c0, cellBelow hb h.c1, cellBelow hb h.c2⟩

theorem Nine.new (w : World) (a b c : Ver) (t : TypeId) : Nine (((w.alloc (.cells (verCells a).toArray t)).alloc (.cells (verCells b).toArray t)).alloc (.cells (verCells c).toArray t)) w.heap.size a b c := by
  have h0 := CellsAt.new w (verCells a) t
  have h1 := CellsAt.new (w.alloc (.cells (verCells a).toArray t)) (verCells b) t
  have h2 := CellsAt.new ((w.alloc (.cells (verCells a).toArray t)).alloc (.cells (verCells b).toArray t)) (verCells c) t
  simp only [World.size_alloc] at h1 h2
  have k0 := (h0.below (below_alloc (Below.refl _ _) (.cells (verCells b).toArray t))).below (below_alloc (Below.refl _ _) (.cells (verCells c).toArray t))
  have k1 := h1.below (below_alloc (Below.refl _ _) (.cells (verCells c).toArray t))
  exact ⟨k0.get (j := 0) rfl, k0.get (j := 1) rfl, k0.get (j := 2) rfl, k1.get (j := 0) rfl, k1.get (j := 1) rfl, k1.get (j := 2) rfl, h2.get (j := 0) rfl, h2.get (j := 1) rfl, h2.get (j := 2) rfl⟩

abbrev isCmp (A B : Value) (X : Int) : Prop := ∀ W : World, Calls Tryd.prog 10 #[A, B] W fun e w' => e = .returned (.int .i64 X) ∧ Below W.heap.size W w'
abbrev isText (A : Value) (t : Bytes) : Prop := ∀ W : World, Glob W → Calls Tryd.prog 9 #[A] W fun e w' => e = .returned (.string ⟨t.toArray⟩) ∧ Below W.heap.size W w'
abbrev isWithin (x y z : Bytes) (r : Bool) : Prop := ∀ W : World, Glob W → Calls Tryd.prog 14 #[.string ⟨x.toArray⟩, .string ⟨y.toArray⟩, .string ⟨z.toArray⟩] W fun e w' => e = .returned (.bool r) ∧ Below W.heap.size W w'
abbrev isEq (A B : Value) (r : Bool) : Prop := ∀ W : World, (Op.equalIn 10000 24 A B).run Tryd.prog W = .ok r W

set_option maxHeartbeats 8000000 in
set_option maxRecDepth 1000000 in
theorem order_walk (X X' Y Z : Int) (p q : Bool) (a b c : Ver) (ta tb tc : Bytes) (hx : (X = -1 ∧ X' = 1 ∧ p = true) ∨ (X = 0 ∧ X' = 0 ∧ p = true) ∨ (X = 1 ∧ X' = -1 ∧ p = false)) (hy : decide (Y ≤ 0) = q) (hz : p = true → q = true → decide (0 < Z) = false)
    (cab : isCmp (verV a.1.1 a.1.2.1 a.1.2.2) (verV b.1.1 b.1.2.1 b.1.2.2) X) (cba : isCmp (verV b.1.1 b.1.2.1 b.1.2.2) (verV a.1.1 a.1.2.1 a.1.2.2) X') (cbc : isCmp (verV b.1.1 b.1.2.1 b.1.2.2) (verV c.1.1 c.1.2.1 c.1.2.2) Y) (cac : isCmp (verV a.1.1 a.1.2.1 a.1.2.2) (verV c.1.1 c.1.2.1 c.1.2.2) Z)
    (eab : isEq (verV a.1.1 a.1.2.1 a.1.2.2) (verV b.1.1 b.1.2.1 b.1.2.2) (X == 0)) (xa : isText (verV a.1.1 a.1.2.1 a.1.2.2) ta) (xb : isText (verV b.1.1 b.1.2.1 b.1.2.2) tb) (xc : isText (verV c.1.1 c.1.2.1 c.1.2.2) tc) (wi : isWithin tb ta tc (p && q)) (w : World) (hG : Glob w) :
    Calls Tryd.prog 5 #[verV a.1.1 a.1.2.1 a.1.2.2, verV b.1.1 b.1.2.1 b.1.2.2, verV c.1.1 c.1.2.1 c.1.2.2] w fun e w' => e = .returned (.bool true) ∧ Below w.heap.size w w' := by
  have hN := Nine.new w a b c 24
  have hB : Below w.heap.size w (((w.alloc (.cells (verCells a).toArray 24)).alloc (.cells (verCells b).toArray 24)).alloc (.cells (verCells c).toArray 24)) := below_alloc (below_alloc (below_alloc (Below.refl _ _) _) _) _
  have hA := fun hg => awake17_any (((w.alloc (.cells (verCells a).toArray 24)).alloc (.cells (verCells b).toArray 24)).alloc (.cells (verCells c).toArray 24)) hg
  have HA := Lib.hid (hA (hG.below hB))
  have HN := Lib.hid hN
  have HB := Lib.hid hB
  have CAB := Lib.hid cab
  have CBA := Lib.hid cba
  have CBC := Lib.hid cbc
  have CAC := Lib.hid cac
  have XA := Lib.hid xa
  have XB := Lib.hid xb
  have XC := Lib.hid xc
  have WI := Lib.hid wi
  have EAB := Lib.hid eab
  have HX := Lib.hid hx
  have HY := Lib.hid hy
  have HZ := Lib.hid hz
  clear hA hN hB cab cba cbc cac xa xb xc wi eab hx hy hz
  go_enter Tryd.func5, Tryd.ntmps5
  go_wp2_with (go_at_call 6; go_must (refine HA.out.mono ?_); rintro e w1 ⟨rfl, hb1⟩)
  have hb0 := below_step HB.out hb1
  have n1 := HN.out.below hb1
  have HN1 := Lib.hid n1
  have hB0 := Lib.hid hb0
  clear HN HB HA hb1 hb0
  have q0 := fun d os => cell_regrown n1.a0 d os
  have q1 := fun d os => cell_regrown n1.a1 d os
  have q2 := fun d os => cell_regrown n1.a2 d os
  have q3 := fun d os => cell_regrown n1.b0 d os
  have q4 := fun d os => cell_regrown n1.b1 d os
  have q5 := fun d os => cell_regrown n1.b2 d os
  have q6 := fun d os => cell_regrown n1.c0 d os
  have q7 := fun d os => cell_regrown n1.c1 d os
  have q8 := fun d os => cell_regrown n1.c2 d os
  clear n1
  refine wp_region_quiet_below (by kernel_rfl) (by kernel_rfl) ?_
  repeat (first | go_big_quiet_step ((go_at_call 10; first | with_reducible exact Calls.regrown_of (CAB.out _) | with_reducible exact Calls.regrown_of (CBC.out _) | with_reducible exact Calls.regrown_of (CAC.out _))) | quiet_step ((go_at_call 10; first | with_reducible exact Calls.regrown_of (CAB.out _) | with_reducible exact Calls.regrown_of (CBC.out _) | with_reducible exact Calls.regrown_of (CAC.out _))))
  refine wpQuiet_nil ?_
  intro _ hw'
  obtain ⟨⟨dq, osq⟩, hw''⟩ := hw'
  subst hw''
  obtain ⟨w2, hw2⟩ : ∃ w2, w2 = Sort.grow (redrawn w1 dq) osq := ⟨_, rfl⟩
  have n2 : Nine w2 w.heap.size a b c := by rw [hw2]; exact HN1.out.below (below_regrown w1 dq osq)
  have b2 : Below w.heap.size w w2 := by rw [hw2]; exact below_step hB0.out (below_regrown w1 dq osq)
  show Exit.then _ _ _ _ (Sort.grow (redrawn w1 dq) osq)
  rw [← hw2]
  clear hw2 q0 q1 q2 q3 q4 q5 q6 q7 q8 HN1 hB0
  have HN2 := Lib.hid n2
  have HB2 := Lib.hid b2
  clear b2
  obtain ⟨k0, k1, k2, k3, k4, k5, k6, k7, k8⟩ := n2
  rcases HX.out with ⟨rfl, rfl, rfl⟩ | ⟨rfl, rfl, rfl⟩ | ⟨rfl, rfl, rfl⟩
  all_goals clear HX
  · have hy := HY.out
    have hz := HZ.out
    clear HY HZ
    cases q
    · clear hz
      have eab := fun W => (EAB.out W).trans (show _ = Result.ok false W by rfl)
      have WI := Lib.hid (show isWithin tb ta tc false from WI.out)
      go_wp2_with (go_at_call 10; go_must (refine (CBA.out _).mono ?_); rintro e w3 ⟨rfl, hb3⟩; have n3 := HN2.out.below hb3; have b3 := below_step HB2.out hb3; have HN3 := Lib.hid n3; have HB3 := Lib.hid b3; clear b3; obtain ⟨m0, m1, m2, m3, m4, m5, m6, m7, m8⟩ := n3)
      have g3 := Lib.hid (hG.below HB3.out)
      have q0 := fun d os => cell_regrown HN3.out.a0 d os
      have q1 := fun d os => cell_regrown HN3.out.a1 d os
      have q2 := fun d os => cell_regrown HN3.out.a2 d os
      have q3 := fun d os => cell_regrown HN3.out.b0 d os
      have q4 := fun d os => cell_regrown HN3.out.b1 d os
      have q5 := fun d os => cell_regrown HN3.out.b2 d os
      have q6 := fun d os => cell_regrown HN3.out.c0 d os
      have q7 := fun d os => cell_regrown HN3.out.c1 d os
      have q8 := fun d os => cell_regrown HN3.out.c2 d os
      clear k0 k1 k2 k3 k4 k5 k6 k7 k8 m0 m1 m2 m3 m4 m5 m6 m7 m8
      refine wp_region_quiet_below (by kernel_rfl) (by kernel_rfl) ?_
      repeat (first | go_big_quiet_step (first
        | (go_at_call 9; first | with_reducible exact Calls.regrown_of (XA.out _ (g3.out.below (below_regrown _ _ _))) | with_reducible exact Calls.regrown_of (XB.out _ (g3.out.below (below_regrown _ _ _))) | with_reducible exact Calls.regrown_of (XC.out _ (g3.out.below (below_regrown _ _ _))))
        | (go_at_call 14; with_reducible exact Calls.regrown_of (WI.out _ (g3.out.below (below_regrown _ _ _))))) | quiet_step (first
        | (go_at_call 9; first | with_reducible exact Calls.regrown_of (XA.out _ (g3.out.below (below_regrown _ _ _))) | with_reducible exact Calls.regrown_of (XB.out _ (g3.out.below (below_regrown _ _ _))) | with_reducible exact Calls.regrown_of (XC.out _ (g3.out.below (below_regrown _ _ _))))
        | (go_at_call 14; with_reducible exact Calls.regrown_of (WI.out _ (g3.out.below (below_regrown _ _ _))))))
      refine wpQuiet_nil ?_
      intro _ hw'
      obtain ⟨⟨dq', osq'⟩, hw''⟩ := hw'
      subst hw''
      go_wp2
      go_ret
      exact ⟨rfl, below_step HB3.out (below_regrown _ _ _)⟩
    · have hz := hz rfl rfl
      have eab := fun W => (EAB.out W).trans (show _ = Result.ok false W by rfl)
      have WI := Lib.hid (show isWithin tb ta tc true from WI.out)
      go_wp2_with (go_at_call 10; go_must (refine (CBA.out _).mono ?_); rintro e w3 ⟨rfl, hb3⟩; have n3 := HN2.out.below hb3; have b3 := below_step HB2.out hb3; have HN3 := Lib.hid n3; have HB3 := Lib.hid b3; clear b3; obtain ⟨m0, m1, m2, m3, m4, m5, m6, m7, m8⟩ := n3)
      have g3 := Lib.hid (hG.below HB3.out)
      have q0 := fun d os => cell_regrown HN3.out.a0 d os
      have q1 := fun d os => cell_regrown HN3.out.a1 d os
      have q2 := fun d os => cell_regrown HN3.out.a2 d os
      have q3 := fun d os => cell_regrown HN3.out.b0 d os
      have q4 := fun d os => cell_regrown HN3.out.b1 d os
      have q5 := fun d os => cell_regrown HN3.out.b2 d os
      have q6 := fun d os => cell_regrown HN3.out.c0 d os
      have q7 := fun d os => cell_regrown HN3.out.c1 d os
      have q8 := fun d os => cell_regrown HN3.out.c2 d os
      clear k0 k1 k2 k3 k4 k5 k6 k7 k8 m0 m1 m2 m3 m4 m5 m6 m7 m8
      refine wp_region_quiet_below (by kernel_rfl) (by kernel_rfl) ?_
      repeat (first | go_big_quiet_step (first
        | (go_at_call 9; first | with_reducible exact Calls.regrown_of (XA.out _ (g3.out.below (below_regrown _ _ _))) | with_reducible exact Calls.regrown_of (XB.out _ (g3.out.below (below_regrown _ _ _))) | with_reducible exact Calls.regrown_of (XC.out _ (g3.out.below (below_regrown _ _ _))))
        | (go_at_call 14; with_reducible exact Calls.regrown_of (WI.out _ (g3.out.below (below_regrown _ _ _))))) | quiet_step (first
        | (go_at_call 9; first | with_reducible exact Calls.regrown_of (XA.out _ (g3.out.below (below_regrown _ _ _))) | with_reducible exact Calls.regrown_of (XB.out _ (g3.out.below (below_regrown _ _ _))) | with_reducible exact Calls.regrown_of (XC.out _ (g3.out.below (below_regrown _ _ _))))
        | (go_at_call 14; with_reducible exact Calls.regrown_of (WI.out _ (g3.out.below (below_regrown _ _ _))))))
      refine wpQuiet_nil ?_
      intro _ hw'
      obtain ⟨⟨dq', osq'⟩, hw''⟩ := hw'
      subst hw''
      go_wp2
      go_ret
      exact ⟨rfl, below_step HB3.out (below_regrown _ _ _)⟩
  · have hy := HY.out
    have hz := HZ.out
    clear HY HZ
    cases q
    · clear hz
      have eab := fun W => (EAB.out W).trans (show _ = Result.ok true W by rfl)
      have WI := Lib.hid (show isWithin tb ta tc false from WI.out)
      go_wp2_with (go_at_call 10; go_must (refine (CBA.out _).mono ?_); rintro e w3 ⟨rfl, hb3⟩; have n3 := HN2.out.below hb3; have b3 := below_step HB2.out hb3; have HN3 := Lib.hid n3; have HB3 := Lib.hid b3; clear b3; obtain ⟨m0, m1, m2, m3, m4, m5, m6, m7, m8⟩ := n3)
      have g3 := Lib.hid (hG.below HB3.out)
      have q0 := fun d os => cell_regrown HN3.out.a0 d os
      have q1 := fun d os => cell_regrown HN3.out.a1 d os
      have q2 := fun d os => cell_regrown HN3.out.a2 d os
      have q3 := fun d os => cell_regrown HN3.out.b0 d os
      have q4 := fun d os => cell_regrown HN3.out.b1 d os
      have q5 := fun d os => cell_regrown HN3.out.b2 d os
      have q6 := fun d os => cell_regrown HN3.out.c0 d os
      have q7 := fun d os => cell_regrown HN3.out.c1 d os
      have q8 := fun d os => cell_regrown HN3.out.c2 d os
      clear k0 k1 k2 k3 k4 k5 k6 k7 k8 m0 m1 m2 m3 m4 m5 m6 m7 m8
      refine wp_region_quiet_below (by kernel_rfl) (by kernel_rfl) ?_
      repeat (first | go_big_quiet_step (first
        | (go_at_call 9; first | with_reducible exact Calls.regrown_of (XA.out _ (g3.out.below (below_regrown _ _ _))) | with_reducible exact Calls.regrown_of (XB.out _ (g3.out.below (below_regrown _ _ _))) | with_reducible exact Calls.regrown_of (XC.out _ (g3.out.below (below_regrown _ _ _))))
        | (go_at_call 14; with_reducible exact Calls.regrown_of (WI.out _ (g3.out.below (below_regrown _ _ _))))) | quiet_step (first
        | (go_at_call 9; first | with_reducible exact Calls.regrown_of (XA.out _ (g3.out.below (below_regrown _ _ _))) | with_reducible exact Calls.regrown_of (XB.out _ (g3.out.below (below_regrown _ _ _))) | with_reducible exact Calls.regrown_of (XC.out _ (g3.out.below (below_regrown _ _ _))))
        | (go_at_call 14; with_reducible exact Calls.regrown_of (WI.out _ (g3.out.below (below_regrown _ _ _))))))
      refine wpQuiet_nil ?_
      intro _ hw'
      obtain ⟨⟨dq', osq'⟩, hw''⟩ := hw'
      subst hw''
      go_wp2
      go_ret
      exact ⟨rfl, below_step HB3.out (below_regrown _ _ _)⟩
    · have hz := hz rfl rfl
      have eab := fun W => (EAB.out W).trans (show _ = Result.ok true W by rfl)
      have WI := Lib.hid (show isWithin tb ta tc true from WI.out)
      go_wp2_with (go_at_call 10; go_must (refine (CBA.out _).mono ?_); rintro e w3 ⟨rfl, hb3⟩; have n3 := HN2.out.below hb3; have b3 := below_step HB2.out hb3; have HN3 := Lib.hid n3; have HB3 := Lib.hid b3; clear b3; obtain ⟨m0, m1, m2, m3, m4, m5, m6, m7, m8⟩ := n3)
      have g3 := Lib.hid (hG.below HB3.out)
      have q0 := fun d os => cell_regrown HN3.out.a0 d os
      have q1 := fun d os => cell_regrown HN3.out.a1 d os
      have q2 := fun d os => cell_regrown HN3.out.a2 d os
      have q3 := fun d os => cell_regrown HN3.out.b0 d os
      have q4 := fun d os => cell_regrown HN3.out.b1 d os
      have q5 := fun d os => cell_regrown HN3.out.b2 d os
      have q6 := fun d os => cell_regrown HN3.out.c0 d os
      have q7 := fun d os => cell_regrown HN3.out.c1 d os
      have q8 := fun d os => cell_regrown HN3.out.c2 d os
      clear k0 k1 k2 k3 k4 k5 k6 k7 k8 m0 m1 m2 m3 m4 m5 m6 m7 m8
      refine wp_region_quiet_below (by kernel_rfl) (by kernel_rfl) ?_
      repeat (first | go_big_quiet_step (first
        | (go_at_call 9; first | with_reducible exact Calls.regrown_of (XA.out _ (g3.out.below (below_regrown _ _ _))) | with_reducible exact Calls.regrown_of (XB.out _ (g3.out.below (below_regrown _ _ _))) | with_reducible exact Calls.regrown_of (XC.out _ (g3.out.below (below_regrown _ _ _))))
        | (go_at_call 14; with_reducible exact Calls.regrown_of (WI.out _ (g3.out.below (below_regrown _ _ _))))) | quiet_step (first
        | (go_at_call 9; first | with_reducible exact Calls.regrown_of (XA.out _ (g3.out.below (below_regrown _ _ _))) | with_reducible exact Calls.regrown_of (XB.out _ (g3.out.below (below_regrown _ _ _))) | with_reducible exact Calls.regrown_of (XC.out _ (g3.out.below (below_regrown _ _ _))))
        | (go_at_call 14; with_reducible exact Calls.regrown_of (WI.out _ (g3.out.below (below_regrown _ _ _))))))
      refine wpQuiet_nil ?_
      intro _ hw'
      obtain ⟨⟨dq', osq'⟩, hw''⟩ := hw'
      subst hw''
      go_wp2
      go_ret
      exact ⟨rfl, below_step HB3.out (below_regrown _ _ _)⟩
  · clear HY HZ
    have eab := fun W => (EAB.out W).trans (show _ = Result.ok false W by rfl)
    have WI := Lib.hid (show isWithin tb ta tc false from WI.out)
    go_wp2_with (go_at_call 10; go_must (refine (CBA.out _).mono ?_); rintro e w3 ⟨rfl, hb3⟩; have n3 := HN2.out.below hb3; have b3 := below_step HB2.out hb3; have HN3 := Lib.hid n3; have HB3 := Lib.hid b3; clear b3; obtain ⟨m0, m1, m2, m3, m4, m5, m6, m7, m8⟩ := n3)
    have g3 := Lib.hid (hG.below HB3.out)
    have q0 := fun d os => cell_regrown HN3.out.a0 d os
    have q1 := fun d os => cell_regrown HN3.out.a1 d os
    have q2 := fun d os => cell_regrown HN3.out.a2 d os
    have q3 := fun d os => cell_regrown HN3.out.b0 d os
    have q4 := fun d os => cell_regrown HN3.out.b1 d os
    have q5 := fun d os => cell_regrown HN3.out.b2 d os
    have q6 := fun d os => cell_regrown HN3.out.c0 d os
    have q7 := fun d os => cell_regrown HN3.out.c1 d os
    have q8 := fun d os => cell_regrown HN3.out.c2 d os
    clear k0 k1 k2 k3 k4 k5 k6 k7 k8 m0 m1 m2 m3 m4 m5 m6 m7 m8
    refine wp_region_quiet_below (by kernel_rfl) (by kernel_rfl) ?_
    repeat (first | go_big_quiet_step (first
      | (go_at_call 9; first | with_reducible exact Calls.regrown_of (XA.out _ (g3.out.below (below_regrown _ _ _))) | with_reducible exact Calls.regrown_of (XB.out _ (g3.out.below (below_regrown _ _ _))) | with_reducible exact Calls.regrown_of (XC.out _ (g3.out.below (below_regrown _ _ _))))
      | (go_at_call 14; with_reducible exact Calls.regrown_of (WI.out _ (g3.out.below (below_regrown _ _ _))))) | quiet_step (first
      | (go_at_call 9; first | with_reducible exact Calls.regrown_of (XA.out _ (g3.out.below (below_regrown _ _ _))) | with_reducible exact Calls.regrown_of (XB.out _ (g3.out.below (below_regrown _ _ _))) | with_reducible exact Calls.regrown_of (XC.out _ (g3.out.below (below_regrown _ _ _))))
      | (go_at_call 14; with_reducible exact Calls.regrown_of (WI.out _ (g3.out.below (below_regrown _ _ _))))))
    refine wpQuiet_nil ?_
    intro _ hw'
    obtain ⟨⟨dq', osq'⟩, hw''⟩ := hw'
    subst hw''
    go_wp2
    go_ret
    exact ⟨rfl, below_step HB3.out (below_regrown _ _ _)⟩

end Go.Proofs.YtiggnmhoececfaaDoor
