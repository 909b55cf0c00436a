/- version.Within. -/
import Derived.Test.YtiggnmhoececfaaGreatDoorVersion
import Derived.Lib.QuietBelow
namespace Go.Proofs.YtiggnmhoececfaaGreatDoor
set_option linter.unusedVariables false
set_option linter.unusedSimpArgs false
open Go.RowKit Go.Proofs.YtiggnmhoececfaaGreatDoorW.PrintWords

def verList (v : Ver) : List Nat := [v.1.1, v.1.2.1, v.1.2.2]
/-- version.Within -/
def within (x y z : Bytes) : Bool := match verOf x, verOf y, verOf z with
  | some a, some b, some c => decide (0 ≤ lexc (verList a) (verList b)) && decide (lexc (verList a) (verList c) ≤ 0)
  | _, _, _ => false

theorem own_blk {w : World} {base : Nat} {e : TypeId} {size n : Nat} {v : Value} {xs : List Value} (h : w.ownsRow base e size v n xs) (h0 : 0 < n) :
    ∃ g c cs, v = .slice (some ⟨g, 0, none⟩) n c ∧ n ≤ c ∧ base ≤ g ∧ g < w.heap.size ∧ w.heap[g]? = some (.cells cs e (0, 0)) ∧ ∀ j u, xs[j]? = some u → w.cell? ⟨g, j, none⟩ = some u := by
  have hlt := h.lt
  have hcl := fun g hg => h.cells (g := g) hg
  obtain ⟨hl, ⟨rfl, h1⟩ | ⟨g, cap, cur, rfl, hb, hh, hc, hm, hs, hx⟩⟩ := h
  · omega
  · refine ⟨g, cap, cur, rfl, hc, hb, (hlt g rfl).2, hh, fun j u hj => ?_⟩
    have := hcl g rfl j u hj
    rw [Lib.add_plain, Nat.zero_add] at this
    exact this

set_option maxHeartbeats 800000 in
set_option maxRecDepth 1000000 in
theorem within_yes (x y z : Bytes) (a b c : Ver) (ha : verOf x = some a) (hb : verOf y = some b) (hc : verOf z = some c) (hx : x.length ≤ 1000000) (hy : y.length ≤ 1000000) (hz : z.length ≤ 1000000) (w : World) (hG : Glob w) :
    Calls Tryz.prog 30 #[.string ⟨x.toArray⟩, .string ⟨y.toArray⟩, .string ⟨z.toArray⟩] w fun e w' => e = .returned (.bool (within x y z)) ∧ Below w.heap.size w w' := by
  have hw : within x y z = (decide (0 ≤ lexc (verList a) (verList b)) && decide (lexc (verList a) (verList c) ≤ 0)) := by unfold within; rw [ha, hb, hc]
  have hf := from_yes (some ⟨w.heap.size, 0, none⟩) 3 [x, y, z] [a, b, c] (by simp [ha, hb, hc]) (by simp) (by intro s hs; simp at hs; rcases hs with rfl | rfl | rfl <;> assumption) (by simp) (w.alloc (.cells (strs [x, y, z]).toArray 9)) (ReadsStrs.of_cells (CellsAt.new _ _ _)) (hG.below (below_alloc (Below.refl _ _) _))
  have HW := Lib.hid hw
  have HF := Lib.hid hf
  clear hw hf ha hb hc
  go_enter Tryz.func30, Tryz.ntmps30
  go_wp2_with (go_at_call 49; go_must (refine HF.out.mono ?_); rintro e w1 ⟨v, rfl, hown, hb1⟩; obtain ⟨g, cap, cs, rfl, hcap, hgb, hgl, hblk, hcell⟩ := own_blk hown (by simp))
  have k0 := hcell 0 _ rfl
  have k1 := hcell 1 _ rfl
  have k2 := hcell 2 _ rfl
  have k3 := hcell 3 _ rfl
  have k4 := hcell 4 _ rfl
  have k5 := hcell 5 _ rfl
  have k6 := hcell 6 _ rfl
  have k7 := hcell 7 _ rfl
  have k8 := hcell 8 _ rfl
  clear hcell hblk hown
  have q0 := fun d os => cell_regrown k0 d os
  have q1 := fun d os => cell_regrown k1 d os
  have q2 := fun d os => cell_regrown k2 d os
  have q3 := fun d os => cell_regrown k3 d os
  have q4 := fun d os => cell_regrown k4 d os
  have q5 := fun d os => cell_regrown k5 d os
  have q6 := fun d os => cell_regrown k6 d os
  have q7 := fun d os => cell_regrown k7 d os
  have q8 := fun d os => cell_regrown k8 d os
  clear k0 k1 k2 k3 k4 k5 k6 k7 k8
  have hb0 := below_step (below_alloc (Below.refl w.heap.size w) (.cells (strs [x, y, z]).toArray 9)) hb1
  by_cases h1 : 0 ≤ lexc (verList a) (verList b)
  · have h1' : decide (0 ≤ lexc [a.1.1, a.1.2.1, a.1.2.2] [b.1.1, b.1.2.1, b.1.2.2]) = true := decide_eq_true h1
    have hv : within x y z = decide (lexc [a.1.1, a.1.2.1, a.1.2.2] [c.1.1, c.1.2.1, c.1.2.2] ≤ 0) := by rw [HW.out]; unfold verList; rw [h1']; rfl
    have HV := Lib.hid hv
    clear hv HW HF
    refine wp_region_quiet_below (by kernel_rfl) (by kernel_rfl) ?_
    repeat (first | go_big_quiet_step ((go_at_call 50; exact Calls.regrown_of (vcmp_any _ _ _ _ _ _ _))) | quiet_step ((go_at_call 50; exact Calls.regrown_of (vcmp_any _ _ _ _ _ _ _))))
    refine wpQuiet_nil ?_
    intro _ hw'
    obtain ⟨⟨dq, osq⟩, hw''⟩ := hw'
    subst hw''
    go_wp2
    go_ret
    exact ⟨ret_bool HV.out.symm, below_step hb0 (below_regrown _ _ _)⟩
  · have h1' : decide (0 ≤ lexc [a.1.1, a.1.2.1, a.1.2.2] [b.1.1, b.1.2.1, b.1.2.2]) = false := decide_eq_false h1
    have hv : within x y z = false := by rw [HW.out]; unfold verList; rw [h1']; rfl
    have HV := Lib.hid hv
    clear hv HW HF
    refine wp_region_quiet_below (by kernel_rfl) (by kernel_rfl) ?_
    repeat (first | go_big_quiet_step ((go_at_call 50; exact Calls.regrown_of (vcmp_any _ _ _ _ _ _ _))) | quiet_step ((go_at_call 50; exact Calls.regrown_of (vcmp_any _ _ _ _ _ _ _))))
    refine wpQuiet_nil ?_
    intro _ hw'
    obtain ⟨⟨dq, osq⟩, hw''⟩ := hw'
    subst hw''
    go_wp2
    go_ret
    exact ⟨ret_bool HV.out.symm, below_step hb0 (below_regrown _ _ _)⟩

set_option maxHeartbeats 800000 in
set_option maxRecDepth 1000000 in
theorem within_not (x y z : Bytes) (j : Nat) (hj : j < 3) (hno : verOf ([x, y, z][j]) = none) (hyes : ∀ i (h : i < 3), i < j → (verOf ([x, y, z][i])).isSome = true) (hx : x.length ≤ 1000000) (hy : y.length ≤ 1000000) (hz : z.length ≤ 1000000) (w : World) (hG : Glob w) :
    Calls Tryz.prog 30 #[.string ⟨x.toArray⟩, .string ⟨y.toArray⟩, .string ⟨z.toArray⟩] w fun e w' => e = .returned (.bool false) ∧ Below w.heap.size w w' := by
  have hf := from_no (some ⟨w.heap.size, 0, none⟩) 3 [x, y, z] j hj hno hyes (by simp) (by intro s hs; simp at hs; rcases hs with rfl | rfl | rfl <;> assumption) (by simp) (w.alloc (.cells (strs [x, y, z]).toArray 9)) (ReadsStrs.of_cells (CellsAt.new _ _ _)) (hG.below (below_alloc (Below.refl _ _) _))
  have HF := Lib.hid hf
  clear hf hno hyes
  go_enter Tryz.func30, Tryz.ntmps30
  go_wp2_with (go_at_call 49; go_must (refine HF.out.mono ?_); rintro e w1 ⟨rfl, hb1⟩; have hb0 := below_step (below_alloc (Below.refl w.heap.size w) (.cells (strs [x, y, z]).toArray 9)) hb1)
  refine wp_region_quiet_below (by kernel_rfl) (by kernel_rfl) ?_
  repeat (first | go_big_quiet_step (fail) | quiet_step (fail))
  refine wpQuiet_nil ?_
  intro _ hw'
  obtain ⟨⟨dq, osq⟩, hw''⟩ := hw'
  subst hw''
  go_wp2
  go_ret
  exact ⟨rfl, below_step hb0 (below_regrown _ _ _)⟩

/-- version.Within -/
theorem within_any (x y z : Bytes) (hx : x.length ≤ 1000000) (hy : y.length ≤ 1000000) (hz : z.length ≤ 1000000) (w : World) (hG : Glob w) :
    Calls Tryz.prog 30 #[.string ⟨x.toArray⟩, .string ⟨y.toArray⟩, .string ⟨z.toArray⟩] w fun e w' => e = .returned (.bool (within x y z)) ∧ Below w.heap.size w w' := by
  cases ha : verOf x with
  | none =>
    rw [show within x y z = false by unfold within; rw [ha]]
    exact within_not x y z 0 (by omega) ha (fun i _ h => by omega) hx hy hz w hG
  | some a =>
    cases hb : verOf y with
    | none =>
      rw [show within x y z = false by unfold within; rw [ha, hb]]
      refine within_not x y z 1 (by omega) hb (fun i _ h => ?_) hx hy hz w hG
      obtain rfl : i = 0 := by omega
      show (verOf x).isSome = true
      rw [ha]; rfl
    | some b =>
      cases hc : verOf z with
      | none =>
        rw [show within x y z = false by unfold within; rw [ha, hb, hc]]
        refine within_not x y z 2 (by omega) hc (fun i _ h => ?_) hx hy hz w hG
        have : i = 0 ∨ i = 1 := by omega
        rcases this with rfl | rfl
        · show (verOf x).isSome = true
          rw [ha]; rfl
        · show (verOf y).isSome = true
          rw [hb]; rfl
      | some c => exact within_yes x y z a b c ha hb hc hx hy hz w hG

end Go.Proofs.YtiggnmhoececfaaGreatDoor
