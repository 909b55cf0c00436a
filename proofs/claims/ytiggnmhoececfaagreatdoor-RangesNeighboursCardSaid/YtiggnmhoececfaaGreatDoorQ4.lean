/- cashier/cashierlaw18.RangesNeighbours returns true at every input, and each argument reads behind the call as it read before. Conditions: those of its given row (the listed package-level variables read, when the call begins, as their own initialisers lay them). -/
import Derived.Test.YtiggnmhoececfaaGreatDoorQ3

namespace Go.Proofs.YtiggnmhoececfaaGreatDoor
set_option linter.unusedVariables false
set_option linter.unusedSimpArgs false
open Go.RowKit Go.Proofs.YtiggnmhoececfaaGreatDoorW.PrintWords Go.Proofs.YtiggnmhoececfaaGreatDoorW.PrintMore

set_option maxHeartbeats 4000000 in
set_option maxRecDepth 100000 in
theorem neigh_dark (a b : Rng) (la lb : Bool) (ea eb : Int) (w : World) (hG : Glob w)
    (LA : ∀ W, Calls Tryz.prog 8 #[.agg #[.string a.f, .string a.t, .string a.n, .string a.lo, .string a.hi, .int .i64 a.m]] W fun e w' => e = .returned (.bool la) ∧ Below W.heap.size W w')
    (LB : ∀ W, Calls Tryz.prog 8 #[.agg #[.string b.f, .string b.t, .string b.n, .string b.lo, .string b.hi, .int .i64 b.m]] W fun e w' => e = .returned (.bool lb) ∧ Below W.heap.size W w')
    (CA : la = true → ∀ W, Glob W → Calls Tryz.prog 9 #[.agg #[.string a.f, .string a.t, .string a.n, .string a.lo, .string a.hi, .int .i64 a.m]] W fun e w' => e = .returned (.int .i64 ea) ∧ Below W.heap.size W w')
    (CB : lb = true → ∀ W, Glob W → Calls Tryz.prog 9 #[.agg #[.string b.f, .string b.t, .string b.n, .string b.lo, .string b.hi, .int .i64 b.m]] W fun e w' => e = .returned (.int .i64 eb) ∧ Below W.heap.size W w')
    (h : la = false ∨ (la = true ∧ lb = false) ∨ (la = true ∧ lb = true ∧ (ea != 0) = true) ∨ (la = true ∧ lb = true ∧ (ea != 0) = false ∧ (eb != 0) = true)) :
    Calls Tryz.prog 4 #[.agg #[.string a.f, .string a.t, .string a.n, .string a.lo, .string a.hi, .int .i64 a.m], .agg #[.string b.f, .string b.t, .string b.n, .string b.lo, .string b.hi, .int .i64 b.m]] w
      fun e w' => e = .returned (.bool true) ∧ Below w.heap.size w w' := by
  have F0 := Lib.hid (show ((w.alloc (.cells #[.string a.f, .string a.t, .string a.n, .string a.lo, .string a.hi, .int .i64 a.m] 23)).alloc (.cells #[.string b.f, .string b.t, .string b.n, .string b.lo, .string b.hi, .int .i64 b.m] 23)).heap[w.heap.size]? = some (.cells #[.string a.f, .string a.t, .string a.n, .string a.lo, .string a.hi, .int .i64 a.m] 23) from allocs_get w [.cells #[.string a.f, .string a.t, .string a.n, .string a.lo, .string a.hi, .int .i64 a.m] 23, .cells #[.string b.f, .string b.t, .string b.n, .string b.lo, .string b.hi, .int .i64 b.m] 23] 0 _ rfl); have F1 := Lib.hid (show ((w.alloc (.cells #[.string a.f, .string a.t, .string a.n, .string a.lo, .string a.hi, .int .i64 a.m] 23)).alloc (.cells #[.string b.f, .string b.t, .string b.n, .string b.lo, .string b.hi, .int .i64 b.m] 23)).heap[w.heap.size + 1]? = some (.cells #[.string b.f, .string b.t, .string b.n, .string b.lo, .string b.hi, .int .i64 b.m] 23) from allocs_get w [.cells #[.string a.f, .string a.t, .string a.n, .string a.lo, .string a.hi, .int .i64 a.m] 23, .cells #[.string b.f, .string b.t, .string b.n, .string b.lo, .string b.hi, .int .i64 b.m] 23] 1 _ rfl); have B := Lib.hid (show Below w.heap.size w ((w.alloc (.cells #[.string a.f, .string a.t, .string a.n, .string a.lo, .string a.hi, .int .i64 a.m] 23)).alloc (.cells #[.string b.f, .string b.t, .string b.n, .string b.lo, .string b.hi, .int .i64 b.m] 23)) from allocs_below w [.cells #[.string a.f, .string a.t, .string a.n, .string a.lo, .string a.hi, .int .i64 a.m] 23, .cells #[.string b.f, .string b.t, .string b.n, .string b.lo, .string b.hi, .int .i64 b.m] 23])
  have AW := Lib.hid (awake18_any _ (hG.below B.out))
  rcases h with rfl | ⟨rfl, rfl⟩ | ⟨rfl, rfl, k1⟩ | ⟨rfl, rfl, k1, k2⟩
  all_goals
    have HLA := Lib.hid LA
    have HLB := Lib.hid LB
    have HCA := Lib.hid CA
    have HCB := Lib.hid CB
    clear LA LB CA CB
    go_enter Tryz.func4, Tryz.ntmps4
    go_wp2_with (first | (go_at_call 7; go_must (refine AW.out.mono ?_); rintro e w1 ⟨rfl, hb⟩; replace B := Lib.hid (below_step B.out hb); replace F0 := Lib.hid (blk_below F0.out hb); replace F0_0 := blkc F0.out 0 rfl; replace F0_1 := blkc F0.out 1 rfl; replace F0_2 := blkc F0.out 2 rfl; replace F0_3 := blkc F0.out 3 rfl; replace F0_4 := blkc F0.out 4 rfl; replace F0_5 := blkc F0.out 5 rfl; replace F1 := Lib.hid (blk_below F1.out hb); replace F1_0 := blkc F1.out 0 rfl; replace F1_1 := blkc F1.out 1 rfl; replace F1_2 := blkc F1.out 2 rfl; replace F1_3 := blkc F1.out 3 rfl; replace F1_4 := blkc F1.out 4 rfl; replace F1_5 := blkc F1.out 5 rfl; clear hb) | (go_at_call 8; first | ((with_reducible refine (HLA.out _).mono ?_); rintro e w1 ⟨rfl, hb⟩; replace B := Lib.hid (below_step B.out hb); replace F0 := Lib.hid (blk_below F0.out hb); replace F0_0 := blkc F0.out 0 rfl; replace F0_1 := blkc F0.out 1 rfl; replace F0_2 := blkc F0.out 2 rfl; replace F0_3 := blkc F0.out 3 rfl; replace F0_4 := blkc F0.out 4 rfl; replace F0_5 := blkc F0.out 5 rfl; replace F1 := Lib.hid (blk_below F1.out hb); replace F1_0 := blkc F1.out 0 rfl; replace F1_1 := blkc F1.out 1 rfl; replace F1_2 := blkc F1.out 2 rfl; replace F1_3 := blkc F1.out 3 rfl; replace F1_4 := blkc F1.out 4 rfl; replace F1_5 := blkc F1.out 5 rfl; clear hb) | ((with_reducible refine (HLB.out _).mono ?_); rintro e w1 ⟨rfl, hb⟩; replace B := Lib.hid (below_step B.out hb); replace F0 := Lib.hid (blk_below F0.out hb); replace F0_0 := blkc F0.out 0 rfl; replace F0_1 := blkc F0.out 1 rfl; replace F0_2 := blkc F0.out 2 rfl; replace F0_3 := blkc F0.out 3 rfl; replace F0_4 := blkc F0.out 4 rfl; replace F0_5 := blkc F0.out 5 rfl; replace F1 := Lib.hid (blk_below F1.out hb); replace F1_0 := blkc F1.out 0 rfl; replace F1_1 := blkc F1.out 1 rfl; replace F1_2 := blkc F1.out 2 rfl; replace F1_3 := blkc F1.out 3 rfl; replace F1_4 := blkc F1.out 4 rfl; replace F1_5 := blkc F1.out 5 rfl; clear hb)) | (go_at_call 9; first | ((with_reducible refine (HCA.out (by trivial) _ (hG.below B.out)).mono ?_); rintro e w1 ⟨rfl, hb⟩; replace B := Lib.hid (below_step B.out hb); replace F0 := Lib.hid (blk_below F0.out hb); replace F0_0 := blkc F0.out 0 rfl; replace F0_1 := blkc F0.out 1 rfl; replace F0_2 := blkc F0.out 2 rfl; replace F0_3 := blkc F0.out 3 rfl; replace F0_4 := blkc F0.out 4 rfl; replace F0_5 := blkc F0.out 5 rfl; replace F1 := Lib.hid (blk_below F1.out hb); replace F1_0 := blkc F1.out 0 rfl; replace F1_1 := blkc F1.out 1 rfl; replace F1_2 := blkc F1.out 2 rfl; replace F1_3 := blkc F1.out 3 rfl; replace F1_4 := blkc F1.out 4 rfl; replace F1_5 := blkc F1.out 5 rfl; clear hb) | ((with_reducible refine (HCB.out (by trivial) _ (hG.below B.out)).mono ?_); rintro e w1 ⟨rfl, hb⟩; replace B := Lib.hid (below_step B.out hb); replace F0 := Lib.hid (blk_below F0.out hb); replace F0_0 := blkc F0.out 0 rfl; replace F0_1 := blkc F0.out 1 rfl; replace F0_2 := blkc F0.out 2 rfl; replace F0_3 := blkc F0.out 3 rfl; replace F0_4 := blkc F0.out 4 rfl; replace F0_5 := blkc F0.out 5 rfl; replace F1 := Lib.hid (blk_below F1.out hb); replace F1_0 := blkc F1.out 0 rfl; replace F1_1 := blkc F1.out 1 rfl; replace F1_2 := blkc F1.out 2 rfl; replace F1_3 := blkc F1.out 3 rfl; replace F1_4 := blkc F1.out 4 rfl; replace F1_5 := blkc F1.out 5 rfl; clear hb)))
    go_ret
    exact ⟨rfl, B.out⟩

set_option maxHeartbeats 8000000 in
set_option maxRecDepth 100000 in
theorem neigh_walk (a b : Rng) (h1 h2 h3 h4 : Bool) (E : Int) (w : World) (hG : Glob w)
    (LA : ∀ W, Calls Tryz.prog 8 #[.agg #[.string a.f, .string a.t, .string a.n, .string a.lo, .string a.hi, .int .i64 a.m]] W fun e w' => e = .returned (.bool true) ∧ Below W.heap.size W w')
    (LB : ∀ W, Calls Tryz.prog 8 #[.agg #[.string b.f, .string b.t, .string b.n, .string b.lo, .string b.hi, .int .i64 b.m]] W fun e w' => e = .returned (.bool true) ∧ Below W.heap.size W w')
    (CA : ∀ W, Glob W → Calls Tryz.prog 9 #[.agg #[.string a.f, .string a.t, .string a.n, .string a.lo, .string a.hi, .int .i64 a.m]] W fun e w' => e = .returned (.int .i64 0) ∧ Below W.heap.size W w')
    (CB : ∀ W, Glob W → Calls Tryz.prog 9 #[.agg #[.string b.f, .string b.t, .string b.n, .string b.lo, .string b.hi, .int .i64 b.m]] W fun e w' => e = .returned (.int .i64 0) ∧ Below W.heap.size W w')
    (NW : ∀ W, Glob W → Calls Tryz.prog 14 #[.slice (some ⟨W.heap.size, 0, none⟩) 2 2] (W.alloc (.cells #[.string a.f, .string a.t, .string a.n, .string a.lo, .string a.hi, .int .i64 a.m, .string b.f, .string b.t, .string b.n, .string b.lo, .string b.hi, .int .i64 b.m] 23)) fun e w' => ∃ A n c, e = .returned (.tuple #[.agg #[.slice A n c], .int .i64 E]) ∧ Below W.heap.size W w')
    (HS1 : ∀ W, Calls Tryz.prog 12 #[.agg #[.string a.f, .string a.t, .string a.n, .string a.lo, .string a.hi, .int .i64 a.m], .string b.f] W fun e w' => e = .returned (.bool h1) ∧ Below W.heap.size W w')
    (HS2 : ∀ W, Calls Tryz.prog 12 #[.agg #[.string a.f, .string a.t, .string a.n, .string a.lo, .string a.hi, .int .i64 a.m], .string b.t] W fun e w' => e = .returned (.bool h2) ∧ Below W.heap.size W w')
    (HS3 : ∀ W, Calls Tryz.prog 12 #[.agg #[.string b.f, .string b.t, .string b.n, .string b.lo, .string b.hi, .int .i64 b.m], .string a.f] W fun e w' => e = .returned (.bool h3) ∧ Below W.heap.size W w')
    (HS4 : ∀ W, Calls Tryz.prog 12 #[.agg #[.string b.f, .string b.t, .string b.n, .string b.lo, .string b.hi, .int .i64 b.m], .string a.t] W fun e w' => e = .returned (.bool h4) ∧ Below W.heap.size W w')
    (h : (((h1 || h2) || h3) || h4) = true ∧ E = 17 ∨ (((h1 || h2) || h3) || h4) = false ∧ E = 0) :
    Calls Tryz.prog 4 #[.agg #[.string a.f, .string a.t, .string a.n, .string a.lo, .string a.hi, .int .i64 a.m], .agg #[.string b.f, .string b.t, .string b.n, .string b.lo, .string b.hi, .int .i64 b.m]] w
      fun e w' => e = .returned (.bool true) ∧ Below w.heap.size w w' := by
  have F0 := Lib.hid (show ((w.alloc (.cells #[.string a.f, .string a.t, .string a.n, .string a.lo, .string a.hi, .int .i64 a.m] 23)).alloc (.cells #[.string b.f, .string b.t, .string b.n, .string b.lo, .string b.hi, .int .i64 b.m] 23)).heap[w.heap.size]? = some (.cells #[.string a.f, .string a.t, .string a.n, .string a.lo, .string a.hi, .int .i64 a.m] 23) from allocs_get w [.cells #[.string a.f, .string a.t, .string a.n, .string a.lo, .string a.hi, .int .i64 a.m] 23, .cells #[.string b.f, .string b.t, .string b.n, .string b.lo, .string b.hi, .int .i64 b.m] 23] 0 _ rfl); have F1 := Lib.hid (show ((w.alloc (.cells #[.string a.f, .string a.t, .string a.n, .string a.lo, .string a.hi, .int .i64 a.m] 23)).alloc (.cells #[.string b.f, .string b.t, .string b.n, .string b.lo, .string b.hi, .int .i64 b.m] 23)).heap[w.heap.size + 1]? = some (.cells #[.string b.f, .string b.t, .string b.n, .string b.lo, .string b.hi, .int .i64 b.m] 23) from allocs_get w [.cells #[.string a.f, .string a.t, .string a.n, .string a.lo, .string a.hi, .int .i64 a.m] 23, .cells #[.string b.f, .string b.t, .string b.n, .string b.lo, .string b.hi, .int .i64 b.m] 23] 1 _ rfl); have B := Lib.hid (show Below w.heap.size w ((w.alloc (.cells #[.string a.f, .string a.t, .string a.n, .string a.lo, .string a.hi, .int .i64 a.m] 23)).alloc (.cells #[.string b.f, .string b.t, .string b.n, .string b.lo, .string b.hi, .int .i64 b.m] 23)) from allocs_below w [.cells #[.string a.f, .string a.t, .string a.n, .string a.lo, .string a.hi, .int .i64 a.m] 23, .cells #[.string b.f, .string b.t, .string b.n, .string b.lo, .string b.hi, .int .i64 b.m] 23])
  have AW := Lib.hid (awake18_any _ (hG.below B.out))
  have HLA := Lib.hid LA
  have HLB := Lib.hid LB
  have HCA := Lib.hid CA
  have HCB := Lib.hid CB
  have HNW := Lib.hid NW
  have X1 := Lib.hid HS1
  have X2 := Lib.hid HS2
  have X3 := Lib.hid HS3
  have X4 := Lib.hid HS4
  clear LA LB CA CB NW HS1 HS2 HS3 HS4
  have h' : (h1 = true ∧ E = 17) ∨ (h1 = false ∧ h2 = true ∧ E = 17) ∨ (h1 = false ∧ h2 = false ∧ h3 = true ∧ E = 17) ∨ (h1 = false ∧ h2 = false ∧ h3 = false ∧ h4 = true ∧ E = 17) ∨ (h1 = false ∧ h2 = false ∧ h3 = false ∧ h4 = false ∧ E = 0) := by
    revert h
    cases h1 <;> cases h2 <;> cases h3 <;> cases h4 <;> simp
  clear h
  rcases h' with ⟨rfl, rfl⟩ | ⟨rfl, rfl, rfl⟩ | ⟨rfl, rfl, rfl, rfl⟩ | ⟨rfl, rfl, rfl, rfl, rfl⟩ | ⟨rfl, rfl, rfl, rfl, rfl⟩
  all_goals
    go_enter Tryz.func4, Tryz.ntmps4
    go_wp2_with (first | (go_at_call 7; go_must (refine AW.out.mono ?_); rintro e w1 ⟨rfl, hb⟩; replace B := Lib.hid (below_step B.out hb); replace F0 := Lib.hid (blk_below F0.out hb); replace F0_0 := blkc F0.out 0 rfl; replace F0_1 := blkc F0.out 1 rfl; replace F0_2 := blkc F0.out 2 rfl; replace F0_3 := blkc F0.out 3 rfl; replace F0_4 := blkc F0.out 4 rfl; replace F0_5 := blkc F0.out 5 rfl; replace F1 := Lib.hid (blk_below F1.out hb); replace F1_0 := blkc F1.out 0 rfl; replace F1_1 := blkc F1.out 1 rfl; replace F1_2 := blkc F1.out 2 rfl; replace F1_3 := blkc F1.out 3 rfl; replace F1_4 := blkc F1.out 4 rfl; replace F1_5 := blkc F1.out 5 rfl; clear hb) | (go_at_call 8; first | ((with_reducible refine (HLA.out _).mono ?_); rintro e w1 ⟨rfl, hb⟩; replace B := Lib.hid (below_step B.out hb); replace F0 := Lib.hid (blk_below F0.out hb); replace F0_0 := blkc F0.out 0 rfl; replace F0_1 := blkc F0.out 1 rfl; replace F0_2 := blkc F0.out 2 rfl; replace F0_3 := blkc F0.out 3 rfl; replace F0_4 := blkc F0.out 4 rfl; replace F0_5 := blkc F0.out 5 rfl; replace F1 := Lib.hid (blk_below F1.out hb); replace F1_0 := blkc F1.out 0 rfl; replace F1_1 := blkc F1.out 1 rfl; replace F1_2 := blkc F1.out 2 rfl; replace F1_3 := blkc F1.out 3 rfl; replace F1_4 := blkc F1.out 4 rfl; replace F1_5 := blkc F1.out 5 rfl; clear hb) | ((with_reducible refine (HLB.out _).mono ?_); rintro e w1 ⟨rfl, hb⟩; replace B := Lib.hid (below_step B.out hb); replace F0 := Lib.hid (blk_below F0.out hb); replace F0_0 := blkc F0.out 0 rfl; replace F0_1 := blkc F0.out 1 rfl; replace F0_2 := blkc F0.out 2 rfl; replace F0_3 := blkc F0.out 3 rfl; replace F0_4 := blkc F0.out 4 rfl; replace F0_5 := blkc F0.out 5 rfl; replace F1 := Lib.hid (blk_below F1.out hb); replace F1_0 := blkc F1.out 0 rfl; replace F1_1 := blkc F1.out 1 rfl; replace F1_2 := blkc F1.out 2 rfl; replace F1_3 := blkc F1.out 3 rfl; replace F1_4 := blkc F1.out 4 rfl; replace F1_5 := blkc F1.out 5 rfl; clear hb)) | (go_at_call 9; first | ((with_reducible refine (HCA.out _ (hG.below B.out)).mono ?_); rintro e w1 ⟨rfl, hb⟩; replace B := Lib.hid (below_step B.out hb); replace F0 := Lib.hid (blk_below F0.out hb); replace F0_0 := blkc F0.out 0 rfl; replace F0_1 := blkc F0.out 1 rfl; replace F0_2 := blkc F0.out 2 rfl; replace F0_3 := blkc F0.out 3 rfl; replace F0_4 := blkc F0.out 4 rfl; replace F0_5 := blkc F0.out 5 rfl; replace F1 := Lib.hid (blk_below F1.out hb); replace F1_0 := blkc F1.out 0 rfl; replace F1_1 := blkc F1.out 1 rfl; replace F1_2 := blkc F1.out 2 rfl; replace F1_3 := blkc F1.out 3 rfl; replace F1_4 := blkc F1.out 4 rfl; replace F1_5 := blkc F1.out 5 rfl; clear hb) | ((with_reducible refine (HCB.out _ (hG.below B.out)).mono ?_); rintro e w1 ⟨rfl, hb⟩; replace B := Lib.hid (below_step B.out hb); replace F0 := Lib.hid (blk_below F0.out hb); replace F0_0 := blkc F0.out 0 rfl; replace F0_1 := blkc F0.out 1 rfl; replace F0_2 := blkc F0.out 2 rfl; replace F0_3 := blkc F0.out 3 rfl; replace F0_4 := blkc F0.out 4 rfl; replace F0_5 := blkc F0.out 5 rfl; replace F1 := Lib.hid (blk_below F1.out hb); replace F1_0 := blkc F1.out 0 rfl; replace F1_1 := blkc F1.out 1 rfl; replace F1_2 := blkc F1.out 2 rfl; replace F1_3 := blkc F1.out 3 rfl; replace F1_4 := blkc F1.out 4 rfl; replace F1_5 := blkc F1.out 5 rfl; clear hb)) | (go_at_call 14; go_must (refine (HNW.out _ (hG.below B.out)).mono ?_); rintro e w1 ⟨A, n, c, rfl, hb⟩; replace B := Lib.hid (below_step B.out hb); replace F0 := Lib.hid (blk_below F0.out hb); replace F0_0 := blkc F0.out 0 rfl; replace F0_1 := blkc F0.out 1 rfl; replace F0_2 := blkc F0.out 2 rfl; replace F0_3 := blkc F0.out 3 rfl; replace F0_4 := blkc F0.out 4 rfl; replace F0_5 := blkc F0.out 5 rfl; replace F1 := Lib.hid (blk_below F1.out hb); replace F1_0 := blkc F1.out 0 rfl; replace F1_1 := blkc F1.out 1 rfl; replace F1_2 := blkc F1.out 2 rfl; replace F1_3 := blkc F1.out 3 rfl; replace F1_4 := blkc F1.out 4 rfl; replace F1_5 := blkc F1.out 5 rfl; clear hb; have hz0 := blk_lt F0.out; have hz1 := blk_lt F1.out) | (go_at_call 12; first | ((with_reducible refine (X1.out _).mono ?_); rintro e w2 ⟨rfl, hb⟩; replace B := Lib.hid (below_step (below_alloc B.out _) hb); replace F0 := Lib.hid (blk_below (blk_alloc F0.out _) hb); replace F0_0 := blkc F0.out 0 rfl; replace F0_1 := blkc F0.out 1 rfl; replace F0_2 := blkc F0.out 2 rfl; replace F0_3 := blkc F0.out 3 rfl; replace F0_4 := blkc F0.out 4 rfl; replace F0_5 := blkc F0.out 5 rfl; replace F1 := Lib.hid (blk_below (blk_alloc F1.out _) hb); replace F1_0 := blkc F1.out 0 rfl; replace F1_1 := blkc F1.out 1 rfl; replace F1_2 := blkc F1.out 2 rfl; replace F1_3 := blkc F1.out 3 rfl; replace F1_4 := blkc F1.out 4 rfl; replace F1_5 := blkc F1.out 5 rfl; clear hb) | ((with_reducible refine (X2.out _).mono ?_); rintro e w2 ⟨rfl, hb⟩; replace B := Lib.hid (below_step B.out hb); replace F0 := Lib.hid (blk_below F0.out hb); replace F0_0 := blkc F0.out 0 rfl; replace F0_1 := blkc F0.out 1 rfl; replace F0_2 := blkc F0.out 2 rfl; replace F0_3 := blkc F0.out 3 rfl; replace F0_4 := blkc F0.out 4 rfl; replace F0_5 := blkc F0.out 5 rfl; replace F1 := Lib.hid (blk_below F1.out hb); replace F1_0 := blkc F1.out 0 rfl; replace F1_1 := blkc F1.out 1 rfl; replace F1_2 := blkc F1.out 2 rfl; replace F1_3 := blkc F1.out 3 rfl; replace F1_4 := blkc F1.out 4 rfl; replace F1_5 := blkc F1.out 5 rfl; clear hb) | ((with_reducible refine (X3.out _).mono ?_); rintro e w2 ⟨rfl, hb⟩; replace B := Lib.hid (below_step B.out hb); replace F0 := Lib.hid (blk_below F0.out hb); replace F0_0 := blkc F0.out 0 rfl; replace F0_1 := blkc F0.out 1 rfl; replace F0_2 := blkc F0.out 2 rfl; replace F0_3 := blkc F0.out 3 rfl; replace F0_4 := blkc F0.out 4 rfl; replace F0_5 := blkc F0.out 5 rfl; replace F1 := Lib.hid (blk_below F1.out hb); replace F1_0 := blkc F1.out 0 rfl; replace F1_1 := blkc F1.out 1 rfl; replace F1_2 := blkc F1.out 2 rfl; replace F1_3 := blkc F1.out 3 rfl; replace F1_4 := blkc F1.out 4 rfl; replace F1_5 := blkc F1.out 5 rfl; clear hb) | ((with_reducible refine (X4.out _).mono ?_); rintro e w2 ⟨rfl, hb⟩; replace B := Lib.hid (below_step B.out hb); replace F0 := Lib.hid (blk_below F0.out hb); replace F0_0 := blkc F0.out 0 rfl; replace F0_1 := blkc F0.out 1 rfl; replace F0_2 := blkc F0.out 2 rfl; replace F0_3 := blkc F0.out 3 rfl; replace F0_4 := blkc F0.out 4 rfl; replace F0_5 := blkc F0.out 5 rfl; replace F1 := Lib.hid (blk_below F1.out hb); replace F1_0 := blkc F1.out 0 rfl; replace F1_1 := blkc F1.out 1 rfl; replace F1_2 := blkc F1.out 2 rfl; replace F1_3 := blkc F1.out 3 rfl; replace F1_4 := blkc F1.out 4 rfl; replace F1_5 := blkc F1.out 5 rfl; clear hb)))
    go_ret
    exact ⟨rfl, B.out⟩


end Go.Proofs.YtiggnmhoececfaaGreatDoor

namespace Go.Proofs.YtiggnmhoececfaaGreatDoor
set_option linter.unusedVariables false
set_option linter.unusedSimpArgs false
open Go.RowKit Go.Proofs.YtiggnmhoececfaaGreatDoorW.PrintWords Go.Proofs.YtiggnmhoececfaaGreatDoorW.PrintMore

theorem light_small (r : Rng) (h : lightV r.f r.t r.n r.lo r.hi = true) : Small r := by
  simp only [lightV, Bool.and_eq_true, decide_eq_true_eq] at h
  exact ⟨by omega, by omega, by omega⟩

theorem chk_less (p q s l nm wi : Bool) (m : Int) (h : chk p q s l nm wi m = 0) : l = false := by
  unfold chk at h
  cases p
  · simp at h
  · cases q
    · simp at h
    · cases s
      · simp at h
      · cases l
        · rfl
        · simp at h

/-- What a range that may be has. -/
theorem VR.of_check (r : Rng) (h : checkV r.f r.t r.n r.lo r.hi r.m = 0) : VR r := by
  obtain ⟨h1, h2, h3⟩ := chk_zero _ _ _ _ _ _ _ h
  have h4 := chk_less _ _ _ _ _ _ _ h
  have h3 := of_decide_eq_true h3
  refine ⟨h1, h2, h3, ?_⟩
  rw [klt_is, decide_eq_false (by omega), decide_eq_true h3.symm]
  rw [ByteArray.toList_eq, ByteArray.toList_eq, bl_eq] at h4
  rw [h4]
  rfl

theorem clash_one (a b : Rng) : clash [a] b = thereV a.f a.t b.f b.t := by
  have hg : bsGo [a] b.f 0 1 = if placeV a.f a.t b.f < 0 then 1 else 0 := by
    rw [bsGo]
    rw [dif_pos (by omega)]
    show (if placeV a.f a.t b.f < 0 then bsGo [a] b.f 1 1 else bsGo [a] b.f 0 0) = _
    split
    · rw [bsGo, dif_neg (by omega)]
    · rw [bsGo, dif_neg (by omega)]
  unfold clash bsHit thereV
  show ((if h : bsGo [a] b.f 0 1 < 1 then _ else _) || (if h : bsGo [a] b.f 0 1 < 1 then _ else _)) = _
  have hp := place_is a.f a.t b.f
  by_cases h1 : klt a.t b.f = true
  · rw [if_pos h1] at hp
    have h0 : bsGo [a] b.f 0 1 = 1 := by rw [hg, hp]; rfl
    rw [dif_neg (by omega), dif_neg (by omega), hp]
    rfl
  · rw [if_neg h1] at hp
    have h0 : bsGo [a] b.f 0 1 = 0 := by
      rw [hg, hp]
      by_cases h2 : klt b.f a.f = true
      · rw [if_pos h2]; rfl
      · rw [if_neg h2]; rfl
    have e : ∀ h : bsGo [a] b.f 0 [a].length < [a].length, [a][bsGo [a] b.f 0 [a].length] = a := fun h => by simp
    rw [dif_pos (by omega), dif_pos (by omega), e, hp]
    by_cases h2 : klt b.f a.f = true
    · rw [if_pos h2]; rfl
    · rw [if_neg h2]; rfl

theorem newE_two (a b : Rng) (ha : checkV a.f a.t a.n a.lo a.hi a.m = 0) (hb : checkV b.f b.t b.n b.lo b.hi b.m = 0) : newE [] [a, b] = if thereV a.f a.t b.f b.t = true then 17 else 0 := by
  have h1 : addE [] a = 0 := by
    unfold addE
    rw [if_pos ha, if_neg (by decide), if_neg]
    unfold clash bsHit
    rw [dif_neg (by simp), dif_neg (by simp)]
    decide
  have h2 : addL [] a = [a] := by unfold addL; simp
  have h3 : addE [a] b = if thereV a.f a.t b.f b.t = true then 17 else 0 := by
    unfold addE
    rw [if_pos hb, if_neg (by simp), clash_one]
  unfold newE
  rw [if_pos h1, h2]
  unfold newE
  rw [h3]
  split
  · rfl
  · rfl

theorem neigh_any (f t n lo hi : ByteArray) (m : Int) (f' t' n' lo' hi' : ByteArray) (m' : Int) (w : World) (hG : Glob w) :
    Calls Tryz.prog 4 #[rangeV f t n lo hi m, rangeV f' t' n' lo' hi' m'] w fun e w' => e = .returned (.bool true) ∧ Below w.heap.size w w' := by
  obtain ⟨a, ha⟩ : ∃ a : Rng, a = ⟨f, t, n, lo, hi, m⟩ := ⟨_, rfl⟩
  obtain ⟨b, hb⟩ : ∃ b : Rng, b = ⟨f', t', n', lo', hi', m'⟩ := ⟨_, rfl⟩
  have goal : Calls Tryz.prog 4 #[a.v, b.v] w fun e w' => e = .returned (.bool true) ∧ Below w.heap.size w w' := by
    have LA := fun W => light_any a.f a.t a.n a.lo a.hi a.m W
    have LB := fun W => light_any b.f b.t b.n b.lo b.hi b.m W
    have CA := fun (h : lightV a.f a.t a.n a.lo a.hi = true) W hW => checkV_of a (light_small a h) W hW
    have CB := fun (h : lightV b.f b.t b.n b.lo b.hi = true) W hW => checkV_of b (light_small b h) W hW
    by_cases hd : lightV a.f a.t a.n a.lo a.hi = false ∨ (lightV a.f a.t a.n a.lo a.hi = true ∧ lightV b.f b.t b.n b.lo b.hi = false) ∨
        (lightV a.f a.t a.n a.lo a.hi = true ∧ lightV b.f b.t b.n b.lo b.hi = true ∧ (checkV a.f a.t a.n a.lo a.hi a.m != 0) = true) ∨
        (lightV a.f a.t a.n a.lo a.hi = true ∧ lightV b.f b.t b.n b.lo b.hi = true ∧ (checkV a.f a.t a.n a.lo a.hi a.m != 0) = false ∧ (checkV b.f b.t b.n b.lo b.hi b.m != 0) = true)
    · exact neigh_dark a b _ _ _ _ w hG LA LB CA CB hd
    · have hla : lightV a.f a.t a.n a.lo a.hi = true := by cases h : lightV a.f a.t a.n a.lo a.hi with | true => rfl | false => exact absurd (.inl h) hd
      have hlb : lightV b.f b.t b.n b.lo b.hi = true := by cases h : lightV b.f b.t b.n b.lo b.hi with | true => rfl | false => exact absurd (.inr (.inl ⟨hla, h⟩)) hd
      have hca : checkV a.f a.t a.n a.lo a.hi a.m = 0 := Decidable.byContradiction fun h => hd (.inr (.inr (.inl ⟨hla, hlb, by simpa using h⟩)))
      have hcb : checkV b.f b.t b.n b.lo b.hi b.m = 0 := Decidable.byContradiction fun h => hd (.inr (.inr (.inr ⟨hla, hlb, by simpa using hca, by simpa using h⟩)))
      rw [hla] at LA
      rw [hlb] at LB
      have CA := CA hla
      have CB := CB hlb
      rw [hca] at CA
      rw [hcb] at CB
      have va := VR.of_check a hca
      have vb := VR.of_check b hcb
      have num : ∀ {s : ByteArray}, cardOk s = true → isNum s.data.toList = true := fun h => by
        simp only [cardOk, Bool.and_eq_true] at h
        exact h.1.1
      have blf : ∀ {r : Rng}, VR r → bl r.t.data.toList r.f.data.toList = false := fun {r} h => by
        have h1 := h.o
        rw [klt_is] at h1
        simp only [Bool.or_eq_false_iff, Bool.and_eq_false_iff, decide_eq_false_iff_not] at h1
        exact h1.2.resolve_left (fun h2 => h2 h.s.symm)
      have meet := meet_there a.f a.t b.f b.t (num va.f) (num va.t) (num vb.f) (num vb.t) va.s vb.s (blf va) (blf vb)
      refine neigh_walk a b _ _ _ _ (newE [] [a, b]) w hG LA LB CA CB (fun W hW => ?_) (fun W => has_any a.f a.t a.n a.lo a.hi b.f a.m W) (fun W => has_any a.f a.t a.n a.lo a.hi b.t a.m W) (fun W => has_any b.f b.t b.n b.lo b.hi a.f b.m W) (fun W => has_any b.f b.t b.n b.lo b.hi a.t b.m W) ?_
      · have hc : ∀ j u, (rcells [a, b])[j]? = some u → (W.alloc (.cells #[.string a.f, .string a.t, .string a.n, .string a.lo, .string a.hi, .int .i64 a.m, .string b.f, .string b.t, .string b.n, .string b.lo, .string b.hi, .int .i64 b.m] 23)).cell? ⟨W.heap.size, j, none⟩ = some u := fun j u hj => blkc (blk_new _ _) j (by rw [← hj]; exact List.getElem?_toArray)
        have hbel := below_alloc (Below.refl W.heap.size W) (.cells #[.string a.f, .string a.t, .string a.n, .string a.lo, .string a.hi, .int .i64 a.m, .string b.f, .string b.t, .string b.n, .string b.lo, .string b.hi, .int .i64 b.m] 23)
        refine (new_any W.heap.size 2 [a, b] _ (hW.below hbel) hc (by simp) (Nat.le_refl _) (by unfold maxLen; omega) ?_ (by simp)).mono ?_
        · intro r hr
          simp only [List.mem_cons, List.not_mem_nil, or_false] at hr
          rcases hr with rfl | rfl
          · exact light_small _ hla
          · exact light_small _ hlb
        · rintro e w' ⟨v', he, hT, hb'⟩
          obtain ⟨A, c, rfl⟩ := hT.slice
          exact ⟨A, _, c, he, below_step hbel hb'⟩
      · rw [meet, newE_two a b hca hcb]
        cases thereV a.f a.t b.f b.t
        · exact .inr ⟨rfl, rfl⟩
        · exact .inl ⟨rfl, rfl⟩
  rw [ha, hb] at goal
  exact goal

end Go.Proofs.YtiggnmhoececfaaGreatDoor

namespace Go.Proofs.YtiggnmhoececfaaGreatDoor.rangesNeighbours
set_option linter.unusedVariables false
set_option linter.unusedSimpArgs false
open Go.ChangeShapes Go.WideShapes Go.ChangeAt Go.RowKit
open Go.ChangeMaps (open_string shut_string)

theorem reads (os : Os) {H : Type} (enc : TypeId × Value → H) : ∃ ds places, DataW.whole enc Tryz.prog ((rowWorld os).forCall (fun _ _ => 0) ⟨#[], #[.agg #[.string ByteArray.empty, .string ByteArray.empty, .string ByteArray.empty, .string ByteArray.empty, .string ByteArray.empty, .int .i64 0], .agg #[.string ByteArray.empty, .string ByteArray.empty, .string ByteArray.empty, .string ByteArray.empty, .string ByteArray.empty, .int .i64 0]], []⟩).memory Tryz.f4.params.toList Rows.rangesNeighboursSpec.vars false (#[.agg #[.string ByteArray.empty, .string ByteArray.empty, .string ByteArray.empty, .string ByteArray.empty, .string ByteArray.empty, .int .i64 0], .agg #[.string ByteArray.empty, .string ByteArray.empty, .string ByteArray.empty, .string ByteArray.empty, .string ByteArray.empty, .int .i64 0]] : Array Value).toList 8 = some (ds, [], places) :=
  ⟨[.agg [.lit (.string []), .lit (.string []), .lit (.string []), .lit (.string []), .lit (.string []), .lit (.int .i64 0)], .agg [.lit (.string []), .lit (.string []), .lit (.string []), .lit (.string []), .lit (.string []), .lit (.int .i64 0)]], [], by kernel_rfl⟩

set_option maxRecDepth 100000 in
theorem contract (H : Type) (enc : TypeId × Value → H) (W : World) (base : Nat) (args : Array Value) (ds gs : List (DataW H)) (before : List MemPlace)
    (hval0 : ∀ (j : Nat) t v, Tryz.f4.params[j]? = some t → args[j]? = some v → Value.okWide Tryz.prog W .any base t v)
    (hW : DataW.Whole enc Tryz.prog Tryz.f4.params.toList Rows.rangesNeighboursSpec.vars false W args.toList ds gs before)
    (hsz0 : (DataW.weightsEach Tryz.prog (Tryz.f4.params.toList ++ Rows.rangesNeighboursSpec.plain.varTypes Tryz.prog) (ds ++ gs)).all (· ≤ reachBytes) = true)
    (hL : laidMetH Tryz.prog laidL W) (hs : W.ShapedOpen Tryz.prog) :
    Calls Tryz.prog 4 args W fun e W' => ∃ v, e = .returned v ∧ Rows.rangesNeighboursSpec.post enc Tryz.prog Tryz.f4 false true false false W args v W' := by
  have hval := hval0
  have hsz := hsz0
  have hW' := hW
  obtain ⟨p, q, hA0, hV, rfl, hfz, hnd⟩ := hW
  have hA : DataW.TrodAll enc Tryz.prog W 0 (fun _ => true) true Tryz.f4.params.toList args.toList ds p := hA0
  rw [Tryz.params4] at hA hval hsz
  obtain ⟨v0, vs0, d0, ds0, p0, q0, hargs, rfl, rfl, h0, r0⟩ := trodAll_cons hA
  obtain ⟨v1, vs1, d1, ds1, p1, q1, rfl, rfl, rfl, h1, r1⟩ := trodAll_cons r0
  obtain ⟨rfl, rfl, rfl⟩ := trodAll_nil r1
  obtain rfl : args = #[v0, v1] := by cases args; simp_all
  obtain ⟨rfl, rfl⟩ := trodVars_none hV
  obtain ⟨f0, t0, n0, lo0, hi0, m0, rfl⟩ := open_range (hval 0 23 v0 rfl rfl) h0
  have k0 := h0
  have lt0 : ∀ x ∈ p0, x.block < W.heap.size := by obtain ⟨m, hm⟩ := k0; exact DataW.trod_lt m _ _ _ hm
  obtain ⟨f1, t1, n1, lo1, hi1, m1, rfl⟩ := open_range (hval 1 23 v1 rfl rfl) h1
  have k1 := h1
  have lt1 : ∀ x ∈ p1, x.block < W.heap.size := by obtain ⟨m, hm⟩ := k1; exact DataW.trod_lt m _ _ _ hm
  clear hA0 hval0 hsz0 hsz
  refine (neigh_any f0 t0 n0 lo0 hi0 m0 f1 t1 n1 lo1 hi1 m1  W (glob_of hL hs)).mono fun e W' ⟨he, bel⟩ => ?_
  subst he
  exact ⟨_, rfl, _, _, _, [], _, [], hW', trodAll_mk1 (shut_bool Tryz.underlying4 _), (trodAll_cons_mk (Below.trod laidOut (by kernel_rfl) (of_decide_eq_true (by kernel_rfl)) k0 bel lt0) (trodAll_cons_mk (Below.trod laidOut (by kernel_rfl) (of_decide_eq_true (by kernel_rfl)) k1 bel lt1) trodAll_mk0)), rfl, bel.frame _, fun h => by cases h⟩

set_option maxRecDepth 100000 in
theorem lifted (os : Os) (started : os.Started) (H : Type) (enc : TypeId × Value → H) (F : Stop.Interp) :
    ReturnsInHanded {} Tryz.checked os 4 .any ((OpenSpec.ofChange Rows.rangesNeighboursSpec).preRow enc Tryz.prog Tryz.f4 Rows.rangesNeighboursRow.domain false Rows.rangesNeighboursRow.laid) (((OpenSpec.ofChange Rows.rangesNeighboursSpec).at F).post enc Tryz.prog Tryz.f4 false true false false) := by
  obtain ⟨dsw, places, hx⟩ := reads os enc
  refine returnsInHanded_of_row (C := Tryz.checked) (s := OpenSpec.ofChange Rows.rangesNeighboursSpec) own started (by kernel_rfl) Tryz.func4
    (witness_row_atRef (enc := enc) (C := Tryz.checked) false (rowWorld os) #[.agg #[.string ByteArray.empty, .string ByteArray.empty, .string ByteArray.empty, .string ByteArray.empty, .string ByteArray.empty, .int .i64 0], .agg #[.string ByteArray.empty, .string ByteArray.empty, .string ByteArray.empty, .string ByteArray.empty, .string ByteArray.empty, .int .i64 0]] rfl (by kernel_rfl) (by kernel_rfl) (by kernel_rfl)
      (OpenSpec.preRow_of_cond 8 hx (by kernel_rfl) (fun k hk => by cases hk) (by kernel_rfl) (row_met os _))) ?_
  intro W base args ds gs before hval hW _ _ hsz hL hs _
  exact contract H enc W base args ds gs before hval hW hsz hL hs

theorem said : Rows.RangesNeighboursSaid :=
  OpenClaim.holds_of_cond 4 Tryz.f4 rfl rfl rfl rfl rfl rfl rfl ⟨rfl, rfl, rfl, rfl, rfl⟩ rfl rfl rfl rfl rfl (by kernel_rfl) Tryz.func4 (by kernel_rfl)
    (of_decide_eq_true (by kernel_rfl)) (by unfold Func.isWrapper; first | (rw [if_pos (by decide +kernel)]; kernel_rfl) | (rw [if_neg (by decide +kernel)]; exact ⟨rfl, rfl⟩))
    (fun os started H enc _ F => by rw [OpenClaim.pre_eq_preRow]; exact lifted os started H enc F)

theorem plain (f : FuncId) (fn : Func) (hf : Tryz.pinned.checked.prog.funcNamed "cashier/cashierlaw18.RangesNeighbours" = some f) (hfn : Tryz.pinned.checked.prog.funcs[f]? = some fn) :
    Rows.rangesNeighboursCard.stood.looks = Tryz.pinned.checked.prog.looks [] ∧ ∀ (j : Nat) t, fn.params[j]? = some t → Tryz.pinned.checked.prog.wantsStandIn t = false := by
  obtain rfl : f = 4 := Option.some.inj ((show Tryz.prog.funcNamed "cashier/cashierlaw18.RangesNeighbours" = some 4 by kernel_rfl).symm.trans hf) |>.symm
  obtain rfl : fn = Tryz.f4 := (Option.some.inj (Tryz.func4.symm.trans hfn)).symm
  refine ⟨by kernel_rfl, fun j t ht => ?_⟩
  rw [Tryz.params4] at ht
  have hm := Array.mem_of_getElem? ht
  have hm2 : t = 23 := by simpa using hm
  rcases hm2 with rfl
  · exact (show Tryz.prog.wantsStandIn 23 = false by kernel_rfl)

/-- The card. -/
theorem card : Rows.RangesNeighboursCardSaid :=
  Claim7.holds_tied_plain_at .later [] _ _ _ _ said (fun _ h => by cases h) (by kernel_rfl) (fun _ h => by cases h) rangesNeighbours_row_tie rfl ⟨rfl, rfl⟩ (by kernel_rfl) rfl plain (by kernel_rfl)

#print axioms card
end Go.Proofs.YtiggnmhoececfaaGreatDoor.rangesNeighbours
