/- Texts taken together, trimmed. -/
import Derived.Test.YtfocognhcljhpaaGreatDoorR1
import Derived.Test.YtfocognhcljhpaaGreatDoorR3
import Derived.Test.YtfocognhcljhpaaGreatDoorR4
import Derived.Test.YtfocognhcljhpaaGreatDoorR5
import Derived.Test.YtfocognhcljhpaaGreatDoorR6
import Derived.RangeFuncNested
import Derived.RangeFuncBound
import Derived.RangeFuncCalls
import Derived.RangeFuncLeaves
set_option linter.unusedVariables false
set_option linter.unusedSimpArgs false
namespace Go.Proofs.YtfocognhcljhpaaGreatDoor.PRef
open Go.Proofs.YtfocognhcljhpaaGreatDoor.PPrintRows
open Go.RowKit Go.Proofs.YtfocognhcljhpaaGreatDoorW.PrintWords Go.Proofs.YtfocognhcljhpaaGreatDoorW.PrintLast Go.Proofs.YtfocognhcljhpaaGreatDoorW.PrintMore
attribute [local go_sem] max2_int min2_int max_two min_two max_three min_three max_four min_four   -- for this text's walks alone
mutual
def json_laid.l0 : Nat → List (S48) → List Int → List (S48) → Int → Int → Option (Bool)
 | 0, _, _, _, _, _ => none
 | k + 1, x0, x3, x9, x10, x11 => if x11 < x10 then (if 0 ≤ x11 then (if x11 < (x9.length : Int) then (json_laid.l1 k x0 x3 x11 x9 x10 x11 ((rd_T48 x9 x11).f0) ((rd_T48 x9 x11).f1) ((rd_T48 x9 x11).f2) ((rd_T48 x9 x11).f3) ((rd_T48 x9 x11).f4)) else (none)) else (none)) else (if (x0.length : Int) > 0 then (if 0 < (x0.length : Int) then (some (((rd_T48 x0 0).f4) == (x0.length : Int))) else (none)) else (some false))
def json_laid.j2 : Nat → List (S48) → List Int → Int → List (S48) → Int → Int → Int → ByteArray → ByteArray → Int → Int → Option (Bool)
 | 0, _, _, _, _, _, _, _, _, _, _, _ => none
 | k + 1, x0, x3, x4, x9, x10, x11, x118000, x118001, x118002, x118003, x118004 => if (x3.length : Int) > 0 then (if 0 ≤ (wrap64 ((x3.length : Int) - 1)) then (if (wrap64 ((x3.length : Int) - 1)) < (x3.length : Int) then (json_laid.j3 k x0 x3 x4 (rd x3 (wrap64 ((x3.length : Int) - 1))) x9 x10 x11 x118000 x118001 x118002 x118003 x118004) else (none)) else (none)) else (json_laid.j3 k x0 x3 x4 (-1) x9 x10 x11 x118000 x118001 x118002 x118003 x118004)
def json_laid.j3 : Nat → List (S48) → List Int → Int → Int → List (S48) → Int → Int → Int → ByteArray → ByteArray → Int → Int → Option (Bool)
 | 0, _, _, _, _, _, _, _, _, _, _, _, _ => none
 | k + 1, x0, x3, x4, x6, x9, x10, x11, x118000, x118001, x118002, x118003, x118004 => if x6 ≥ 0 then (if 0 ≤ x6 then (if x6 < (x0.length : Int) then (json_laid.j4 k x0 x3 x4 x6 ((rd_T48 x0 x6).f4) x9 x10 x11 x118000 x118001 x118002 x118003 x118004) else (none)) else (none)) else (json_laid.j4 k x0 x3 x4 x6 (x0.length : Int) x9 x10 x11 x118000 x118001 x118002 x118003 x118004)
def json_laid.j4 : Nat → List (S48) → List Int → Int → Int → Int → List (S48) → Int → Int → Int → ByteArray → ByteArray → Int → Int → Option (Bool)
 | 0, _, _, _, _, _, _, _, _, _, _, _, _, _ => none
 | k + 1, x0, x3, x4, x6, x7, x9, x10, x11, x118000, x118001, x118002, x118003, x118004 => if x118003 = x6 then (if x118004 ≤ x4 then (json_laid.j5 k x0 x3 x4 x9 x10 x11 true x118000 x118001 x118002 x118003 x118004) else (if x118004 > x7 then (json_laid.j5 k x0 x3 x4 x9 x10 x11 true x118000 x118001 x118002 x118003 x118004) else (if x118000 < 6 then (if x118004 = (wrap64 (x4 + 1)) then ((json_shaped.f k x0 x4).bind fun t125 => (if t125 = true then (if x6 < 0 then (json_laid.j5 k x0 x3 x4 x9 x10 x11 (decide (x4 > 0)) x118000 x118001 x118002 x118003 x118004) else (json_laid.j5 k x0 x3 x4 x9 x10 x11 false x118000 x118001 x118002 x118003 x118004)) else (json_laid.j5 k x0 x3 x4 x9 x10 x11 true x118000 x118001 x118002 x118003 x118004))) else (json_laid.j5 k x0 x3 x4 x9 x10 x11 true x118000 x118001 x118002 x118003 x118004)) else ((json_shaped.f k x0 x4).bind fun t126 => (if t126 = true then (if x6 < 0 then (json_laid.j5 k x0 x3 x4 x9 x10 x11 (decide (x4 > 0)) x118000 x118001 x118002 x118003 x118004) else (json_laid.j5 k x0 x3 x4 x9 x10 x11 false x118000 x118001 x118002 x118003 x118004)) else (json_laid.j5 k x0 x3 x4 x9 x10 x11 true x118000 x118001 x118002 x118003 x118004)))))) else (json_laid.j5 k x0 x3 x4 x9 x10 x11 true x118000 x118001 x118002 x118003 x118004)
def json_laid.j5 : Nat → List (S48) → List Int → Int → List (S48) → Int → Int → Bool → Int → ByteArray → ByteArray → Int → Int → Option (Bool)
 | 0, _, _, _, _, _, _, _, _, _, _, _, _ => none
 | k + 1, x0, x3, x4, x9, x10, x11, x97, x118000, x118001, x118002, x118003, x118004 => if x97 = true then (some false) else (if x118000 ≥ 6 then (if x3.length < 17592186044416 then (json_laid.l0 k x0 (x3 ++ [x4]) x9 x10 (wrap64 (x11 + 1))) else (none)) else (json_laid.l0 k x0 x3 x9 x10 (wrap64 (x11 + 1))))
def json_laid.l1 : Nat → List (S48) → List Int → Int → List (S48) → Int → Int → Int → ByteArray → ByteArray → Int → Int → Option (Bool)
 | 0, _, _, _, _, _, _, _, _, _, _, _ => none
 | k + 1, x0, x3, x4, x9, x10, x11, x118000, x118001, x118002, x118003, x118004 => if (x3.length : Int) > 0 then (if 0 ≤ (wrap64 ((x3.length : Int) - 1)) then (if (wrap64 ((x3.length : Int) - 1)) < (x3.length : Int) then (if 0 ≤ (rd x3 (wrap64 ((x3.length : Int) - 1))) then (if (rd x3 (wrap64 ((x3.length : Int) - 1))) < (x0.length : Int) then (if ((rd_T48 x0 (rd x3 (wrap64 ((x3.length : Int) - 1)))).f4) = x4 then (if (wrap64 ((x3.length : Int) - 1)) ≤ (x3.length : Int) then (json_laid.l1 k x0 (x3.take ((wrap64 ((x3.length : Int) - 1)) : Int).toNat) x4 x9 x10 x11 x118000 x118001 x118002 x118003 x118004) else (none)) else (json_laid.j2 k x0 x3 x4 x9 x10 x11 x118000 x118001 x118002 x118003 x118004)) else (none)) else (none)) else (none)) else (none)) else (json_laid.j2 k x0 x3 x4 x9 x10 x11 x118000 x118001 x118002 x118003 x118004)
end
def json_laid.f (k : Nat) (l0 : List (S48)) : Option (Bool) := json_laid.l0 k l0 (([] : List Int)) l0 (l0.length : Int) 0
set_option maxHeartbeats 8000000 in
set_option maxRecDepth 100000 in
theorem json_laid.calls (k : Nat) (A0 : Option Addr) (c0 : Nat) (l0 : List (S48)) (r : Bool) (w : World) (hr0 : Kd.C k48 w A0 l0.length l0) (hc0 : l0.length ≤ c0) (h : json_laid.f k l0 = some r) :
  Calls Tryz.prog 57 #[.slice A0 l0.length c0] w fun e w' => e = .returned (.bool r) ∧ Below w.heap.size w w' := by
 have hu48 := Tryz.underlying48
 have HR0 := Aside0.mk hr0
 have HC0 := Aside0.mk hc0
 clear hr0 hc0
 have HB := Aside0.mk (Below.refl w.heap.size w)
 have H : (json_laid.l0 k l0 (([] : List Int)) l0 (l0.length : Int) 0) = some r := h
 clear h
 obtain ⟨y112, hy112⟩ : ∃ y_ : List Int, y_ = (([] : List Int)) := ⟨_, rfl⟩
 replace H : (json_laid.l0 k l0 y112 l0 (l0.length : Int) 0) = some r := by first | (rw [hy112]; with_reducible exact H) | (have H2_ := (Option.bind_some _ _).symm.trans H; rw [hy112]; with_reducible exact H2_) | (have H2_ := (Option.bind_some _ _).symm.trans H; with_reducible exact H2_) | with_reducible exact H | (rw [hy112]; exact H) | exact H
 have Ny112 := Aside0.mk hy112
 clear hy112
 have H' := Aside0.mk H
 clear H
 go_enter Tryz.func57, Tryz.ntmps57
 go_wp2_with (first | ((with_reducible refine gate_dst (N := 8) rfl ?_); (try (refine gate_guard (by rfl) ?_; dsimp only)); refine Kd.R_lit (Kd.int .i64) _ 3 ?hg (N := 8) ?hd (xs := ([] : List Int)) (inner := []) (ok := fun _ => True) (okp := fun _ => True) ?hr ?hp (fun _ hk => hk) trivial (Below.refl _ _) (Nat.le_refl _) (by simp) ?_; (case hd => rfl); (case hg => rfl); (case hr => first | (go_simp; done) | (go_simp; rfl)); (case hp => exact (Reps.none _ _)); intro v113 w2 ho3 hb hg_ hnew_; clear hg_ hnew_; (first | rw [← Ny112.out] at ho3 | (simp only [Int.reduceToNat] at ho3; rw [← Ny112.out] at ho3)); have n0_ := Aside0.mk (Kd.R_lower ho3 (below_size (by repeat (first | (with_reducible first | exact HB.out | apply below_alloc | apply pw_below_drewN | apply below_drew1) | exact HB.out)))); have n1_ := Aside0.mk (below_step (by repeat (first | (with_reducible first | exact HB.out | apply below_alloc | apply pw_below_drewN | apply below_drew1) | exact HB.out)) hb); clear HB; have HO114 := n0_; have HB := n1_; clear n0_ n1_; clear hb ho3))
 go_loopg [3, 11] k (fun kq v3 v11 w' => ∃ (x3_1 : List Int) (x11_1 : Int), v11 = .int .i64 x11_1 ∧ Aside0 (json_laid.l0 kq l0 x3_1 l0 (l0.length : Int) x11_1 = some r) ∧ Aside0 (kq ≤ k) ∧ Aside0 (Kd.R (Kd.int .i64) 3 w' w.heap.size (fun _ => True) v3 x3_1) ∧ Aside0 (Below w.heap.size w w'))
 case atStart => exact ⟨(y112), (0), (by first | rfl | (simp; done) | (simp [*]; done)), H', ⟨Nat.le_refl _⟩, ⟨by (with_reducible repeat (first | apply Kd.R_alloc | apply Kd.R_drewN | apply Kd.R_drew)); exact HO114.out⟩, ⟨by repeat (first | (with_reducible first | exact HB.out | apply below_alloc | apply pw_below_drewN | apply below_drew1) | exact HB.out)⟩⟩
 case round =>
  clear H'
  try clear p2
  obtain ⟨x3_1, x11_1, rfl, HA, HK1, HO_3, HB⟩ := hrel
  cases gk with
  | zero => exact absurd HA.out (by simp [json_laid.l0])
  | succ k1 =>
   have H := HA.out
   clear HA
   simp only [json_laid.l0] at H
   by_cases c4 : x11_1 < (l0.length : Int)
   ·rw [if_pos c4] at H
    have c4b0 : decide (x11_1 < (l0.length : Int)) = true := decide_eq_true c4
    clear c4
    by_cases c5 : 0 ≤ x11_1
    ·rw [if_pos c5] at H
     have c5b0 : decide (0 ≤ x11_1) = true := decide_eq_true c5
     clear c5
     by_cases c6 : x11_1 < (l0.length : Int)
     ·rw [if_pos c6] at H
      have c6b0 : decide (x11_1 < (l0.length : Int)) = true := decide_eq_true c6
      clear c6
      have HC7 := Aside0.mk H
      clear H
      have p116 : 0 ≤ (x11_1 : Int) := of_decide_eq_true (by first | (with_reducible assumption) | assumption)
      have q116 : x11_1 < (l0.length : Int) := of_decide_eq_true (by first | (with_reducible assumption) | assumption)
      obtain ⟨ad116, e116, hx116_0, hx116_1, hx116_2, hx116_3, hx116_4⟩ := at_T48 HR0.out x11_1 p116 q116
      cases e116
      replace hx116_0 := (HB.out.cell (World.block_lt_of_cell? w _ hx116_0)).trans hx116_0
      replace hx116_1 := (HB.out.cell (World.block_lt_of_cell? w _ hx116_1)).trans hx116_1
      replace hx116_2 := (HB.out.cell (World.block_lt_of_cell? w _ hx116_2)).trans hx116_2
      replace hx116_3 := (HB.out.cell (World.block_lt_of_cell? w _ hx116_3)).trans hx116_3
      replace hx116_4 := (HB.out.cell (World.block_lt_of_cell? w _ hx116_4)).trans hx116_4
      replace p116 := eq_true p116
      replace q116 := eq_true q116
      go_upto_block 2 with (first | ((with_reducible refine gate_dst (N := 5) rfl ?_); (try (refine gate_guard (by rfl) ?_; dsimp only)); refine box_event ?hg (N := 5) ?hd (cs := #[.int .i64 0, .string (⟨#[]⟩ : ByteArray), .string (⟨#[]⟩ : ByteArray), .int .i64 0, .int .i64 0]) (t := 48) ?hr ?_; (case hd => rfl); (case hg => rfl); (case hr => first | (go_simp; done) | (go_simp; rfl)); intro gb117 hg w8 hbox hb; have n0_ := Aside0.mk (Kd.R_below (by (with_reducible repeat (first | apply Kd.R_alloc | apply Kd.R_drewN | apply Kd.R_drew)); exact HO_3.out) hb); have n1_ := Aside0.mk (below_step (by repeat (first | (with_reducible first | exact HB.out | apply below_alloc | apply pw_below_drewN | apply below_drew1) | exact HB.out)) hb); have n2_ := Aside0.mk (hbox); have n3_ := Aside0.mk ((by rw [hg]; exact (below_size (by repeat (first | (with_reducible first | exact HB.out | apply below_alloc | apply pw_below_drewN | apply below_drew1) | exact HB.out))) : w.heap.size ≤ gb117)); have n4_ := Aside0.mk ((by rw [hg]; exact (below_size (by repeat (first | (with_reducible first | exact HB.out | apply below_alloc | apply pw_below_drewN | apply below_drew1) | exact HB.out))) : w.heap.size ≤ gb117)); clear HO_3; clear HB; have HO_3 := n0_; have HB := n1_; have BK117 := n2_; have GW117 := n3_; have GE117 := n4_; clear n0_ n1_ n2_ n3_ n4_; clear hb hbox hg; have hcz9_0 : w8.cell? ⟨gb117, 0, none⟩ = some (.int .i64 0) := (blk_cell BK117.out 0).trans rfl; have hcz9_1 : w8.cell? ⟨gb117, 1, none⟩ = some (.string (⟨#[]⟩ : ByteArray)) := (blk_cell BK117.out 1).trans rfl; have hcz9_2 : w8.cell? ⟨gb117, 2, none⟩ = some (.string (⟨#[]⟩ : ByteArray)) := (blk_cell BK117.out 2).trans rfl; have hcz9_3 : w8.cell? ⟨gb117, 3, none⟩ = some (.int .i64 0) := (blk_cell BK117.out 3).trans rfl; have hcz9_4 : w8.cell? ⟨gb117, 4, none⟩ = some (.int .i64 0) := (blk_cell BK117.out 4).trans rfl; have hfz9_0 := blk_frozen BK117.out 0; have hfz9_1 := blk_frozen BK117.out 1; have hfz9_2 := blk_frozen BK117.out 2; have hfz9_3 := blk_frozen BK117.out 3; have hfz9_4 := blk_frozen BK117.out 4))
      (try simp only [Act.put, List.setIfInBounds_toArray, List.set_cons_zero, List.set_cons_succ])
      go_cut [3] (fun v3 wc => ∃ (kq : Nat) (x3_6 : List Int), Aside0 (json_laid.j2 kq l0 x3_6 x11_1 l0 (l0.length : Int) x11_1 ((rd_T48 l0 x11_1).f0) ((rd_T48 l0 x11_1).f1) ((rd_T48 l0 x11_1).f2) ((rd_T48 l0 x11_1).f3) ((rd_T48 l0 x11_1).f4) = some r) ∧ Aside0 (kq ≤ k1) ∧ Aside0 (Kd.R (Kd.int .i64) 3 wc w.heap.size (fun _ => True) v3 x3_6) ∧ Aside0 (wc.heap[gb117]? = some (.cells #[.int .i64 ((rd_T48 l0 x11_1).f0), .string ((rd_T48 l0 x11_1).f1), .string ((rd_T48 l0 x11_1).f2), .int .i64 ((rd_T48 l0 x11_1).f3), .int .i64 ((rd_T48 l0 x11_1).f4)] 48 (0, 0))) ∧ Aside0 (Below w.heap.size w wc))
      case first =>
       have H := HC7.out
       clear HC7
       have H' := Aside0.mk H
       clear H
       go_wp2
       go_loopg [3] k1 (fun kq v3 w' => ∃ (x3_2 : List Int), Aside0 (json_laid.l1 kq l0 x3_2 x11_1 l0 (l0.length : Int) x11_1 ((rd_T48 l0 x11_1).f0) ((rd_T48 l0 x11_1).f1) ((rd_T48 l0 x11_1).f2) ((rd_T48 l0 x11_1).f3) ((rd_T48 l0 x11_1).f4) = some r) ∧ Aside0 (kq ≤ k1) ∧ Aside0 (Kd.R (Kd.int .i64) 3 w' w.heap.size (fun _ => True) v3 x3_2) ∧ Aside0 (w'.heap[gb117]? = some (.cells #[.int .i64 ((rd_T48 l0 x11_1).f0), .string ((rd_T48 l0 x11_1).f1), .string ((rd_T48 l0 x11_1).f2), .int .i64 ((rd_T48 l0 x11_1).f3), .int .i64 ((rd_T48 l0 x11_1).f4)] 48 (0, 0))) ∧ Aside0 (Below w.heap.size w w'))
       case atStart => exact ⟨(x3_1), H', ⟨Nat.le_refl _⟩, ⟨by (with_reducible repeat (first | apply Kd.R_alloc | apply Kd.R_drewN | apply Kd.R_drew)); exact Kd.R_mono (Kd.R_far (p := ⟨gb117, 4, none⟩) (Kd.R_far (p := ⟨gb117, 3, none⟩) (Kd.R_far (p := ⟨gb117, 2, none⟩) (Kd.R_far (p := ⟨gb117, 1, none⟩) (Kd.R_far (p := ⟨gb117, 0, none⟩) (Kd.R_types HO_3.out BK117.out (by decide)) (fun _ hk => hk.2) (.int .i64 ((rd_T48 l0 x11_1).f0))) (fun _ hk => hk.2) (.string ((rd_T48 l0 x11_1).f1))) (fun _ hk => hk.2) (.string ((rd_T48 l0 x11_1).f2))) (fun _ hk => hk.2) (.int .i64 ((rd_T48 l0 x11_1).f3))) (fun _ hk => hk.2) (.int .i64 ((rd_T48 l0 x11_1).f4))) (fun _ hk => trivial)⟩, ⟨by (with_reducible repeat (first | refine blk_drewN ?_ _ | refine blk_drew ?_ | refine blk_alloc ?_ _)); refine blk_put (cs := #[.int .i64 ((rd_T48 l0 x11_1).f0), .string ((rd_T48 l0 x11_1).f1), .string ((rd_T48 l0 x11_1).f2), .int .i64 ((rd_T48 l0 x11_1).f3), .int .i64 0]) ?_ 4 _ rfl; (with_reducible repeat (first | refine blk_drewN ?_ _ | refine blk_drew ?_ | refine blk_alloc ?_ _)); refine blk_put (cs := #[.int .i64 ((rd_T48 l0 x11_1).f0), .string ((rd_T48 l0 x11_1).f1), .string ((rd_T48 l0 x11_1).f2), .int .i64 0, .int .i64 0]) ?_ 3 _ rfl; (with_reducible repeat (first | refine blk_drewN ?_ _ | refine blk_drew ?_ | refine blk_alloc ?_ _)); refine blk_put (cs := #[.int .i64 ((rd_T48 l0 x11_1).f0), .string ((rd_T48 l0 x11_1).f1), .string (⟨#[]⟩ : ByteArray), .int .i64 0, .int .i64 0]) ?_ 2 _ rfl; (with_reducible repeat (first | refine blk_drewN ?_ _ | refine blk_drew ?_ | refine blk_alloc ?_ _)); refine blk_put (cs := #[.int .i64 ((rd_T48 l0 x11_1).f0), .string (⟨#[]⟩ : ByteArray), .string (⟨#[]⟩ : ByteArray), .int .i64 0, .int .i64 0]) ?_ 1 _ rfl; (with_reducible repeat (first | refine blk_drewN ?_ _ | refine blk_drew ?_ | refine blk_alloc ?_ _)); refine blk_put (cs := #[.int .i64 0, .string (⟨#[]⟩ : ByteArray), .string (⟨#[]⟩ : ByteArray), .int .i64 0, .int .i64 0]) ?_ 0 _ rfl; (with_reducible repeat (first | refine blk_drewN ?_ _ | refine blk_drew ?_ | refine blk_alloc ?_ _)); exact BK117.out⟩, ⟨by repeat (first | (with_reducible first | exact HB.out | apply below_alloc | apply pw_below_drewN | apply below_drew1 | refine below_set ?_ GE117.out) | exact HB.out)⟩⟩
       case round =>
        clear H'
        try clear p1
        try clear q1
        try clear hx1
        try clear p2
        try clear c4
        try clear c4b0
        try clear c5
        try clear c5b0
        try clear c6
        try clear c6b0
        try clear hcz9_0
        try clear hcz9_1
        try clear hcz9_2
        try clear hcz9_3
        try clear hcz9_4
        try clear hfz9_0
        try clear hfz9_1
        try clear hfz9_2
        try clear hfz9_3
        try clear hfz9_4
        try clear hx116_0
        try clear hx116_1
        try clear hx116_2
        try clear hx116_3
        try clear hx116_4
        try clear p116
        try clear p2
        try clear q116
        obtain ⟨x3_2, HA, HK2, HO_3, BK117, HB⟩ := hrel
        cases gk with
        | zero => exact absurd HA.out (by simp [json_laid.l1])
        | succ k2 =>
         have H := HA.out
         clear HA
         simp only [json_laid.l1] at H
         by_cases c10 : (x3_2.length : Int) > 0
         ·rw [if_pos c10] at H
          have c10b0 : decide (0 < (x3_2.length : Int)) = true := decide_eq_true c10
          have c10b1 : decide (0 < x3_2.length) = true := decide_eq_true (by omega)
          clear c10
          (first | rw [c10b0] | rw [c10b1] | (simp only [i64_w, i32_w]; rw [c10b0]) | skip)
          obtain ⟨ji11, hji11⟩ : ∃ j_ : Int, (wrap64 ((x3_2.length : Int) - 1)) = j_ := ⟨_, rfl⟩
          replace H : (if 0 ≤ (ji11) then (if (ji11) < (x3_2.length : Int) then (if 0 ≤ (rd x3_2 (ji11)) then (if (rd x3_2 (ji11)) < (l0.length : Int) then (if ((rd_T48 l0 (rd x3_2 (ji11))).f4) = x11_1 then (if (ji11) ≤ (x3_2.length : Int) then (json_laid.l1 k2 l0 (x3_2.take ((ji11) : Int).toNat) x11_1 l0 (l0.length : Int) x11_1 ((rd_T48 l0 x11_1).f0) ((rd_T48 l0 x11_1).f1) ((rd_T48 l0 x11_1).f2) ((rd_T48 l0 x11_1).f3) ((rd_T48 l0 x11_1).f4)) else (none)) else (json_laid.j2 k2 l0 x3_2 x11_1 l0 (l0.length : Int) x11_1 ((rd_T48 l0 x11_1).f0) ((rd_T48 l0 x11_1).f1) ((rd_T48 l0 x11_1).f2) ((rd_T48 l0 x11_1).f3) ((rd_T48 l0 x11_1).f4))) else (none)) else (none)) else (none)) else (none)) = some r := by first | (rw [hji11] at H; exact H) | (simp only [hji11] at H ⊢; exact H)
          have hji11w : (IntKind.i64.wrap ((x3_2.length : Int) - 1)) = ji11 := (i64_w _).trans hji11
          by_cases c12 : 0 ≤ (ji11)
          ·rw [if_pos c12] at H
           have c12b0 : decide (0 ≤ (ji11)) = true := decide_eq_true c12
           clear c12
           by_cases c13 : (ji11) < (x3_2.length : Int)
           ·rw [if_pos c13] at H
            have c13b0 : decide ((ji11) < (x3_2.length : Int)) = true := decide_eq_true c13
            clear c13
            by_cases c14 : 0 ≤ (rd x3_2 (ji11))
            ·rw [if_pos c14] at H
             have c14b0 : decide (0 ≤ (rd x3_2 (ji11))) = true := decide_eq_true c14
             clear c14
             by_cases c15 : (rd x3_2 (ji11)) < (l0.length : Int)
             ·rw [if_pos c15] at H
              have c15b0 : decide ((rd x3_2 (ji11)) < (l0.length : Int)) = true := decide_eq_true c15
              clear c15
              by_cases c16 : ((rd_T48 l0 (rd x3_2 (ji11))).f4) = x11_1
              ·rw [if_pos c16] at H
               have c16b0 : (((rd_T48 l0 (rd x3_2 (ji11))).f4) == x11_1) = true := beq_iff_eq.mpr c16
               have c16b1 : (((rd_T48 l0 (rd x3_2 (ji11))).f4) != x11_1) = false := bne_eq_false_iff_eq.mpr c16
               clear c16
               by_cases c17 : (ji11) ≤ (x3_2.length : Int)
               ·rw [if_pos c17] at H
                have c17b0 := eq_true c17
                have c17b1 : decide ((ji11) ≤ (x3_2.length : Int)) = true := decide_eq_true c17
                clear c17
                obtain ⟨y120, hy120⟩ : ∃ y_ : List Int, y_ = (x3_2.take ((ji11) : Int).toNat) := ⟨_, rfl⟩
                replace H : (json_laid.l1 k2 l0 y120 x11_1 l0 (l0.length : Int) x11_1 ((rd_T48 l0 x11_1).f0) ((rd_T48 l0 x11_1).f1) ((rd_T48 l0 x11_1).f2) ((rd_T48 l0 x11_1).f3) ((rd_T48 l0 x11_1).f4)) = some r := by first | (rw [hy120]; with_reducible exact H) | (have H2_ := (Option.bind_some _ _).symm.trans H; rw [hy120]; with_reducible exact H2_) | (have H2_ := (Option.bind_some _ _).symm.trans H; with_reducible exact H2_) | with_reducible exact H | (rw [hy120]; exact H) | exact H
                have Ny120 := Aside0.mk hy120
                clear hy120
                have H' := Aside0.mk H
                clear H
                obtain ⟨Ao18, co18, eo18⟩ := Kd.R_slice HO_3.out
                subst eo18
                have p118 : 0 ≤ ((ji11) : Int) := of_decide_eq_true (by first | (with_reducible assumption) | assumption)
                have q118 : (ji11) < (x3_2.length : Int) := of_decide_eq_true (by first | (with_reducible assumption) | assumption)
                obtain ⟨ad118, e118, hx118_0⟩ := Kd.at_int (Kd.R_reads' HO_3.out).2.2 (ji11) p118 q118
                cases e118
                replace p118 := eq_true p118
                replace q118 := eq_true q118
                have p119 : 0 ≤ ((rd x3_2 (ji11)) : Int) := of_decide_eq_true (by first | (with_reducible assumption) | assumption)
                have q119 : (rd x3_2 (ji11)) < (l0.length : Int) := of_decide_eq_true (by first | (with_reducible assumption) | assumption)
                obtain ⟨ad119, e119, hx119_0, hx119_1, hx119_2, hx119_3, hx119_4⟩ := at_T48 HR0.out (rd x3_2 (ji11)) p119 q119
                obtain rfl : ad116 = ad119 := (by injection e119)
                replace hx119_0 := (HB.out.cell (World.block_lt_of_cell? w _ hx119_0)).trans hx119_0
                replace hx119_1 := (HB.out.cell (World.block_lt_of_cell? w _ hx119_1)).trans hx119_1
                replace hx119_2 := (HB.out.cell (World.block_lt_of_cell? w _ hx119_2)).trans hx119_2
                replace hx119_3 := (HB.out.cell (World.block_lt_of_cell? w _ hx119_3)).trans hx119_3
                replace hx119_4 := (HB.out.cell (World.block_lt_of_cell? w _ hx119_4)).trans hx119_4
                replace p119 := eq_true p119
                replace q119 := eq_true q119
                have q19 : ((ji11) : Int) ≤ ((x3_2.length : Int) : Int) := of_decide_eq_true (by first | (with_reducible assumption) | assumption)
                obtain ⟨i019, hi019, _, hsz19, _⟩ := info_parts info3
                have hcut19 := cut_to (P := Tryz.prog) 71 3 .i64 Tryz.underlying71 hi019 (some ad118) x3_2.length co18 (ji11) (of_decide_eq_true (by first | (with_reducible assumption) | assumption)) q19 (Kd.R_reads' HO_3.out).2.1
                have hr19 := Kd.R_take (m := ((ji11) : Int).toNat) HO_3.out (by omega)
                have hy19 : y120.length = ((ji11) : Int).toNat := (by rw [Ny120.out, List.length_take]; omega)
                rw [← Ny120.out] at hr19
                rw [← hy19] at hr19 hcut19
                clear hy19 hi019 hsz19 HO_3
                have HO122 := Aside0.mk hr19
                clear hr19
                replace q19 := eq_true q19
                go_wp2
                go_roundg k2
                case measure => have := HK1.out; have := HK2.out; omega
                case rel => exact ⟨(y120), (by first | exact H' | (simp only [hji11]; exact H')), ⟨by have := HK1.out; have := HK2.out; omega⟩, ⟨by (with_reducible repeat (first | apply Kd.R_alloc | apply Kd.R_drewN | apply Kd.R_drew)); exact HO122.out⟩, ⟨by (with_reducible repeat (first | refine blk_drewN ?_ _ | refine blk_drew ?_ | refine blk_alloc ?_ _)); exact BK117.out⟩, ⟨by repeat (first | (with_reducible first | exact HB.out | apply below_alloc | apply pw_below_drewN | apply below_drew1 | refine below_set ?_ GE117.out) | exact HB.out)⟩⟩
               ·rw [if_neg c17] at H
                exact absurd H (by simp)
              ·rw [if_neg c16] at H
               have c16b0 : (((rd_T48 l0 (rd x3_2 (ji11))).f4) == x11_1) = false := beq_eq_false_iff_ne.mpr c16
               have c16b1 : (((rd_T48 l0 (rd x3_2 (ji11))).f4) != x11_1) = true := bne_iff_ne.mpr c16
               have H' := Aside0.mk H
               clear H
               obtain ⟨Ao20, co20, eo20⟩ := Kd.R_slice HO_3.out
               subst eo20
               have p118 : 0 ≤ ((ji11) : Int) := of_decide_eq_true (by first | (with_reducible assumption) | assumption)
               have q118 : (ji11) < (x3_2.length : Int) := of_decide_eq_true (by first | (with_reducible assumption) | assumption)
               obtain ⟨ad118, e118, hx118_0⟩ := Kd.at_int (Kd.R_reads' HO_3.out).2.2 (ji11) p118 q118
               cases e118
               replace p118 := eq_true p118
               replace q118 := eq_true q118
               have p119 : 0 ≤ ((rd x3_2 (ji11)) : Int) := of_decide_eq_true (by first | (with_reducible assumption) | assumption)
               have q119 : (rd x3_2 (ji11)) < (l0.length : Int) := of_decide_eq_true (by first | (with_reducible assumption) | assumption)
               obtain ⟨ad119, e119, hx119_0, hx119_1, hx119_2, hx119_3, hx119_4⟩ := at_T48 HR0.out (rd x3_2 (ji11)) p119 q119
               obtain rfl : ad116 = ad119 := (by injection e119)
               replace hx119_0 := (HB.out.cell (World.block_lt_of_cell? w _ hx119_0)).trans hx119_0
               replace hx119_1 := (HB.out.cell (World.block_lt_of_cell? w _ hx119_1)).trans hx119_1
               replace hx119_2 := (HB.out.cell (World.block_lt_of_cell? w _ hx119_2)).trans hx119_2
               replace hx119_3 := (HB.out.cell (World.block_lt_of_cell? w _ hx119_3)).trans hx119_3
               replace hx119_4 := (HB.out.cell (World.block_lt_of_cell? w _ hx119_4)).trans hx119_4
               replace p119 := eq_true p119
               replace q119 := eq_true q119
               go_wp2
               go_meet
               case rel => exact ⟨_, (x3_2), (by first | exact H' | (simp only [hji11]; exact H')), ⟨by have := HK1.out; have := HK2.out; first | omega | exact Nat.le_refl _⟩, ⟨by (with_reducible repeat (first | apply Kd.R_alloc | apply Kd.R_drewN | apply Kd.R_drew)); exact HO_3.out⟩, ⟨by (with_reducible repeat (first | refine blk_drewN ?_ _ | refine blk_drew ?_ | refine blk_alloc ?_ _)); exact BK117.out⟩, ⟨by repeat (first | (with_reducible first | exact HB.out | apply below_alloc | apply pw_below_drewN | apply below_drew1 | refine below_set ?_ GE117.out) | exact HB.out)⟩⟩
             ·rw [if_neg c15] at H
              exact absurd H (by simp)
            ·rw [if_neg c14] at H
             exact absurd H (by simp)
           ·rw [if_neg c13] at H
            exact absurd H (by simp)
          ·rw [if_neg c12] at H
           exact absurd H (by simp)
         ·rw [if_neg c10] at H
          have c10b0 : decide (0 < (x3_2.length : Int)) = false := decide_eq_false c10
          have c10b1 : decide (0 < x3_2.length) = false := decide_eq_false (by omega)
          clear c10
          (first | rw [c10b0] | rw [c10b1] | (simp only [i64_w, i32_w]; rw [c10b0]) | skip)
          have H' := Aside0.mk H
          clear H
          obtain ⟨Ao21, co21, eo21⟩ := Kd.R_slice HO_3.out
          subst eo21
          go_wp2
          go_meet
          case rel => exact ⟨_, (x3_2), (by first | exact H' | (simp only [hji11]; exact H')), ⟨by have := HK1.out; have := HK2.out; first | omega | exact Nat.le_refl _⟩, ⟨by (with_reducible repeat (first | apply Kd.R_alloc | apply Kd.R_drewN | apply Kd.R_drew)); exact HO_3.out⟩, ⟨by (with_reducible repeat (first | refine blk_drewN ?_ _ | refine blk_drew ?_ | refine blk_alloc ?_ _)); exact BK117.out⟩, ⟨by repeat (first | (with_reducible first | exact HB.out | apply below_alloc | apply pw_below_drewN | apply below_drew1 | refine below_set ?_ GE117.out) | exact HB.out)⟩⟩
      case rest =>
       clear HC7
       try clear c1
       try clear p1
       try clear q1
       try clear hx1
       try clear p2
       try clear c4
       try clear c4b0
       try clear c5
       try clear c5b0
       try clear c6
       try clear c6b0
       try clear p6
       try clear c10
       try clear c10b0
       try clear c10b1
       try clear p11
       try clear q11
       try clear hx11
       try clear c12
       try clear c12b0
       try clear c13
       try clear c13b0
       try clear c14
       try clear c14b0
       try clear c15
       try clear c15b0
       try clear c16
       try clear c16b0
       try clear c16b1
       try clear c17
       try clear c17b0
       try clear c17b1
       try clear q19
       try clear hcz9_0
       try clear hcz9_1
       try clear hcz9_2
       try clear hcz9_3
       try clear hcz9_4
       try clear hfz9_0
       try clear hfz9_1
       try clear hfz9_2
       try clear hfz9_3
       try clear hfz9_4
       try clear hx116_0
       try clear hx116_1
       try clear hx116_2
       try clear hx116_3
       try clear hx116_4
       try clear hx118_0
       try clear hx119_0
       try clear hx119_1
       try clear hx119_2
       try clear hx119_3
       try clear hx119_4
       try clear p1
       try clear p116
       try clear p118
       try clear p119
       try clear p2
       try clear q1
       try clear q116
       try clear q118
       try clear q119
       try clear q19
       obtain ⟨kq, x3_6, HA, HJ6, HO_3, BK117, HB⟩ := hcut
       cases kq with
       | zero => exact absurd HA.out (by simp [json_laid.j2])
       | succ kj6 =>
        have H := HA.out
        clear HA
        simp only [json_laid.j2] at H
        have HC22 := Aside0.mk H
        clear H
        obtain ⟨Ao23, co23, eo23⟩ := Kd.R_slice HO_3.out
        subst eo23
        go_upto_if 40 with (fail)
        go_cut [6] (fun v6 wc => ∃ (kq : Nat) (x6_21 : Int), v6 = .int .i64 x6_21 ∧ Aside0 (json_laid.j3 kq l0 x3_6 x11_1 x6_21 l0 (l0.length : Int) x11_1 ((rd_T48 l0 x11_1).f0) ((rd_T48 l0 x11_1).f1) ((rd_T48 l0 x11_1).f2) ((rd_T48 l0 x11_1).f3) ((rd_T48 l0 x11_1).f4) = some r) ∧ Aside0 (kq ≤ kj6) ∧ Aside0 (Kd.R (Kd.int .i64) 3 wc w.heap.size (fun _ => True) (.slice Ao23 x3_6.length co23) x3_6) ∧ Aside0 (wc.heap[gb117]? = some (.cells #[.int .i64 ((rd_T48 l0 x11_1).f0), .string ((rd_T48 l0 x11_1).f1), .string ((rd_T48 l0 x11_1).f2), .int .i64 ((rd_T48 l0 x11_1).f3), .int .i64 ((rd_T48 l0 x11_1).f4)] 48 (0, 0))) ∧ Aside0 (Below w.heap.size w wc))
        case first =>
         have H := HC22.out
         clear HC22
         by_cases c24 : (x3_6.length : Int) > 0
         ·rw [if_pos c24] at H
          have c24b0 : decide (0 < (x3_6.length : Int)) = true := decide_eq_true c24
          have c24b1 : decide (0 < x3_6.length) = true := decide_eq_true (by omega)
          clear c24
          (first | rw [c24b0] | rw [c24b1] | (simp only [i64_w, i32_w]; rw [c24b0]) | skip)
          obtain ⟨ji25, hji25⟩ : ∃ j_ : Int, (wrap64 ((x3_6.length : Int) - 1)) = j_ := ⟨_, rfl⟩
          replace H : (if 0 ≤ (ji25) then (if (ji25) < (x3_6.length : Int) then (json_laid.j3 kj6 l0 x3_6 x11_1 (rd x3_6 (ji25)) l0 (l0.length : Int) x11_1 ((rd_T48 l0 x11_1).f0) ((rd_T48 l0 x11_1).f1) ((rd_T48 l0 x11_1).f2) ((rd_T48 l0 x11_1).f3) ((rd_T48 l0 x11_1).f4)) else (none)) else (none)) = some r := by first | (rw [hji25] at H; exact H) | (simp only [hji25] at H ⊢; exact H)
          have hji25w : (IntKind.i64.wrap ((x3_6.length : Int) - 1)) = ji25 := (i64_w _).trans hji25
          by_cases c26 : 0 ≤ (ji25)
          ·rw [if_pos c26] at H
           have c26b0 : decide (0 ≤ (ji25)) = true := decide_eq_true c26
           clear c26
           by_cases c27 : (ji25) < (x3_6.length : Int)
           ·rw [if_pos c27] at H
            have c27b0 : decide ((ji25) < (x3_6.length : Int)) = true := decide_eq_true c27
            clear c27
            have H' := Aside0.mk H
            clear H
            have p123 : 0 ≤ ((ji25) : Int) := of_decide_eq_true (by first | (with_reducible assumption) | assumption)
            have q123 : (ji25) < (x3_6.length : Int) := of_decide_eq_true (by first | (with_reducible assumption) | assumption)
            obtain ⟨ad123, e123, hx123_0⟩ := Kd.at_int (Kd.R_reads' HO_3.out).2.2 (ji25) p123 q123
            cases e123
            replace p123 := eq_true p123
            replace q123 := eq_true q123
            go_wp2
            go_meet
            case rel => exact ⟨_, (rd x3_6 (ji25)), (by first | rfl | (simp; done) | (simp; exact isEmpty_ne _) | (simp only [← hji25] <;> (first | rfl | simp)) | (simp [*]; done)), (by first | exact H' | (simp only [hji25]; exact H')), ⟨by have := HK1.out; have := HJ6.out; first | omega | exact Nat.le_refl _⟩, ⟨by (with_reducible repeat (first | apply Kd.R_alloc | apply Kd.R_drewN | apply Kd.R_drew)); exact HO_3.out⟩, ⟨by (with_reducible repeat (first | refine blk_drewN ?_ _ | refine blk_drew ?_ | refine blk_alloc ?_ _)); exact BK117.out⟩, ⟨by repeat (first | (with_reducible first | exact HB.out | apply below_alloc | apply pw_below_drewN | apply below_drew1 | refine below_set ?_ GE117.out) | exact HB.out)⟩⟩
           ·rw [if_neg c27] at H
            exact absurd H (by simp)
          ·rw [if_neg c26] at H
           exact absurd H (by simp)
         ·rw [if_neg c24] at H
          have c24b0 : decide (0 < (x3_6.length : Int)) = false := decide_eq_false c24
          have c24b1 : decide (0 < x3_6.length) = false := decide_eq_false (by omega)
          clear c24
          (first | rw [c24b0] | rw [c24b1] | (simp only [i64_w, i32_w]; rw [c24b0]) | skip)
          have H' := Aside0.mk H
          clear H
          go_wp2
          go_meet
          case rel => exact ⟨_, ((-1)), (by first | rfl | (simp; done) | (simp; exact isEmpty_ne _) | (simp [*]; done)), (by first | exact H' | (simp only [hji25]; exact H')), ⟨by have := HK1.out; have := HJ6.out; first | omega | exact Nat.le_refl _⟩, ⟨by (with_reducible repeat (first | apply Kd.R_alloc | apply Kd.R_drewN | apply Kd.R_drew)); exact HO_3.out⟩, ⟨by (with_reducible repeat (first | refine blk_drewN ?_ _ | refine blk_drew ?_ | refine blk_alloc ?_ _)); exact BK117.out⟩, ⟨by repeat (first | (with_reducible first | exact HB.out | apply below_alloc | apply pw_below_drewN | apply below_drew1 | refine below_set ?_ GE117.out) | exact HB.out)⟩⟩
        case rest =>
         clear HC22
         try clear c1
         try clear p1
         try clear q1
         try clear hx1
         try clear c2
         try clear p2
         try clear c4
         try clear c4b0
         try clear c5
         try clear c5b0
         try clear c6
         try clear c6b0
         try clear p6
         try clear c10
         try clear c10b0
         try clear c10b1
         try clear p11
         try clear q11
         try clear hx11
         try clear c12
         try clear c12b0
         try clear p12
         try clear q12
         try clear hx12
         try clear c13
         try clear c13b0
         try clear c14
         try clear c14b0
         try clear c15
         try clear c15b0
         try clear c16
         try clear c16b0
         try clear c16b1
         try clear c17
         try clear c17b0
         try clear c17b1
         try clear q19
         try clear c24
         try clear c24b0
         try clear c24b1
         try clear c26
         try clear c26b0
         try clear c27
         try clear c27b0
         try clear hcz9_0
         try clear hcz9_1
         try clear hcz9_2
         try clear hcz9_3
         try clear hcz9_4
         try clear hfz9_0
         try clear hfz9_1
         try clear hfz9_2
         try clear hfz9_3
         try clear hfz9_4
         try clear hx116_0
         try clear hx116_1
         try clear hx116_2
         try clear hx116_3
         try clear hx116_4
         try clear hx118_0
         try clear hx119_0
         try clear hx119_1
         try clear hx119_2
         try clear hx119_3
         try clear hx119_4
         try clear hx123_0
         try clear p1
         try clear p11
         try clear p116
         try clear p118
         try clear p119
         try clear p123
         try clear p2
         try clear p6
         try clear q1
         try clear q11
         try clear q116
         try clear q118
         try clear q119
         try clear q123
         try clear q19
         obtain ⟨kq, x6_21, rfl, HA, HJ21, HO_3, BK117, HB⟩ := hcut
         cases kq with
         | zero => exact absurd HA.out (by simp [json_laid.j3])
         | succ kj21 =>
          have H := HA.out
          clear HA
          simp only [json_laid.j3] at H
          have HC28 := Aside0.mk H
          clear H
          go_upto_if 50 with (fail)
          go_cut [7] (fun v7 wc => ∃ (kq : Nat) (x7_27 : Int), v7 = .int .i64 x7_27 ∧ Aside0 (json_laid.j4 kq l0 x3_6 x11_1 x6_21 x7_27 l0 (l0.length : Int) x11_1 ((rd_T48 l0 x11_1).f0) ((rd_T48 l0 x11_1).f1) ((rd_T48 l0 x11_1).f2) ((rd_T48 l0 x11_1).f3) ((rd_T48 l0 x11_1).f4) = some r) ∧ Aside0 (kq ≤ kj21) ∧ Aside0 (Kd.R (Kd.int .i64) 3 wc w.heap.size (fun _ => True) (.slice Ao23 x3_6.length co23) x3_6) ∧ Aside0 (wc.heap[gb117]? = some (.cells #[.int .i64 ((rd_T48 l0 x11_1).f0), .string ((rd_T48 l0 x11_1).f1), .string ((rd_T48 l0 x11_1).f2), .int .i64 ((rd_T48 l0 x11_1).f3), .int .i64 ((rd_T48 l0 x11_1).f4)] 48 (0, 0))) ∧ Aside0 (Below w.heap.size w wc))
          case first =>
           have H := HC28.out
           clear HC28
           by_cases c29 : x6_21 ≥ 0
           ·rw [if_pos c29] at H
            have c29b0 : decide (0 ≤ x6_21) = true := decide_eq_true c29
            clear c29
            (first | rw [c29b0] | (simp only [i64_w, i32_w]; rw [c29b0]) | skip)
            by_cases c30 : 0 ≤ x6_21
            ·rw [if_pos c30] at H
             have c30b0 : decide (0 ≤ x6_21) = true := decide_eq_true c30
             clear c30
             by_cases c31 : x6_21 < (l0.length : Int)
             ·rw [if_pos c31] at H
              have c31b0 : decide (x6_21 < (l0.length : Int)) = true := decide_eq_true c31
              clear c31
              have H' := Aside0.mk H
              clear H
              have p124 : 0 ≤ (x6_21 : Int) := of_decide_eq_true (by first | (with_reducible assumption) | assumption)
              have q124 : x6_21 < (l0.length : Int) := of_decide_eq_true (by first | (with_reducible assumption) | assumption)
              obtain ⟨ad124, e124, hx124_0, hx124_1, hx124_2, hx124_3, hx124_4⟩ := at_T48 HR0.out x6_21 p124 q124
              obtain rfl : ad116 = ad124 := (by injection e124)
              replace hx124_0 := (HB.out.cell (World.block_lt_of_cell? w _ hx124_0)).trans hx124_0
              replace hx124_1 := (HB.out.cell (World.block_lt_of_cell? w _ hx124_1)).trans hx124_1
              replace hx124_2 := (HB.out.cell (World.block_lt_of_cell? w _ hx124_2)).trans hx124_2
              replace hx124_3 := (HB.out.cell (World.block_lt_of_cell? w _ hx124_3)).trans hx124_3
              replace hx124_4 := (HB.out.cell (World.block_lt_of_cell? w _ hx124_4)).trans hx124_4
              replace p124 := eq_true p124
              replace q124 := eq_true q124
              go_wp2
              go_meet
              case rel => exact ⟨_, ((rd_T48 l0 x6_21).f4), (by first | rfl | (simp; done) | (simp; exact isEmpty_ne _) | (simp [*]; done)), (by first | exact H' | (simp only [hji25]; exact H')), ⟨by have := HK1.out; have := HJ6.out; have := HJ21.out; first | omega | exact Nat.le_refl _⟩, ⟨by (with_reducible repeat (first | apply Kd.R_alloc | apply Kd.R_drewN | apply Kd.R_drew)); exact HO_3.out⟩, ⟨by (with_reducible repeat (first | refine blk_drewN ?_ _ | refine blk_drew ?_ | refine blk_alloc ?_ _)); exact BK117.out⟩, ⟨by repeat (first | (with_reducible first | exact HB.out | apply below_alloc | apply pw_below_drewN | apply below_drew1 | refine below_set ?_ GE117.out) | exact HB.out)⟩⟩
             ·rw [if_neg c31] at H
              exact absurd H (by simp)
            ·rw [if_neg c30] at H
             exact absurd H (by simp)
           ·rw [if_neg c29] at H
            have c29b0 : decide (0 ≤ x6_21) = false := decide_eq_false c29
            clear c29
            (first | rw [c29b0] | (simp only [i64_w, i32_w]; rw [c29b0]) | skip)
            have H' := Aside0.mk H
            clear H
            go_wp2
            go_meet
            case rel => exact ⟨_, ((l0.length : Int)), (by first | rfl | (simp; done) | (simp; exact isEmpty_ne _) | (simp [*]; done)), (by first | exact H' | (simp only [hji25]; exact H')), ⟨by have := HK1.out; have := HJ6.out; have := HJ21.out; first | omega | exact Nat.le_refl _⟩, ⟨by (with_reducible repeat (first | apply Kd.R_alloc | apply Kd.R_drewN | apply Kd.R_drew)); exact HO_3.out⟩, ⟨by (with_reducible repeat (first | refine blk_drewN ?_ _ | refine blk_drew ?_ | refine blk_alloc ?_ _)); exact BK117.out⟩, ⟨by repeat (first | (with_reducible first | exact HB.out | apply below_alloc | apply pw_below_drewN | apply below_drew1 | refine below_set ?_ GE117.out) | exact HB.out)⟩⟩
          case rest =>
           clear HC28
           try clear c1
           try clear p1
           try clear q1
           try clear hx1
           try clear c2
           try clear p2
           try clear c3
           try clear c4
           try clear c4b0
           try clear c5
           try clear c5b0
           try clear c6
           try clear c6b0
           try clear p6
           try clear c10
           try clear c10b0
           try clear c10b1
           try clear p11
           try clear q11
           try clear hx11
           try clear c12
           try clear c12b0
           try clear p12
           try clear q12
           try clear hx12
           try clear c13
           try clear c13b0
           try clear c14
           try clear c14b0
           try clear c15
           try clear c15b0
           try clear c16
           try clear c16b0
           try clear c16b1
           try clear c17
           try clear c17b0
           try clear c17b1
           try clear q19
           try clear c24
           try clear c24b0
           try clear c24b1
           try clear c26
           try clear c26b0
           try clear c27
           try clear c27b0
           try clear c29
           try clear c29b0
           try clear c30
           try clear c30b0
           try clear c31
           try clear c31b0
           try clear hcz9_0
           try clear hcz9_1
           try clear hcz9_2
           try clear hcz9_3
           try clear hcz9_4
           try clear hfz9_0
           try clear hfz9_1
           try clear hfz9_2
           try clear hfz9_3
           try clear hfz9_4
           try clear hx116_0
           try clear hx116_1
           try clear hx116_2
           try clear hx116_3
           try clear hx116_4
           try clear hx118_0
           try clear hx119_0
           try clear hx119_1
           try clear hx119_2
           try clear hx119_3
           try clear hx119_4
           try clear hx123_0
           try clear hx124_0
           try clear hx124_1
           try clear hx124_2
           try clear hx124_3
           try clear hx124_4
           try clear p1
           try clear p11
           try clear p116
           try clear p118
           try clear p119
           try clear p12
           try clear p123
           try clear p124
           try clear p2
           try clear p6
           try clear q1
           try clear q11
           try clear q116
           try clear q118
           try clear q119
           try clear q12
           try clear q123
           try clear q124
           try clear q19
           obtain ⟨kq, x7_27, rfl, HA, HJ27, HO_3, BK117, HB⟩ := hcut
           cases kq with
           | zero => exact absurd HA.out (by simp [json_laid.j4])
           | succ kj27 =>
            have H := HA.out
            clear HA
            simp only [json_laid.j4] at H
            have HC32 := Aside0.mk H
            clear H
            go_upto_region 13 with (fail)
            go_cut [97] (fun v97 wc => ∃ (kq : Nat) (x97_31 : Bool), v97 = .bool x97_31 ∧ Aside0 (json_laid.j5 kq l0 x3_6 x11_1 l0 (l0.length : Int) x11_1 x97_31 ((rd_T48 l0 x11_1).f0) ((rd_T48 l0 x11_1).f1) ((rd_T48 l0 x11_1).f2) ((rd_T48 l0 x11_1).f3) ((rd_T48 l0 x11_1).f4) = some r) ∧ Aside0 (kq ≤ kj27) ∧ Aside0 (Kd.R (Kd.int .i64) 3 wc w.heap.size (fun _ => True) (.slice Ao23 x3_6.length co23) x3_6) ∧ Aside0 (wc.heap[gb117]? = some (.cells #[.int .i64 ((rd_T48 l0 x11_1).f0), .string ((rd_T48 l0 x11_1).f1), .string ((rd_T48 l0 x11_1).f2), .int .i64 ((rd_T48 l0 x11_1).f3), .int .i64 ((rd_T48 l0 x11_1).f4)] 48 (0, 0))) ∧ Aside0 (Below w.heap.size w wc))
            case first =>
             have H := HC32.out
             clear HC32
             by_cases c33 : ((rd_T48 l0 x11_1).f3) = x6_21
             ·rw [if_pos c33] at H
              have c33b0 : (((rd_T48 l0 x11_1).f3) == x6_21) = true := beq_iff_eq.mpr c33
              have c33b1 : (((rd_T48 l0 x11_1).f3) != x6_21) = false := bne_eq_false_iff_eq.mpr c33
              clear c33
              (first | rw [c33b0] | (simp only [i64_w, i32_w]; rw [c33b0]) | skip)
              by_cases c34 : ((rd_T48 l0 x11_1).f4) ≤ x11_1
              ·rw [if_pos c34] at H
               have c34b0 : decide (((rd_T48 l0 x11_1).f4) ≤ x11_1) = true := decide_eq_true c34
               clear c34
               have H' := Aside0.mk H
               clear H
               have hcz35_0 : wc.cell? ⟨gb117, 0, none⟩ = some (.int .i64 ((rd_T48 l0 x11_1).f0)) := (blk_cell BK117.out 0).trans rfl
               have hcz35_1 : wc.cell? ⟨gb117, 1, none⟩ = some (.string ((rd_T48 l0 x11_1).f1)) := (blk_cell BK117.out 1).trans rfl
               have hcz35_2 : wc.cell? ⟨gb117, 2, none⟩ = some (.string ((rd_T48 l0 x11_1).f2)) := (blk_cell BK117.out 2).trans rfl
               have hcz35_3 : wc.cell? ⟨gb117, 3, none⟩ = some (.int .i64 ((rd_T48 l0 x11_1).f3)) := (blk_cell BK117.out 3).trans rfl
               have hcz35_4 : wc.cell? ⟨gb117, 4, none⟩ = some (.int .i64 ((rd_T48 l0 x11_1).f4)) := (blk_cell BK117.out 4).trans rfl
               have hfz35_0 := blk_frozen BK117.out 0
               have hfz35_1 := blk_frozen BK117.out 1
               have hfz35_2 := blk_frozen BK117.out 2
               have hfz35_3 := blk_frozen BK117.out 3
               have hfz35_4 := blk_frozen BK117.out 4
               go_wp2
               go_meet
               case rel => exact ⟨_, (true), (by first | rfl | (simp; done) | (simp; exact isEmpty_ne _) | (simp [*]; done)), (by first | exact H' | (simp only [hji25]; exact H')), ⟨by have := HK1.out; have := HJ6.out; have := HJ21.out; have := HJ27.out; first | omega | exact Nat.le_refl _⟩, ⟨by (with_reducible repeat (first | apply Kd.R_alloc | apply Kd.R_drewN | apply Kd.R_drew)); exact HO_3.out⟩, ⟨by (with_reducible repeat (first | refine blk_drewN ?_ _ | refine blk_drew ?_ | refine blk_alloc ?_ _)); exact BK117.out⟩, ⟨by repeat (first | (with_reducible first | exact HB.out | apply below_alloc | apply pw_below_drewN | apply below_drew1 | refine below_set ?_ GE117.out) | exact HB.out)⟩⟩
              ·rw [if_neg c34] at H
               have c34b0 : decide (((rd_T48 l0 x11_1).f4) ≤ x11_1) = false := decide_eq_false c34
               clear c34
               by_cases c36 : ((rd_T48 l0 x11_1).f4) > x7_27
               ·rw [if_pos c36] at H
                have c36b0 : decide (x7_27 < ((rd_T48 l0 x11_1).f4)) = true := decide_eq_true c36
                clear c36
                have H' := Aside0.mk H
                clear H
                have hcz37_0 : wc.cell? ⟨gb117, 0, none⟩ = some (.int .i64 ((rd_T48 l0 x11_1).f0)) := (blk_cell BK117.out 0).trans rfl
                have hcz37_1 : wc.cell? ⟨gb117, 1, none⟩ = some (.string ((rd_T48 l0 x11_1).f1)) := (blk_cell BK117.out 1).trans rfl
                have hcz37_2 : wc.cell? ⟨gb117, 2, none⟩ = some (.string ((rd_T48 l0 x11_1).f2)) := (blk_cell BK117.out 2).trans rfl
                have hcz37_3 : wc.cell? ⟨gb117, 3, none⟩ = some (.int .i64 ((rd_T48 l0 x11_1).f3)) := (blk_cell BK117.out 3).trans rfl
                have hcz37_4 : wc.cell? ⟨gb117, 4, none⟩ = some (.int .i64 ((rd_T48 l0 x11_1).f4)) := (blk_cell BK117.out 4).trans rfl
                have hfz37_0 := blk_frozen BK117.out 0
                have hfz37_1 := blk_frozen BK117.out 1
                have hfz37_2 := blk_frozen BK117.out 2
                have hfz37_3 := blk_frozen BK117.out 3
                have hfz37_4 := blk_frozen BK117.out 4
                go_wp2
                go_meet
                case rel => exact ⟨_, (true), (by first | rfl | (simp; done) | (simp; exact isEmpty_ne _) | (simp [*]; done)), (by first | exact H' | (simp only [hji25]; exact H')), ⟨by have := HK1.out; have := HJ6.out; have := HJ21.out; have := HJ27.out; first | omega | exact Nat.le_refl _⟩, ⟨by (with_reducible repeat (first | apply Kd.R_alloc | apply Kd.R_drewN | apply Kd.R_drew)); exact HO_3.out⟩, ⟨by (with_reducible repeat (first | refine blk_drewN ?_ _ | refine blk_drew ?_ | refine blk_alloc ?_ _)); exact BK117.out⟩, ⟨by repeat (first | (with_reducible first | exact HB.out | apply below_alloc | apply pw_below_drewN | apply below_drew1 | refine below_set ?_ GE117.out) | exact HB.out)⟩⟩
               ·rw [if_neg c36] at H
                have c36b0 : decide (x7_27 < ((rd_T48 l0 x11_1).f4)) = false := decide_eq_false c36
                clear c36
                by_cases c38 : ((rd_T48 l0 x11_1).f0) < 6
                ·rw [if_pos c38] at H
                 have c38b0 : decide (((rd_T48 l0 x11_1).f0) < 6) = true := decide_eq_true c38
                 clear c38
                 by_cases c39 : ((rd_T48 l0 x11_1).f4) = (wrap64 (x11_1 + 1))
                 ·rw [if_pos c39] at H
                  have c39b0 : (((rd_T48 l0 x11_1).f4) == (wrap64 (x11_1 + 1))) = true := beq_iff_eq.mpr c39
                  have c39b1 : (((rd_T48 l0 x11_1).f4) != (wrap64 (x11_1 + 1))) = false := bne_eq_false_iff_eq.mpr c39
                  clear c39
                  replace H := Option.bind_eq_some_iff.mp H
                  obtain ⟨t125, A400, H⟩ := H
                  replace H : (if t125 = true then (if x6_21 < 0 then (json_laid.j5 kj27 l0 x3_6 x11_1 l0 (l0.length : Int) x11_1 (decide (x11_1 > 0)) ((rd_T48 l0 x11_1).f0) ((rd_T48 l0 x11_1).f1) ((rd_T48 l0 x11_1).f2) ((rd_T48 l0 x11_1).f3) ((rd_T48 l0 x11_1).f4)) else (json_laid.j5 kj27 l0 x3_6 x11_1 l0 (l0.length : Int) x11_1 false ((rd_T48 l0 x11_1).f0) ((rd_T48 l0 x11_1).f1) ((rd_T48 l0 x11_1).f2) ((rd_T48 l0 x11_1).f3) ((rd_T48 l0 x11_1).f4))) else (json_laid.j5 kj27 l0 x3_6 x11_1 l0 (l0.length : Int) x11_1 true ((rd_T48 l0 x11_1).f0) ((rd_T48 l0 x11_1).f1) ((rd_T48 l0 x11_1).f2) ((rd_T48 l0 x11_1).f3) ((rd_T48 l0 x11_1).f4))) = some r := H
                  have A40 := Aside0.mk A400
                  clear A400
                  by_cases c41 : t125 = true
                  ·subst c41
                   have H1 : (if x6_21 < 0 then (json_laid.j5 kj27 l0 x3_6 x11_1 l0 (l0.length : Int) x11_1 (decide (x11_1 > 0)) ((rd_T48 l0 x11_1).f0) ((rd_T48 l0 x11_1).f1) ((rd_T48 l0 x11_1).f2) ((rd_T48 l0 x11_1).f3) ((rd_T48 l0 x11_1).f4)) else (json_laid.j5 kj27 l0 x3_6 x11_1 l0 (l0.length : Int) x11_1 false ((rd_T48 l0 x11_1).f0) ((rd_T48 l0 x11_1).f1) ((rd_T48 l0 x11_1).f2) ((rd_T48 l0 x11_1).f3) ((rd_T48 l0 x11_1).f4))) = some r := by rw [if_pos rfl] at H; exact H
                   clear H
                   have H := H1
                   clear H1
                   by_cases c42 : x6_21 < 0
                   ·rw [if_pos c42] at H
                    have c42b0 : decide (x6_21 < 0) = true := decide_eq_true c42
                    clear c42
                    have H' := Aside0.mk H
                    clear H
                    have hcz43_0 : wc.cell? ⟨gb117, 0, none⟩ = some (.int .i64 ((rd_T48 l0 x11_1).f0)) := (blk_cell BK117.out 0).trans rfl
                    have hcz43_1 : wc.cell? ⟨gb117, 1, none⟩ = some (.string ((rd_T48 l0 x11_1).f1)) := (blk_cell BK117.out 1).trans rfl
                    have hcz43_2 : wc.cell? ⟨gb117, 2, none⟩ = some (.string ((rd_T48 l0 x11_1).f2)) := (blk_cell BK117.out 2).trans rfl
                    have hcz43_3 : wc.cell? ⟨gb117, 3, none⟩ = some (.int .i64 ((rd_T48 l0 x11_1).f3)) := (blk_cell BK117.out 3).trans rfl
                    have hcz43_4 : wc.cell? ⟨gb117, 4, none⟩ = some (.int .i64 ((rd_T48 l0 x11_1).f4)) := (blk_cell BK117.out 4).trans rfl
                    have hfz43_0 := blk_frozen BK117.out 0
                    have hfz43_1 := blk_frozen BK117.out 1
                    have hfz43_2 := blk_frozen BK117.out 2
                    have hfz43_3 := blk_frozen BK117.out 3
                    have hfz43_4 := blk_frozen BK117.out 4
                    go_wp2_with (first | (go_at_call 83; (with_reducible refine (json_shaped.calls kj27 _ _ l0 x11_1 true _ ?side1 ?side2 A40.out).mono ?_); (case side1 => repeat (first | exact (Kd.C_below HR0.out HB.out) | (with_reducible refine Kd.C_alloc ?_ _) | (with_reducible refine Kd.C_drewN ?_ _) | (with_reducible refine Kd.C_drew ?_))); (case side2 => exact HC0.out); rintro e w44 ⟨rfl, hb⟩; have n0_ := Aside0.mk (Kd.R_below (by (with_reducible repeat (first | apply Kd.R_alloc | apply Kd.R_drewN | apply Kd.R_drew)); exact HO_3.out) hb); have n1_ := Aside0.mk (blk_below (g := gb117) (o := .cells #[.int .i64 ((rd_T48 l0 x11_1).f0), .string ((rd_T48 l0 x11_1).f1), .string ((rd_T48 l0 x11_1).f2), .int .i64 ((rd_T48 l0 x11_1).f3), .int .i64 ((rd_T48 l0 x11_1).f4)] 48 (0, 0)) (by (with_reducible repeat (first | refine blk_drewN ?_ _ | refine blk_drew ?_ | refine blk_alloc ?_ _)); exact BK117.out) hb); have n2_ := Aside0.mk (below_step (by repeat (first | (with_reducible first | exact HB.out | apply below_alloc | apply pw_below_drewN | apply below_drew1 | refine below_set ?_ GE117.out) | exact HB.out)) hb); clear HO_3; clear BK117; clear HB; have HO_3 := n0_; have BK117 := n1_; have HB := n2_; clear n0_ n1_ n2_; (try clear hb); (try clear hb2); (try clear hk); (try clear hi)))
                    go_meet
                    case rel => exact ⟨_, (decide (x11_1 > 0)), (by first | rfl | (simp; done) | (simp; exact isEmpty_ne _) | (simp [*]; done)), (by first | exact H' | (simp only [hji25]; exact H')), ⟨by have := HK1.out; have := HJ6.out; have := HJ21.out; have := HJ27.out; first | omega | exact Nat.le_refl _⟩, ⟨by (with_reducible repeat (first | apply Kd.R_alloc | apply Kd.R_drewN | apply Kd.R_drew)); exact HO_3.out⟩, ⟨by (with_reducible repeat (first | refine blk_drewN ?_ _ | refine blk_drew ?_ | refine blk_alloc ?_ _)); exact BK117.out⟩, ⟨by repeat (first | (with_reducible first | exact HB.out | apply below_alloc | apply pw_below_drewN | apply below_drew1 | refine below_set ?_ GE117.out) | exact HB.out)⟩⟩
                   ·rw [if_neg c42] at H
                    have c42b0 : decide (x6_21 < 0) = false := decide_eq_false c42
                    clear c42
                    have H' := Aside0.mk H
                    clear H
                    have hcz45_0 : wc.cell? ⟨gb117, 0, none⟩ = some (.int .i64 ((rd_T48 l0 x11_1).f0)) := (blk_cell BK117.out 0).trans rfl
                    have hcz45_1 : wc.cell? ⟨gb117, 1, none⟩ = some (.string ((rd_T48 l0 x11_1).f1)) := (blk_cell BK117.out 1).trans rfl
                    have hcz45_2 : wc.cell? ⟨gb117, 2, none⟩ = some (.string ((rd_T48 l0 x11_1).f2)) := (blk_cell BK117.out 2).trans rfl
                    have hcz45_3 : wc.cell? ⟨gb117, 3, none⟩ = some (.int .i64 ((rd_T48 l0 x11_1).f3)) := (blk_cell BK117.out 3).trans rfl
                    have hcz45_4 : wc.cell? ⟨gb117, 4, none⟩ = some (.int .i64 ((rd_T48 l0 x11_1).f4)) := (blk_cell BK117.out 4).trans rfl
                    have hfz45_0 := blk_frozen BK117.out 0
                    have hfz45_1 := blk_frozen BK117.out 1
                    have hfz45_2 := blk_frozen BK117.out 2
                    have hfz45_3 := blk_frozen BK117.out 3
                    have hfz45_4 := blk_frozen BK117.out 4
                    go_wp2_with (first | (go_at_call 83; (with_reducible refine (json_shaped.calls kj27 _ _ l0 x11_1 true _ ?side1 ?side2 A40.out).mono ?_); (case side1 => repeat (first | exact (Kd.C_below HR0.out HB.out) | (with_reducible refine Kd.C_alloc ?_ _) | (with_reducible refine Kd.C_drewN ?_ _) | (with_reducible refine Kd.C_drew ?_))); (case side2 => exact HC0.out); rintro e w46 ⟨rfl, hb⟩; have n0_ := Aside0.mk (Kd.R_below (by (with_reducible repeat (first | apply Kd.R_alloc | apply Kd.R_drewN | apply Kd.R_drew)); exact HO_3.out) hb); have n1_ := Aside0.mk (blk_below (g := gb117) (o := .cells #[.int .i64 ((rd_T48 l0 x11_1).f0), .string ((rd_T48 l0 x11_1).f1), .string ((rd_T48 l0 x11_1).f2), .int .i64 ((rd_T48 l0 x11_1).f3), .int .i64 ((rd_T48 l0 x11_1).f4)] 48 (0, 0)) (by (with_reducible repeat (first | refine blk_drewN ?_ _ | refine blk_drew ?_ | refine blk_alloc ?_ _)); exact BK117.out) hb); have n2_ := Aside0.mk (below_step (by repeat (first | (with_reducible first | exact HB.out | apply below_alloc | apply pw_below_drewN | apply below_drew1 | refine below_set ?_ GE117.out) | exact HB.out)) hb); clear HO_3; clear BK117; clear HB; have HO_3 := n0_; have BK117 := n1_; have HB := n2_; clear n0_ n1_ n2_; (try clear hb); (try clear hb2); (try clear hk); (try clear hi)))
                    go_meet
                    case rel => exact ⟨_, (false), (by first | rfl | (simp; done) | (simp; exact isEmpty_ne _) | (simp [*]; done)), (by first | exact H' | (simp only [hji25]; exact H')), ⟨by have := HK1.out; have := HJ6.out; have := HJ21.out; have := HJ27.out; first | omega | exact Nat.le_refl _⟩, ⟨by (with_reducible repeat (first | apply Kd.R_alloc | apply Kd.R_drewN | apply Kd.R_drew)); exact HO_3.out⟩, ⟨by (with_reducible repeat (first | refine blk_drewN ?_ _ | refine blk_drew ?_ | refine blk_alloc ?_ _)); exact BK117.out⟩, ⟨by repeat (first | (with_reducible first | exact HB.out | apply below_alloc | apply pw_below_drewN | apply below_drew1 | refine below_set ?_ GE117.out) | exact HB.out)⟩⟩
                  ·replace c41 := Bool.eq_false_iff.mpr c41
                   subst c41
                   have H1 : (json_laid.j5 kj27 l0 x3_6 x11_1 l0 (l0.length : Int) x11_1 true ((rd_T48 l0 x11_1).f0) ((rd_T48 l0 x11_1).f1) ((rd_T48 l0 x11_1).f2) ((rd_T48 l0 x11_1).f3) ((rd_T48 l0 x11_1).f4)) = some r := by rw [if_neg (show ¬ (false = true) by decide)] at H; exact H
                   clear H
                   have H := H1
                   clear H1
                   have H' := Aside0.mk H
                   clear H
                   have hcz47_0 : wc.cell? ⟨gb117, 0, none⟩ = some (.int .i64 ((rd_T48 l0 x11_1).f0)) := (blk_cell BK117.out 0).trans rfl
                   have hcz47_1 : wc.cell? ⟨gb117, 1, none⟩ = some (.string ((rd_T48 l0 x11_1).f1)) := (blk_cell BK117.out 1).trans rfl
                   have hcz47_2 : wc.cell? ⟨gb117, 2, none⟩ = some (.string ((rd_T48 l0 x11_1).f2)) := (blk_cell BK117.out 2).trans rfl
                   have hcz47_3 : wc.cell? ⟨gb117, 3, none⟩ = some (.int .i64 ((rd_T48 l0 x11_1).f3)) := (blk_cell BK117.out 3).trans rfl
                   have hcz47_4 : wc.cell? ⟨gb117, 4, none⟩ = some (.int .i64 ((rd_T48 l0 x11_1).f4)) := (blk_cell BK117.out 4).trans rfl
                   have hfz47_0 := blk_frozen BK117.out 0
                   have hfz47_1 := blk_frozen BK117.out 1
                   have hfz47_2 := blk_frozen BK117.out 2
                   have hfz47_3 := blk_frozen BK117.out 3
                   have hfz47_4 := blk_frozen BK117.out 4
                   go_wp2_with (first | (go_at_call 83; (with_reducible refine (json_shaped.calls kj27 _ _ l0 x11_1 false _ ?side1 ?side2 A40.out).mono ?_); (case side1 => repeat (first | exact (Kd.C_below HR0.out HB.out) | (with_reducible refine Kd.C_alloc ?_ _) | (with_reducible refine Kd.C_drewN ?_ _) | (with_reducible refine Kd.C_drew ?_))); (case side2 => exact HC0.out); rintro e w48 ⟨rfl, hb⟩; have n0_ := Aside0.mk (Kd.R_below (by (with_reducible repeat (first | apply Kd.R_alloc | apply Kd.R_drewN | apply Kd.R_drew)); exact HO_3.out) hb); have n1_ := Aside0.mk (blk_below (g := gb117) (o := .cells #[.int .i64 ((rd_T48 l0 x11_1).f0), .string ((rd_T48 l0 x11_1).f1), .string ((rd_T48 l0 x11_1).f2), .int .i64 ((rd_T48 l0 x11_1).f3), .int .i64 ((rd_T48 l0 x11_1).f4)] 48 (0, 0)) (by (with_reducible repeat (first | refine blk_drewN ?_ _ | refine blk_drew ?_ | refine blk_alloc ?_ _)); exact BK117.out) hb); have n2_ := Aside0.mk (below_step (by repeat (first | (with_reducible first | exact HB.out | apply below_alloc | apply pw_below_drewN | apply below_drew1 | refine below_set ?_ GE117.out) | exact HB.out)) hb); clear HO_3; clear BK117; clear HB; have HO_3 := n0_; have BK117 := n1_; have HB := n2_; clear n0_ n1_ n2_; (try clear hb); (try clear hb2); (try clear hk); (try clear hi)))
                   go_meet
                   case rel => exact ⟨_, (true), (by first | rfl | (simp; done) | (simp; exact isEmpty_ne _) | (simp [*]; done)), (by first | exact H' | (simp only [hji25]; exact H')), ⟨by have := HK1.out; have := HJ6.out; have := HJ21.out; have := HJ27.out; first | omega | exact Nat.le_refl _⟩, ⟨by (with_reducible repeat (first | apply Kd.R_alloc | apply Kd.R_drewN | apply Kd.R_drew)); exact HO_3.out⟩, ⟨by (with_reducible repeat (first | refine blk_drewN ?_ _ | refine blk_drew ?_ | refine blk_alloc ?_ _)); exact BK117.out⟩, ⟨by repeat (first | (with_reducible first | exact HB.out | apply below_alloc | apply pw_below_drewN | apply below_drew1 | refine below_set ?_ GE117.out) | exact HB.out)⟩⟩
                 ·rw [if_neg c39] at H
                  have c39b0 : (((rd_T48 l0 x11_1).f4) == (wrap64 (x11_1 + 1))) = false := beq_eq_false_iff_ne.mpr c39
                  have c39b1 : (((rd_T48 l0 x11_1).f4) != (wrap64 (x11_1 + 1))) = true := bne_iff_ne.mpr c39
                  have H' := Aside0.mk H
                  clear H
                  have hcz49_0 : wc.cell? ⟨gb117, 0, none⟩ = some (.int .i64 ((rd_T48 l0 x11_1).f0)) := (blk_cell BK117.out 0).trans rfl
                  have hcz49_1 : wc.cell? ⟨gb117, 1, none⟩ = some (.string ((rd_T48 l0 x11_1).f1)) := (blk_cell BK117.out 1).trans rfl
                  have hcz49_2 : wc.cell? ⟨gb117, 2, none⟩ = some (.string ((rd_T48 l0 x11_1).f2)) := (blk_cell BK117.out 2).trans rfl
                  have hcz49_3 : wc.cell? ⟨gb117, 3, none⟩ = some (.int .i64 ((rd_T48 l0 x11_1).f3)) := (blk_cell BK117.out 3).trans rfl
                  have hcz49_4 : wc.cell? ⟨gb117, 4, none⟩ = some (.int .i64 ((rd_T48 l0 x11_1).f4)) := (blk_cell BK117.out 4).trans rfl
                  have hfz49_0 := blk_frozen BK117.out 0
                  have hfz49_1 := blk_frozen BK117.out 1
                  have hfz49_2 := blk_frozen BK117.out 2
                  have hfz49_3 := blk_frozen BK117.out 3
                  have hfz49_4 := blk_frozen BK117.out 4
                  go_wp2
                  go_meet
                  case rel => exact ⟨_, (true), (by first | rfl | (simp; done) | (simp; exact isEmpty_ne _) | (simp [*]; done)), (by first | exact H' | (simp only [hji25]; exact H')), ⟨by have := HK1.out; have := HJ6.out; have := HJ21.out; have := HJ27.out; first | omega | exact Nat.le_refl _⟩, ⟨by (with_reducible repeat (first | apply Kd.R_alloc | apply Kd.R_drewN | apply Kd.R_drew)); exact HO_3.out⟩, ⟨by (with_reducible repeat (first | refine blk_drewN ?_ _ | refine blk_drew ?_ | refine blk_alloc ?_ _)); exact BK117.out⟩, ⟨by repeat (first | (with_reducible first | exact HB.out | apply below_alloc | apply pw_below_drewN | apply below_drew1 | refine below_set ?_ GE117.out) | exact HB.out)⟩⟩
                ·rw [if_neg c38] at H
                 have c38b0 : decide (((rd_T48 l0 x11_1).f0) < 6) = false := decide_eq_false c38
                 clear c38
                 replace H := Option.bind_eq_some_iff.mp H
                 obtain ⟨t126, A500, H⟩ := H
                 replace H : (if t126 = true then (if x6_21 < 0 then (json_laid.j5 kj27 l0 x3_6 x11_1 l0 (l0.length : Int) x11_1 (decide (x11_1 > 0)) ((rd_T48 l0 x11_1).f0) ((rd_T48 l0 x11_1).f1) ((rd_T48 l0 x11_1).f2) ((rd_T48 l0 x11_1).f3) ((rd_T48 l0 x11_1).f4)) else (json_laid.j5 kj27 l0 x3_6 x11_1 l0 (l0.length : Int) x11_1 false ((rd_T48 l0 x11_1).f0) ((rd_T48 l0 x11_1).f1) ((rd_T48 l0 x11_1).f2) ((rd_T48 l0 x11_1).f3) ((rd_T48 l0 x11_1).f4))) else (json_laid.j5 kj27 l0 x3_6 x11_1 l0 (l0.length : Int) x11_1 true ((rd_T48 l0 x11_1).f0) ((rd_T48 l0 x11_1).f1) ((rd_T48 l0 x11_1).f2) ((rd_T48 l0 x11_1).f3) ((rd_T48 l0 x11_1).f4))) = some r := H
                 have A50 := Aside0.mk A500
                 clear A500
                 by_cases c51 : t126 = true
                 ·subst c51
                  have H1 : (if x6_21 < 0 then (json_laid.j5 kj27 l0 x3_6 x11_1 l0 (l0.length : Int) x11_1 (decide (x11_1 > 0)) ((rd_T48 l0 x11_1).f0) ((rd_T48 l0 x11_1).f1) ((rd_T48 l0 x11_1).f2) ((rd_T48 l0 x11_1).f3) ((rd_T48 l0 x11_1).f4)) else (json_laid.j5 kj27 l0 x3_6 x11_1 l0 (l0.length : Int) x11_1 false ((rd_T48 l0 x11_1).f0) ((rd_T48 l0 x11_1).f1) ((rd_T48 l0 x11_1).f2) ((rd_T48 l0 x11_1).f3) ((rd_T48 l0 x11_1).f4))) = some r := by rw [if_pos rfl] at H; exact H
                  clear H
                  have H := H1
                  clear H1
                  by_cases c52 : x6_21 < 0
                  ·rw [if_pos c52] at H
                   have c52b0 : decide (x6_21 < 0) = true := decide_eq_true c52
                   clear c52
                   have H' := Aside0.mk H
                   clear H
                   have hcz53_0 : wc.cell? ⟨gb117, 0, none⟩ = some (.int .i64 ((rd_T48 l0 x11_1).f0)) := (blk_cell BK117.out 0).trans rfl
                   have hcz53_1 : wc.cell? ⟨gb117, 1, none⟩ = some (.string ((rd_T48 l0 x11_1).f1)) := (blk_cell BK117.out 1).trans rfl
                   have hcz53_2 : wc.cell? ⟨gb117, 2, none⟩ = some (.string ((rd_T48 l0 x11_1).f2)) := (blk_cell BK117.out 2).trans rfl
                   have hcz53_3 : wc.cell? ⟨gb117, 3, none⟩ = some (.int .i64 ((rd_T48 l0 x11_1).f3)) := (blk_cell BK117.out 3).trans rfl
                   have hcz53_4 : wc.cell? ⟨gb117, 4, none⟩ = some (.int .i64 ((rd_T48 l0 x11_1).f4)) := (blk_cell BK117.out 4).trans rfl
                   have hfz53_0 := blk_frozen BK117.out 0
                   have hfz53_1 := blk_frozen BK117.out 1
                   have hfz53_2 := blk_frozen BK117.out 2
                   have hfz53_3 := blk_frozen BK117.out 3
                   have hfz53_4 := blk_frozen BK117.out 4
                   go_wp2_with (first | (go_at_call 83; (with_reducible refine (json_shaped.calls kj27 _ _ l0 x11_1 true _ ?side1 ?side2 A50.out).mono ?_); (case side1 => repeat (first | exact (Kd.C_below HR0.out HB.out) | (with_reducible refine Kd.C_alloc ?_ _) | (with_reducible refine Kd.C_drewN ?_ _) | (with_reducible refine Kd.C_drew ?_))); (case side2 => exact HC0.out); rintro e w54 ⟨rfl, hb⟩; have n0_ := Aside0.mk (Kd.R_below (by (with_reducible repeat (first | apply Kd.R_alloc | apply Kd.R_drewN | apply Kd.R_drew)); exact HO_3.out) hb); have n1_ := Aside0.mk (blk_below (g := gb117) (o := .cells #[.int .i64 ((rd_T48 l0 x11_1).f0), .string ((rd_T48 l0 x11_1).f1), .string ((rd_T48 l0 x11_1).f2), .int .i64 ((rd_T48 l0 x11_1).f3), .int .i64 ((rd_T48 l0 x11_1).f4)] 48 (0, 0)) (by (with_reducible repeat (first | refine blk_drewN ?_ _ | refine blk_drew ?_ | refine blk_alloc ?_ _)); exact BK117.out) hb); have n2_ := Aside0.mk (below_step (by repeat (first | (with_reducible first | exact HB.out | apply below_alloc | apply pw_below_drewN | apply below_drew1 | refine below_set ?_ GE117.out) | exact HB.out)) hb); clear HO_3; clear BK117; clear HB; have HO_3 := n0_; have BK117 := n1_; have HB := n2_; clear n0_ n1_ n2_; (try clear hb); (try clear hb2); (try clear hk); (try clear hi)))
                   go_meet
                   case rel => exact ⟨_, (decide (x11_1 > 0)), (by first | rfl | (simp; done) | (simp; exact isEmpty_ne _) | (simp [*]; done)), (by first | exact H' | (simp only [hji25]; exact H')), ⟨by have := HK1.out; have := HJ6.out; have := HJ21.out; have := HJ27.out; first | omega | exact Nat.le_refl _⟩, ⟨by (with_reducible repeat (first | apply Kd.R_alloc | apply Kd.R_drewN | apply Kd.R_drew)); exact HO_3.out⟩, ⟨by (with_reducible repeat (first | refine blk_drewN ?_ _ | refine blk_drew ?_ | refine blk_alloc ?_ _)); exact BK117.out⟩, ⟨by repeat (first | (with_reducible first | exact HB.out | apply below_alloc | apply pw_below_drewN | apply below_drew1 | refine below_set ?_ GE117.out) | exact HB.out)⟩⟩
                  ·rw [if_neg c52] at H
                   have c52b0 : decide (x6_21 < 0) = false := decide_eq_false c52
                   clear c52
                   have H' := Aside0.mk H
                   clear H
                   have hcz55_0 : wc.cell? ⟨gb117, 0, none⟩ = some (.int .i64 ((rd_T48 l0 x11_1).f0)) := (blk_cell BK117.out 0).trans rfl
                   have hcz55_1 : wc.cell? ⟨gb117, 1, none⟩ = some (.string ((rd_T48 l0 x11_1).f1)) := (blk_cell BK117.out 1).trans rfl
                   have hcz55_2 : wc.cell? ⟨gb117, 2, none⟩ = some (.string ((rd_T48 l0 x11_1).f2)) := (blk_cell BK117.out 2).trans rfl
                   have hcz55_3 : wc.cell? ⟨gb117, 3, none⟩ = some (.int .i64 ((rd_T48 l0 x11_1).f3)) := (blk_cell BK117.out 3).trans rfl
                   have hcz55_4 : wc.cell? ⟨gb117, 4, none⟩ = some (.int .i64 ((rd_T48 l0 x11_1).f4)) := (blk_cell BK117.out 4).trans rfl
                   have hfz55_0 := blk_frozen BK117.out 0
                   have hfz55_1 := blk_frozen BK117.out 1
                   have hfz55_2 := blk_frozen BK117.out 2
                   have hfz55_3 := blk_frozen BK117.out 3
                   have hfz55_4 := blk_frozen BK117.out 4
                   go_wp2_with (first | (go_at_call 83; (with_reducible refine (json_shaped.calls kj27 _ _ l0 x11_1 true _ ?side1 ?side2 A50.out).mono ?_); (case side1 => repeat (first | exact (Kd.C_below HR0.out HB.out) | (with_reducible refine Kd.C_alloc ?_ _) | (with_reducible refine Kd.C_drewN ?_ _) | (with_reducible refine Kd.C_drew ?_))); (case side2 => exact HC0.out); rintro e w56 ⟨rfl, hb⟩; have n0_ := Aside0.mk (Kd.R_below (by (with_reducible repeat (first | apply Kd.R_alloc | apply Kd.R_drewN | apply Kd.R_drew)); exact HO_3.out) hb); have n1_ := Aside0.mk (blk_below (g := gb117) (o := .cells #[.int .i64 ((rd_T48 l0 x11_1).f0), .string ((rd_T48 l0 x11_1).f1), .string ((rd_T48 l0 x11_1).f2), .int .i64 ((rd_T48 l0 x11_1).f3), .int .i64 ((rd_T48 l0 x11_1).f4)] 48 (0, 0)) (by (with_reducible repeat (first | refine blk_drewN ?_ _ | refine blk_drew ?_ | refine blk_alloc ?_ _)); exact BK117.out) hb); have n2_ := Aside0.mk (below_step (by repeat (first | (with_reducible first | exact HB.out | apply below_alloc | apply pw_below_drewN | apply below_drew1 | refine below_set ?_ GE117.out) | exact HB.out)) hb); clear HO_3; clear BK117; clear HB; have HO_3 := n0_; have BK117 := n1_; have HB := n2_; clear n0_ n1_ n2_; (try clear hb); (try clear hb2); (try clear hk); (try clear hi)))
                   go_meet
                   case rel => exact ⟨_, (false), (by first | rfl | (simp; done) | (simp; exact isEmpty_ne _) | (simp [*]; done)), (by first | exact H' | (simp only [hji25]; exact H')), ⟨by have := HK1.out; have := HJ6.out; have := HJ21.out; have := HJ27.out; first | omega | exact Nat.le_refl _⟩, ⟨by (with_reducible repeat (first | apply Kd.R_alloc | apply Kd.R_drewN | apply Kd.R_drew)); exact HO_3.out⟩, ⟨by (with_reducible repeat (first | refine blk_drewN ?_ _ | refine blk_drew ?_ | refine blk_alloc ?_ _)); exact BK117.out⟩, ⟨by repeat (first | (with_reducible first | exact HB.out | apply below_alloc | apply pw_below_drewN | apply below_drew1 | refine below_set ?_ GE117.out) | exact HB.out)⟩⟩
                 ·replace c51 := Bool.eq_false_iff.mpr c51
                  subst c51
                  have H1 : (json_laid.j5 kj27 l0 x3_6 x11_1 l0 (l0.length : Int) x11_1 true ((rd_T48 l0 x11_1).f0) ((rd_T48 l0 x11_1).f1) ((rd_T48 l0 x11_1).f2) ((rd_T48 l0 x11_1).f3) ((rd_T48 l0 x11_1).f4)) = some r := by rw [if_neg (show ¬ (false = true) by decide)] at H; exact H
                  clear H
                  have H := H1
                  clear H1
                  have H' := Aside0.mk H
                  clear H
                  have hcz57_0 : wc.cell? ⟨gb117, 0, none⟩ = some (.int .i64 ((rd_T48 l0 x11_1).f0)) := (blk_cell BK117.out 0).trans rfl
                  have hcz57_1 : wc.cell? ⟨gb117, 1, none⟩ = some (.string ((rd_T48 l0 x11_1).f1)) := (blk_cell BK117.out 1).trans rfl
                  have hcz57_2 : wc.cell? ⟨gb117, 2, none⟩ = some (.string ((rd_T48 l0 x11_1).f2)) := (blk_cell BK117.out 2).trans rfl
                  have hcz57_3 : wc.cell? ⟨gb117, 3, none⟩ = some (.int .i64 ((rd_T48 l0 x11_1).f3)) := (blk_cell BK117.out 3).trans rfl
                  have hcz57_4 : wc.cell? ⟨gb117, 4, none⟩ = some (.int .i64 ((rd_T48 l0 x11_1).f4)) := (blk_cell BK117.out 4).trans rfl
                  have hfz57_0 := blk_frozen BK117.out 0
                  have hfz57_1 := blk_frozen BK117.out 1
                  have hfz57_2 := blk_frozen BK117.out 2
                  have hfz57_3 := blk_frozen BK117.out 3
                  have hfz57_4 := blk_frozen BK117.out 4
                  go_wp2_with (first | (go_at_call 83; (with_reducible refine (json_shaped.calls kj27 _ _ l0 x11_1 false _ ?side1 ?side2 A50.out).mono ?_); (case side1 => repeat (first | exact (Kd.C_below HR0.out HB.out) | (with_reducible refine Kd.C_alloc ?_ _) | (with_reducible refine Kd.C_drewN ?_ _) | (with_reducible refine Kd.C_drew ?_))); (case side2 => exact HC0.out); rintro e w58 ⟨rfl, hb⟩; have n0_ := Aside0.mk (Kd.R_below (by (with_reducible repeat (first | apply Kd.R_alloc | apply Kd.R_drewN | apply Kd.R_drew)); exact HO_3.out) hb); have n1_ := Aside0.mk (blk_below (g := gb117) (o := .cells #[.int .i64 ((rd_T48 l0 x11_1).f0), .string ((rd_T48 l0 x11_1).f1), .string ((rd_T48 l0 x11_1).f2), .int .i64 ((rd_T48 l0 x11_1).f3), .int .i64 ((rd_T48 l0 x11_1).f4)] 48 (0, 0)) (by (with_reducible repeat (first | refine blk_drewN ?_ _ | refine blk_drew ?_ | refine blk_alloc ?_ _)); exact BK117.out) hb); have n2_ := Aside0.mk (below_step (by repeat (first | (with_reducible first | exact HB.out | apply below_alloc | apply pw_below_drewN | apply below_drew1 | refine below_set ?_ GE117.out) | exact HB.out)) hb); clear HO_3; clear BK117; clear HB; have HO_3 := n0_; have BK117 := n1_; have HB := n2_; clear n0_ n1_ n2_; (try clear hb); (try clear hb2); (try clear hk); (try clear hi)))
                  go_meet
                  case rel => exact ⟨_, (true), (by first | rfl | (simp; done) | (simp; exact isEmpty_ne _) | (simp [*]; done)), (by first | exact H' | (simp only [hji25]; exact H')), ⟨by have := HK1.out; have := HJ6.out; have := HJ21.out; have := HJ27.out; first | omega | exact Nat.le_refl _⟩, ⟨by (with_reducible repeat (first | apply Kd.R_alloc | apply Kd.R_drewN | apply Kd.R_drew)); exact HO_3.out⟩, ⟨by (with_reducible repeat (first | refine blk_drewN ?_ _ | refine blk_drew ?_ | refine blk_alloc ?_ _)); exact BK117.out⟩, ⟨by repeat (first | (with_reducible first | exact HB.out | apply below_alloc | apply pw_below_drewN | apply below_drew1 | refine below_set ?_ GE117.out) | exact HB.out)⟩⟩
             ·rw [if_neg c33] at H
              have c33b0 : (((rd_T48 l0 x11_1).f3) == x6_21) = false := beq_eq_false_iff_ne.mpr c33
              have c33b1 : (((rd_T48 l0 x11_1).f3) != x6_21) = true := bne_iff_ne.mpr c33
              (first | rw [c33b0] | (simp only [i64_w, i32_w]; rw [c33b0]) | skip)
              have H' := Aside0.mk H
              clear H
              have hcz59_0 : wc.cell? ⟨gb117, 0, none⟩ = some (.int .i64 ((rd_T48 l0 x11_1).f0)) := (blk_cell BK117.out 0).trans rfl
              have hcz59_1 : wc.cell? ⟨gb117, 1, none⟩ = some (.string ((rd_T48 l0 x11_1).f1)) := (blk_cell BK117.out 1).trans rfl
              have hcz59_2 : wc.cell? ⟨gb117, 2, none⟩ = some (.string ((rd_T48 l0 x11_1).f2)) := (blk_cell BK117.out 2).trans rfl
              have hcz59_3 : wc.cell? ⟨gb117, 3, none⟩ = some (.int .i64 ((rd_T48 l0 x11_1).f3)) := (blk_cell BK117.out 3).trans rfl
              have hcz59_4 : wc.cell? ⟨gb117, 4, none⟩ = some (.int .i64 ((rd_T48 l0 x11_1).f4)) := (blk_cell BK117.out 4).trans rfl
              have hfz59_0 := blk_frozen BK117.out 0
              have hfz59_1 := blk_frozen BK117.out 1
              have hfz59_2 := blk_frozen BK117.out 2
              have hfz59_3 := blk_frozen BK117.out 3
              have hfz59_4 := blk_frozen BK117.out 4
              go_wp2
              go_meet
              case rel => exact ⟨_, (true), (by first | rfl | (simp; done) | (simp; exact isEmpty_ne _) | (simp [*]; done)), (by first | exact H' | (simp only [hji25]; exact H')), ⟨by have := HK1.out; have := HJ6.out; have := HJ21.out; have := HJ27.out; first | omega | exact Nat.le_refl _⟩, ⟨by (with_reducible repeat (first | apply Kd.R_alloc | apply Kd.R_drewN | apply Kd.R_drew)); exact HO_3.out⟩, ⟨by (with_reducible repeat (first | refine blk_drewN ?_ _ | refine blk_drew ?_ | refine blk_alloc ?_ _)); exact BK117.out⟩, ⟨by repeat (first | (with_reducible first | exact HB.out | apply below_alloc | apply pw_below_drewN | apply below_drew1 | refine below_set ?_ GE117.out) | exact HB.out)⟩⟩
            case rest =>
             clear HC32
             try clear c1
             try clear p1
             try clear q1
             try clear hx1
             try clear c2
             try clear p2
             try clear c3
             try clear c4
             try clear c4b0
             try clear c5
             try clear c5b0
             try clear c6
             try clear c6b0
             try clear p6
             try clear c10
             try clear c10b0
             try clear c10b1
             try clear p11
             try clear q11
             try clear hx11
             try clear c12
             try clear c12b0
             try clear p12
             try clear q12
             try clear hx12
             try clear c13
             try clear c13b0
             try clear c14
             try clear c14b0
             try clear c15
             try clear c15b0
             try clear c16
             try clear c16b0
             try clear c16b1
             try clear c17
             try clear c17b0
             try clear c17b1
             try clear q19
             try clear c24
             try clear c24b0
             try clear c24b1
             try clear c26
             try clear c26b0
             try clear c27
             try clear c27b0
             try clear c29
             try clear c29b0
             try clear c30
             try clear c30b0
             try clear c31
             try clear c31b0
             try clear c33
             try clear c33b0
             try clear c33b1
             try clear c34
             try clear c34b0
             try clear c36
             try clear c36b0
             try clear c38
             try clear c38b0
             try clear c39
             try clear c39b0
             try clear c39b1
             try clear c41
             try clear c42
             try clear c42b0
             try clear c51
             try clear c52
             try clear c52b0
             try clear hcz35_0
             try clear hcz35_1
             try clear hcz35_2
             try clear hcz35_3
             try clear hcz35_4
             try clear hcz37_0
             try clear hcz37_1
             try clear hcz37_2
             try clear hcz37_3
             try clear hcz37_4
             try clear hcz43_0
             try clear hcz43_1
             try clear hcz43_2
             try clear hcz43_3
             try clear hcz43_4
             try clear hcz45_0
             try clear hcz45_1
             try clear hcz45_2
             try clear hcz45_3
             try clear hcz45_4
             try clear hcz47_0
             try clear hcz47_1
             try clear hcz47_2
             try clear hcz47_3
             try clear hcz47_4
             try clear hcz49_0
             try clear hcz49_1
             try clear hcz49_2
             try clear hcz49_3
             try clear hcz49_4
             try clear hcz53_0
             try clear hcz53_1
             try clear hcz53_2
             try clear hcz53_3
             try clear hcz53_4
             try clear hcz55_0
             try clear hcz55_1
             try clear hcz55_2
             try clear hcz55_3
             try clear hcz55_4
             try clear hcz57_0
             try clear hcz57_1
             try clear hcz57_2
             try clear hcz57_3
             try clear hcz57_4
             try clear hcz59_0
             try clear hcz59_1
             try clear hcz59_2
             try clear hcz59_3
             try clear hcz59_4
             try clear hcz9_0
             try clear hcz9_1
             try clear hcz9_2
             try clear hcz9_3
             try clear hcz9_4
             try clear hfz35_0
             try clear hfz35_1
             try clear hfz35_2
             try clear hfz35_3
             try clear hfz35_4
             try clear hfz37_0
             try clear hfz37_1
             try clear hfz37_2
             try clear hfz37_3
             try clear hfz37_4
             try clear hfz43_0
             try clear hfz43_1
             try clear hfz43_2
             try clear hfz43_3
             try clear hfz43_4
             try clear hfz45_0
             try clear hfz45_1
             try clear hfz45_2
             try clear hfz45_3
             try clear hfz45_4
             try clear hfz47_0
             try clear hfz47_1
             try clear hfz47_2
             try clear hfz47_3
             try clear hfz47_4
             try clear hfz49_0
             try clear hfz49_1
             try clear hfz49_2
             try clear hfz49_3
             try clear hfz49_4
             try clear hfz53_0
             try clear hfz53_1
             try clear hfz53_2
             try clear hfz53_3
             try clear hfz53_4
             try clear hfz55_0
             try clear hfz55_1
             try clear hfz55_2
             try clear hfz55_3
             try clear hfz55_4
             try clear hfz57_0
             try clear hfz57_1
             try clear hfz57_2
             try clear hfz57_3
             try clear hfz57_4
             try clear hfz59_0
             try clear hfz59_1
             try clear hfz59_2
             try clear hfz59_3
             try clear hfz59_4
             try clear hfz9_0
             try clear hfz9_1
             try clear hfz9_2
             try clear hfz9_3
             try clear hfz9_4
             try clear hx116_0
             try clear hx116_1
             try clear hx116_2
             try clear hx116_3
             try clear hx116_4
             try clear hx118_0
             try clear hx119_0
             try clear hx119_1
             try clear hx119_2
             try clear hx119_3
             try clear hx119_4
             try clear hx123_0
             try clear hx124_0
             try clear hx124_1
             try clear hx124_2
             try clear hx124_3
             try clear hx124_4
             try clear p1
             try clear p11
             try clear p116
             try clear p118
             try clear p119
             try clear p12
             try clear p123
             try clear p124
             try clear p2
             try clear p6
             try clear q1
             try clear q11
             try clear q116
             try clear q118
             try clear q119
             try clear q12
             try clear q123
             try clear q124
             try clear q19
             obtain ⟨kq, x97_31, rfl, HA, HJ31, HO_3, BK117, HB⟩ := hcut
             cases kq with
             | zero => exact absurd HA.out (by simp [json_laid.j5])
             | succ kj31 =>
              have H := HA.out
              clear HA
              simp only [json_laid.j5] at H
              by_cases c60 : x97_31 = true
              ·subst c60
               have H1 : (some false) = some r := by rw [if_pos rfl] at H; exact H
               clear H
               have H := H1
               clear H1
               obtain rfl := Option.some.inj H
               go_wp2
               go_ret
               exact ⟨by first | rfl | (simp [errW_none, errW_some] <;> rfl) | (simp [*, errW_none, errW_some] <;> rfl), by repeat (first | (with_reducible first | exact HB.out | apply below_alloc | apply pw_below_drewN | apply below_drew1 | refine below_set ?_ GE117.out) | exact HB.out)⟩
              ·replace c60 := Bool.eq_false_iff.mpr c60
               subst c60
               have H1 : (if ((rd_T48 l0 x11_1).f0) ≥ 6 then (if x3_6.length < 17592186044416 then (json_laid.l0 kj31 l0 (x3_6 ++ [x11_1]) l0 (l0.length : Int) (wrap64 (x11_1 + 1))) else (none)) else (json_laid.l0 kj31 l0 x3_6 l0 (l0.length : Int) (wrap64 (x11_1 + 1)))) = some r := by rw [if_neg (show ¬ (false = true) by decide)] at H; exact H
               clear H
               have H := H1
               clear H1
               by_cases c61 : ((rd_T48 l0 x11_1).f0) ≥ 6
               ·rw [if_pos c61] at H
                have c61b0 : decide (6 ≤ ((rd_T48 l0 x11_1).f0)) = true := decide_eq_true c61
                clear c61
                by_cases c62 : x3_6.length < 17592186044416
                ·rw [if_pos c62] at H
                 have LMc62 := Aside0.mk c62
                 clear c62
                 obtain ⟨y127, hy127⟩ : ∃ y_ : List Int, y_ = (x3_6 ++ [x11_1]) := ⟨_, rfl⟩
                 replace H : (json_laid.l0 kj31 l0 y127 l0 (l0.length : Int) (wrap64 (x11_1 + 1))) = some r := by first | (rw [hy127]; with_reducible exact H) | (have H2_ := (Option.bind_some _ _).symm.trans H; rw [hy127]; with_reducible exact H2_) | (have H2_ := (Option.bind_some _ _).symm.trans H; with_reducible exact H2_) | with_reducible exact H | (rw [hy127]; exact H) | exact H
                 have Ny127 := Aside0.mk hy127
                 clear hy127
                 have H' := Aside0.mk H
                 clear H
                 have hcz63_0 : wc.cell? ⟨gb117, 0, none⟩ = some (.int .i64 ((rd_T48 l0 x11_1).f0)) := (blk_cell BK117.out 0).trans rfl
                 have hcz63_1 : wc.cell? ⟨gb117, 1, none⟩ = some (.string ((rd_T48 l0 x11_1).f1)) := (blk_cell BK117.out 1).trans rfl
                 have hcz63_2 : wc.cell? ⟨gb117, 2, none⟩ = some (.string ((rd_T48 l0 x11_1).f2)) := (blk_cell BK117.out 2).trans rfl
                 have hcz63_3 : wc.cell? ⟨gb117, 3, none⟩ = some (.int .i64 ((rd_T48 l0 x11_1).f3)) := (blk_cell BK117.out 3).trans rfl
                 have hcz63_4 : wc.cell? ⟨gb117, 4, none⟩ = some (.int .i64 ((rd_T48 l0 x11_1).f4)) := (blk_cell BK117.out 4).trans rfl
                 have hfz63_0 := blk_frozen BK117.out 0
                 have hfz63_1 := blk_frozen BK117.out 1
                 have hfz63_2 := blk_frozen BK117.out 2
                 have hfz63_3 := blk_frozen BK117.out 3
                 have hfz63_4 := blk_frozen BK117.out 4
                 go_wp2_with (first | ((with_reducible refine gate_builtin (b := .append) (xs := #[.tmp 101, .tmp 103]) rfl ?_); (try (refine gate_guard (by rfl) ?_; dsimp only)); at_builtin; refine Kd.R_append (Kd.int .i64) (w0 := w) w.heap.size rfl (.tmp 101) (.tmp 103) 71 3 (.int .i64 0) 8 rfl Tryz.underlying71 info3 rfl (by decide) (by omega) (.slice Ao23 x3_6.length co23) x3_6 x11_1 [.int .i64 x11_1] (fun _ => True) (fun _ => False) rfl rfl ?aP (fun _ hk => hk.elim) ?aF ?aO ?aB ?aS ?aL ?_; (case aP => exact rfl); (case aB => exact (by repeat (first | (with_reducible first | exact HB.out | apply below_alloc | apply pw_below_drewN | apply below_drew1 | refine below_set ?_ GE117.out) | exact HB.out))); (case aF => exact (fun _ _ => trivial)); (case aO => exact (by (with_reducible repeat (first | apply Kd.R_alloc | apply Kd.R_drewN | apply Kd.R_drew)); exact HO_3.out)); (case aS => exact (below_size (by repeat (first | (with_reducible first | exact HB.out | apply below_alloc | apply pw_below_drewN | apply below_drew1 | refine below_set ?_ GE117.out) | exact HB.out)))); (case aL => have := LMc62.out; omega); intro v128 w64 ho hb hg hat; rw [← Ny127.out] at ho; have n0_ := Aside0.mk (blk_grown (g := gb117) (o := .cells #[.int .i64 ((rd_T48 l0 x11_1).f0), .string ((rd_T48 l0 x11_1).f1), .string ((rd_T48 l0 x11_1).f2), .int .i64 ((rd_T48 l0 x11_1).f3), .int .i64 ((rd_T48 l0 x11_1).f4)] 48 (0, 0)) (by (with_reducible repeat (first | refine blk_drewN ?_ _ | refine blk_drew ?_ | refine blk_alloc ?_ _)); exact BK117.out) hg (Kd.R_ne HO_3.out BK117.out (by decide))); have n1_ := Aside0.mk (hb); have n2_ := Aside0.mk (ho); clear BK117; clear HB; clear HO_3; have BK117 := n0_; have HB := n1_; have HO129 := n2_; clear n0_ n1_ n2_; clear ho hb hg hat))
                 go_roundg kj31
                 case measure => have := HK1.out; have := HJ6.out; have := HJ21.out; have := HJ27.out; have := HJ31.out; omega
                 case rel => exact ⟨(y127), (wrap64 (x11_1 + 1)), (by first | rfl | (simp; done) | (simp; exact isEmpty_ne _) | (simp [*]; done)), (by first | exact H' | (simp only [hji25]; exact H')), ⟨by have := HK1.out; have := HJ6.out; have := HJ21.out; have := HJ27.out; have := HJ31.out; omega⟩, ⟨by (with_reducible repeat (first | apply Kd.R_alloc | apply Kd.R_drewN | apply Kd.R_drew)); exact HO129.out⟩, ⟨by repeat (first | (with_reducible first | exact HB.out | apply below_alloc | apply pw_below_drewN | apply below_drew1 | refine below_set ?_ GE117.out) | exact HB.out)⟩⟩
                ·rw [if_neg c62] at H
                 exact absurd H (by simp)
               ·rw [if_neg c61] at H
                have c61b0 : decide (6 ≤ ((rd_T48 l0 x11_1).f0)) = false := decide_eq_false c61
                clear c61
                have H' := Aside0.mk H
                clear H
                have hcz65_0 : wc.cell? ⟨gb117, 0, none⟩ = some (.int .i64 ((rd_T48 l0 x11_1).f0)) := (blk_cell BK117.out 0).trans rfl
                have hcz65_1 : wc.cell? ⟨gb117, 1, none⟩ = some (.string ((rd_T48 l0 x11_1).f1)) := (blk_cell BK117.out 1).trans rfl
                have hcz65_2 : wc.cell? ⟨gb117, 2, none⟩ = some (.string ((rd_T48 l0 x11_1).f2)) := (blk_cell BK117.out 2).trans rfl
                have hcz65_3 : wc.cell? ⟨gb117, 3, none⟩ = some (.int .i64 ((rd_T48 l0 x11_1).f3)) := (blk_cell BK117.out 3).trans rfl
                have hcz65_4 : wc.cell? ⟨gb117, 4, none⟩ = some (.int .i64 ((rd_T48 l0 x11_1).f4)) := (blk_cell BK117.out 4).trans rfl
                have hfz65_0 := blk_frozen BK117.out 0
                have hfz65_1 := blk_frozen BK117.out 1
                have hfz65_2 := blk_frozen BK117.out 2
                have hfz65_3 := blk_frozen BK117.out 3
                have hfz65_4 := blk_frozen BK117.out 4
                go_wp2
                go_roundg kj31
                case measure => have := HK1.out; have := HJ6.out; have := HJ21.out; have := HJ27.out; have := HJ31.out; omega
                case rel => exact ⟨(x3_6), (wrap64 (x11_1 + 1)), (by first | rfl | (simp; done) | (simp; exact isEmpty_ne _) | (simp [*]; done)), (by first | exact H' | (simp only [hji25]; exact H')), ⟨by have := HK1.out; have := HJ6.out; have := HJ21.out; have := HJ27.out; have := HJ31.out; omega⟩, ⟨by (with_reducible repeat (first | apply Kd.R_alloc | apply Kd.R_drewN | apply Kd.R_drew)); exact HO_3.out⟩, ⟨by repeat (first | (with_reducible first | exact HB.out | apply below_alloc | apply pw_below_drewN | apply below_drew1 | refine below_set ?_ GE117.out) | exact HB.out)⟩⟩
     ·rw [if_neg c6] at H
      exact absurd H (by simp)
    ·rw [if_neg c5] at H
     exact absurd H (by simp)
   ·rw [if_neg c4] at H
    have c4b0 : decide (x11_1 < (l0.length : Int)) = false := decide_eq_false c4
    clear c4
    by_cases c66 : (l0.length : Int) > 0
    ·rw [if_pos c66] at H
     have c66b0 : decide (0 < (l0.length : Int)) = true := decide_eq_true c66
     have c66b1 : decide (0 < l0.length) = true := decide_eq_true (by omega)
     clear c66
     by_cases c67 : 0 < (l0.length : Int)
     ·rw [if_pos c67] at H
      have c67b0 : decide (0 < (l0.length : Int)) = true := decide_eq_true c67
      have c67b1 : decide (0 < l0.length) = true := decide_eq_true (by omega)
      clear c67
      obtain rfl := Option.some.inj H
      have p115 : 0 ≤ (0 : Int) := (by omega)
      have q115 : 0 < (l0.length : Int) := of_decide_eq_true (by first | (with_reducible assumption) | assumption)
      obtain ⟨ad115, e115, hx115_0, hx115_1, hx115_2, hx115_3, hx115_4⟩ := at_T48 HR0.out 0 p115 q115
      cases e115
      have qi115 : (0 < l0.length) = True := eq_true (by omega)
      (try rw [show ((0 : Int)).toNat = 0 from rfl] at hx115_0)
      (try rw [show 0 * 5 = 0 from rfl] at hx115_0)
      (try rw [Addr.add_zero'] at hx115_0)
      (try rw [show ((0 : Int)).toNat = 0 from rfl] at hx115_1)
      (try rw [show 0 * 5 = 0 from rfl] at hx115_1)
      (try rw [Addr.add_zero'] at hx115_1)
      (try rw [show ((0 : Int)).toNat = 0 from rfl] at hx115_2)
      (try rw [show 0 * 5 = 0 from rfl] at hx115_2)
      (try rw [Addr.add_zero'] at hx115_2)
      (try rw [show ((0 : Int)).toNat = 0 from rfl] at hx115_3)
      (try rw [show 0 * 5 = 0 from rfl] at hx115_3)
      (try rw [Addr.add_zero'] at hx115_3)
      (try rw [show ((0 : Int)).toNat = 0 from rfl] at hx115_4)
      (try rw [show 0 * 5 = 0 from rfl] at hx115_4)
      (try rw [Addr.add_zero'] at hx115_4)
      replace hx115_0 := (HB.out.cell (World.block_lt_of_cell? w _ hx115_0)).trans hx115_0
      replace hx115_1 := (HB.out.cell (World.block_lt_of_cell? w _ hx115_1)).trans hx115_1
      replace hx115_2 := (HB.out.cell (World.block_lt_of_cell? w _ hx115_2)).trans hx115_2
      replace hx115_3 := (HB.out.cell (World.block_lt_of_cell? w _ hx115_3)).trans hx115_3
      replace hx115_4 := (HB.out.cell (World.block_lt_of_cell? w _ hx115_4)).trans hx115_4
      replace p115 := eq_true p115
      replace q115 := eq_true q115
      go_wp2
      go_ret
      exact ⟨by first | rfl | (simp [errW_none, errW_some] <;> rfl) | (simp [*, errW_none, errW_some] <;> rfl), by repeat (first | (with_reducible first | exact HB.out | apply below_alloc | apply pw_below_drewN | apply below_drew1) | exact HB.out)⟩
     ·rw [if_neg c67] at H
      exact absurd H (by simp)
    ·rw [if_neg c66] at H
     have c66b0 : decide (0 < (l0.length : Int)) = false := decide_eq_false c66
     have c66b1 : decide (0 < l0.length) = false := decide_eq_false (by omega)
     clear c66
     obtain rfl := Option.some.inj H
     go_wp2
     go_ret
     exact ⟨by first | rfl | (simp [errW_none, errW_some] <;> rfl) | (simp [*, errW_none, errW_some] <;> rfl), by repeat (first | (with_reducible first | exact HB.out | apply below_alloc | apply pw_below_drewN | apply below_drew1) | exact HB.out)⟩
mutual
def json_Depth.l0 : Nat → Int → List Int → List (S48) → Int → Int → Option (Int)
 | 0, _, _, _, _, _ => none
 | k + 1, x3, x4, x10, x11, x12 => if x12 < x11 then (if 0 ≤ x12 then (if x12 < (x10.length : Int) then (if ((rd_T48 x10 x12).f3) ≥ 0 then (json_Depth.j1 k x3 x4 x12 x10 x11 x12 (decide (((rd_T48 x10 x12).f3) < x12)) ((rd_T48 x10 x12).f0) ((rd_T48 x10 x12).f1) ((rd_T48 x10 x12).f2) ((rd_T48 x10 x12).f3) ((rd_T48 x10 x12).f4)) else (json_Depth.j1 k x3 x4 x12 x10 x11 x12 false ((rd_T48 x10 x12).f0) ((rd_T48 x10 x12).f1) ((rd_T48 x10 x12).f2) ((rd_T48 x10 x12).f3) ((rd_T48 x10 x12).f4))) else (none)) else (none)) else (some x3)
def json_Depth.j1 : Nat → Int → List Int → Int → List (S48) → Int → Int → Bool → Int → ByteArray → ByteArray → Int → Int → Option (Int)
 | 0, _, _, _, _, _, _, _, _, _, _, _, _ => none
 | k + 1, x3, x4, x5, x10, x11, x12, x25, x135000, x135001, x135002, x135003, x135004 => if x25 = true then (if 0 ≤ x135003 then (if x135003 < (x4.length : Int) then (if 0 ≤ x5 then (if x5 < (x4.length : Int) then ((some (x4.set (x5 : Int).toNat (rd x4 x135003) : List Int)).bind fun y136 => (if x135000 ≥ 6 then ((some (y136.set (x5 : Int).toNat (wrap64 ((rd y136 x5) + 1)) : List Int)).bind fun y138 => (json_Depth.l0 k (mx x3 (rd y138 x5)) y138 x10 x11 (wrap64 (x12 + 1)))) else (json_Depth.l0 k (mx x3 (rd y136 x5)) y136 x10 x11 (wrap64 (x12 + 1))))) else (none)) else (none)) else (none)) else (none)) else (if x135000 ≥ 6 then (if 0 ≤ x5 then (if x5 < (x4.length : Int) then ((some (x4.set (x5 : Int).toNat (wrap64 ((rd x4 x5) + 1)) : List Int)).bind fun y142 => (json_Depth.l0 k (mx x3 (rd y142 x5)) y142 x10 x11 (wrap64 (x12 + 1)))) else (none)) else (none)) else (if 0 ≤ x5 then (if x5 < (x4.length : Int) then (json_Depth.l0 k (mx x3 (rd x4 x5)) x4 x10 x11 (wrap64 (x12 + 1))) else (none)) else (none)))
end
def json_Depth.f (k : Nat) (l0 : List (S48)) : Option (Int) := if 0 ≤ (l0.length : Int) then (if ((l0.length : Int) : Int).toNat ≤ 35184372088832 then (json_Depth.l0 k 0 (List.replicate ((l0.length : Int) : Int).toNat 0) l0 (l0.length : Int) 0) else (none)) else (none)
set_option maxHeartbeats 8000000 in
set_option maxRecDepth 100000 in
theorem json_Depth.calls (k : Nat) (A0 : Option Addr) (c0 : Nat) (l0 : List (S48)) (r : Int) (w : World) (hr0 : Kd.C k48 w A0 l0.length l0) (hc0 : l0.length ≤ c0) (h : json_Depth.f k l0 = some r) :
  Calls Tryz.prog 60 #[.slice A0 l0.length c0] w fun e w' => e = .returned (.int .i64 r) ∧ Below w.heap.size w w' := by
 have hu48 := Tryz.underlying48
 have HR0 := Aside0.mk hr0
 have HC0 := Aside0.mk hc0
 clear hr0 hc0
 have HB := Aside0.mk (Below.refl w.heap.size w)
 have H : (if 0 ≤ (l0.length : Int) then (if ((l0.length : Int) : Int).toNat ≤ 35184372088832 then (json_Depth.l0 k 0 (List.replicate ((l0.length : Int) : Int).toNat 0) l0 (l0.length : Int) 0) else (none)) else (none)) = some r := h
 clear h
 by_cases c2 : 0 ≤ (l0.length : Int)
 ·rw [if_pos c2] at H
  have c2b0 := eq_true c2
  have c2b1 : decide (0 ≤ (l0.length : Int)) = true := decide_eq_true c2
  clear c2
  by_cases c3 : ((l0.length : Int) : Int).toNat ≤ 35184372088832
  ·rw [if_pos c3] at H
   have c3b0 := eq_true c3
   have c3b1 : decide (((l0.length : Int) : Int).toNat ≤ 35184372088832) = true := decide_eq_true c3
   clear c3
   obtain ⟨y130, hy130⟩ : ∃ y_ : List Int, y_ = (List.replicate ((l0.length : Int) : Int).toNat 0) := ⟨_, rfl⟩
   replace H : (json_Depth.l0 k 0 y130 l0 (l0.length : Int) 0) = some r := by first | (rw [hy130]; with_reducible exact H) | (have H2_ := (Option.bind_some _ _).symm.trans H; rw [hy130]; with_reducible exact H2_) | (have H2_ := (Option.bind_some _ _).symm.trans H; with_reducible exact H2_) | with_reducible exact H | (rw [hy130]; exact H) | exact H
   have Ny130 := Aside0.mk hy130
   clear hy130
   have H' := Aside0.mk H
   clear H
   go_enter Tryz.func60, Tryz.ntmps60
   go_wp2_with (first | ((with_reducible refine gate_dst (N := 9) rfl ?_); refine Kd.R_make (Kd.int .i64) _ 3 rfl (N := 9) rfl 71 _ _ rfl (l0.length : Int) rfl rfl Tryz.underlying71 (.int .i64 0) 8 info3 rfl (by decide) (by omega) 0 (ok := fun _ => True) (okp := fun _ => True) rfl (fun _ hk => hk) trivial (of_decide_eq_true (by first | (with_reducible assumption) | assumption)) (Nat.le_trans (Nat.mul_le_mul_right _ (of_decide_eq_true (by first | (with_reducible assumption) | assumption) : (l0.length : Int).toNat ≤ 35184372088832)) (by omega)) (Below.refl _ _) (Nat.le_refl _) ?_; intro v131 w4 ho5 hb hg_ hnew_; clear hg_ hnew_; (first | rw [← Ny130.out] at ho5 | (simp only [Int.reduceToNat] at ho5; rw [← Ny130.out] at ho5)); have n0_ := Aside0.mk (Kd.R_lower ho5 (below_size (by repeat (first | (with_reducible first | exact HB.out | apply below_alloc | apply pw_below_drewN | apply below_drew1) | exact HB.out)))); have n1_ := Aside0.mk (below_step (by repeat (first | (with_reducible first | exact HB.out | apply below_alloc | apply pw_below_drewN | apply below_drew1) | exact HB.out)) hb); clear HB; have HO132 := n0_; have HB := n1_; clear n0_ n1_; clear hb ho5))
   go_loopg [3, 12] k (fun kq v3 v12 w' => ∃ (x3_1 : Int) (x4_1 : List Int) (x12_1 : Int), v3 = .int .i64 x3_1 ∧ v12 = .int .i64 x12_1 ∧ Aside0 (json_Depth.l0 kq x3_1 x4_1 l0 (l0.length : Int) x12_1 = some r) ∧ Aside0 (kq ≤ k) ∧ Aside0 (Kd.R (Kd.int .i64) 3 w' w.heap.size (fun _ => True) v131 x4_1) ∧ Aside0 (Below w.heap.size w w'))
   case atStart => exact ⟨(0), (y130), (0), (by first | rfl | (simp; done) | (simp [*]; done)), (by first | rfl | (simp; done) | (simp [*]; done)), H', ⟨Nat.le_refl _⟩, ⟨by (with_reducible repeat (first | apply Kd.R_alloc | apply Kd.R_drewN | apply Kd.R_drew)); exact HO132.out⟩, ⟨by repeat (first | (with_reducible first | exact HB.out | apply below_alloc | apply pw_below_drewN | apply below_drew1) | exact HB.out)⟩⟩
   case round =>
    clear H'
    try clear c2
    try clear c2b0
    try clear c2b1
    try clear p2
    try clear c3
    try clear c3b0
    try clear c3b1
    obtain ⟨x3_1, x4_1, x12_1, rfl, rfl, HA, HK1, HO_4, HB⟩ := hrel
    cases gk with
    | zero => exact absurd HA.out (by simp [json_Depth.l0])
    | succ k1 =>
     have H := HA.out
     clear HA
     simp only [json_Depth.l0] at H
     by_cases c6 : x12_1 < (l0.length : Int)
     ·rw [if_pos c6] at H
      have c6b0 : decide (x12_1 < (l0.length : Int)) = true := decide_eq_true c6
      clear c6
      by_cases c7 : 0 ≤ x12_1
      ·rw [if_pos c7] at H
       have c7b0 : decide (0 ≤ x12_1) = true := decide_eq_true c7
       clear c7
       by_cases c8 : x12_1 < (l0.length : Int)
       ·rw [if_pos c8] at H
        have c8b0 : decide (x12_1 < (l0.length : Int)) = true := decide_eq_true c8
        clear c8
        have HC9 := Aside0.mk H
        clear H
        have p133 : 0 ≤ (x12_1 : Int) := of_decide_eq_true (by first | (with_reducible assumption) | assumption)
        have q133 : x12_1 < (l0.length : Int) := of_decide_eq_true (by first | (with_reducible assumption) | assumption)
        obtain ⟨ad133, e133, hx133_0, hx133_1, hx133_2, hx133_3, hx133_4⟩ := at_T48 HR0.out x12_1 p133 q133
        cases e133
        replace hx133_0 := (HB.out.cell (World.block_lt_of_cell? w _ hx133_0)).trans hx133_0
        replace hx133_1 := (HB.out.cell (World.block_lt_of_cell? w _ hx133_1)).trans hx133_1
        replace hx133_2 := (HB.out.cell (World.block_lt_of_cell? w _ hx133_2)).trans hx133_2
        replace hx133_3 := (HB.out.cell (World.block_lt_of_cell? w _ hx133_3)).trans hx133_3
        replace hx133_4 := (HB.out.cell (World.block_lt_of_cell? w _ hx133_4)).trans hx133_4
        replace p133 := eq_true p133
        replace q133 := eq_true q133
        go_upto_region 6 with (first | ((with_reducible refine gate_dst (N := 6) rfl ?_); refine box_event ?hg (N := 6) ?hd (cs := #[.int .i64 0, .string (⟨#[]⟩ : ByteArray), .string (⟨#[]⟩ : ByteArray), .int .i64 0, .int .i64 0]) (t := 48) ?hr ?_; (case hd => rfl); (case hg => rfl); (case hr => first | (go_simp; done) | (go_simp; rfl)); intro gb134 hg w10 hbox hb; have n0_ := Aside0.mk (Kd.R_below (by (with_reducible repeat (first | apply Kd.R_alloc | apply Kd.R_drewN | apply Kd.R_drew)); exact HO_4.out) hb); have n1_ := Aside0.mk (below_step (by repeat (first | (with_reducible first | exact HB.out | apply below_alloc | apply pw_below_drewN | apply below_drew1) | exact HB.out)) hb); have n2_ := Aside0.mk (hbox); have n3_ := Aside0.mk ((by rw [hg]; exact (below_size (by repeat (first | (with_reducible first | exact HB.out | apply below_alloc | apply pw_below_drewN | apply below_drew1) | exact HB.out))) : w.heap.size ≤ gb134)); have n4_ := Aside0.mk ((by rw [hg]; exact (below_size (by repeat (first | (with_reducible first | exact HB.out | apply below_alloc | apply pw_below_drewN | apply below_drew1) | exact HB.out))) : w.heap.size ≤ gb134)); clear HO_4; clear HB; have HO_4 := n0_; have HB := n1_; have BK134 := n2_; have GW134 := n3_; have GE134 := n4_; clear n0_ n1_ n2_ n3_ n4_; clear hb hbox hg; have hcz11_0 : w10.cell? ⟨gb134, 0, none⟩ = some (.int .i64 0) := (blk_cell BK134.out 0).trans rfl; have hcz11_1 : w10.cell? ⟨gb134, 1, none⟩ = some (.string (⟨#[]⟩ : ByteArray)) := (blk_cell BK134.out 1).trans rfl; have hcz11_2 : w10.cell? ⟨gb134, 2, none⟩ = some (.string (⟨#[]⟩ : ByteArray)) := (blk_cell BK134.out 2).trans rfl; have hcz11_3 : w10.cell? ⟨gb134, 3, none⟩ = some (.int .i64 0) := (blk_cell BK134.out 3).trans rfl; have hcz11_4 : w10.cell? ⟨gb134, 4, none⟩ = some (.int .i64 0) := (blk_cell BK134.out 4).trans rfl; have hfz11_0 := blk_frozen BK134.out 0; have hfz11_1 := blk_frozen BK134.out 1; have hfz11_2 := blk_frozen BK134.out 2; have hfz11_3 := blk_frozen BK134.out 3; have hfz11_4 := blk_frozen BK134.out 4))
        (try simp only [Act.put, List.setIfInBounds_toArray, List.set_cons_zero, List.set_cons_succ])
        go_cut [25] (fun v25 wc => ∃ (kq : Nat) (x25_8 : Bool), v25 = .bool x25_8 ∧ Aside0 (json_Depth.j1 kq x3_1 x4_1 x12_1 l0 (l0.length : Int) x12_1 x25_8 ((rd_T48 l0 x12_1).f0) ((rd_T48 l0 x12_1).f1) ((rd_T48 l0 x12_1).f2) ((rd_T48 l0 x12_1).f3) ((rd_T48 l0 x12_1).f4) = some r) ∧ Aside0 (kq ≤ k1) ∧ Aside0 (Kd.R (Kd.int .i64) 3 wc w.heap.size (fun _ => True) v131 x4_1) ∧ Aside0 (wc.heap[gb134]? = some (.cells #[.int .i64 ((rd_T48 l0 x12_1).f0), .string ((rd_T48 l0 x12_1).f1), .string ((rd_T48 l0 x12_1).f2), .int .i64 ((rd_T48 l0 x12_1).f3), .int .i64 ((rd_T48 l0 x12_1).f4)] 48 (0, 0))) ∧ Aside0 (Below w.heap.size w wc))
        case first =>
         have H := HC9.out
         clear HC9
         by_cases c12 : ((rd_T48 l0 x12_1).f3) ≥ 0
         ·rw [if_pos c12] at H
          have c12b0 : decide (0 ≤ ((rd_T48 l0 x12_1).f3)) = true := decide_eq_true c12
          clear c12
          (first | rw [c12b0] | (simp only [i64_w, i32_w]; rw [c12b0]) | skip)
          have H' := Aside0.mk H
          clear H
          have hcz13_0 : w10.cell? ⟨gb134, 0, none⟩ = some (.int .i64 0) := (blk_cell BK134.out 0).trans rfl
          have hcz13_1 : w10.cell? ⟨gb134, 1, none⟩ = some (.string (⟨#[]⟩ : ByteArray)) := (blk_cell BK134.out 1).trans rfl
          have hcz13_2 : w10.cell? ⟨gb134, 2, none⟩ = some (.string (⟨#[]⟩ : ByteArray)) := (blk_cell BK134.out 2).trans rfl
          have hcz13_3 : w10.cell? ⟨gb134, 3, none⟩ = some (.int .i64 0) := (blk_cell BK134.out 3).trans rfl
          have hcz13_4 : w10.cell? ⟨gb134, 4, none⟩ = some (.int .i64 0) := (blk_cell BK134.out 4).trans rfl
          have hfz13_0 := blk_frozen BK134.out 0
          have hfz13_1 := blk_frozen BK134.out 1
          have hfz13_2 := blk_frozen BK134.out 2
          have hfz13_3 := blk_frozen BK134.out 3
          have hfz13_4 := blk_frozen BK134.out 4
          go_wp2
          go_meet
          case rel => exact ⟨_, (decide (((rd_T48 l0 x12_1).f3) < x12_1)), (by first | rfl | (simp; done) | (simp; exact isEmpty_ne _) | (simp [*]; done)), H', ⟨by have := HK1.out; first | omega | exact Nat.le_refl _⟩, ⟨by (with_reducible repeat (first | apply Kd.R_alloc | apply Kd.R_drewN | apply Kd.R_drew)); exact Kd.R_mono (Kd.R_far (p := ⟨gb134, 4, none⟩) (Kd.R_far (p := ⟨gb134, 3, none⟩) (Kd.R_far (p := ⟨gb134, 2, none⟩) (Kd.R_far (p := ⟨gb134, 1, none⟩) (Kd.R_far (p := ⟨gb134, 0, none⟩) (Kd.R_types HO_4.out BK134.out (by decide)) (fun _ hk => hk.2) (.int .i64 ((rd_T48 l0 x12_1).f0))) (fun _ hk => hk.2) (.string ((rd_T48 l0 x12_1).f1))) (fun _ hk => hk.2) (.string ((rd_T48 l0 x12_1).f2))) (fun _ hk => hk.2) (.int .i64 ((rd_T48 l0 x12_1).f3))) (fun _ hk => hk.2) (.int .i64 ((rd_T48 l0 x12_1).f4))) (fun _ hk => trivial)⟩, ⟨by (with_reducible repeat (first | refine blk_drewN ?_ _ | refine blk_drew ?_ | refine blk_alloc ?_ _)); refine blk_put (cs := #[.int .i64 ((rd_T48 l0 x12_1).f0), .string ((rd_T48 l0 x12_1).f1), .string ((rd_T48 l0 x12_1).f2), .int .i64 ((rd_T48 l0 x12_1).f3), .int .i64 0]) ?_ 4 _ rfl; (with_reducible repeat (first | refine blk_drewN ?_ _ | refine blk_drew ?_ | refine blk_alloc ?_ _)); refine blk_put (cs := #[.int .i64 ((rd_T48 l0 x12_1).f0), .string ((rd_T48 l0 x12_1).f1), .string ((rd_T48 l0 x12_1).f2), .int .i64 0, .int .i64 0]) ?_ 3 _ rfl; (with_reducible repeat (first | refine blk_drewN ?_ _ | refine blk_drew ?_ | refine blk_alloc ?_ _)); refine blk_put (cs := #[.int .i64 ((rd_T48 l0 x12_1).f0), .string ((rd_T48 l0 x12_1).f1), .string (⟨#[]⟩ : ByteArray), .int .i64 0, .int .i64 0]) ?_ 2 _ rfl; (with_reducible repeat (first | refine blk_drewN ?_ _ | refine blk_drew ?_ | refine blk_alloc ?_ _)); refine blk_put (cs := #[.int .i64 ((rd_T48 l0 x12_1).f0), .string (⟨#[]⟩ : ByteArray), .string (⟨#[]⟩ : ByteArray), .int .i64 0, .int .i64 0]) ?_ 1 _ rfl; (with_reducible repeat (first | refine blk_drewN ?_ _ | refine blk_drew ?_ | refine blk_alloc ?_ _)); refine blk_put (cs := #[.int .i64 0, .string (⟨#[]⟩ : ByteArray), .string (⟨#[]⟩ : ByteArray), .int .i64 0, .int .i64 0]) ?_ 0 _ rfl; (with_reducible repeat (first | refine blk_drewN ?_ _ | refine blk_drew ?_ | refine blk_alloc ?_ _)); exact BK134.out⟩, ⟨by repeat (first | (with_reducible first | exact HB.out | apply below_alloc | apply pw_below_drewN | apply below_drew1 | refine below_set ?_ GE134.out) | exact HB.out)⟩⟩
         ·rw [if_neg c12] at H
          have c12b0 : decide (0 ≤ ((rd_T48 l0 x12_1).f3)) = false := decide_eq_false c12
          clear c12
          (first | rw [c12b0] | (simp only [i64_w, i32_w]; rw [c12b0]) | skip)
          have H' := Aside0.mk H
          clear H
          have hcz14_0 : w10.cell? ⟨gb134, 0, none⟩ = some (.int .i64 0) := (blk_cell BK134.out 0).trans rfl
          have hcz14_1 : w10.cell? ⟨gb134, 1, none⟩ = some (.string (⟨#[]⟩ : ByteArray)) := (blk_cell BK134.out 1).trans rfl
          have hcz14_2 : w10.cell? ⟨gb134, 2, none⟩ = some (.string (⟨#[]⟩ : ByteArray)) := (blk_cell BK134.out 2).trans rfl
          have hcz14_3 : w10.cell? ⟨gb134, 3, none⟩ = some (.int .i64 0) := (blk_cell BK134.out 3).trans rfl
          have hcz14_4 : w10.cell? ⟨gb134, 4, none⟩ = some (.int .i64 0) := (blk_cell BK134.out 4).trans rfl
          have hfz14_0 := blk_frozen BK134.out 0
          have hfz14_1 := blk_frozen BK134.out 1
          have hfz14_2 := blk_frozen BK134.out 2
          have hfz14_3 := blk_frozen BK134.out 3
          have hfz14_4 := blk_frozen BK134.out 4
          go_wp2
          go_meet
          case rel => exact ⟨_, (false), (by first | rfl | (simp; done) | (simp; exact isEmpty_ne _) | (simp [*]; done)), H', ⟨by have := HK1.out; first | omega | exact Nat.le_refl _⟩, ⟨by (with_reducible repeat (first | apply Kd.R_alloc | apply Kd.R_drewN | apply Kd.R_drew)); exact Kd.R_mono (Kd.R_far (p := ⟨gb134, 4, none⟩) (Kd.R_far (p := ⟨gb134, 3, none⟩) (Kd.R_far (p := ⟨gb134, 2, none⟩) (Kd.R_far (p := ⟨gb134, 1, none⟩) (Kd.R_far (p := ⟨gb134, 0, none⟩) (Kd.R_types HO_4.out BK134.out (by decide)) (fun _ hk => hk.2) (.int .i64 ((rd_T48 l0 x12_1).f0))) (fun _ hk => hk.2) (.string ((rd_T48 l0 x12_1).f1))) (fun _ hk => hk.2) (.string ((rd_T48 l0 x12_1).f2))) (fun _ hk => hk.2) (.int .i64 ((rd_T48 l0 x12_1).f3))) (fun _ hk => hk.2) (.int .i64 ((rd_T48 l0 x12_1).f4))) (fun _ hk => trivial)⟩, ⟨by (with_reducible repeat (first | refine blk_drewN ?_ _ | refine blk_drew ?_ | refine blk_alloc ?_ _)); refine blk_put (cs := #[.int .i64 ((rd_T48 l0 x12_1).f0), .string ((rd_T48 l0 x12_1).f1), .string ((rd_T48 l0 x12_1).f2), .int .i64 ((rd_T48 l0 x12_1).f3), .int .i64 0]) ?_ 4 _ rfl; (with_reducible repeat (first | refine blk_drewN ?_ _ | refine blk_drew ?_ | refine blk_alloc ?_ _)); refine blk_put (cs := #[.int .i64 ((rd_T48 l0 x12_1).f0), .string ((rd_T48 l0 x12_1).f1), .string ((rd_T48 l0 x12_1).f2), .int .i64 0, .int .i64 0]) ?_ 3 _ rfl; (with_reducible repeat (first | refine blk_drewN ?_ _ | refine blk_drew ?_ | refine blk_alloc ?_ _)); refine blk_put (cs := #[.int .i64 ((rd_T48 l0 x12_1).f0), .string ((rd_T48 l0 x12_1).f1), .string (⟨#[]⟩ : ByteArray), .int .i64 0, .int .i64 0]) ?_ 2 _ rfl; (with_reducible repeat (first | refine blk_drewN ?_ _ | refine blk_drew ?_ | refine blk_alloc ?_ _)); refine blk_put (cs := #[.int .i64 ((rd_T48 l0 x12_1).f0), .string (⟨#[]⟩ : ByteArray), .string (⟨#[]⟩ : ByteArray), .int .i64 0, .int .i64 0]) ?_ 1 _ rfl; (with_reducible repeat (first | refine blk_drewN ?_ _ | refine blk_drew ?_ | refine blk_alloc ?_ _)); refine blk_put (cs := #[.int .i64 0, .string (⟨#[]⟩ : ByteArray), .string (⟨#[]⟩ : ByteArray), .int .i64 0, .int .i64 0]) ?_ 0 _ rfl; (with_reducible repeat (first | refine blk_drewN ?_ _ | refine blk_drew ?_ | refine blk_alloc ?_ _)); exact BK134.out⟩, ⟨by repeat (first | (with_reducible first | exact HB.out | apply below_alloc | apply pw_below_drewN | apply below_drew1 | refine below_set ?_ GE134.out) | exact HB.out)⟩⟩
        case rest =>
         clear HC9
         try clear c1
         try clear p1
         try clear q1
         try clear hx1
         try clear c2
         try clear c2b0
         try clear c2b1
         try clear p2
         try clear c3
         try clear c3b0
         try clear c3b1
         try clear c6
         try clear c6b0
         try clear c7
         try clear c7b0
         try clear c8
         try clear c8b0
         try clear c12
         try clear c12b0
         try clear p13
         try clear q13
         try clear hx13
         try clear hcz11_0
         try clear hcz11_1
         try clear hcz11_2
         try clear hcz11_3
         try clear hcz11_4
         try clear hcz13_0
         try clear hcz13_1
         try clear hcz13_2
         try clear hcz13_3
         try clear hcz13_4
         try clear hcz14_0
         try clear hcz14_1
         try clear hcz14_2
         try clear hcz14_3
         try clear hcz14_4
         try clear hfz11_0
         try clear hfz11_1
         try clear hfz11_2
         try clear hfz11_3
         try clear hfz11_4
         try clear hfz13_0
         try clear hfz13_1
         try clear hfz13_2
         try clear hfz13_3
         try clear hfz13_4
         try clear hfz14_0
         try clear hfz14_1
         try clear hfz14_2
         try clear hfz14_3
         try clear hfz14_4
         try clear hx133_0
         try clear hx133_1
         try clear hx133_2
         try clear hx133_3
         try clear hx133_4
         try clear p133
         try clear p2
         try clear q133
         obtain ⟨kq, x25_8, rfl, HA, HJ8, HO_4, BK134, HB⟩ := hcut
         cases kq with
         | zero => exact absurd HA.out (by simp [json_Depth.j1])
         | succ kj8 =>
          have H := HA.out
          clear HA
          simp only [json_Depth.j1] at H
          by_cases c15 : x25_8 = true
          ·subst c15
           have H1 : (if 0 ≤ ((rd_T48 l0 x12_1).f3) then (if ((rd_T48 l0 x12_1).f3) < (x4_1.length : Int) then (if 0 ≤ x12_1 then (if x12_1 < (x4_1.length : Int) then ((some (x4_1.set (x12_1 : Int).toNat (rd x4_1 ((rd_T48 l0 x12_1).f3)) : List Int)).bind fun y136 => (if ((rd_T48 l0 x12_1).f0) ≥ 6 then ((some (y136.set (x12_1 : Int).toNat (wrap64 ((rd y136 x12_1) + 1)) : List Int)).bind fun y138 => (json_Depth.l0 kj8 (mx x3_1 (rd y138 x12_1)) y138 l0 (l0.length : Int) (wrap64 (x12_1 + 1)))) else (json_Depth.l0 kj8 (mx x3_1 (rd y136 x12_1)) y136 l0 (l0.length : Int) (wrap64 (x12_1 + 1))))) else (none)) else (none)) else (none)) else (none)) = some r := by rw [if_pos rfl] at H; exact H
           clear H
           have H := H1
           clear H1
           by_cases c16 : 0 ≤ ((rd_T48 l0 x12_1).f3)
           ·rw [if_pos c16] at H
            have c16b0 : decide (0 ≤ ((rd_T48 l0 x12_1).f3)) = true := decide_eq_true c16
            clear c16
            by_cases c17 : ((rd_T48 l0 x12_1).f3) < (x4_1.length : Int)
            ·rw [if_pos c17] at H
             have c17b0 : decide (((rd_T48 l0 x12_1).f3) < (x4_1.length : Int)) = true := decide_eq_true c17
             clear c17
             by_cases c18 : 0 ≤ x12_1
             ·rw [if_pos c18] at H
              have c18b0 : decide (0 ≤ x12_1) = true := decide_eq_true c18
              clear c18
              by_cases c19 : x12_1 < (x4_1.length : Int)
              ·rw [if_pos c19] at H
               have c19b0 : decide (x12_1 < (x4_1.length : Int)) = true := decide_eq_true c19
               clear c19
               obtain ⟨y136, hy136⟩ : ∃ y_ : List Int, y_ = (x4_1.set (x12_1 : Int).toNat (rd x4_1 ((rd_T48 l0 x12_1).f3))) := ⟨_, rfl⟩
               replace H : (if ((rd_T48 l0 x12_1).f0) ≥ 6 then ((some (y136.set (x12_1 : Int).toNat (wrap64 ((rd y136 x12_1) + 1)) : List Int)).bind fun y138 => (json_Depth.l0 kj8 (mx x3_1 (rd y138 x12_1)) y138 l0 (l0.length : Int) (wrap64 (x12_1 + 1)))) else (json_Depth.l0 kj8 (mx x3_1 (rd y136 x12_1)) y136 l0 (l0.length : Int) (wrap64 (x12_1 + 1)))) = some r := by first | (rw [hy136]; with_reducible exact H) | (have H2_ := (Option.bind_some _ _).symm.trans H; rw [hy136]; with_reducible exact H2_) | (have H2_ := (Option.bind_some _ _).symm.trans H; with_reducible exact H2_) | with_reducible exact H | (rw [hy136]; exact H) | exact H
               have Ny136 := Aside0.mk hy136
               clear hy136
               by_cases c21 : ((rd_T48 l0 x12_1).f0) ≥ 6
               ·rw [if_pos c21] at H
                have c21b0 : decide (6 ≤ ((rd_T48 l0 x12_1).f0)) = true := decide_eq_true c21
                clear c21
                obtain ⟨y138, hy138⟩ : ∃ y_ : List Int, y_ = (y136.set (x12_1 : Int).toNat (wrap64 ((rd y136 x12_1) + 1))) := ⟨_, rfl⟩
                replace H : (json_Depth.l0 kj8 (mx x3_1 (rd y138 x12_1)) y138 l0 (l0.length : Int) (wrap64 (x12_1 + 1))) = some r := by first | (rw [hy138]; with_reducible exact H) | (have H2_ := (Option.bind_some _ _).symm.trans H; rw [hy138]; with_reducible exact H2_) | (have H2_ := (Option.bind_some _ _).symm.trans H; with_reducible exact H2_) | with_reducible exact H | (rw [hy138]; exact H) | exact H
                have Ny138 := Aside0.mk hy138
                clear hy138
                obtain ⟨ji23, hji23⟩ : ∃ j_ : Int, (mx x3_1 (rd y138 x12_1)) = j_ := ⟨_, rfl⟩
                replace H : (json_Depth.l0 kj8 ji23 y138 l0 (l0.length : Int) (wrap64 (x12_1 + 1))) = some r := by first | (rw [hji23] at H; exact H) | (simp only [hji23] at H ⊢; exact H)
                have hji23_ : (if x3_1 < (rd y138 x12_1) then (rd y138 x12_1) else x3_1) = ji23 := hji23
                have H' := Aside0.mk H
                clear H
                have hcz24_0 : wc.cell? ⟨gb134, 0, none⟩ = some (.int .i64 ((rd_T48 l0 x12_1).f0)) := (blk_cell BK134.out 0).trans rfl
                have hcz24_1 : wc.cell? ⟨gb134, 1, none⟩ = some (.string ((rd_T48 l0 x12_1).f1)) := (blk_cell BK134.out 1).trans rfl
                have hcz24_2 : wc.cell? ⟨gb134, 2, none⟩ = some (.string ((rd_T48 l0 x12_1).f2)) := (blk_cell BK134.out 2).trans rfl
                have hcz24_3 : wc.cell? ⟨gb134, 3, none⟩ = some (.int .i64 ((rd_T48 l0 x12_1).f3)) := (blk_cell BK134.out 3).trans rfl
                have hcz24_4 : wc.cell? ⟨gb134, 4, none⟩ = some (.int .i64 ((rd_T48 l0 x12_1).f4)) := (blk_cell BK134.out 4).trans rfl
                have hfz24_0 := blk_frozen BK134.out 0
                have hfz24_1 := blk_frozen BK134.out 1
                have hfz24_2 := blk_frozen BK134.out 2
                have hfz24_3 := blk_frozen BK134.out 3
                have hfz24_4 := blk_frozen BK134.out 4
                obtain ⟨Ao25, co25, eo25⟩ := Kd.R_slice HO_4.out
                subst eo25
                have p135 : 0 ≤ (((rd_T48 l0 x12_1).f3) : Int) := of_decide_eq_true (by first | (with_reducible assumption) | assumption)
                have q135 : ((rd_T48 l0 x12_1).f3) < (x4_1.length : Int) := of_decide_eq_true (by first | (with_reducible assumption) | assumption)
                obtain ⟨ad135, e135, hx135_0⟩ := Kd.at_int (Kd.R_reads' HO_4.out).2.2 ((rd_T48 l0 x12_1).f3) p135 q135
                cases e135
                replace p135 := eq_true p135
                replace q135 := eq_true q135
                have p20 : 0 ≤ (x12_1 : Int) := of_decide_eq_true (by first | (with_reducible assumption) | assumption)
                have q20 : (x12_1 : Int) < ((x4_1.length : Int) : Int) := of_decide_eq_true (by first | (with_reducible assumption) | assumption)
                obtain ⟨go20, co20, eo20, gb20, gl20, cl20, HG20⟩ := Kd.R_form HO_4.out (by omega)
                (first | cases eo20 | (injection eo20 with ea_ en_ ec_; (first | subst ea_ | (injection ea_ with ea_; subst ea_)); subst ec_; clear en_))
                have GB20 := Aside0.mk gb20
                have GG20 := Aside0.mk HG20
                clear gb20 gl20 HG20
                (first | simp only [add_plain] at hx135_0 | skip)
                obtain ⟨hx20_0, hf20_0⟩ := Kd.R_celln 0 HO_4.out (x12_1 : Int) p20 q20
                replace p20 := eq_true p20
                replace q20 := eq_true q20
                have HP26 := Kd.R_putg HO_4.out (x12_1 : Int) (rd x4_1 ((rd_T48 l0 x12_1).f3))
                go_wp2_with (first | ((with_reducible refine gate_store (t := 3) (p := 33) rfl ?_); refine store_event (t := 3) (p := 33) (v := ?vo_w27) (w1 := (wc.setCell ⟨go20, (x12_1 : Int).toNat, none⟩ (.int .i64 (rd x4_1 ((rd_T48 l0 x12_1).f3))))) ?hg ?ho ?hn ?hr ?_; (case ho => rfl); (case hg => rfl); (case hn => rfl); (case hr => first | (go_simp; done) | (go_simp; rfl)); intro w27 hw; have hg : wc.grownBy w27 (some go20) := (by rw [hw]; exact HP26.2); have hp_ : Kd.R (Kd.int .i64) 3 w27 w.heap.size (fun _ => True) (.slice (some ⟨go20, 0, none⟩) x4_1.length co25) y136 := (by rw [hw, Ny136.out]; exact HP26.1); clear HP26; have n0_ := Aside0.mk (hp_); have n1_ := Aside0.mk (blk_grown (g := gb134) (o := .cells #[.int .i64 ((rd_T48 l0 x12_1).f0), .string ((rd_T48 l0 x12_1).f1), .string ((rd_T48 l0 x12_1).f2), .int .i64 ((rd_T48 l0 x12_1).f3), .int .i64 ((rd_T48 l0 x12_1).f4)] 48 (0, 0)) (by (with_reducible repeat (first | refine blk_drewN ?_ _ | refine blk_drew ?_ | refine blk_alloc ?_ _)); exact BK134.out) hg (Kd.R_ne HO_4.out BK134.out (by decide))); have n2_ := Aside0.mk ((by rw [hw]; exact below_set (HB.out) GB20.out : Below w.heap.size w w27)); clear HO_4; clear BK134; clear HB; have HO_4 := n0_; have BK134 := n1_; have HB := n2_; clear n0_ n1_ n2_; clear hg hw hp_; have hcz28_0 : w27.cell? ⟨gb134, 0, none⟩ = some (.int .i64 ((rd_T48 l0 x12_1).f0)) := (blk_cell BK134.out 0).trans rfl; have hcz28_1 : w27.cell? ⟨gb134, 1, none⟩ = some (.string ((rd_T48 l0 x12_1).f1)) := (blk_cell BK134.out 1).trans rfl; have hcz28_2 : w27.cell? ⟨gb134, 2, none⟩ = some (.string ((rd_T48 l0 x12_1).f2)) := (blk_cell BK134.out 2).trans rfl; have hcz28_3 : w27.cell? ⟨gb134, 3, none⟩ = some (.int .i64 ((rd_T48 l0 x12_1).f3)) := (blk_cell BK134.out 3).trans rfl; have hcz28_4 : w27.cell? ⟨gb134, 4, none⟩ = some (.int .i64 ((rd_T48 l0 x12_1).f4)) := (blk_cell BK134.out 4).trans rfl; have hfz28_0 := blk_frozen BK134.out 0; have hfz28_1 := blk_frozen BK134.out 1; have hfz28_2 := blk_frozen BK134.out 2; have hfz28_3 := blk_frozen BK134.out 3; have hfz28_4 := blk_frozen BK134.out 4; have p137 : 0 ≤ (x12_1 : Int) := of_decide_eq_true (by first | (with_reducible assumption) | assumption); have q137 : x12_1 < (y136.length : Int) := (by have h_ : (x12_1 : Int) < ((x4_1.length : Int) : Int) := of_decide_eq_true (by first | (with_reducible assumption) | assumption); first | (have e_ := (Kd.R_reads' HO_4.out).1; omega) | simpa only [Ny136.out, List.length_set] using h_); have ql137 : ((x12_1 : Int) < ((x4_1.length : Int) : Int)) = True := eq_true (of_decide_eq_true (by first | (with_reducible assumption) | assumption)); obtain ⟨ad137, e137, hx137_0⟩ := Kd.at_int (Kd.R_reads' HO_4.out).2.2 x12_1 p137 q137; obtain rfl : (⟨go20, 0, none⟩ : Addr) = ad137 := (by injection e137); (first | simp only [add_plain] at hx137_0 | simp only [add_at] at hx137_0 | simp only [Addr.add, Nat.zero_add] at hx137_0 | skip); replace p137 := eq_true p137; replace q137 := eq_true q137; have p22 : 0 ≤ (x12_1 : Int) := of_decide_eq_true (by first | (with_reducible assumption) | assumption); have q22 : (x12_1 : Int) < ((x4_1.length : Int) : Int) := of_decide_eq_true (by first | (with_reducible assumption) | assumption); obtain ⟨hx22_0, hf22_0⟩ := Kd.R_celln 0 HO_4.out (x12_1 : Int) p22 q22; replace p22 := eq_true p22; replace q22 := eq_true q22; obtain ⟨hy29_, hz29_⟩ := Kd.R_celln 0 HO_4.out (x12_1 : Int) (of_decide_eq_true (by first | (with_reducible assumption) | assumption)) (of_decide_eq_true (by first | (with_reducible assumption) | assumption)); have HP29 := Kd.R_putg HO_4.out (x12_1 : Int) (wrap64 ((rd y136 x12_1) + 1))) | ((with_reducible refine gate_store (t := 3) (p := 42) rfl ?_); refine store_event (t := 3) (p := 42) (v := ?vo_w30) (w1 := (w27.setCell ⟨go20, (x12_1 : Int).toNat, none⟩ (.int .i64 (wrap64 ((rd y136 x12_1) + 1))))) ?hg ?ho ?hn ?hr ?_; (case ho => rfl); (case hg => rfl); (case hn => rfl); (case hr => first | (go_simp; done) | (go_simp; rfl)); intro w30 hw; have hg : w27.grownBy w30 (some go20) := (by rw [hw]; exact HP29.2); have hp_ : Kd.R (Kd.int .i64) 3 w30 w.heap.size (fun _ => True) (.slice (some ⟨go20, 0, none⟩) x4_1.length co25) y138 := (by rw [hw, Ny138.out]; exact HP29.1); clear HP29; have n0_ := Aside0.mk (hp_); have n1_ := Aside0.mk (blk_grown (g := gb134) (o := .cells #[.int .i64 ((rd_T48 l0 x12_1).f0), .string ((rd_T48 l0 x12_1).f1), .string ((rd_T48 l0 x12_1).f2), .int .i64 ((rd_T48 l0 x12_1).f3), .int .i64 ((rd_T48 l0 x12_1).f4)] 48 (0, 0)) (by (with_reducible repeat (first | refine blk_drewN ?_ _ | refine blk_drew ?_ | refine blk_alloc ?_ _)); exact BK134.out) hg (Kd.R_ne HO_4.out BK134.out (by decide))); have n2_ := Aside0.mk ((by rw [hw]; exact below_set (HB.out) GB20.out : Below w.heap.size w w30)); clear HO_4; clear BK134; clear HB; have HO_4 := n0_; have BK134 := n1_; have HB := n2_; clear n0_ n1_ n2_; clear hg hw hp_; have p139 : 0 ≤ (x12_1 : Int) := of_decide_eq_true (by first | (with_reducible assumption) | assumption); have q139 : x12_1 < (y138.length : Int) := (by have h_ : (x12_1 : Int) < ((x4_1.length : Int) : Int) := of_decide_eq_true (by first | (with_reducible assumption) | assumption); first | (have e_ := (Kd.R_reads' HO_4.out).1; omega) | simpa only [Ny136.out, Ny138.out, List.length_set] using h_); have ql139 : ((x12_1 : Int) < ((x4_1.length : Int) : Int)) = True := eq_true (of_decide_eq_true (by first | (with_reducible assumption) | assumption)); obtain ⟨ad139, e139, hx139_0⟩ := Kd.at_int (Kd.R_reads' HO_4.out).2.2 x12_1 p139 q139; obtain rfl : (⟨go20, 0, none⟩ : Addr) = ad139 := (by injection e139); (first | simp only [add_plain] at hx139_0 | simp only [add_at] at hx139_0 | simp only [Addr.add, Nat.zero_add] at hx139_0 | skip); replace p139 := eq_true p139; replace q139 := eq_true q139))
                go_roundg kj8
                case measure => have := HK1.out; have := HJ8.out; omega
                case rel => exact ⟨(ji23), (y138), (wrap64 (x12_1 + 1)), (by first | rfl | (simp; done) | (simp; exact isEmpty_ne _) | (simp only [← hji23] <;> (first | rfl | simp)) | (simp [*]; done)), (by first | rfl | (simp; done) | (simp [*]; done)), (by first | exact H' | (simp only [hji23]; exact H')), ⟨by have := HK1.out; have := HJ8.out; omega⟩, ⟨by (with_reducible repeat (first | apply Kd.R_alloc | apply Kd.R_drewN | apply Kd.R_drew)); exact HO_4.out⟩, ⟨by repeat (first | (with_reducible first | exact HB.out | apply below_alloc | apply pw_below_drewN | apply below_drew1 | refine below_set ?_ GE134.out) | exact HB.out)⟩⟩
               ·rw [if_neg c21] at H
                have c21b0 : decide (6 ≤ ((rd_T48 l0 x12_1).f0)) = false := decide_eq_false c21
                clear c21
                obtain ⟨ji31, hji31⟩ : ∃ j_ : Int, (mx x3_1 (rd y136 x12_1)) = j_ := ⟨_, rfl⟩
                replace H : (json_Depth.l0 kj8 ji31 y136 l0 (l0.length : Int) (wrap64 (x12_1 + 1))) = some r := by first | (rw [hji31] at H; exact H) | (simp only [hji31] at H ⊢; exact H)
                have hji31_ : (if x3_1 < (rd y136 x12_1) then (rd y136 x12_1) else x3_1) = ji31 := hji31
                have H' := Aside0.mk H
                clear H
                have hcz32_0 : wc.cell? ⟨gb134, 0, none⟩ = some (.int .i64 ((rd_T48 l0 x12_1).f0)) := (blk_cell BK134.out 0).trans rfl
                have hcz32_1 : wc.cell? ⟨gb134, 1, none⟩ = some (.string ((rd_T48 l0 x12_1).f1)) := (blk_cell BK134.out 1).trans rfl
                have hcz32_2 : wc.cell? ⟨gb134, 2, none⟩ = some (.string ((rd_T48 l0 x12_1).f2)) := (blk_cell BK134.out 2).trans rfl
                have hcz32_3 : wc.cell? ⟨gb134, 3, none⟩ = some (.int .i64 ((rd_T48 l0 x12_1).f3)) := (blk_cell BK134.out 3).trans rfl
                have hcz32_4 : wc.cell? ⟨gb134, 4, none⟩ = some (.int .i64 ((rd_T48 l0 x12_1).f4)) := (blk_cell BK134.out 4).trans rfl
                have hfz32_0 := blk_frozen BK134.out 0
                have hfz32_1 := blk_frozen BK134.out 1
                have hfz32_2 := blk_frozen BK134.out 2
                have hfz32_3 := blk_frozen BK134.out 3
                have hfz32_4 := blk_frozen BK134.out 4
                obtain ⟨Ao33, co33, eo33⟩ := Kd.R_slice HO_4.out
                subst eo33
                have p135 : 0 ≤ (((rd_T48 l0 x12_1).f3) : Int) := of_decide_eq_true (by first | (with_reducible assumption) | assumption)
                have q135 : ((rd_T48 l0 x12_1).f3) < (x4_1.length : Int) := of_decide_eq_true (by first | (with_reducible assumption) | assumption)
                obtain ⟨ad135, e135, hx135_0⟩ := Kd.at_int (Kd.R_reads' HO_4.out).2.2 ((rd_T48 l0 x12_1).f3) p135 q135
                cases e135
                replace p135 := eq_true p135
                replace q135 := eq_true q135
                have p20 : 0 ≤ (x12_1 : Int) := of_decide_eq_true (by first | (with_reducible assumption) | assumption)
                have q20 : (x12_1 : Int) < ((x4_1.length : Int) : Int) := of_decide_eq_true (by first | (with_reducible assumption) | assumption)
                obtain ⟨go20, co20, eo20, gb20, gl20, cl20, HG20⟩ := Kd.R_form HO_4.out (by omega)
                (first | cases eo20 | (injection eo20 with ea_ en_ ec_; (first | subst ea_ | (injection ea_ with ea_; subst ea_)); subst ec_; clear en_))
                have GB20 := Aside0.mk gb20
                have GG20 := Aside0.mk HG20
                clear gb20 gl20 HG20
                (first | simp only [add_plain] at hx135_0 | skip)
                obtain ⟨hx20_0, hf20_0⟩ := Kd.R_celln 0 HO_4.out (x12_1 : Int) p20 q20
                replace p20 := eq_true p20
                replace q20 := eq_true q20
                have HP34 := Kd.R_putg HO_4.out (x12_1 : Int) (rd x4_1 ((rd_T48 l0 x12_1).f3))
                go_wp2_with (first | ((with_reducible refine gate_store (t := 3) (p := 33) rfl ?_); refine store_event (t := 3) (p := 33) (v := ?vo_w35) (w1 := (wc.setCell ⟨go20, (x12_1 : Int).toNat, none⟩ (.int .i64 (rd x4_1 ((rd_T48 l0 x12_1).f3))))) ?hg ?ho ?hn ?hr ?_; (case ho => rfl); (case hg => rfl); (case hn => rfl); (case hr => first | (go_simp; done) | (go_simp; rfl)); intro w35 hw; have hg : wc.grownBy w35 (some go20) := (by rw [hw]; exact HP34.2); have hp_ : Kd.R (Kd.int .i64) 3 w35 w.heap.size (fun _ => True) (.slice (some ⟨go20, 0, none⟩) x4_1.length co33) y136 := (by rw [hw, Ny136.out]; exact HP34.1); clear HP34; have n0_ := Aside0.mk (hp_); have n1_ := Aside0.mk (blk_grown (g := gb134) (o := .cells #[.int .i64 ((rd_T48 l0 x12_1).f0), .string ((rd_T48 l0 x12_1).f1), .string ((rd_T48 l0 x12_1).f2), .int .i64 ((rd_T48 l0 x12_1).f3), .int .i64 ((rd_T48 l0 x12_1).f4)] 48 (0, 0)) (by (with_reducible repeat (first | refine blk_drewN ?_ _ | refine blk_drew ?_ | refine blk_alloc ?_ _)); exact BK134.out) hg (Kd.R_ne HO_4.out BK134.out (by decide))); have n2_ := Aside0.mk ((by rw [hw]; exact below_set (HB.out) GB20.out : Below w.heap.size w w35)); clear HO_4; clear BK134; clear HB; have HO_4 := n0_; have BK134 := n1_; have HB := n2_; clear n0_ n1_ n2_; clear hg hw hp_; have hcz36_0 : w35.cell? ⟨gb134, 0, none⟩ = some (.int .i64 ((rd_T48 l0 x12_1).f0)) := (blk_cell BK134.out 0).trans rfl; have hcz36_1 : w35.cell? ⟨gb134, 1, none⟩ = some (.string ((rd_T48 l0 x12_1).f1)) := (blk_cell BK134.out 1).trans rfl; have hcz36_2 : w35.cell? ⟨gb134, 2, none⟩ = some (.string ((rd_T48 l0 x12_1).f2)) := (blk_cell BK134.out 2).trans rfl; have hcz36_3 : w35.cell? ⟨gb134, 3, none⟩ = some (.int .i64 ((rd_T48 l0 x12_1).f3)) := (blk_cell BK134.out 3).trans rfl; have hcz36_4 : w35.cell? ⟨gb134, 4, none⟩ = some (.int .i64 ((rd_T48 l0 x12_1).f4)) := (blk_cell BK134.out 4).trans rfl; have hfz36_0 := blk_frozen BK134.out 0; have hfz36_1 := blk_frozen BK134.out 1; have hfz36_2 := blk_frozen BK134.out 2; have hfz36_3 := blk_frozen BK134.out 3; have hfz36_4 := blk_frozen BK134.out 4; have p140 : 0 ≤ (x12_1 : Int) := of_decide_eq_true (by first | (with_reducible assumption) | assumption); have q140 : x12_1 < (y136.length : Int) := (by have h_ : (x12_1 : Int) < ((x4_1.length : Int) : Int) := of_decide_eq_true (by first | (with_reducible assumption) | assumption); first | (have e_ := (Kd.R_reads' HO_4.out).1; omega) | simpa only [Ny136.out, List.length_set] using h_); have ql140 : ((x12_1 : Int) < ((x4_1.length : Int) : Int)) = True := eq_true (of_decide_eq_true (by first | (with_reducible assumption) | assumption)); obtain ⟨ad140, e140, hx140_0⟩ := Kd.at_int (Kd.R_reads' HO_4.out).2.2 x12_1 p140 q140; obtain rfl : (⟨go20, 0, none⟩ : Addr) = ad140 := (by injection e140); (first | simp only [add_plain] at hx140_0 | simp only [add_at] at hx140_0 | simp only [Addr.add, Nat.zero_add] at hx140_0 | skip); replace p140 := eq_true p140; replace q140 := eq_true q140))
                go_roundg kj8
                case measure => have := HK1.out; have := HJ8.out; omega
                case rel => exact ⟨(ji31), (y136), (wrap64 (x12_1 + 1)), (by first | rfl | (simp; done) | (simp; exact isEmpty_ne _) | (simp only [← hji31] <;> (first | rfl | simp)) | (simp [*]; done)), (by first | rfl | (simp; done) | (simp [*]; done)), (by first | exact H' | (simp only [hji31]; exact H')), ⟨by have := HK1.out; have := HJ8.out; omega⟩, ⟨by (with_reducible repeat (first | apply Kd.R_alloc | apply Kd.R_drewN | apply Kd.R_drew)); exact HO_4.out⟩, ⟨by repeat (first | (with_reducible first | exact HB.out | apply below_alloc | apply pw_below_drewN | apply below_drew1 | refine below_set ?_ GE134.out) | exact HB.out)⟩⟩
              ·rw [if_neg c19] at H
               exact absurd H (by simp)
             ·rw [if_neg c18] at H
              exact absurd H (by simp)
            ·rw [if_neg c17] at H
             exact absurd H (by simp)
           ·rw [if_neg c16] at H
            exact absurd H (by simp)
          ·replace c15 := Bool.eq_false_iff.mpr c15
           subst c15
           have H1 : (if ((rd_T48 l0 x12_1).f0) ≥ 6 then (if 0 ≤ x12_1 then (if x12_1 < (x4_1.length : Int) then ((some (x4_1.set (x12_1 : Int).toNat (wrap64 ((rd x4_1 x12_1) + 1)) : List Int)).bind fun y142 => (json_Depth.l0 kj8 (mx x3_1 (rd y142 x12_1)) y142 l0 (l0.length : Int) (wrap64 (x12_1 + 1)))) else (none)) else (none)) else (if 0 ≤ x12_1 then (if x12_1 < (x4_1.length : Int) then (json_Depth.l0 kj8 (mx x3_1 (rd x4_1 x12_1)) x4_1 l0 (l0.length : Int) (wrap64 (x12_1 + 1))) else (none)) else (none))) = some r := by rw [if_neg (show ¬ (false = true) by decide)] at H; exact H
           clear H
           have H := H1
           clear H1
           by_cases c37 : ((rd_T48 l0 x12_1).f0) ≥ 6
           ·rw [if_pos c37] at H
            have c37b0 : decide (6 ≤ ((rd_T48 l0 x12_1).f0)) = true := decide_eq_true c37
            clear c37
            by_cases c38 : 0 ≤ x12_1
            ·rw [if_pos c38] at H
             have c38b0 : decide (0 ≤ x12_1) = true := decide_eq_true c38
             clear c38
             by_cases c39 : x12_1 < (x4_1.length : Int)
             ·rw [if_pos c39] at H
              have c39b0 : decide (x12_1 < (x4_1.length : Int)) = true := decide_eq_true c39
              clear c39
              obtain ⟨y142, hy142⟩ : ∃ y_ : List Int, y_ = (x4_1.set (x12_1 : Int).toNat (wrap64 ((rd x4_1 x12_1) + 1))) := ⟨_, rfl⟩
              replace H : (json_Depth.l0 kj8 (mx x3_1 (rd y142 x12_1)) y142 l0 (l0.length : Int) (wrap64 (x12_1 + 1))) = some r := by first | (rw [hy142]; with_reducible exact H) | (have H2_ := (Option.bind_some _ _).symm.trans H; rw [hy142]; with_reducible exact H2_) | (have H2_ := (Option.bind_some _ _).symm.trans H; with_reducible exact H2_) | with_reducible exact H | (rw [hy142]; exact H) | exact H
              have Ny142 := Aside0.mk hy142
              clear hy142
              obtain ⟨ji41, hji41⟩ : ∃ j_ : Int, (mx x3_1 (rd y142 x12_1)) = j_ := ⟨_, rfl⟩
              replace H : (json_Depth.l0 kj8 ji41 y142 l0 (l0.length : Int) (wrap64 (x12_1 + 1))) = some r := by first | (rw [hji41] at H; exact H) | (simp only [hji41] at H ⊢; exact H)
              have hji41_ : (if x3_1 < (rd y142 x12_1) then (rd y142 x12_1) else x3_1) = ji41 := hji41
              have H' := Aside0.mk H
              clear H
              have hcz42_0 : wc.cell? ⟨gb134, 0, none⟩ = some (.int .i64 ((rd_T48 l0 x12_1).f0)) := (blk_cell BK134.out 0).trans rfl
              have hcz42_1 : wc.cell? ⟨gb134, 1, none⟩ = some (.string ((rd_T48 l0 x12_1).f1)) := (blk_cell BK134.out 1).trans rfl
              have hcz42_2 : wc.cell? ⟨gb134, 2, none⟩ = some (.string ((rd_T48 l0 x12_1).f2)) := (blk_cell BK134.out 2).trans rfl
              have hcz42_3 : wc.cell? ⟨gb134, 3, none⟩ = some (.int .i64 ((rd_T48 l0 x12_1).f3)) := (blk_cell BK134.out 3).trans rfl
              have hcz42_4 : wc.cell? ⟨gb134, 4, none⟩ = some (.int .i64 ((rd_T48 l0 x12_1).f4)) := (blk_cell BK134.out 4).trans rfl
              have hfz42_0 := blk_frozen BK134.out 0
              have hfz42_1 := blk_frozen BK134.out 1
              have hfz42_2 := blk_frozen BK134.out 2
              have hfz42_3 := blk_frozen BK134.out 3
              have hfz42_4 := blk_frozen BK134.out 4
              obtain ⟨Ao43, co43, eo43⟩ := Kd.R_slice HO_4.out
              subst eo43
              have p141 : 0 ≤ (x12_1 : Int) := of_decide_eq_true (by first | (with_reducible assumption) | assumption)
              have q141 : x12_1 < (x4_1.length : Int) := of_decide_eq_true (by first | (with_reducible assumption) | assumption)
              obtain ⟨ad141, e141, hx141_0⟩ := Kd.at_int (Kd.R_reads' HO_4.out).2.2 x12_1 p141 q141
              cases e141
              replace p141 := eq_true p141
              replace q141 := eq_true q141
              have p40 : 0 ≤ (x12_1 : Int) := of_decide_eq_true (by first | (with_reducible assumption) | assumption)
              have q40 : (x12_1 : Int) < ((x4_1.length : Int) : Int) := of_decide_eq_true (by first | (with_reducible assumption) | assumption)
              obtain ⟨go40, co40, eo40, gb40, gl40, cl40, HG40⟩ := Kd.R_form HO_4.out (by omega)
              (first | cases eo40 | (injection eo40 with ea_ en_ ec_; (first | subst ea_ | (injection ea_ with ea_; subst ea_)); subst ec_; clear en_))
              have GB40 := Aside0.mk gb40
              have GG40 := Aside0.mk HG40
              clear gb40 gl40 HG40
              (first | simp only [add_plain] at hx141_0 | skip)
              obtain ⟨hx40_0, hf40_0⟩ := Kd.R_celln 0 HO_4.out (x12_1 : Int) p40 q40
              replace p40 := eq_true p40
              replace q40 := eq_true q40
              have HP44 := Kd.R_putg HO_4.out (x12_1 : Int) (wrap64 ((rd x4_1 x12_1) + 1))
              go_wp2_with (first | ((with_reducible refine gate_store (t := 3) (p := 42) rfl ?_); refine store_event (t := 3) (p := 42) (v := ?vo_w45) (w1 := (wc.setCell ⟨go40, (x12_1 : Int).toNat, none⟩ (.int .i64 (wrap64 ((rd x4_1 x12_1) + 1))))) ?hg ?ho ?hn ?hr ?_; (case ho => rfl); (case hg => rfl); (case hn => rfl); (case hr => first | (go_simp; done) | (go_simp; rfl)); intro w45 hw; have hg : wc.grownBy w45 (some go40) := (by rw [hw]; exact HP44.2); have hp_ : Kd.R (Kd.int .i64) 3 w45 w.heap.size (fun _ => True) (.slice (some ⟨go40, 0, none⟩) x4_1.length co43) y142 := (by rw [hw, Ny142.out]; exact HP44.1); clear HP44; have n0_ := Aside0.mk (hp_); have n1_ := Aside0.mk (blk_grown (g := gb134) (o := .cells #[.int .i64 ((rd_T48 l0 x12_1).f0), .string ((rd_T48 l0 x12_1).f1), .string ((rd_T48 l0 x12_1).f2), .int .i64 ((rd_T48 l0 x12_1).f3), .int .i64 ((rd_T48 l0 x12_1).f4)] 48 (0, 0)) (by (with_reducible repeat (first | refine blk_drewN ?_ _ | refine blk_drew ?_ | refine blk_alloc ?_ _)); exact BK134.out) hg (Kd.R_ne HO_4.out BK134.out (by decide))); have n2_ := Aside0.mk ((by rw [hw]; exact below_set (HB.out) GB40.out : Below w.heap.size w w45)); clear HO_4; clear BK134; clear HB; have HO_4 := n0_; have BK134 := n1_; have HB := n2_; clear n0_ n1_ n2_; clear hg hw hp_; have p143 : 0 ≤ (x12_1 : Int) := of_decide_eq_true (by first | (with_reducible assumption) | assumption); have q143 : x12_1 < (y142.length : Int) := (by have h_ : (x12_1 : Int) < ((x4_1.length : Int) : Int) := of_decide_eq_true (by first | (with_reducible assumption) | assumption); first | (have e_ := (Kd.R_reads' HO_4.out).1; omega) | simpa only [Ny142.out, List.length_set] using h_); have ql143 : ((x12_1 : Int) < ((x4_1.length : Int) : Int)) = True := eq_true (of_decide_eq_true (by first | (with_reducible assumption) | assumption)); obtain ⟨ad143, e143, hx143_0⟩ := Kd.at_int (Kd.R_reads' HO_4.out).2.2 x12_1 p143 q143; obtain rfl : (⟨go40, 0, none⟩ : Addr) = ad143 := (by injection e143); (first | simp only [add_plain] at hx143_0 | simp only [add_at] at hx143_0 | simp only [Addr.add, Nat.zero_add] at hx143_0 | skip); replace p143 := eq_true p143; replace q143 := eq_true q143))
              go_roundg kj8
              case measure => have := HK1.out; have := HJ8.out; omega
              case rel => exact ⟨(ji41), (y142), (wrap64 (x12_1 + 1)), (by first | rfl | (simp; done) | (simp; exact isEmpty_ne _) | (simp only [← hji41] <;> (first | rfl | simp)) | (simp [*]; done)), (by first | rfl | (simp; done) | (simp [*]; done)), (by first | exact H' | (simp only [hji41]; exact H')), ⟨by have := HK1.out; have := HJ8.out; omega⟩, ⟨by (with_reducible repeat (first | apply Kd.R_alloc | apply Kd.R_drewN | apply Kd.R_drew)); exact HO_4.out⟩, ⟨by repeat (first | (with_reducible first | exact HB.out | apply below_alloc | apply pw_below_drewN | apply below_drew1 | refine below_set ?_ GE134.out) | exact HB.out)⟩⟩
             ·rw [if_neg c39] at H
              exact absurd H (by simp)
            ·rw [if_neg c38] at H
             exact absurd H (by simp)
           ·rw [if_neg c37] at H
            have c37b0 : decide (6 ≤ ((rd_T48 l0 x12_1).f0)) = false := decide_eq_false c37
            clear c37
            by_cases c46 : 0 ≤ x12_1
            ·rw [if_pos c46] at H
             have c46b0 : decide (0 ≤ x12_1) = true := decide_eq_true c46
             clear c46
             by_cases c47 : x12_1 < (x4_1.length : Int)
             ·rw [if_pos c47] at H
              have c47b0 : decide (x12_1 < (x4_1.length : Int)) = true := decide_eq_true c47
              clear c47
              obtain ⟨ji48, hji48⟩ : ∃ j_ : Int, (mx x3_1 (rd x4_1 x12_1)) = j_ := ⟨_, rfl⟩
              replace H : (json_Depth.l0 kj8 ji48 x4_1 l0 (l0.length : Int) (wrap64 (x12_1 + 1))) = some r := by first | (rw [hji48] at H; exact H) | (simp only [hji48] at H ⊢; exact H)
              have hji48_ : (if x3_1 < (rd x4_1 x12_1) then (rd x4_1 x12_1) else x3_1) = ji48 := hji48
              have H' := Aside0.mk H
              clear H
              have hcz49_0 : wc.cell? ⟨gb134, 0, none⟩ = some (.int .i64 ((rd_T48 l0 x12_1).f0)) := (blk_cell BK134.out 0).trans rfl
              have hcz49_1 : wc.cell? ⟨gb134, 1, none⟩ = some (.string ((rd_T48 l0 x12_1).f1)) := (blk_cell BK134.out 1).trans rfl
              have hcz49_2 : wc.cell? ⟨gb134, 2, none⟩ = some (.string ((rd_T48 l0 x12_1).f2)) := (blk_cell BK134.out 2).trans rfl
              have hcz49_3 : wc.cell? ⟨gb134, 3, none⟩ = some (.int .i64 ((rd_T48 l0 x12_1).f3)) := (blk_cell BK134.out 3).trans rfl
              have hcz49_4 : wc.cell? ⟨gb134, 4, none⟩ = some (.int .i64 ((rd_T48 l0 x12_1).f4)) := (blk_cell BK134.out 4).trans rfl
              have hfz49_0 := blk_frozen BK134.out 0
              have hfz49_1 := blk_frozen BK134.out 1
              have hfz49_2 := blk_frozen BK134.out 2
              have hfz49_3 := blk_frozen BK134.out 3
              have hfz49_4 := blk_frozen BK134.out 4
              obtain ⟨Ao50, co50, eo50⟩ := Kd.R_slice HO_4.out
              subst eo50
              have p144 : 0 ≤ (x12_1 : Int) := of_decide_eq_true (by first | (with_reducible assumption) | assumption)
              have q144 : x12_1 < (x4_1.length : Int) := of_decide_eq_true (by first | (with_reducible assumption) | assumption)
              obtain ⟨ad144, e144, hx144_0⟩ := Kd.at_int (Kd.R_reads' HO_4.out).2.2 x12_1 p144 q144
              cases e144
              replace p144 := eq_true p144
              replace q144 := eq_true q144
              go_wp2
              go_roundg kj8
              case measure => have := HK1.out; have := HJ8.out; omega
              case rel => exact ⟨(ji48), (x4_1), (wrap64 (x12_1 + 1)), (by first | rfl | (simp; done) | (simp; exact isEmpty_ne _) | (simp only [← hji48] <;> (first | rfl | simp)) | (simp [*]; done)), (by first | rfl | (simp; done) | (simp [*]; done)), (by first | exact H' | (simp only [hji48]; exact H')), ⟨by have := HK1.out; have := HJ8.out; omega⟩, ⟨by (with_reducible repeat (first | apply Kd.R_alloc | apply Kd.R_drewN | apply Kd.R_drew)); exact HO_4.out⟩, ⟨by repeat (first | (with_reducible first | exact HB.out | apply below_alloc | apply pw_below_drewN | apply below_drew1 | refine below_set ?_ GE134.out) | exact HB.out)⟩⟩
             ·rw [if_neg c47] at H
              exact absurd H (by simp)
            ·rw [if_neg c46] at H
             exact absurd H (by simp)
       ·rw [if_neg c8] at H
        exact absurd H (by simp)
      ·rw [if_neg c7] at H
       exact absurd H (by simp)
     ·rw [if_neg c6] at H
      have c6b0 : decide (x12_1 < (l0.length : Int)) = false := decide_eq_false c6
      clear c6
      obtain rfl := Option.some.inj H
      go_wp2
      go_ret
      exact ⟨by first | rfl | (simp [errW_none, errW_some] <;> rfl) | (simp [*, errW_none, errW_some] <;> rfl), by repeat (first | (with_reducible first | exact HB.out | apply below_alloc | apply pw_below_drewN | apply below_drew1) | exact HB.out)⟩
  ·rw [if_neg c3] at H
   exact absurd H (by simp)
 ·rw [if_neg c2] at H
  exact absurd H (by simp)
end Go.Proofs.YtfocognhcljhpaaGreatDoor.PRef
namespace Go.Proofs.YtfocognhcljhpaaGreatDoor
open Go.RowKit Go.Proofs.YtfocognhcljhpaaGreatDoorW.PrintWords Go.Proofs.YtfocognhcljhpaaGreatDoorW.PrintMore Go.Proofs.YtfocognhcljhpaaGreatDoor.PPrintRows Go.Proofs.YtfocognhcljhpaaGreatDoor.Tree
def limitsV (l : List Node) (d : Int) : Int := if 8 < d then 8 else if 256 < l.length then 6 else if twGo l [] l = true then 10 else 0
set_option maxRecDepth 100000 in
set_option maxHeartbeats 2000000 in
theorem limits_any (A : Option Addr) (c : Nat) (l : List Node) (d : Int) (w : World) (hr : Kd.C kN w A l.length l) (hc : l.length ≤ c) (hl : l.length ≤ 900000) (hok : ∀ n ∈ l, NodeOk l.length n) :
  Calls Tryz.prog 59 #[.slice A l.length c, .int .i64 d] w fun e w' => e = .returned (.int .i64 (limitsV l d)) ∧ Below w.heap.size w w' := by
 have HT := Lib.hid (fun W (hW : Kd.C kN W A l.length l) => twice_any A c l W hW hc hl hok)
 have HR := Lib.hid hr
 clear hr hok
 unfold limitsV
 by_cases h1 : 8 < d
 ·rw [if_pos h1]
  have k1 : decide (8 < d) = true := decide_eq_true h1
  go_enter Tryz.func59, Tryz.ntmps59
  go_wp2_with fail
  go_ret
  exact ⟨rfl, Below.refl _ _⟩
 ·rw [if_neg h1]
  have k1 : decide (8 < d) = false := decide_eq_false h1
  by_cases h2 : 256 < l.length
  ·rw [if_pos h2]
   have k2 : decide ((256 : Int) < (l.length : Int)) = true := decide_eq_true (by omega)
   have k3 : decide (256 < l.length) = true := decide_eq_true (by omega)
   go_enter Tryz.func59, Tryz.ntmps59
   go_wp2_with fail
   go_ret
   exact ⟨rfl, Below.refl _ _⟩
  ·rw [if_neg h2]
   have k2 : decide ((256 : Int) < (l.length : Int)) = false := decide_eq_false (by omega)
   have k3 : decide (256 < l.length) = false := decide_eq_false (by omega)
   cases ht : twGo l [] l with
   | true =>
    rw [ht] at HT
    rw [if_pos rfl]
    clear ht
    go_enter Tryz.func59, Tryz.ntmps59
    go_wp2_with (go_at_call 85; go_must (refine (HT.out _ HR.out).mono ?_); rintro e w1 ⟨rfl, hb⟩)
    go_ret
    exact ⟨rfl, hb⟩
   | false =>
    rw [ht] at HT
    rw [if_neg (by decide)]
    clear ht
    go_enter Tryz.func59, Tryz.ntmps59
    go_wp2_with (go_at_call 85; go_must (refine (HT.out _ HR.out).mono ?_); rintro e w1 ⟨rfl, hb⟩)
    go_ret
    exact ⟨rfl, hb⟩
def badTexts (l : List Node) : Bool := l.any fun n => !validL n.f1.data.toList || !validL n.f2.data.toList
def checkV (l : List Node) (lv : Bool) (dv : Int) : Int := if lv = true then (if badTexts l = true then 9 else limitsV l dv) else 4
set_option maxRecDepth 100000 in
set_option maxHeartbeats 2000000 in
theorem check_any (A : Option Addr) (c : Nat) (l : List Node) (lv : Bool) (dv : Int) (w : World) (hr : Kd.C kN w A l.length l) (hc : l.length ≤ c) (hl : l.length ≤ 900000) (hok : lv = true → ∀ n ∈ l, NodeOk l.length n)
  (hlv : ∃ k, PRef.json_laid.f k l = some lv) (hdv : lv = true → ∃ k, PRef.json_Depth.f k l = some dv) :
  Calls Tryz.prog 21 #[.slice A l.length c] w fun e w' => e = .returned (.int .i64 (checkV l lv dv)) ∧ Below w.heap.size w w' := by
 obtain ⟨k1, hk1⟩ := hlv
 have HL := Lib.hid (PRef.json_laid.calls k1 A c l lv w hr hc hk1)
 have HR := Lib.hid hr
 clear hr hk1
 unfold checkV
 cases lv with
 | false =>
  rw [if_neg (by decide)]
  go_enter Tryz.func21, Tryz.ntmps21
  go_wp2_with (go_at_call 57; go_must (refine HL.out.mono ?_); rintro e w1 ⟨rfl, hb⟩)
  go_ret
  exact ⟨rfl, hb⟩
 | true =>
  rw [if_pos rfl]
  obtain ⟨k2, hk2⟩ := hdv rfl
  have HO := Lib.hid (hok rfl)
  have HD := Lib.hid (fun W hW => PRef.json_Depth.calls k2 A c l dv W hW hc hk2)
  have HM := Lib.hid (fun W hW => limits_any A c l dv W hW hc hl HO.out)
  clear hk2 hdv hok
  obtain ⟨res, hres⟩ : ∃ r, (if badTexts l = true then (9 : Int) else limitsV l dv) = r := ⟨_, rfl⟩
  rw [hres]
  have HRS := Lib.hid hres
  clear hres
  go_enter Tryz.func21, Tryz.ntmps21
  go_wp2_with (go_at_call 57; go_must (refine HL.out.mono ?_); rintro e w1 ⟨rfl, hb⟩)
  go_loopw [10] (fun vi wr => ∃ (k : Nat), k ≤ l.length ∧ vi = .int .i64 k ∧ badTexts (l.take k) = false ∧ Below w.heap.size w wr) (fun vi _ => l.length - (intOf vi).toNat)
  case atStart => exact ⟨0, Nat.zero_le _, rfl, rfl, hb⟩
  case round =>
   obtain ⟨k, hk, rfl, hT, hB⟩ := hrel
   have B := Lib.hid hB
   have T := Lib.hid hT
   have hsz := hB.size
   clear hT
   by_cases hlt : k < l.length
   ·have k9 : decide ((k : Int) < (l.length : Int)) = true := decide_eq_true (by omega)
    obtain ⟨ad, rfl, c0, c1, c2, c3, c4⟩ := node_at (Kd.C_below HR.out hB) k hlt
    obtain ⟨o1, o2, o3, o4⟩ := HO.out l[k] (List.getElem_mem hlt)
    have hmem : l[k] ∈ l := List.getElem_mem hlt
    have htk : l.take (k + 1) = l.take k ++ [l[k]] := List.take_succ_eq_append_getElem hlt
    have hbt : badTexts (l.take (k + 1)) = (!validL l[k].f1.data.toList || !validL l[k].f2.data.toList) := by
     rw [htk]
     have := T.out
     unfold badTexts at this ⊢
     rw [List.any_append, this]
     simp
    have hbad : (!validL l[k].f1.data.toList || !validL l[k].f2.data.toList) = true → badTexts l = true := fun h => by
     unfold badTexts
     rw [List.any_eq_true]
     exact ⟨_, hmem, h⟩
    have BT := Lib.hid hbt
    have BD := Lib.hid hbad
    clear hbt hbad htk hmem hB
    generalize l[k] = x at *
    have HV1 := Lib.hid (fun W => valid_any x.f1 o3 W)
    have HV2 := Lib.hid (fun W => valid_any x.f2 o4 W)
    obtain ⟨b, hb0⟩ : ∃ b : Nat, b = wr.heap.size := ⟨_, rfl⟩
    have F0 := Lib.hid (show (wr.alloc (.cells #[.int .i64 x.f0, .string x.f1, .string x.f2, .int .i64 x.f3, .int .i64 x.f4] 48)).heap[wr.heap.size]? = _ from blk_new _ _)
    cases hv1 : validL x.f1.data.toList with
    | false =>
     rw [hv1] at HV1 BD
     have h9 := BD.out (by simp)
     obtain rfl : res = 9 := by have := HRS.out; rw [if_pos h9] at this; exact this.symm
     clear hv1 h9 HM HD hb0
     go_wp2_with (go_at_call 58; go_must (refine (HV1.out _).mono ?_); rintro e w2 ⟨rfl, hb2⟩)
     go_ret
     exact ⟨rfl, below_step (below_alloc B.out _) hb2⟩
    | true =>
     rw [hv1] at HV1 BD BT
     cases hv2 : validL x.f2.data.toList with
     | false =>
      rw [hv2] at HV2 BD
      have h9 := BD.out (by simp)
      obtain rfl : res = 9 := by have := HRS.out; rw [if_pos h9] at this; exact this.symm
      clear hv1 h9 hv2 HM HD hb0
      go_wp2_with (go_at_call 58; first | ((with_reducible refine (HV1.out _).mono ?_); rintro e w2 ⟨rfl, hb2⟩; have F1 := blk_below F0.out hb2; have F1_2 := blkc F1 2 rfl) | ((with_reducible refine (HV2.out _).mono ?_); rintro e w3 ⟨rfl, hb3⟩))
      go_ret
      exact ⟨rfl, below_step (below_step (below_alloc B.out _) hb2) hb3⟩
     | true =>
      rw [hv2] at HV2 BT
      clear hv1 hv2 HM HD hb0
      go_wp2_with (go_at_call 58; first | ((with_reducible refine (HV1.out _).mono ?_); rintro e w2 ⟨rfl, hb2⟩; have F1 := blk_below F0.out hb2; have F1_2 := blkc F1 2 rfl) | ((with_reducible refine (HV2.out _).mono ?_); rintro e w3 ⟨rfl, hb3⟩))
      go_roundw
      case rel => exact ⟨k + 1, by omega, by go_num, BT.out, below_step (below_step (below_alloc B.out _) hb2) hb3⟩
      case measure => simp [intOf]; omega
   ·obtain rfl : k = l.length := by omega
    have hbt := T.out
    rw [List.take_of_length_le (Nat.le_refl _)] at hbt
    obtain rfl : limitsV l dv = res := by have := HRS.out; rw [hbt, if_neg (by decide)] at this; exact this
    clear hbt hB
    go_wp2_with (first | (go_at_call 60; go_must (refine (HD.out _ (Kd.C_below HR.out B.out)).mono ?_); rintro e w2 ⟨rfl, hb2⟩) | (go_at_call 59; go_must (refine (HM.out _ (Kd.C_below HR.out (below_step B.out hb2))).mono ?_); rintro e w3 ⟨rfl, hb3⟩))
    go_ret
    exact ⟨rfl, below_step (below_step B.out hb2) hb3⟩
end Go.Proofs.YtfocognhcljhpaaGreatDoor
namespace Go.Proofs.YtfocognhcljhpaaGreatDoor
open Go.RowKit Go.Shelf Go.Proofs.YtfocognhcljhpaaGreatDoorW.PrintWords Go.Proofs.YtfocognhcljhpaaGreatDoorW.PrintMore Go.Proofs.YtfocognhcljhpaaGreatDoor.PPrintRows Go.Proofs.YtfocognhcljhpaaGreatDoor.Tree
attribute [local go_sem] Oper.semAt_some
theorem NKp.refl (base : Nat) (ad : Option Addr) (A : World) : NKp base ad A A := ⟨Nat.le_refl _, fun _ _ _ _ h _ => h, fun _ _ => rfl⟩
theorem NKp.trans {base : Nat} {ad : Option Addr} {A B C : World} (h : NKp base ad A B) (k : NKp base ad B C) : NKp base ad A C :=
 ⟨Nat.le_trans h.1 k.1, fun j cs T fr hj hc => k.2.1 j cs T fr (h.2.1 j cs T fr hj hc) hc, fun a ha => (k.2.2 a ha).trans (h.2.2 a ha)⟩
theorem NKp.putObj {base l : Nat} {ad : Option Addr} {W : World} {o o' : Obj} (hb : base ≤ l) (hAb : ∀ a, ad = some a → a.block < base) (hl : W.heap[l]? = some o) (hc : o.isCells = false) : NKp base ad W (W.putObj l o') := by
 refine ⟨by simp [World.putObj], fun k cs T fr hk _ => ?_, fun a ha => World.putObj_heap_other (by have := hAb a ha; omega)⟩
 refine (World.putObj_heap_other (fun e => ?_)).trans hk
 rw [e, hl] at hk
 injection hk with hk
 subst hk
 cases hc
theorem bldF_kept {B b : Nat} {bs : List Value} {w w' : World} (h : BldF B b bs w) (hk : ∀ (k : Nat) (cs : Array Value) (T : TypeId) (fr : Nat × Nat), w.heap[k]? = some (.cells cs T fr) → (T = 83 ∨ T = 5) → w'.heap[k]? = some (.cells cs T fr)) : BldF B b bs w' := by
 rcases h with ⟨hB, v, hb, ⟨hl, ho⟩, hne⟩ | ⟨hB, v, hb, ⟨hl, ho⟩, hne⟩
 ·refine .inl ⟨hB, v, hk _ _ _ _ hb (.inl rfl), ⟨hl, ?_⟩, hne⟩
  rcases ho with h | ⟨g, cap, cur, fz, hv, hg, hh, rest⟩
  ·exact .inl h
  ·exact .inr ⟨g, cap, cur, fz, hv, hg, hk _ _ _ _ hh (.inr rfl), rest⟩
 ·refine .inr ⟨hB, v, hk _ _ _ _ hb (.inl rfl), ⟨hl, ?_⟩, hne⟩
  rcases ho with h | ⟨g, cap, cur, fz, hv, hg, hh, rest⟩
  ·exact .inl h
  ·exact .inr ⟨g, cap, cur, fz, hv, hg, hk _ _ _ _ hh (.inr rfl), rest⟩
theorem ownFrom_bld {β : Type} (N B b : Nat) (f : β → List Value) : OwnFrom N (fun s W => BldF B b (f s) W) := fun s A C row hs hg hr =>
 bldF_kept hs fun k cs T fr hk _ => (hg.block k (blk_lt hk) (fun e => by obtain ⟨_, o, ho, hc⟩ := hr k e.symm; rw [hk] at ho; cases ho; cases hc)).trans hk
theorem bldK_nkp {B b base : Nat} {ad : Option Addr} {W W' : World} (h : BldK B b W W') (hbb : W.heap[b]? = none ∨ ∃ cs fr, W.heap[b]? = some (.cells cs 83 fr)) (hAB : ∀ a, ad = some a → a.block < B) : NKp base ad W W' := by
 refine ⟨h.1.size, fun k cs T fr hk hT => h.2 k _ hk (fun e => ?_) (fun c fz e => ?_), fun a ha => h.1.block a.block (hAB a ha)⟩
 ·injection e with e
  subst e
  rcases hbb with hbb | ⟨cs', fr', hbb⟩
  ·rw [hbb] at hk; cases hk
  ·rw [hbb] at hk
   injection hk with hk
   injection hk with e1 e2 e3
   rcases hT with h | h | h <;> simp [← e2] at h
 ·injection e with e1 e2 e3
  rcases hT with h | h | h <;> simp [e2] at h
theorem bldK_keeps {N B b : Nat} {W W' : World} (h : BldK B b W W') (hbb : ∃ cs fr, W.heap[b]? = some (.cells cs 83 fr)) : KeepsFrom N W W' := by
 refine ⟨h.1.size, fun k o _ hk ho => h.2 k o hk (fun e => ?_) (fun c fz e => by rw [e] at ho; cases ho)⟩
 injection e with e
 subst e
 obtain ⟨cs, fr, hbb⟩ := hbb
 rw [hbb] at hk
 injection hk with hk
 subst hk
 cases ho
theorem bld_blk {B b : Nat} {bs : List Value} {w : World} (h : BldF B b bs w) : ∃ cs fr, w.heap[b]? = some (.cells cs 83 fr) := by
 rcases h with ⟨_, v, hb, _⟩ | ⟨_, v, hb, _⟩ <;> exact ⟨_, _, hb⟩
def catL (xs : List ByteArray) : Bs := xs.flatMap fun x => x.data.toList
theorem catL_snoc (xs : List ByteArray) (x : ByteArray) : catL (xs ++ [x]) = catL xs ++ x.data.toList := by simp [catL]
theorem catL_pre {xs ys : List ByteArray} (h : xs <+: ys) : (catL xs).length ≤ (catL ys).length := by
 obtain ⟨t, rfl⟩ := h
 simp [catL]
theorem pieces_any (A : Option Addr) (n c : Nat) (w : World) :
  Calls Tryz.prog 19 #[.slice A n c] w fun e w' => e = .returned (.func (.func 52) #[] #[.pointer (some ⟨w.heap.size, 0, none⟩)]) ∧ w' = w.alloc (.cells #[.slice A n c] 22) := by
 go_enter Tryz.func19, Tryz.ntmps19
 go_wp2
 go_ret
 exact ⟨rfl, rfl⟩
def strEnc (x : ByteArray) : Array Value := #[.string x]
structure RowOk (l : List Node) : Prop where
 len : l.length ≤ 100000
 ok : ∀ n ∈ l, NodeOk l.length n
 txt : ∀ n ∈ l, n.f1.size ≤ 100000 ∧ n.f2.size ≤ 100000
 en : ∀ n ∈ l, n.f4 ≤ l.length ∧ -1000000000 ≤ n.f4
def pcsL (l : List Node) : List ByteArray := pcs l (2 * l.length + 1) 0 [] true
theorem seq_pieces (Bs base : Nat) (A : Option Addr) (cap : Nat) (l : List Node) (hok : RowOk l) (hlc : l.length ≤ cap) (w0 : World) (hBs : w0.heap[Bs]? = some (.cells #[.slice A l.length cap] 22 (0, 0))) (hC : Kd.C kN w0 A l.length l) (hbase : base ≤ w0.heap.size) (hAb : ∀ a, A = some a → a.block < base) :
  SeqT 9 Tryz.prog 52 #[.pointer (some ⟨Bs, 0, none⟩)] strEnc (NKp base A) (NMv base) (fun pre x => pre ++ [x] <+: pcsL l) (fun ys => ys = pcsL l) (fun pre => pre <+: pcsL l) w0 := by
 intro lp J Jx W hW hJ _ hY h0
 exact pieces1_in lp Bs base A cap l (by have := hok.len; omega) hlc hok.ok hok.txt hok.en (pcsL l) rfl J Jx hY hJ W (blk_below hBs hW) (Kd.C_below hC hW) (Nat.le_trans hbase hW.size) hAb h0
end Go.Proofs.YtfocognhcljhpaaGreatDoor
namespace Go.Proofs.YtfocognhcljhpaaGreatDoor
open Go.RowKit Go.Shelf Go.Proofs.YtfocognhcljhpaaGreatDoorW.PrintWords Go.Proofs.YtfocognhcljhpaaGreatDoorW.PrintMore Go.Proofs.YtfocognhcljhpaaGreatDoor.PPrintRows Go.Proofs.YtfocognhcljhpaaGreatDoor.Tree
attribute [local go_sem] Oper.semAt_some
abbrev Mb := ByteArray × (Option Addr × Nat) × List Node
def mbSl (m : Mb) : Value := .slice m.2.1.1 m.2.2.length m.2.1.2
def mbEnc (m : Mb) : Array Value := #[.string m.1, mbSl m]
structure MbOk (N : Nat) (w : World) (m : Mb) : Prop where
 C : Kd.C kN w m.2.1.1 m.2.2.length m.2.2
 cap : m.2.2.length ≤ m.2.1.2
 small : Small m.2.2
 lt : ∀ a, m.2.1.1 = some a → 0 < m.2.2.length → a.block < N
def laysV (out : List Node) (ms : List Mb) : List Node := ms.foldl (fun o m => o ++ layV o.length 0 m.1 m.2.2) out
def sumL (ms : List Mb) : Nat := (ms.map fun m => m.2.2.length).sum
def root (k : Int) : Node := ⟨k, ⟨#[]⟩, ⟨#[]⟩, -1, 1⟩
def allV (k : Int) (ms : List Mb) : List Node := setEnd (laysV [root k] ms) 0 (laysV [root k] ms).length
def BoxRow (N : Nat) (w0 : World) (B : Nat) (L : List Node) (W : World) : Prop :=
 ∃ v, W.heap[B]? = some (.cells #[v] 22 (0, 0)) ∧ RowAt W N v L ∧ Below N w0 W
end Go.Proofs.YtfocognhcljhpaaGreatDoor
namespace Go.Proofs.YtfocognhcljhpaaGreatDoor
open Go.RowKit
def SeqB {α : Type} (n : Nat) (P : Program) (g : Nat) (lb : Array Value) (encs : α → Array Value) (Kp Mv : Nat → World → World → Prop) (T : List α → α → Prop) (S Sp : List α → Prop) (w : World) : Prop :=
 ∀ (l : Nat) (J Jx : List α → World → Prop) (W : World), Below w.heap.size w W → (∀ s A B, J s A → Mv W.heap.size A B → J s B) → (∀ s A B, Jx s A → Mv W.heap.size A B → Jx s B) →
  (∀ pre x W1, J pre W1 → T pre x → YieldAt Fence.wide (n - 1) P l (encs x) W1 fun e W' =>
   (e = .returned (.bool true) ∧ J (pre ++ [x]) W' ∧ Kp W.heap.size W1 W') ∨ (e = .returned (.bool false) ∧ Jx (pre ++ [x]) W' ∧ Kp W.heap.size W1 W')) →
  J [] W →
  CallsIn Fence.wide n P g (#[.func (.yield l) #[] #[]] ++ lb) W fun e W' => (∃ v, e = .returned v) ∧ ((∃ xs, S xs ∧ J xs W') ∨ (∃ pre, Sp pre ∧ Jx pre W'))
def roundB {α : Type} (B : Nat) (Kp : World → World → Prop) (I : List α → World → Prop) (Ix : Code → List α → World → Prop) (xs : List α) (W : World) : Exit → Act → World → Prop
 | .normal, _, W' => KeepsFrom B W W' ∧ Kp W W' ∧ I xs W'
 | .ret, _, W' => KeepsFrom B W W' ∧ Kp W W' ∧ Ix .ret xs W'
 | .exit id, _, W' => KeepsFrom B W W' ∧ Kp W W' ∧ Ix (.exit id) xs W'
 | .goto t, _, W' => KeepsFrom B W W' ∧ Kp W W' ∧ Ix (.goto t) xs W'
 | .panic _, _, _ => False
 | .outgrown, _, _ => False
variable {P : Program}
end Go.Proofs.YtfocognhcljhpaaGreatDoor
namespace Go.Proofs.YtfocognhcljhpaaGreatDoor
open Go.RowKit Go.Shelf Go.Proofs.YtfocognhcljhpaaGreatDoorW.PrintWords Go.Proofs.YtfocognhcljhpaaGreatDoorW.PrintMore Go.Proofs.YtfocognhcljhpaaGreatDoor.PPrintRows Go.Proofs.YtfocognhcljhpaaGreatDoor.Tree
attribute [local go_sem] Oper.semAt_some
def itemsL (l : List Node) (i : Nat) : List Nat := if 6 ≤ kndAt l i then kidsP l (endAt l i) l.length (i + 1) else []
end Go.Proofs.YtfocognhcljhpaaGreatDoor
