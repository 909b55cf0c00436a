/- VersionAgrees. -/
import Derived.Test.YtiggnmhoececfaaDoorRef17b
import Derived.Test.YtiggnmhoececfaaDoorEq24
import Derived.Test.YtiggnmhoececfaaDoorWMore
import Derived.RangeFuncNested
import Derived.RangeFuncBound
import Derived.RangeFuncCalls
import Derived.RangeFuncLeaves
import Derived.Shelf.Abstract
import Derived.Shelf.RegionOpen
import Derived.OwnWalkIn
import Derived.TacticsInMore
import Derived.LoopNIn
import Derived.LoopIn
namespace Go.Proofs.YtiggnmhoececfaaDoor
set_option linter.unusedVariables false
set_option linter.unusedSimpArgs false
open Go.RowKit Go.Shelf Go.Proofs.YtiggnmhoececfaaDoorW.PrintWords Go.Proofs.YtiggnmhoececfaaDoorW.PrintMore
open PVersionAgrees (cashierref17_Within.f cashierref17_Best.f)
attribute [local go_sem] Oper.semAt_some

theorem results_bool {fn : Func} {p : Tmp} {ty : TypeId} {P : Program} (h : fn.results = #[.cell p ty]) (tmps : Array Value) (w : World) (g : Nat) (b : Bool)
    (hp : tmps.getD p undef = .pointer (some ⟨g, 0, none⟩)) (hg : w.cell? ⟨g, 0, none⟩ = some (.bool b)) (hu : P.underlying ty = some .bool) :
    (results fn tmps).run P w = .ok (.bool b) w := by
  have hp' : tmps[p]?.getD undef = .pointer (some ⟨g, 0, none⟩) := by simpa using hp
  have hagg : (isAgg ty).run P w = .ok false w := by
    unfold isAgg
    rw [Sem.run_bind, run_underlying hu w]
    rfl
  simp [results, h, hp', asAddr, loadVar, Sem.run_bind, Result.andThen, hagg, hg]

theorem max_is (x y z : Int) : ∃ M : Int, (∀ ats ty, Builtin.max_ ats ty #[.int .i64 x, .int .i64 y, .int .i64 z] = pure (.int .i64 M)) ∧ (60 < M ↔ 60 < x ∨ 60 < y ∨ 60 < z) := by
  refine ⟨_, fun ats ty => by rw [max_three, max2_int, pure_bind, max2_int, pure_bind], ?_⟩
  split <;> split <;> omega

set_option maxRecDepth 100000 in
set_option maxHeartbeats 2000000 in
theorem agrees_long (x y z : ByteArray) (w : World) (hG : Glob w) (M : Int) (hM : ∀ ats ty, Builtin.max_ ats ty #[.int .i64 x.size, .int .i64 y.size, .int .i64 z.size] = pure (.int .i64 M)) (hlong : 60 < M) :
    Calls Tryd.prog 4 #[.string x, .string y, .string z] w fun e w' => e = .returned (.bool true) ∧ Below w.heap.size w w' := by
  have hA := awake17_any (w.alloc (.cells #[.bool false] 4)) (hG.below (below_alloc (Below.refl _ _) _))
  have HA := Lib.hid hA
  have hmax : decide (60 < M) = true := decide_eq_true hlong
  clear hA hlong
  refine (callsIn_wide (n := 10)).1 ?_
  refine callsIn_of_wp_marks Tryd.func4 rfl trivial ?_ rfl
  simp only [Tryd.ntmps4, List.size_toArray, List.length_cons, List.length_nil, Nat.reduceAdd, Nat.reduceSub, Array.replicate_succ, Array.replicate_zero, List.push_toArray, List.append_toArray, List.nil_append, List.cons_append]
  gi_wp2_with (refine ⟨trivial, ?_⟩; gi_at_call 6; go_must (refine ((callsIn_wide (n := 9)).2 HA.out).mono ?_); rintro e w1 ⟨rfl, hb1⟩; have HB1 := Lib.hid (below_step (below_alloc (Below.refl w.heap.size w) (.cells #[.bool false] 4)) hb1); have b6 := blk_below (blk_new w (.cells #[.bool false] 4)) hb1; have c6 := blk_cell b6 0; have f6 := blk_frozen b6 0; clear hb1)
  exact ⟨_, results_bool rfl _ _ w.heap.size true rfl (blk_cell (blk_set b6 0 (.bool true)) 0) Tryd.underlying4, rfl, HB1.out.setCell (Nat.le_refl _) _⟩

end Go.Proofs.YtiggnmhoececfaaDoor
