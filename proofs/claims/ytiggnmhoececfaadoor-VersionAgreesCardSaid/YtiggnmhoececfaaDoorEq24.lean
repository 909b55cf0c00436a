/- Versions compared. -/
import Derived.Test.YtiggnmhoececfaaDoorPlain17
import Derived.ChangeKeysEq
namespace Go.Proofs.YtiggnmhoececfaaDoor
set_option linter.unusedVariables false
set_option linter.unusedSimpArgs false
open Go.RowKit

theorem eqV (a b c x y z : Int) (w : World) : (Op.equalIn 10000 24 (.agg #[.int .u16 a, .int .u16 b, .int .u16 c]) (.agg #[.int .u16 x, .int .u16 y, .int .u16 z])).run Tryd.prog w = .ok (a == x && (b == y && c == z)) w := by
  obtain ⟨i, hi⟩ : ∃ i, Tryd.prog.info? 22 = some i := Option.isSome_iff_exists.1 (by kernel_rfl)
  have h1 : Tryd.prog.cellsOf 22 = 1 := by kernel_rfl
  have p0 : ∀ (x y z : Int) w, (part 22 #[.int .u16 x, .int .u16 y, .int .u16 z] 0).run Tryd.prog w = .ok (.int .u16 x) w := fun _ _ _ _ => by kernel_rfl
  have p1 : ∀ (x y z : Int) w, (part 22 #[.int .u16 x, .int .u16 y, .int .u16 z] 1).run Tryd.prog w = .ok (.int .u16 y) w := fun _ _ _ _ => by kernel_rfl
  have p2 : ∀ (x y z : Int) w, (part 22 #[.int .u16 x, .int .u16 y, .int .u16 z] 2).run Tryd.prog w = .ok (.int .u16 z) w := fun _ _ _ _ => by kernel_rfl
  have e : ∀ (x y : Int) w, (Op.equalIn 9999 22 (.int .u16 x) (.int .u16 y)).run Tryd.prog w = .ok (x == y) w := fun x y w => run_equalIn_int w 9998 _ .u16 .u16 x y Tryd.underlying22
  rw [run_equalIn_array _ 9999 _ _ Tryd.underlying24 hi, h1]
  rw [show List.range 3 = [0, 1, 2] by rfl]
  cases hx : a == x <;> cases hy : b == y <;> cases hz : c == z <;>
    simp only [Op.eqItems, Sem.run_bind, Nat.reduceMul, p0, p1, p2, e, Result.andThen_ok, hx, hy, hz, Bool.not_true, Bool.not_false, if_true, if_false, Sem.run_pure, Bool.false_and, Bool.true_and, Bool.and_false, Bool.false_eq_true]

end Go.Proofs.YtiggnmhoececfaaDoor
