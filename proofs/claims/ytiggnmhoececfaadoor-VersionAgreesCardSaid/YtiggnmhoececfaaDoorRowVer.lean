/- A version, as an argument. -/
import Derived.Test.YtiggnmhoececfaaDoorBase
import Derived.OpenShut
import Derived.ProofKit
namespace Go.Proofs.YtiggnmhoececfaaDoor
set_option linter.unusedVariables false
set_option linter.unusedSimpArgs false
open Go.ChangeShapes Go.WideShapes Go.ChangeAt Go.RowKit

theorem list3 {α : Type} {l : List α} (h : l.length = 3) : ∃ a b c, l = [a, b, c] := by
  match l, h with
  | [a, b, c], _ => exact ⟨a, b, c, rfl⟩

set_option maxRecDepth 100000 in
/-- A version, as an argument. -/
theorem open_ver {H : Type} {enc : TypeId × Value → H} {W : World} {base : Nat} {sp : Nat → Bool} {held : Bool} {v : Value} {d : DataW H} {p : List MemPlace}
    (hv : Value.okWide Tryd.prog W .any base 24 v) (h : DataW.Trod enc Tryd.prog W 0 sp held 24 v d p) :
    ∃ a b c : Nat, v = .agg #[.int .u16 a, .int .u16 b, .int .u16 c] ∧ a < 65536 ∧ b < 65536 ∧ c < 65536 := by
  have hcs : ∃ cs, v = .agg cs ∧ cs.size = Tryd.prog.cellsOf 24 := by
    simp only [Value.okWide, Tryd.underlying24] at hv
    obtain ⟨cs, h1, h2, _⟩ := hv
    exact ⟨cs, h1, h2⟩
  obtain ⟨cs, rfl, hsz⟩ := hcs
  have c3 : Tryd.prog.cellsOf 24 = 3 := by kernel_rfl
  have c1 : Tryd.prog.cellsOf 22 = 1 := by kernel_rfl
  rw [c3] at hsz
  obtain ⟨x0, x1, x2, rfl⟩ : ∃ x0 x1 x2, cs = #[x0, x1, x2] := by
    obtain ⟨l⟩ := cs
    obtain ⟨x0, x1, x2, rfl⟩ := list3 (show l.length = 3 from hsz)
    exact ⟨x0, x1, x2, rfl⟩
  obtain ⟨fuel, hf⟩ := h
  obtain ⟨xs, m, _, _, _, hn, hel⟩ := DataW.trod_array Tryd.underlying24 hf
  rw [c1] at hel
  obtain ⟨y0, y1, y2, rfl⟩ := list3 hn
  obtain ⟨k0, e0, _, w0⟩ := DataW.trod_int Tryd.underlying22 (show DataW.trod enc Tryd.prog W 0 sp held m 22 [x0] = some y0 from hel 0 (by decide))
  obtain ⟨k1, e1, _, w1⟩ := DataW.trod_int Tryd.underlying22 (show DataW.trod enc Tryd.prog W 0 sp held m 22 [x1] = some y1 from hel 1 (by decide))
  obtain ⟨k2, e2, _, w2⟩ := DataW.trod_int Tryd.underlying22 (show DataW.trod enc Tryd.prog W 0 sp held m 22 [x2] = some y2 from hel 2 (by decide))
  simp only [List.cons.injEq, and_true] at e0 e1 e2
  subst e0 e1 e2
  simp [Lit.wf, IntKind.min, IntKind.max, IntKind.signed, IntKind.bits] at w0 w1 w2
  obtain ⟨a, rfl⟩ := Int.eq_ofNat_of_zero_le w0.1
  obtain ⟨b, rfl⟩ := Int.eq_ofNat_of_zero_le w1.1
  obtain ⟨c, rfl⟩ := Int.eq_ofNat_of_zero_le w2.1
  exact ⟨a, b, c, rfl, by omega, by omega, by omega⟩

end Go.Proofs.YtiggnmhoececfaaDoor
