/- A range, as an argument. -/
import Derived.Test.YtiggnmhoececfaaGreatDoorBase
import Derived.OpenShut
import Derived.ProofKit
namespace Go.Proofs.YtiggnmhoececfaaGreatDoor
set_option linter.unusedVariables false
set_option linter.unusedSimpArgs false
open Go.ChangeShapes Go.WideShapes Go.ChangeAt Go.RowKit

theorem list6 {α : Type} {l : List α} (h : l.length = 6) : ∃ a b c d e f, l = [a, b, c, d, e, f] := by
  match l, h with
  | [a, b, c, d, e, f], _ => exact ⟨a, b, c, d, e, f, rfl⟩

set_option maxRecDepth 100000 in
/-- A range is five texts and a number. -/
theorem open_range {H : Type} {enc : TypeId × Value → H} {W : World} {base : Nat} {sp : Nat → Bool} {held : Bool} {v : Value} {d : DataW H} {p : List MemPlace}
    (hv : Value.okWide Tryz.prog W .any base 23 v) (h : DataW.Trod enc Tryz.prog W 0 sp held 23 v d p) :
    ∃ (f t n lo hi : ByteArray) (m : Int), v = .agg #[.string f, .string t, .string n, .string lo, .string hi, .int .i64 m] := by
  obtain ⟨cs, rfl, hsz⟩ := okWide_struct Tryz.underlying23 hv
  have c6 : Tryz.prog.cellsOf 23 = 6 := by kernel_rfl
  have cS : Tryz.prog.cellsOf 9 = 1 := by kernel_rfl
  have cI : Tryz.prog.cellsOf 3 = 1 := by kernel_rfl
  rw [c6] at hsz
  obtain ⟨x0, x1, x2, x3, x4, x5, rfl⟩ : ∃ x0 x1 x2 x3 x4 x5, cs = #[x0, x1, x2, x3, x4, x5] := by
    obtain ⟨l⟩ := cs
    obtain ⟨x0, x1, x2, x3, x4, x5, rfl⟩ := list6 (show l.length = 6 from hsz)
    exact ⟨x0, x1, x2, x3, x4, x5, rfl⟩
  obtain ⟨fuel, hf⟩ := h
  obtain ⟨xs, k, _, _, _, hn, hel⟩ := DataW.trod_struct Tryz.underlying23 hf
  obtain ⟨y0, y1, y2, y3, y4, y5, rfl⟩ := list6 (show xs.length = 6 from hn)
  have g0 : DataW.trod enc Tryz.prog W 0 sp held k 9 (([x0, x1, x2, x3, x4, x5].drop 0).take (Tryz.prog.cellsOf 9)) = some y0 := hel 0 _ rfl
  have g1 : DataW.trod enc Tryz.prog W 0 sp held k 9 (([x0, x1, x2, x3, x4, x5].drop 1).take (Tryz.prog.cellsOf 9)) = some y1 := hel 1 _ rfl
  have g2 : DataW.trod enc Tryz.prog W 0 sp held k 9 (([x0, x1, x2, x3, x4, x5].drop 2).take (Tryz.prog.cellsOf 9)) = some y2 := hel 2 _ rfl
  have g3 : DataW.trod enc Tryz.prog W 0 sp held k 9 (([x0, x1, x2, x3, x4, x5].drop 3).take (Tryz.prog.cellsOf 9)) = some y3 := hel 3 _ rfl
  have g4 : DataW.trod enc Tryz.prog W 0 sp held k 9 (([x0, x1, x2, x3, x4, x5].drop 4).take (Tryz.prog.cellsOf 9)) = some y4 := hel 4 _ rfl
  have g5 : DataW.trod enc Tryz.prog W 0 sp held k 3 (([x0, x1, x2, x3, x4, x5].drop 5).take (Tryz.prog.cellsOf 3)) = some y5 := hel 5 _ rfl
  obtain ⟨s0, e0, _⟩ := DataW.trod_string Tryz.underlying9 (show DataW.trod enc Tryz.prog W 0 sp held k 9 [x0] = some y0 by rw [cS] at g0; exact g0)
  obtain ⟨s1, e1, _⟩ := DataW.trod_string Tryz.underlying9 (show DataW.trod enc Tryz.prog W 0 sp held k 9 [x1] = some y1 by rw [cS] at g1; exact g1)
  obtain ⟨s2, e2, _⟩ := DataW.trod_string Tryz.underlying9 (show DataW.trod enc Tryz.prog W 0 sp held k 9 [x2] = some y2 by rw [cS] at g2; exact g2)
  obtain ⟨s3, e3, _⟩ := DataW.trod_string Tryz.underlying9 (show DataW.trod enc Tryz.prog W 0 sp held k 9 [x3] = some y3 by rw [cS] at g3; exact g3)
  obtain ⟨s4, e4, _⟩ := DataW.trod_string Tryz.underlying9 (show DataW.trod enc Tryz.prog W 0 sp held k 9 [x4] = some y4 by rw [cS] at g4; exact g4)
  obtain ⟨m, e5, _⟩ := DataW.trod_int Tryz.underlying3 (show DataW.trod enc Tryz.prog W 0 sp held k 3 [x5] = some y5 by rw [cI] at g5; exact g5)
  simp only [List.cons.injEq, and_true] at e0 e1 e2 e3 e4 e5
  subst e0 e1 e2 e3 e4 e5
  exact ⟨s0, s1, s2, s3, s4, m, rfl⟩

end Go.Proofs.YtiggnmhoececfaaGreatDoor
