/- VersionAgrees, at every input. -/
import Derived.Test.YtiggnmhoececfaaDoorAgrees2
namespace Go.Proofs.YtiggnmhoececfaaDoor
set_option linter.unusedVariables false
set_option linter.unusedSimpArgs false
open Go.RowKit Go.Proofs.YtiggnmhoececfaaDoorW.PrintWords

set_option maxRecDepth 100000 in
theorem text_210 : verText 2 1 0 = [50, 46, 49, 46, 48] := by decide +kernel
set_option maxRecDepth 100000 in
theorem text_220 : verText 2 2 0 = [50, 46, 50, 46, 48] := by decide +kernel

theorem best_is (lo hi : Bytes) : bestOf lo hi knownV = if within [50, 46, 50, 46, 48] lo hi = true then [50, 46, 50, 46, 48] else if within [50, 46, 49, 46, 48] lo hi = true then [50, 46, 49, 46, 48] else [] := by
  show bestStep lo hi (bestStep lo hi [] ⟨(2, 1, 0), _⟩) ⟨(2, 2, 0), _⟩ = _
  unfold bestStep
  show (if within (verText 2 2 0) lo hi = true then verText 2 2 0 else if within (verText 2 1 0) lo hi = true then verText 2 1 0 else []) = _
  rw [text_210, text_220]

theorem bytes_of (s : ByteArray) : (⟨s.data.toList.toArray⟩ : ByteArray) = s := by
  cases s; simp

theorem agrees_any (x y z : ByteArray) (hx : x.size ≤ 140737488351232) (hy : y.size ≤ 140737488351232) (hz : z.size ≤ 140737488351232) (w : World) (hG : Glob w) :
    Calls Tryd.prog 4 #[.string x, .string y, .string z] w fun e w' => e = .returned (.bool true) ∧ Below w.heap.size w w' := by
  obtain ⟨M, hM, hiff⟩ := max_is x.size y.size z.size
  by_cases hlong : 60 < M
  · exact agrees_long x y z w hG M hM hlong
  · have hx : x.size ≤ 60 := by omega
    have hy : y.size ≤ 60 := by omega
    have hz : z.size ≤ 60 := by omega
    have lx : x.data.toList.length = x.size := by simp
    have ly : y.data.toList.length = y.size := by simp
    have lz : z.data.toList.length = z.size := by simp
    have rb := ref_best y z (by omega) (by omega) 5000 (by omega) (by omega)
    have rw1 := ref_within x y z (by omega) (by omega) (by omega) 5000 (by omega) (by omega)
    have be := fun W hW => best_any y.data.toList z.data.toList (by omega) (by omega) W hW
    have wi := fun W hW => within_any x.data.toList y.data.toList z.data.toList (by omega) (by omega) (by omega) W hW
    rw [best_is, bytes_of, bytes_of] at be
    rw [bytes_of, bytes_of, bytes_of] at wi
    have wb := fun (b : Bytes) (hb : b.length ≤ 1000) W hW => within_any b y.data.toList z.data.toList (by omega) (by omega) (by omega) W hW
    rw [bytes_of, bytes_of] at wb
    by_cases h2 : within [50, 46, 50, 46, 48] y.data.toList z.data.toList = true
    · rw [if_pos h2] at rb be
      have wb2 := wb [50, 46, 50, 46, 48] (by decide)
      rw [h2] at wb2
      exact agrees_walk x y z ⟨#[50, 46, 50, 46, 48]⟩ true _ (.inl ⟨rfl, rfl⟩) w hG M hM hlong be wi rw1 rb (fun _ => wb2)
    · rw [if_neg h2] at rb be
      by_cases h1 : within [50, 46, 49, 46, 48] y.data.toList z.data.toList = true
      · rw [if_pos h1] at rb be
        have wb2 := wb [50, 46, 49, 46, 48] (by decide)
        rw [h1] at wb2
        exact agrees_walk x y z ⟨#[50, 46, 49, 46, 48]⟩ true _ (.inr (.inl ⟨rfl, rfl⟩)) w hG M hM hlong be wi rw1 rb (fun _ => wb2)
      · rw [if_neg h1] at rb be
        exact agrees_walk x y z ⟨#[]⟩ false _ (.inr (.inr ⟨rfl, rfl⟩)) w hG M hM hlong be wi rw1 rb (fun h => by cases h)

end Go.Proofs.YtiggnmhoececfaaDoor
