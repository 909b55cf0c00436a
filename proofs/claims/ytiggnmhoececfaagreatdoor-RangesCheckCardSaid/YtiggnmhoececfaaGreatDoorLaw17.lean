/- The example of chapter 17. -/
import Derived.Test.YtiggnmhoececfaaGreatDoorAwake03
import Derived.Test.YtiggnmhoececfaaGreatDoorVersion2
import Derived.Test.YtiggnmhoececfaaGreatDoorWithin
namespace Go.Proofs.YtiggnmhoececfaaGreatDoor
set_option linter.unusedVariables false
set_option linter.unusedSimpArgs false
open Go.RowKit Go.Proofs.YtiggnmhoececfaaGreatDoorW.PrintWords

set_option maxRecDepth 100000 in
theorem best_1 : bestOf [50, 46, 48, 46, 48] [50, 46, 49, 46, 57] knownV = [50, 46, 49, 46, 48] := by decide +kernel

set_option maxHeartbeats 800000 in
theorem awake17_any (w : World) (hG : Glob w) :
    Calls Tryz.prog 48 #[] w fun e w' => e = .returned (.bool true) ∧ Below w.heap.size w w' := by
  have h1 := best_any [50, 46, 48, 46, 48] [50, 46, 49, 46, 57] (by decide) (by decide) w hG
  rw [best_1] at h1
  have h2 := fun w1 hG1 => Awake03_any w1 hG1
  have H1 := Lib.hid h1
  have H2 := Lib.hid h2
  clear h1 h2
  go_enter Tryz.func48, Tryz.ntmps48
  go_wp2_with (first
    | (go_at_call 60; go_must (refine H1.out.mono ?_); rintro e w1 ⟨rfl, hb⟩)
    | (go_at_call 61; go_must (refine (H2.out w1 (hG.below hb)).mono ?_); rintro e w2 ⟨rfl, hb2⟩; have hb3 := below_step hb hb2))
  go_ret
  exact ⟨rfl, hb3⟩

end Go.Proofs.YtiggnmhoececfaaGreatDoor
