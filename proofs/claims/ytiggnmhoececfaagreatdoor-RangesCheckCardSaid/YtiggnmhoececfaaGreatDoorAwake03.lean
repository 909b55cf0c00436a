/- The example of chapter 3. -/
import Derived.Test.YtiggnmhoececfaaGreatDoorCard
import Derived.Test.YtiggnmhoececfaaGreatDoorPrintA
namespace Go.Proofs.YtiggnmhoececfaaGreatDoor
set_option linter.unusedVariables false
set_option linter.unusedSimpArgs false
open Go.RowKit Go.Proofs.YtiggnmhoececfaaGreatDoorW.PrintWords

set_option maxRecDepth 100000 in
theorem card_4111 : cardE [52, 49, 49, 49, 49, 49, 49, 49, 49, 49, 49, 49, 49, 49, 49, 49] = 0 := by decide +kernel

theorem text_7 : textL 7 3 = [48, 48, 55] := by
  have h : Lib.decDigits 7 = [55] := by rw [Lib.decDigits, dif_pos (by omega)]; rfl
  unfold textL
  rw [h]
  decide +kernel

set_option maxHeartbeats 800000 in
theorem awake03_any (w : World) (hG : Glob w) :
    Calls Tryz.prog 69 #[] w fun e w' => e = .returned (.bool true) ∧ Below w.heap.size w w' := by
  have h1 := card_any ⟨#[52, 49, 49, 49, 49, 49, 49, 49, 49, 49, 49, 49, 49, 49, 49, 49]⟩ (by decide) w
  rw [show cardE (ByteArray.mk #[52, 49, 49, 49, 49, 49, 49, 49, 49, 49, 49, 49, 49, 49, 49, 49]).data.toList = 0 from card_4111] at h1
  have h2 := fun w1 hG1 => text_any 7 3 (by omega) (by omega) (by omega) w1 hG1
  rw [text_7] at h2
  have h3 := fun w1 => PRef.digits_Days.calls 5 2024 2 29 w1 (by decide +kernel)
  have H1 := Lib.hid h1
  have H2 := Lib.hid h2
  have H3 := Lib.hid h3
  clear h1 h2 h3
  go_enter Tryz.func69, Tryz.ntmps69
  go_wp2_with (first
    | (go_at_call 77; go_must (refine H1.out.mono ?_); rintro e w1 ⟨rfl, hb⟩)
    | (go_at_call 72; go_must (refine (H2.out w1 (hG.below hb)).mono ?_); rintro e w2 ⟨rfl, hb2⟩; have hb3 := below_step hb hb2)
    | (go_at_call 78; go_must (refine (H3.out _).mono ?_); rintro e w3 ⟨rfl, hb4⟩))
  go_ret
  exact ⟨rfl, below_step hb3 hb4.below⟩

theorem Awake03_any (w : World) (hG : Glob w) :
    Calls Tryz.prog 61 #[] w fun e w' => e = .returned (.bool true) ∧ Below w.heap.size w w' := by
  have H1 := Lib.hid (awake03_any w hG)
  go_enter Tryz.func61, Tryz.ntmps61
  go_wp2_with (go_at_call 69; go_must (refine H1.out.mono ?_); rintro e w1 ⟨rfl, hb⟩)
  go_ret
  exact ⟨rfl, hb⟩

end Go.Proofs.YtiggnmhoececfaaGreatDoor
