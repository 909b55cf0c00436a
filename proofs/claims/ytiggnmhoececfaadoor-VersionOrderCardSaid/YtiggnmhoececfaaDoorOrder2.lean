/- VersionOrder, at every input. -/
import Derived.Test.YtiggnmhoececfaaDoorOrder
import Derived.Test.YtiggnmhoececfaaDoorVersion2
namespace Go.Proofs.YtiggnmhoececfaaDoor
open Go.RowKit Go.Proofs.YtiggnmhoececfaaDoorW.PrintWords

theorem order_any (a b c : Ver) (w : World) (hG : Glob w) :
    Calls Tryd.prog 5 #[verV a.1.1 a.1.2.1 a.1.2.2, verV b.1.1 b.1.2.1 b.1.2.2, verV c.1.1 c.1.2.1 c.1.2.2] w fun e w' => e = .returned (.bool true) ∧ Below w.heap.size w w' := by
  have hf := lexc_flip [a.1.1, a.1.2.1, a.1.2.2] [b.1.1, b.1.2.1, b.1.2.2] rfl
  have ht := lexc_trans [a.1.1, a.1.2.1, a.1.2.2] [b.1.1, b.1.2.1, b.1.2.2] [c.1.1, c.1.2.1, c.1.2.2] rfl rfl
  have hc := lexc_cases [a.1.1, a.1.2.1, a.1.2.2] [b.1.1, b.1.2.1, b.1.2.2]
  refine order_walk (lexc [a.1.1, a.1.2.1, a.1.2.2] [b.1.1, b.1.2.1, b.1.2.2]) (lexc [b.1.1, b.1.2.1, b.1.2.2] [a.1.1, a.1.2.1, a.1.2.2]) (lexc [b.1.1, b.1.2.1, b.1.2.2] [c.1.1, c.1.2.1, c.1.2.2]) (lexc [a.1.1, a.1.2.1, a.1.2.2] [c.1.1, c.1.2.1, c.1.2.2])
    (decide (lexc [a.1.1, a.1.2.1, a.1.2.2] [b.1.1, b.1.2.1, b.1.2.2] ≤ 0)) (decide (lexc [b.1.1, b.1.2.1, b.1.2.2] [c.1.1, c.1.2.1, c.1.2.2] ≤ 0)) a b c
    (verText a.1.1 a.1.2.1 a.1.2.2) (verText b.1.1 b.1.2.1 b.1.2.2) (verText c.1.1 c.1.2.1 c.1.2.2) ?_ rfl ?_ (fun W => vcmp_any _ _ _ _ _ _ W) (fun W => vcmp_any _ _ _ _ _ _ W) (fun W => vcmp_any _ _ _ _ _ _ W) (fun W => vcmp_any _ _ _ _ _ _ W)
    (fun W => eq_lexc _ _ _ _ _ _ W) (fun W hW => vtext_any _ _ _ a.2.1 a.2.2.1 a.2.2.2 W hW) (fun W hW => vtext_any _ _ _ b.2.1 b.2.2.1 b.2.2.2 W hW) (fun W hW => vtext_any _ _ _ c.2.1 c.2.2.1 c.2.2.2 W hW) (fun W hW => ?_) w hG
  · rw [hf]
    rcases hc with h | h | h <;> rw [h] <;> simp
  · intro h1 h2
    rw [decide_eq_true_eq] at h1 h2
    exact decide_eq_false (by have := ht h1 h2; omega)
  · have := within_any (verText b.1.1 b.1.2.1 b.1.2.2) (verText a.1.1 a.1.2.1 a.1.2.2) (verText c.1.1 c.1.2.1 c.1.2.2) (verText_len _ _ _ b.2.1 b.2.2.1 b.2.2.2) (verText_len _ _ _ a.2.1 a.2.2.1 a.2.2.2) (verText_len _ _ _ c.2.1 c.2.2.1 c.2.2.2) W hW
    have e : within (verText b.1.1 b.1.2.1 b.1.2.2) (verText a.1.1 a.1.2.1 a.1.2.2) (verText c.1.1 c.1.2.1 c.1.2.2) = (decide (lexc [a.1.1, a.1.2.1, a.1.2.2] [b.1.1, b.1.2.1, b.1.2.2] ≤ 0) && decide (lexc [b.1.1, b.1.2.1, b.1.2.2] [c.1.1, c.1.2.1, c.1.2.2] ≤ 0)) := by
      unfold within
      rw [verOf_text _ _ _ a.2.1 a.2.2.1 a.2.2.2, verOf_text _ _ _ b.2.1 b.2.2.1 b.2.2.2, verOf_text _ _ _ c.2.1 c.2.2.1 c.2.2.2]
      show (decide (0 ≤ lexc [b.1.1, b.1.2.1, b.1.2.2] [a.1.1, a.1.2.1, a.1.2.2]) && _) = _
      have h0 : decide (0 ≤ lexc [b.1.1, b.1.2.1, b.1.2.2] [a.1.1, a.1.2.1, a.1.2.2]) = decide (lexc [a.1.1, a.1.2.1, a.1.2.2] [b.1.1, b.1.2.1, b.1.2.2] ≤ 0) := by rw [decide_eq_decide, hf]; omega
      rw [h0]
      rfl
    rw [e] at this
    exact this

end Go.Proofs.YtiggnmhoececfaaDoor
