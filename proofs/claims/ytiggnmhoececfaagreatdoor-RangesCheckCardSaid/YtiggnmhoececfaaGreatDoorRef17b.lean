/- The document's answers of chapter 17 are the program's. -/
import Derived.Test.YtiggnmhoececfaaGreatDoorRef17
import Derived.Test.YtiggnmhoececfaaGreatDoorLaw17
namespace Go.Proofs.YtiggnmhoececfaaGreatDoor
set_option linter.unusedVariables false
set_option linter.unusedSimpArgs false
open Go.RowKit Go.Proofs.YtiggnmhoececfaaGreatDoorW.PrintWords Go.Proofs.YtiggnmhoececfaaGreatDoorW.PrintLast Go.Proofs.YtiggnmhoececfaaGreatDoorW.PrintMore
open PRef

abbrev nums3 (v : Ver) : List Int := [((v.1.1 : Nat) : Int), ((v.1.2.1 : Nat) : Int), ((v.1.2.2 : Nat) : Int)]

theorem ref_yes (l : Bytes) (v : Ver) (h : verOf l = some v) : refP [] (split1 46 l) = (nums3 v, true) := by
  unfold verOf at h
  split at h
  · rename_i a b c hs
    rw [hs]
    split at h
    · rename_i hok
      cases h
      simp [refP, hok.1, hok.2.1, hok.2.2]
    · cases h
  · cases h

theorem ref_no (l : Bytes) (h : verOf l = none) : (refP [] (split1 46 l)).2 = false := by
  unfold verOf at h
  unfold refP
  split
  · rename_i hall
    split at h
    · rename_i a b c hs
      rw [hs] at hall
      split at h
      · cases h
      · rename_i hno
        exfalso
        apply hno
        simpa using hall
    · rename_i hne
      show ((((([] : List Int).length + (split1 46 l).length : Nat) : Int)) == 3) = false
      rw [beq_eq_false_iff_ne]
      intro e
      have e3 : (split1 46 l).length = 3 := by simp at e; omega
      match hm : split1 46 l, e3 with
      | [a, b, c], _ => exact hne a b c hm
  · rfl

theorem split1_count (c : UInt8) (l : Bytes) : (split1 c l).length ≤ l.length + 1 := by
  induction l with
  | nil => simp [split1]
  | cons x r ih =>
    unfold split1
    split
    · simp; omega
    · split
      · simp
      · rename_i h t e
        rw [e] at ih
        simp at ih ⊢; omega

theorem ref_len (l : Bytes) : (refP [] (split1 46 l)).1.length ≤ l.length + 1 := by
  unfold refP
  have := split1_count 46 l
  split
  · simpa using this
  · simp

end Go.Proofs.YtiggnmhoececfaaGreatDoor
