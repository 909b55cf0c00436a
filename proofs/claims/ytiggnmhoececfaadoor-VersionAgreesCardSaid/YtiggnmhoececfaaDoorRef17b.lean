/- The document's answers of chapter 17 are the program's. -/
import Derived.Test.YtiggnmhoececfaaDoorRef17
import Derived.Test.YtiggnmhoececfaaDoorLaw17
namespace Go.Proofs.YtiggnmhoececfaaDoor
set_option linter.unusedVariables false
set_option linter.unusedSimpArgs false
open Go.RowKit Go.Proofs.YtiggnmhoececfaaDoorW.PrintWords Go.Proofs.YtiggnmhoececfaaDoorW.PrintLast Go.Proofs.YtiggnmhoececfaaDoorW.PrintMore
open PVersionAgrees

abbrev nums3 (v : Ver) : List Int := [((v.1.1 : Nat) : Int), ((v.1.2.1 : Nat) : Int), ((v.1.2.2 : Nat) : Int)]

theorem ref_yes (l : Bytes) (v : Ver) (h : verOf l = some v) : refP [] (split1 46 l) = (nums3 v, true) := by
  unfold verOf at h
  split at h
  · rename_i a b c hs
    rw [hs]
    split at h
    · rename_i hok
      cases h
      simp [refP, hok.1, hok.2.1, hok.2.2]
    · cases h
  · cases h

theorem ref_no (l : Bytes) (h : verOf l = none) : (refP [] (split1 46 l)).2 = false := by
  unfold verOf at h
  unfold refP
  split
  · rename_i hall
    split at h
    · rename_i a b c hs
      rw [hs] at hall
      split at h
      · cases h
      · rename_i hno
        exfalso
        apply hno
        simpa using hall
    · rename_i hne
      show ((((([] : List Int).length + (split1 46 l).length : Nat) : Int)) == 3) = false
      rw [beq_eq_false_iff_ne]
      intro e
      have e3 : (split1 46 l).length = 3 := by simp at e; omega
      match hm : split1 46 l, e3 with
      | [a, b, c], _ => exact hne a b c hm
  · rfl

theorem split1_count (c : UInt8) (l : Bytes) : (split1 c l).length ≤ l.length + 1 := by
  induction l with
  | nil => simp [split1]
  | cons x r ih =>
    unfold split1
    split
    · simp; omega
    · split
      · simp
      · rename_i h t e
        rw [e] at ih
        simp at ih ⊢; omega

theorem ref_len (l : Bytes) : (refP [] (split1 46 l)).1.length ≤ l.length + 1 := by
  unfold refP
  have := split1_count 46 l
  split
  · simpa using this
  · simp

theorem ref_within (x y z : ByteArray) (hx : x.size ≤ 1000) (hy : y.size ≤ 1000) (hz : z.size ≤ 1000) (k : Nat) (hk : 5000 ≤ k) (hk2 : k ≤ 900000) :
    cashierref17_Within.f k x y z = some (within x.data.toList y.data.toList z.data.toList) := by
  unfold cashierref17_Within.f
  rw [ref_parse x hx k hk hk2, ref_parse y hy k hk hk2, ref_parse z hz k hk hk2]
  simp only [Option.bind_some]
  unfold within
  cases ha : verOf x.data.toList with
  | none => rw [if_neg (by rw [ref_no _ ha]; simp)]
  | some a =>
    rw [if_pos (by rw [ref_yes _ a ha])]
    cases hb : verOf y.data.toList with
    | none => rw [if_neg (by rw [ref_no _ hb]; simp)]
    | some b =>
      rw [if_pos (by rw [ref_yes _ b hb])]
      cases hc : verOf z.data.toList with
      | none => rw [if_neg (by rw [ref_no _ hc]; simp)]
      | some c =>
        rw [if_pos (by rw [ref_yes _ c hc]), ref_yes _ a ha, ref_yes _ b hb, ref_yes _ c hc]
        simp only [nums3]
        rw [ref_cmp _ _ _ _ _ _ k (by omega), ref_cmp _ _ _ _ _ _ k (by omega)]
        simp only [Option.bind_some]
        show (if lexc (verList a) (verList b) ≥ 0 then some (decide (lexc (verList a) (verList c) ≤ 0)) else some false) = some (decide (0 ≤ lexc (verList a) (verList b)) && decide (lexc (verList a) (verList c) ≤ 0))
        generalize lexc (verList a) (verList b) = p
        generalize lexc (verList a) (verList c) = q
        by_cases h : 0 ≤ p
        · rw [if_pos h, decide_eq_true h]; rfl
        · rw [if_neg h, decide_eq_false h]; rfl

theorem ref_best (low high : ByteArray) (hl : low.size ≤ 1000) (hh : high.size ≤ 1000) (k : Nat) (hk : 5000 ≤ k) (hk2 : k ≤ 900000) :
    cashierref17_Best.f k low high = some (if within [50, 46, 50, 46, 48] low.data.toList high.data.toList = true then ⟨#[50, 46, 50, 46, 48]⟩ else if within [50, 46, 49, 46, 48] low.data.toList high.data.toList = true then ⟨#[50, 46, 49, 46, 48]⟩ else ⟨#[]⟩) := by
  unfold cashierref17_Best.f
  rw [ref_within _ low high (by decide) hl hh k hk hk2, ref_within _ low high (by decide) hl hh k hk hk2]
  simp only [Option.bind_some]
  split
  · rfl
  · split <;> rfl

end Go.Proofs.YtiggnmhoececfaaDoor
