/- The example of chapter 18; which ranges are light. -/
import Derived.Test.YtiggnmhoececfaaGreatDoorRanges2
import Derived.Test.YtiggnmhoececfaaGreatDoorWMore
namespace Go.Proofs.YtiggnmhoececfaaGreatDoor
set_option linter.unusedVariables false
set_option linter.unusedSimpArgs false
open Go.RowKit Go.Proofs.YtiggnmhoececfaaGreatDoorW.PrintWords Go.Proofs.YtiggnmhoececfaaGreatDoorW.PrintMore

theorem max_five (ats : Array TypeId) (ty : TypeId) (a b c d e : Value) : Builtin.max_ ats ty #[a, b, c, d, e] = (Builtin.max2 a b >>= fun s => Builtin.max2 s c >>= fun s => Builtin.max2 s d >>= fun s => Builtin.max2 s e >>= fun s => pure s) := by simp only [Builtin.max_, List.foldlM_cons, List.foldlM_nil]

theorem imax (a b : Int) : ∃ M : Int, (if a < b then b else a) = M ∧ (60 < M ↔ 60 < a ∨ 60 < b) := by
  refine ⟨_, rfl, ?_⟩
  split <;> omega

theorem max5_is (a b c d e : Int) : ∃ M : Int, (∀ ats ty, Builtin.max_ ats ty #[.int .i64 a, .int .i64 b, .int .i64 c, .int .i64 d, .int .i64 e] = pure (.int .i64 M)) ∧ (60 < M ↔ 60 < a ∨ 60 < b ∨ 60 < c ∨ 60 < d ∨ 60 < e) := by
  obtain ⟨m1, e1, h1⟩ := imax a b
  obtain ⟨m2, e2, h2⟩ := imax m1 c
  obtain ⟨m3, e3, h3⟩ := imax m2 d
  obtain ⟨m4, e4, h4⟩ := imax m3 e
  refine ⟨m4, fun ats ty => by rw [max_five, max2_int, pure_bind, e1, max2_int, pure_bind, e2, max2_int, pure_bind, e3, max2_int, pure_bind, e4], by omega⟩

theorem max2_is (a b : Int) : ∃ M : Int, (∀ ats ty, Builtin.max_ ats ty #[.int .i64 a, .int .i64 b] = pure (.int .i64 M)) ∧ (60 < M ↔ 60 < a ∨ 60 < b) := by
  obtain ⟨m1, e1, h1⟩ := imax a b
  exact ⟨m1, fun ats ty => by rw [max_two, max2_int, pure_bind, e1], h1⟩

def lightV (f t n lo hi : ByteArray) : Bool := decide (f.size ≤ 60) && (decide (t.size ≤ 60) && (decide (n.size ≤ 60) && (decide (lo.size ≤ 60) && decide (hi.size ≤ 60))))

set_option maxHeartbeats 800000 in
theorem light_any (f t n lo hi : ByteArray) (m : Int) (w : World) :
    Calls Tryz.prog 8 #[rangeV f t n lo hi m] w fun e w' => e = .returned (.bool (lightV f t n lo hi)) ∧ Below w.heap.size w w' := by
  obtain ⟨M, hM, hiff⟩ := max5_is f.size t.size n.size lo.size hi.size
  have hv : lightV f t n lo hi = decide (M ≤ 60) := by
    unfold lightV
    rw [Bool.eq_iff_iff]
    simp only [Bool.and_eq_true, decide_eq_true_eq]
    omega
  rw [hv]
  clear hv hiff
  go_enter Tryz.func8, Tryz.ntmps8
  go_wp2
  go_ret
  exact ⟨rfl, below_alloc (Below.refl _ _) _⟩

abbrev oneF : ByteArray := ⟨#[52, 49, 49, 49, 49, 49, 49, 49, 49, 49, 49, 49, 49, 49, 49, 49]⟩
abbrev oneN : ByteArray := ⟨#[97, 99, 115]⟩
abbrev oneLo : ByteArray := ⟨#[50, 46, 49, 46, 48]⟩
abbrev oneHi : ByteArray := ⟨#[50, 46, 50, 46, 48]⟩

theorem one_any (w : World) : Calls Tryz.prog 27 #[] w fun e w' => e = .returned (rangeV oneF oneF oneN oneLo oneHi 1) ∧ Below w.heap.size w w' :=
  PRef.cashierlaw18_one.calls _ _ _ _ _ _ w rfl

set_option maxRecDepth 100000 in
theorem check_one : checkV oneF oneF oneN oneLo oneHi 1 = 0 := by decide +kernel
set_option maxRecDepth 100000 in
theorem has_one : hasV oneF oneF ⟨#[52, 49, 49, 49, 49, 49, 49, 49, 49, 49, 49, 49, 49, 49, 49, 49]⟩ = true := by decide +kernel
set_option maxRecDepth 100000 in
theorem has_two : hasV oneF oneF ⟨#[52, 49, 49, 49, 49, 49, 49, 49, 49, 49, 49, 49, 49, 49, 49, 50]⟩ = false := by decide +kernel

theorem Awake17_any (w : World) (hG : Glob w) :
    Calls Tryz.prog 26 #[] w fun e w' => e = .returned (.bool true) ∧ Below w.heap.size w w' := by
  have H1 := Lib.hid (awake17_any w hG)
  go_enter Tryz.func26, Tryz.ntmps26
  go_wp2_with (go_at_call 48; go_must (refine H1.out.mono ?_); rintro e w1 ⟨rfl, hb⟩)
  go_ret
  exact ⟨rfl, hb⟩

set_option maxHeartbeats 1600000 in
theorem awake18_any (w : World) (hG : Glob w) :
    Calls Tryz.prog 7 #[] w fun e w' => e = .returned (.bool true) ∧ Below w.heap.size w w' := by
  have H1 := Lib.hid (Awake17_any w hG)
  have h2 := fun W hW => check_any oneF oneF oneN oneLo oneHi 1 (by decide) (by decide) (by decide) W hW
  rw [check_one] at h2
  have h3 := fun W => has_any oneF oneF oneN oneLo oneHi ⟨#[52, 49, 49, 49, 49, 49, 49, 49, 49, 49, 49, 49, 49, 49, 49, 49]⟩ 1 W
  rw [has_one] at h3
  have h4 := fun W => has_any oneF oneF oneN oneLo oneHi ⟨#[52, 49, 49, 49, 49, 49, 49, 49, 49, 49, 49, 49, 49, 49, 49, 50]⟩ 1 W
  rw [has_two] at h4
  have H2 := Lib.hid h2
  have H3 := Lib.hid h3
  have H4 := Lib.hid h4
  have HO := Lib.hid one_any
  clear h2 h3 h4
  go_enter Tryz.func7, Tryz.ntmps7
  go_wp2_with (first
    | (go_at_call 26; go_must (refine H1.out.mono ?_); rintro e w1 ⟨rfl, hb⟩; have B := Lib.hid hb; clear hb)
    | (go_at_call 27; go_must (refine (HO.out _).mono ?_); rintro e w2 ⟨rfl, hb⟩; replace B := Lib.hid (below_step B.out hb); clear hb)
    | (go_at_call 9; go_must (refine (H2.out _ (hG.below B.out)).mono ?_); rintro e w3 ⟨rfl, hb⟩; replace B := Lib.hid (below_step B.out hb); clear hb)
    | (go_at_call 12; first
        | (with_reducible refine (H3.out _).mono ?_; rintro e w4 ⟨rfl, hb⟩; replace B := Lib.hid (below_step B.out hb); clear hb)
        | (with_reducible refine (H4.out _).mono ?_; rintro e w5 ⟨rfl, hb⟩; replace B := Lib.hid (below_step B.out hb); clear hb)))
  go_ret
  exact ⟨rfl, B.out⟩

end Go.Proofs.YtiggnmhoececfaaGreatDoor
