/- RangesCheck, at every input. -/
import Derived.Test.YtiggnmhoececfaaGreatDoorRCheck
namespace Go.Proofs.YtiggnmhoececfaaGreatDoor
set_option linter.unusedVariables false
set_option linter.unusedSimpArgs false
open Go.RowKit Go.Proofs.YtiggnmhoececfaaGreatDoorW.PrintWords Go.Proofs.YtiggnmhoececfaaGreatDoorW.PrintMore

theorem compare_bl : ∀ a b : Bytes, Lib.compareBytes a b = ord3 a b
  | [], [] => rfl
  | [], _ :: _ => rfl
  | _ :: _, [] => rfl
  | x :: r, y :: s => by
    have ih := compare_bl r s
    unfold Lib.compareBytes
    unfold ord3 at ih ⊢
    show (if x < y then -1 else if y < x then 1 else Lib.compareBytes r s) = (if (if x < y then true else if y < x then false else bl r s) = true then -1 else if (if y < x then true else if x < y then false else bl s r) = true then 1 else 0)
    by_cases h : x < y
    · rw [if_pos h, if_pos h]; rfl
    · rw [if_neg h, if_neg h]
      by_cases h' : y < x
      · rw [if_pos h', if_pos h', if_pos h']; rfl
      · rw [if_neg h', if_neg h', if_neg h', if_neg h, ih]

set_option maxHeartbeats 1600000 in
theorem rcheck_dark (f t n lo hi c o : ByteArray) (m : Int) (w : World) (hG : Glob w)
    (li : ∀ W, Calls Tryz.prog 8 #[rangeV f t n lo hi m] W fun e w' => e = .returned (.bool false) ∧ Below W.heap.size W w') :
    Calls Tryz.prog 3 #[rangeV f t n lo hi m, .string c, .string o] w fun e w' => e = .returned (.bool true) ∧ Below w.heap.size w w' := by
  have HC := Lib.hid (CellsAt.new w (rangeC f t n lo hi m) 23)
  have HB := Lib.hid (below_alloc (Below.refl w.heap.size w) (.cells (rangeC f t n lo hi m).toArray 23))
  have AW := Lib.hid (awake18_any (w.alloc (.cells (rangeC f t n lo hi m).toArray 23)) (hG.below HB.out))
  have LI := Lib.hid li
  clear li
  go_enter Tryz.func3, Tryz.ntmps3
  go_wp2_with (first
    | (go_at_call 7; go_must (refine AW.out.mono ?_); rintro e w1 ⟨rfl, hb⟩; have B1 := Lib.hid (below_step HB.out hb); have N1 := Lib.hid (HC.out.below hb); have a0 := N1.out.get (j := 0) rfl; have a1 := N1.out.get (j := 1) rfl; have a2 := N1.out.get (j := 2) rfl; have a3 := N1.out.get (j := 3) rfl; have a4 := N1.out.get (j := 4) rfl; have a5 := N1.out.get (j := 5) rfl; clear hb)
    | (go_at_call 8; go_must (refine (LI.out _).mono ?_); rintro e w2 ⟨rfl, hb⟩; have B2 := Lib.hid (below_step B1.out hb); clear hb))
  go_ret
  exact ⟨rfl, B2.out⟩

set_option maxHeartbeats 1600000 in
theorem rcheck_long (f t n lo hi c o : ByteArray) (m M : Int) (w : World) (hG : Glob w)
    (hM : ∀ ats ty, Builtin.max_ ats ty #[.int .i64 c.size, .int .i64 o.size] = pure (.int .i64 M)) (hM2 : decide (60 < M) = true)
    (li : ∀ W, Calls Tryz.prog 8 #[rangeV f t n lo hi m] W fun e w' => e = .returned (.bool true) ∧ Below W.heap.size W w') :
    Calls Tryz.prog 3 #[rangeV f t n lo hi m, .string c, .string o] w fun e w' => e = .returned (.bool true) ∧ Below w.heap.size w w' := by
  have HC := Lib.hid (CellsAt.new w (rangeC f t n lo hi m) 23)
  have HB := Lib.hid (below_alloc (Below.refl w.heap.size w) (.cells (rangeC f t n lo hi m).toArray 23))
  have AW := Lib.hid (awake18_any (w.alloc (.cells (rangeC f t n lo hi m).toArray 23)) (hG.below HB.out))
  have LI := Lib.hid li
  clear li
  go_enter Tryz.func3, Tryz.ntmps3
  go_wp2_with (first
    | (go_at_call 7; go_must (refine AW.out.mono ?_); rintro e w1 ⟨rfl, hb⟩; have B1 := Lib.hid (below_step HB.out hb); have N1 := Lib.hid (HC.out.below hb); have a0 := N1.out.get (j := 0) rfl; have a1 := N1.out.get (j := 1) rfl; have a2 := N1.out.get (j := 2) rfl; have a3 := N1.out.get (j := 3) rfl; have a4 := N1.out.get (j := 4) rfl; have a5 := N1.out.get (j := 5) rfl; clear hb)
    | (go_at_call 8; go_must (refine (LI.out _).mono ?_); rintro e w2 ⟨rfl, hb⟩; have B2 := Lib.hid (below_step B1.out hb); clear hb))
  go_ret
  exact ⟨rfl, B2.out⟩

theorem chk_zero (p q s l nm wi : Bool) (m : Int) (h : chk p q s l nm wi m = 0) : p = true ∧ q = true ∧ s = true := by
  unfold chk at h
  cases p
  · simp at h
  · cases q
    · simp at h
    · cases s
      · simp at h
      · exact ⟨rfl, rfl, rfl⟩

theorem rcheck_any (f t n lo hi : ByteArray) (m : Int) (c o : ByteArray) (w : World) (hG : Glob w) :
    Calls Tryz.prog 3 #[rangeV f t n lo hi m, .string c, .string o] w fun e w' => e = .returned (.bool true) ∧ Below w.heap.size w w' := by
  have li := fun W => light_any f t n lo hi m W
  cases hL : lightV f t n lo hi with
  | false => rw [hL] at li; exact rcheck_dark f t n lo hi c o m w hG li
  | true =>
    rw [hL] at li
    obtain ⟨M, hM, hiff⟩ := max2_is c.size o.size
    by_cases hlong : 60 < M
    · exact rcheck_long f t n lo hi c o m M w hG hM (decide_eq_true hlong) li
    · simp only [lightV, Bool.and_eq_true, decide_eq_true_eq] at hL
      have hc : c.size ≤ 60 := by omega
      refine rcheck_walk f t n lo hi c o m (checkV f t n lo hi m) (rcmpV c o) M (hasV f t c) _ w hG li hM (decide_eq_false hlong)
        (fun W hW => check_any f t n lo hi m (by omega) (by omega) (by omega) W hW)
        (fun W => PRef.cashierref18_Check.calls 8000 f t n lo hi m _ W (ref_check18 f t n lo hi m (by omega) (by omega) (by omega) (by omega) (by omega)))
        (fun W => (rcmp_any c o W).mono fun e w' h => ⟨h.1, by rw [h.2]; exact Below.refl _ _⟩)
        (fun W => has_any f t n lo hi c m W) rfl (fun hez W => ?_) ?_
      · have h0 : checkV f t n lo hi m = 0 := by simpa using hez
        obtain ⟨h1, h2, h3⟩ := chk_zero _ _ _ _ _ _ _ h0
        simp only [cardOk, Bool.and_eq_true, decide_eq_true_eq] at h1 h2 h3
        exact PRef.cashierref18_Has.calls 8000 f t n lo hi m c _ W (ref_has f t n lo hi c m h1.1.1 h2.1.1 h3 (by omega) (by omega))
      · unfold rcmpV
        by_cases h : c.size = o.size
        · rw [if_pos h, compare_bl, ByteArray.toList_eq, ByteArray.toList_eq, bl_eq]
          unfold ord3
          cases h1 : bl c.data.toList o.data.toList with
          | true => exact .inr (.inr (.inl ⟨h, rfl, by simp⟩))
          | false =>
            cases h2 : bl o.data.toList c.data.toList with
            | true =>
              refine .inr (.inr (.inr (.inl ⟨h, rfl, ?_, by simp⟩)))
              rw [beq_eq_false_iff_ne]
              intro e
              rw [e] at h1 h2
              rw [h1] at h2
              cases h2
            | false => exact .inr (.inr (.inr (.inr ⟨h, rfl, by rw [bl_total _ _ h1 h2]; exact beq_self_eq_true _, by simp⟩)))
        · rw [if_neg h]
          unfold cmpZ
          by_cases h1 : c.size < o.size
          · exact .inl ⟨h1, by rw [if_pos (by omega)]⟩
          · exact .inr (.inl ⟨by omega, by rw [if_neg (by omega), if_pos (by omega)]⟩)

end Go.Proofs.YtiggnmhoececfaaGreatDoor
