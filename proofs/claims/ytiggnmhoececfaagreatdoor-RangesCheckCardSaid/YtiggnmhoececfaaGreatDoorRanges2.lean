/- One range's Check. -/
import Derived.Test.YtiggnmhoececfaaGreatDoorRanges
import Derived.Test.YtiggnmhoececfaaGreatDoorRef17b
namespace Go.Proofs.YtiggnmhoececfaaGreatDoor
set_option linter.unusedVariables false
set_option linter.unusedSimpArgs false
open Go.RowKit Go.Proofs.YtiggnmhoececfaaGreatDoorW.PrintWords

/-- ranges.named -/
def namedOk (s : ByteArray) : Bool := (s.data.toList.all fun c => decide (33 ≤ c.toNat) && decide (c.toNat ≤ 126)) && (!s.data.toList.isEmpty && decide (s.size ≤ 32))

theorem named_loop (s : ByteArray) (hs : s.size ≤ 1000) : ∀ k i : Nat, i ≤ s.size → s.size - i < k → (s.data.toList.take i).all (fun c => decide (33 ≤ c.toNat) && decide (c.toNat ≤ 126)) = true → PRef.ranges_named.l0 k s (s.size : Int) i = some (namedOk s) := by
  intro k
  induction k with
  | zero => intro i hi hk; omega
  | succ k ih =>
    intro i hi hk ha
    have hsz : s.data.toList.length = s.size := by simp
    unfold PRef.ranges_named.l0
    by_cases h : i < s.size
    · rw [if_pos (by omega), if_pos (by omega), if_pos (by omega), bt_nat s i h]
      have hd : s.data.toList = s.data.toList.take i ++ s.data.toList[i]'(by omega) :: s.data.toList.drop (i + 1) := by
        rw [← drop_at (by omega), List.take_append_drop]
      have ht : s.data.toList.take (i + 1) = s.data.toList.take i ++ [s.data.toList[i]'(by omega)] := by rw [List.take_succ_eq_append_getElem (by omega)]
      have hno : ∀ c, s.data.toList[i]'(by omega) = c → (decide (33 ≤ c.toNat) && decide (c.toNat ≤ 126)) = false → namedOk s = false := fun c hc hf => by
        unfold namedOk
        rw [hd, hc]
        simp [hf]
      generalize hc : s.data.toList[i]'(by omega) = c at ht hno
      have hno := hno c rfl
      by_cases h1 : 33 ≤ c.toNat
      · by_cases h2 : c.toNat ≤ 126
        · rw [if_neg (by omega), if_neg (by omega), wrap64_of (by omega) (by omega), show ((i : Int) + 1) = ((i + 1 : Nat) : Int) by omega]
          exact ih (i + 1) (by omega) (by omega) (by rw [ht, List.all_append, ha]; simp [h1, h2])
        · rw [if_neg (by omega), if_pos (by omega), hno (by simp [h2])]
      · rw [if_pos (by omega), hno (by simp [h1])]
    · obtain rfl : i = s.size := by omega
      rw [if_neg (by omega)]
      rw [List.take_of_length_le (by omega)] at ha
      unfold namedOk
      rw [ha, Bool.true_and, ByteArray.toList_eq]
      by_cases he : s.data.toList = []
      · rw [if_pos he, he]; rfl
      · rw [if_neg he]
        have : s.data.toList.isEmpty = false := by simpa using he
        rw [this]
        congr 1
        simp
        omega

theorem named_any (s : ByteArray) (hs : s.size ≤ 1000) (w : World) :
    Calls Tryz.prog 29 #[.string s] w fun e w' => e = .returned (.bool (namedOk s)) ∧ Below w.heap.size w w' :=
  (PRef.ranges_named.calls 2000 s _ w (named_loop s hs 2000 0 (by omega) (by omega) (by simp))).mono fun _ _ h => ⟨h.1, h.2.below⟩

def chk (p q s l nm wi : Bool) (m : Int) : Int := if p = true then (if q = true then (if s = true then (if l = true then 19 else if nm = true then (if wi = true then (if m < 1 then 11 else if 3 < m then 11 else 0) else 7) else 2) else 4) else 4) else 4

set_option maxHeartbeats 4000000 in
theorem check_walk (p q nm wi : Bool) (f t n lo hi : ByteArray) (m : Int) (w : World) (hG : Glob w)
    (p1 : ∀ W, Calls Tryz.prog 28 #[.string f] W fun e w' => e = .returned (.bool p) ∧ Below W.heap.size W w')
    (p2 : ∀ W, Calls Tryz.prog 28 #[.string t] W fun e w' => e = .returned (.bool q) ∧ Below W.heap.size W w')
    (pn : ∀ W, Calls Tryz.prog 29 #[.string n] W fun e w' => e = .returned (.bool nm) ∧ Below W.heap.size W w')
    (pw : ∀ W, Glob W → Calls Tryz.prog 30 #[.string lo, .string lo, .string hi] W fun e w' => e = .returned (.bool wi) ∧ Below W.heap.size W w') :
    Calls Tryz.prog 9 #[rangeV f t n lo hi m] w fun e w' => e = .returned (.int .i64 (chk p q (decide (f.size = t.size)) (Op.bytesLess t.toList f.toList) nm wi m)) ∧ Below w.heap.size w w' := by
  have HC := Lib.hid (CellsAt.new w (rangeC f t n lo hi m) 23)
  have HB := Lib.hid (below_alloc (Below.refl w.heap.size w) (.cells (rangeC f t n lo hi m).toArray 23))
  have P1 := Lib.hid p1
  have P2 := Lib.hid p2
  have PN := Lib.hid pn
  have PW := Lib.hid pw
  clear p1 p2 pn pw
  by_cases hs : f.size = t.size
  · have k1 : ((f.size : Int) != (t.size : Int)) = false := by simp [hs]
    rw [decide_eq_true hs]
    clear hs
    cases p
    · show Calls _ _ _ _ fun e w' => e = .returned (.int .i64 4) ∧ Below w.heap.size w w'
      go_enter Tryz.func9, Tryz.ntmps9
      go_wp2_with (first
              | (go_at_call 28; first
                  | (with_reducible refine (P1.out _).mono ?_; rintro e w1 ⟨rfl, hb⟩; have B1 := Lib.hid (below_step HB.out hb); have N1 := Lib.hid (HC.out.below hb); have c0 := N1.out.get (j := 0) rfl; have c1 := N1.out.get (j := 1) rfl; have c2 := N1.out.get (j := 2) rfl; have c3 := N1.out.get (j := 3) rfl; have c4 := N1.out.get (j := 4) rfl; have c5 := N1.out.get (j := 5) rfl; clear hb)
                  | (with_reducible refine (P2.out _).mono ?_; rintro e w2 ⟨rfl, hb⟩; have B2 := Lib.hid (below_step B1.out hb); have N2 := Lib.hid (N1.out.below hb); have d0 := N2.out.get (j := 0) rfl; have d1 := N2.out.get (j := 1) rfl; have d2 := N2.out.get (j := 2) rfl; have d3 := N2.out.get (j := 3) rfl; have d4 := N2.out.get (j := 4) rfl; have d5 := N2.out.get (j := 5) rfl; clear hb))
              | (go_at_call 29; go_must (refine (PN.out _).mono ?_); rintro e w3 ⟨rfl, hb⟩; have B3 := Lib.hid (below_step B2.out hb); have N3 := Lib.hid (N2.out.below hb); have e0 := N3.out.get (j := 0) rfl; have e1 := N3.out.get (j := 1) rfl; have e2 := N3.out.get (j := 2) rfl; have e3 := N3.out.get (j := 3) rfl; have e4 := N3.out.get (j := 4) rfl; have e5 := N3.out.get (j := 5) rfl; clear hb)
              | (go_at_call 30; go_must (refine (PW.out _ (hG.below B3.out)).mono ?_); rintro e w4 ⟨rfl, hb⟩; have B4 := Lib.hid (below_step B3.out hb); have N4 := Lib.hid (N3.out.below hb); have g0 := N4.out.get (j := 0) rfl; have g1 := N4.out.get (j := 1) rfl; have g2 := N4.out.get (j := 2) rfl; have g3 := N4.out.get (j := 3) rfl; have g4 := N4.out.get (j := 4) rfl; have g5 := N4.out.get (j := 5) rfl; clear hb))
      go_ret
      exact ⟨rfl, B1.out⟩
    · cases q
      · show Calls _ _ _ _ fun e w' => e = .returned (.int .i64 4) ∧ Below w.heap.size w w'
        go_enter Tryz.func9, Tryz.ntmps9
        go_wp2_with (first
                | (go_at_call 28; first
                    | (with_reducible refine (P1.out _).mono ?_; rintro e w1 ⟨rfl, hb⟩; have B1 := Lib.hid (below_step HB.out hb); have N1 := Lib.hid (HC.out.below hb); have c0 := N1.out.get (j := 0) rfl; have c1 := N1.out.get (j := 1) rfl; have c2 := N1.out.get (j := 2) rfl; have c3 := N1.out.get (j := 3) rfl; have c4 := N1.out.get (j := 4) rfl; have c5 := N1.out.get (j := 5) rfl; clear hb)
                    | (with_reducible refine (P2.out _).mono ?_; rintro e w2 ⟨rfl, hb⟩; have B2 := Lib.hid (below_step B1.out hb); have N2 := Lib.hid (N1.out.below hb); have d0 := N2.out.get (j := 0) rfl; have d1 := N2.out.get (j := 1) rfl; have d2 := N2.out.get (j := 2) rfl; have d3 := N2.out.get (j := 3) rfl; have d4 := N2.out.get (j := 4) rfl; have d5 := N2.out.get (j := 5) rfl; clear hb))
                | (go_at_call 29; go_must (refine (PN.out _).mono ?_); rintro e w3 ⟨rfl, hb⟩; have B3 := Lib.hid (below_step B2.out hb); have N3 := Lib.hid (N2.out.below hb); have e0 := N3.out.get (j := 0) rfl; have e1 := N3.out.get (j := 1) rfl; have e2 := N3.out.get (j := 2) rfl; have e3 := N3.out.get (j := 3) rfl; have e4 := N3.out.get (j := 4) rfl; have e5 := N3.out.get (j := 5) rfl; clear hb)
                | (go_at_call 30; go_must (refine (PW.out _ (hG.below B3.out)).mono ?_); rintro e w4 ⟨rfl, hb⟩; have B4 := Lib.hid (below_step B3.out hb); have N4 := Lib.hid (N3.out.below hb); have g0 := N4.out.get (j := 0) rfl; have g1 := N4.out.get (j := 1) rfl; have g2 := N4.out.get (j := 2) rfl; have g3 := N4.out.get (j := 3) rfl; have g4 := N4.out.get (j := 4) rfl; have g5 := N4.out.get (j := 5) rfl; clear hb))
        go_ret
        exact ⟨rfl, B2.out⟩
      · cases hl : Op.bytesLess t.toList f.toList
        · cases nm
          · show Calls _ _ _ _ fun e w' => e = .returned (.int .i64 2) ∧ Below w.heap.size w w'
            go_enter Tryz.func9, Tryz.ntmps9
            go_wp2_with (first
                    | (go_at_call 28; first
                        | (with_reducible refine (P1.out _).mono ?_; rintro e w1 ⟨rfl, hb⟩; have B1 := Lib.hid (below_step HB.out hb); have N1 := Lib.hid (HC.out.below hb); have c0 := N1.out.get (j := 0) rfl; have c1 := N1.out.get (j := 1) rfl; have c2 := N1.out.get (j := 2) rfl; have c3 := N1.out.get (j := 3) rfl; have c4 := N1.out.get (j := 4) rfl; have c5 := N1.out.get (j := 5) rfl; clear hb)
                        | (with_reducible refine (P2.out _).mono ?_; rintro e w2 ⟨rfl, hb⟩; have B2 := Lib.hid (below_step B1.out hb); have N2 := Lib.hid (N1.out.below hb); have d0 := N2.out.get (j := 0) rfl; have d1 := N2.out.get (j := 1) rfl; have d2 := N2.out.get (j := 2) rfl; have d3 := N2.out.get (j := 3) rfl; have d4 := N2.out.get (j := 4) rfl; have d5 := N2.out.get (j := 5) rfl; clear hb))
                    | (go_at_call 29; go_must (refine (PN.out _).mono ?_); rintro e w3 ⟨rfl, hb⟩; have B3 := Lib.hid (below_step B2.out hb); have N3 := Lib.hid (N2.out.below hb); have e0 := N3.out.get (j := 0) rfl; have e1 := N3.out.get (j := 1) rfl; have e2 := N3.out.get (j := 2) rfl; have e3 := N3.out.get (j := 3) rfl; have e4 := N3.out.get (j := 4) rfl; have e5 := N3.out.get (j := 5) rfl; clear hb)
                    | (go_at_call 30; go_must (refine (PW.out _ (hG.below B3.out)).mono ?_); rintro e w4 ⟨rfl, hb⟩; have B4 := Lib.hid (below_step B3.out hb); have N4 := Lib.hid (N3.out.below hb); have g0 := N4.out.get (j := 0) rfl; have g1 := N4.out.get (j := 1) rfl; have g2 := N4.out.get (j := 2) rfl; have g3 := N4.out.get (j := 3) rfl; have g4 := N4.out.get (j := 4) rfl; have g5 := N4.out.get (j := 5) rfl; clear hb))
            go_ret
            exact ⟨rfl, B3.out⟩
          · cases wi
            · show Calls _ _ _ _ fun e w' => e = .returned (.int .i64 7) ∧ Below w.heap.size w w'
              go_enter Tryz.func9, Tryz.ntmps9
              go_wp2_with (first
                      | (go_at_call 28; first
                          | (with_reducible refine (P1.out _).mono ?_; rintro e w1 ⟨rfl, hb⟩; have B1 := Lib.hid (below_step HB.out hb); have N1 := Lib.hid (HC.out.below hb); have c0 := N1.out.get (j := 0) rfl; have c1 := N1.out.get (j := 1) rfl; have c2 := N1.out.get (j := 2) rfl; have c3 := N1.out.get (j := 3) rfl; have c4 := N1.out.get (j := 4) rfl; have c5 := N1.out.get (j := 5) rfl; clear hb)
                          | (with_reducible refine (P2.out _).mono ?_; rintro e w2 ⟨rfl, hb⟩; have B2 := Lib.hid (below_step B1.out hb); have N2 := Lib.hid (N1.out.below hb); have d0 := N2.out.get (j := 0) rfl; have d1 := N2.out.get (j := 1) rfl; have d2 := N2.out.get (j := 2) rfl; have d3 := N2.out.get (j := 3) rfl; have d4 := N2.out.get (j := 4) rfl; have d5 := N2.out.get (j := 5) rfl; clear hb))
                      | (go_at_call 29; go_must (refine (PN.out _).mono ?_); rintro e w3 ⟨rfl, hb⟩; have B3 := Lib.hid (below_step B2.out hb); have N3 := Lib.hid (N2.out.below hb); have e0 := N3.out.get (j := 0) rfl; have e1 := N3.out.get (j := 1) rfl; have e2 := N3.out.get (j := 2) rfl; have e3 := N3.out.get (j := 3) rfl; have e4 := N3.out.get (j := 4) rfl; have e5 := N3.out.get (j := 5) rfl; clear hb)
                      | (go_at_call 30; go_must (refine (PW.out _ (hG.below B3.out)).mono ?_); rintro e w4 ⟨rfl, hb⟩; have B4 := Lib.hid (below_step B3.out hb); have N4 := Lib.hid (N3.out.below hb); have g0 := N4.out.get (j := 0) rfl; have g1 := N4.out.get (j := 1) rfl; have g2 := N4.out.get (j := 2) rfl; have g3 := N4.out.get (j := 3) rfl; have g4 := N4.out.get (j := 4) rfl; have g5 := N4.out.get (j := 5) rfl; clear hb))
              go_ret
              exact ⟨rfl, B4.out⟩
            · by_cases h1 : m < 1
              · have e : chk true true true false true true m = 11 := by unfold chk; simp [h1]
                rw [e]
                clear e
                have k2 : decide (m < 1) = true := decide_eq_true h1
                clear h1
                go_enter Tryz.func9, Tryz.ntmps9
                go_wp2_with (first
                        | (go_at_call 28; first
                            | (with_reducible refine (P1.out _).mono ?_; rintro e w1 ⟨rfl, hb⟩; have B1 := Lib.hid (below_step HB.out hb); have N1 := Lib.hid (HC.out.below hb); have c0 := N1.out.get (j := 0) rfl; have c1 := N1.out.get (j := 1) rfl; have c2 := N1.out.get (j := 2) rfl; have c3 := N1.out.get (j := 3) rfl; have c4 := N1.out.get (j := 4) rfl; have c5 := N1.out.get (j := 5) rfl; clear hb)
                            | (with_reducible refine (P2.out _).mono ?_; rintro e w2 ⟨rfl, hb⟩; have B2 := Lib.hid (below_step B1.out hb); have N2 := Lib.hid (N1.out.below hb); have d0 := N2.out.get (j := 0) rfl; have d1 := N2.out.get (j := 1) rfl; have d2 := N2.out.get (j := 2) rfl; have d3 := N2.out.get (j := 3) rfl; have d4 := N2.out.get (j := 4) rfl; have d5 := N2.out.get (j := 5) rfl; clear hb))
                        | (go_at_call 29; go_must (refine (PN.out _).mono ?_); rintro e w3 ⟨rfl, hb⟩; have B3 := Lib.hid (below_step B2.out hb); have N3 := Lib.hid (N2.out.below hb); have e0 := N3.out.get (j := 0) rfl; have e1 := N3.out.get (j := 1) rfl; have e2 := N3.out.get (j := 2) rfl; have e3 := N3.out.get (j := 3) rfl; have e4 := N3.out.get (j := 4) rfl; have e5 := N3.out.get (j := 5) rfl; clear hb)
                        | (go_at_call 30; go_must (refine (PW.out _ (hG.below B3.out)).mono ?_); rintro e w4 ⟨rfl, hb⟩; have B4 := Lib.hid (below_step B3.out hb); have N4 := Lib.hid (N3.out.below hb); have g0 := N4.out.get (j := 0) rfl; have g1 := N4.out.get (j := 1) rfl; have g2 := N4.out.get (j := 2) rfl; have g3 := N4.out.get (j := 3) rfl; have g4 := N4.out.get (j := 4) rfl; have g5 := N4.out.get (j := 5) rfl; clear hb))
                go_ret
                exact ⟨rfl, B4.out⟩
              · by_cases h3 : 3 < m
                · have e : chk true true true false true true m = 11 := by unfold chk; simp [h1, h3]
                  rw [e]
                  clear e
                  have k2 : decide (m < 1) = false := decide_eq_false h1
                  have k3 : decide (3 < m) = true := decide_eq_true h3
                  clear h1 h3
                  go_enter Tryz.func9, Tryz.ntmps9
                  go_wp2_with (first
                          | (go_at_call 28; first
                              | (with_reducible refine (P1.out _).mono ?_; rintro e w1 ⟨rfl, hb⟩; have B1 := Lib.hid (below_step HB.out hb); have N1 := Lib.hid (HC.out.below hb); have c0 := N1.out.get (j := 0) rfl; have c1 := N1.out.get (j := 1) rfl; have c2 := N1.out.get (j := 2) rfl; have c3 := N1.out.get (j := 3) rfl; have c4 := N1.out.get (j := 4) rfl; have c5 := N1.out.get (j := 5) rfl; clear hb)
                              | (with_reducible refine (P2.out _).mono ?_; rintro e w2 ⟨rfl, hb⟩; have B2 := Lib.hid (below_step B1.out hb); have N2 := Lib.hid (N1.out.below hb); have d0 := N2.out.get (j := 0) rfl; have d1 := N2.out.get (j := 1) rfl; have d2 := N2.out.get (j := 2) rfl; have d3 := N2.out.get (j := 3) rfl; have d4 := N2.out.get (j := 4) rfl; have d5 := N2.out.get (j := 5) rfl; clear hb))
                          | (go_at_call 29; go_must (refine (PN.out _).mono ?_); rintro e w3 ⟨rfl, hb⟩; have B3 := Lib.hid (below_step B2.out hb); have N3 := Lib.hid (N2.out.below hb); have e0 := N3.out.get (j := 0) rfl; have e1 := N3.out.get (j := 1) rfl; have e2 := N3.out.get (j := 2) rfl; have e3 := N3.out.get (j := 3) rfl; have e4 := N3.out.get (j := 4) rfl; have e5 := N3.out.get (j := 5) rfl; clear hb)
                          | (go_at_call 30; go_must (refine (PW.out _ (hG.below B3.out)).mono ?_); rintro e w4 ⟨rfl, hb⟩; have B4 := Lib.hid (below_step B3.out hb); have N4 := Lib.hid (N3.out.below hb); have g0 := N4.out.get (j := 0) rfl; have g1 := N4.out.get (j := 1) rfl; have g2 := N4.out.get (j := 2) rfl; have g3 := N4.out.get (j := 3) rfl; have g4 := N4.out.get (j := 4) rfl; have g5 := N4.out.get (j := 5) rfl; clear hb))
                  go_ret
                  exact ⟨rfl, B4.out⟩
                · have e : chk true true true false true true m = 0 := by unfold chk; simp [h1, h3]
                  rw [e]
                  clear e
                  have k2 : decide (m < 1) = false := decide_eq_false h1
                  have k3 : decide (3 < m) = false := decide_eq_false h3
                  clear h1 h3
                  go_enter Tryz.func9, Tryz.ntmps9
                  go_wp2_with (first
                          | (go_at_call 28; first
                              | (with_reducible refine (P1.out _).mono ?_; rintro e w1 ⟨rfl, hb⟩; have B1 := Lib.hid (below_step HB.out hb); have N1 := Lib.hid (HC.out.below hb); have c0 := N1.out.get (j := 0) rfl; have c1 := N1.out.get (j := 1) rfl; have c2 := N1.out.get (j := 2) rfl; have c3 := N1.out.get (j := 3) rfl; have c4 := N1.out.get (j := 4) rfl; have c5 := N1.out.get (j := 5) rfl; clear hb)
                              | (with_reducible refine (P2.out _).mono ?_; rintro e w2 ⟨rfl, hb⟩; have B2 := Lib.hid (below_step B1.out hb); have N2 := Lib.hid (N1.out.below hb); have d0 := N2.out.get (j := 0) rfl; have d1 := N2.out.get (j := 1) rfl; have d2 := N2.out.get (j := 2) rfl; have d3 := N2.out.get (j := 3) rfl; have d4 := N2.out.get (j := 4) rfl; have d5 := N2.out.get (j := 5) rfl; clear hb))
                          | (go_at_call 29; go_must (refine (PN.out _).mono ?_); rintro e w3 ⟨rfl, hb⟩; have B3 := Lib.hid (below_step B2.out hb); have N3 := Lib.hid (N2.out.below hb); have e0 := N3.out.get (j := 0) rfl; have e1 := N3.out.get (j := 1) rfl; have e2 := N3.out.get (j := 2) rfl; have e3 := N3.out.get (j := 3) rfl; have e4 := N3.out.get (j := 4) rfl; have e5 := N3.out.get (j := 5) rfl; clear hb)
                          | (go_at_call 30; go_must (refine (PW.out _ (hG.below B3.out)).mono ?_); rintro e w4 ⟨rfl, hb⟩; have B4 := Lib.hid (below_step B3.out hb); have N4 := Lib.hid (N3.out.below hb); have g0 := N4.out.get (j := 0) rfl; have g1 := N4.out.get (j := 1) rfl; have g2 := N4.out.get (j := 2) rfl; have g3 := N4.out.get (j := 3) rfl; have g4 := N4.out.get (j := 4) rfl; have g5 := N4.out.get (j := 5) rfl; clear hb))
                  go_ret
                  exact ⟨rfl, B4.out⟩
        · show Calls _ _ _ _ fun e w' => e = .returned (.int .i64 19) ∧ Below w.heap.size w w'
          go_enter Tryz.func9, Tryz.ntmps9
          go_wp2_with (first
                  | (go_at_call 28; first
                      | (with_reducible refine (P1.out _).mono ?_; rintro e w1 ⟨rfl, hb⟩; have B1 := Lib.hid (below_step HB.out hb); have N1 := Lib.hid (HC.out.below hb); have c0 := N1.out.get (j := 0) rfl; have c1 := N1.out.get (j := 1) rfl; have c2 := N1.out.get (j := 2) rfl; have c3 := N1.out.get (j := 3) rfl; have c4 := N1.out.get (j := 4) rfl; have c5 := N1.out.get (j := 5) rfl; clear hb)
                      | (with_reducible refine (P2.out _).mono ?_; rintro e w2 ⟨rfl, hb⟩; have B2 := Lib.hid (below_step B1.out hb); have N2 := Lib.hid (N1.out.below hb); have d0 := N2.out.get (j := 0) rfl; have d1 := N2.out.get (j := 1) rfl; have d2 := N2.out.get (j := 2) rfl; have d3 := N2.out.get (j := 3) rfl; have d4 := N2.out.get (j := 4) rfl; have d5 := N2.out.get (j := 5) rfl; clear hb))
                  | (go_at_call 29; go_must (refine (PN.out _).mono ?_); rintro e w3 ⟨rfl, hb⟩; have B3 := Lib.hid (below_step B2.out hb); have N3 := Lib.hid (N2.out.below hb); have e0 := N3.out.get (j := 0) rfl; have e1 := N3.out.get (j := 1) rfl; have e2 := N3.out.get (j := 2) rfl; have e3 := N3.out.get (j := 3) rfl; have e4 := N3.out.get (j := 4) rfl; have e5 := N3.out.get (j := 5) rfl; clear hb)
                  | (go_at_call 30; go_must (refine (PW.out _ (hG.below B3.out)).mono ?_); rintro e w4 ⟨rfl, hb⟩; have B4 := Lib.hid (below_step B3.out hb); have N4 := Lib.hid (N3.out.below hb); have g0 := N4.out.get (j := 0) rfl; have g1 := N4.out.get (j := 1) rfl; have g2 := N4.out.get (j := 2) rfl; have g3 := N4.out.get (j := 3) rfl; have g4 := N4.out.get (j := 4) rfl; have g5 := N4.out.get (j := 5) rfl; clear hb))
          go_ret
          exact ⟨rfl, B2.out⟩
  · have k1 : ((f.size : Int) != (t.size : Int)) = true := by simp; omega
    rw [decide_eq_false hs]
    clear hs
    cases p
    · show Calls _ _ _ _ fun e w' => e = .returned (.int .i64 4) ∧ Below w.heap.size w w'
      go_enter Tryz.func9, Tryz.ntmps9
      go_wp2_with (first
              | (go_at_call 28; first
                  | (with_reducible refine (P1.out _).mono ?_; rintro e w1 ⟨rfl, hb⟩; have B1 := Lib.hid (below_step HB.out hb); have N1 := Lib.hid (HC.out.below hb); have c0 := N1.out.get (j := 0) rfl; have c1 := N1.out.get (j := 1) rfl; have c2 := N1.out.get (j := 2) rfl; have c3 := N1.out.get (j := 3) rfl; have c4 := N1.out.get (j := 4) rfl; have c5 := N1.out.get (j := 5) rfl; clear hb)
                  | (with_reducible refine (P2.out _).mono ?_; rintro e w2 ⟨rfl, hb⟩; have B2 := Lib.hid (below_step B1.out hb); have N2 := Lib.hid (N1.out.below hb); have d0 := N2.out.get (j := 0) rfl; have d1 := N2.out.get (j := 1) rfl; have d2 := N2.out.get (j := 2) rfl; have d3 := N2.out.get (j := 3) rfl; have d4 := N2.out.get (j := 4) rfl; have d5 := N2.out.get (j := 5) rfl; clear hb))
              | (go_at_call 29; go_must (refine (PN.out _).mono ?_); rintro e w3 ⟨rfl, hb⟩; have B3 := Lib.hid (below_step B2.out hb); have N3 := Lib.hid (N2.out.below hb); have e0 := N3.out.get (j := 0) rfl; have e1 := N3.out.get (j := 1) rfl; have e2 := N3.out.get (j := 2) rfl; have e3 := N3.out.get (j := 3) rfl; have e4 := N3.out.get (j := 4) rfl; have e5 := N3.out.get (j := 5) rfl; clear hb)
              | (go_at_call 30; go_must (refine (PW.out _ (hG.below B3.out)).mono ?_); rintro e w4 ⟨rfl, hb⟩; have B4 := Lib.hid (below_step B3.out hb); have N4 := Lib.hid (N3.out.below hb); have g0 := N4.out.get (j := 0) rfl; have g1 := N4.out.get (j := 1) rfl; have g2 := N4.out.get (j := 2) rfl; have g3 := N4.out.get (j := 3) rfl; have g4 := N4.out.get (j := 4) rfl; have g5 := N4.out.get (j := 5) rfl; clear hb))
      go_ret
      exact ⟨rfl, B1.out⟩
    · cases q
      · show Calls _ _ _ _ fun e w' => e = .returned (.int .i64 4) ∧ Below w.heap.size w w'
        go_enter Tryz.func9, Tryz.ntmps9
        go_wp2_with (first
                | (go_at_call 28; first
                    | (with_reducible refine (P1.out _).mono ?_; rintro e w1 ⟨rfl, hb⟩; have B1 := Lib.hid (below_step HB.out hb); have N1 := Lib.hid (HC.out.below hb); have c0 := N1.out.get (j := 0) rfl; have c1 := N1.out.get (j := 1) rfl; have c2 := N1.out.get (j := 2) rfl; have c3 := N1.out.get (j := 3) rfl; have c4 := N1.out.get (j := 4) rfl; have c5 := N1.out.get (j := 5) rfl; clear hb)
                    | (with_reducible refine (P2.out _).mono ?_; rintro e w2 ⟨rfl, hb⟩; have B2 := Lib.hid (below_step B1.out hb); have N2 := Lib.hid (N1.out.below hb); have d0 := N2.out.get (j := 0) rfl; have d1 := N2.out.get (j := 1) rfl; have d2 := N2.out.get (j := 2) rfl; have d3 := N2.out.get (j := 3) rfl; have d4 := N2.out.get (j := 4) rfl; have d5 := N2.out.get (j := 5) rfl; clear hb))
                | (go_at_call 29; go_must (refine (PN.out _).mono ?_); rintro e w3 ⟨rfl, hb⟩; have B3 := Lib.hid (below_step B2.out hb); have N3 := Lib.hid (N2.out.below hb); have e0 := N3.out.get (j := 0) rfl; have e1 := N3.out.get (j := 1) rfl; have e2 := N3.out.get (j := 2) rfl; have e3 := N3.out.get (j := 3) rfl; have e4 := N3.out.get (j := 4) rfl; have e5 := N3.out.get (j := 5) rfl; clear hb)
                | (go_at_call 30; go_must (refine (PW.out _ (hG.below B3.out)).mono ?_); rintro e w4 ⟨rfl, hb⟩; have B4 := Lib.hid (below_step B3.out hb); have N4 := Lib.hid (N3.out.below hb); have g0 := N4.out.get (j := 0) rfl; have g1 := N4.out.get (j := 1) rfl; have g2 := N4.out.get (j := 2) rfl; have g3 := N4.out.get (j := 3) rfl; have g4 := N4.out.get (j := 4) rfl; have g5 := N4.out.get (j := 5) rfl; clear hb))
        go_ret
        exact ⟨rfl, B2.out⟩
      · show Calls _ _ _ _ fun e w' => e = .returned (.int .i64 4) ∧ Below w.heap.size w w'
        go_enter Tryz.func9, Tryz.ntmps9
        go_wp2_with (first
                | (go_at_call 28; first
                    | (with_reducible refine (P1.out _).mono ?_; rintro e w1 ⟨rfl, hb⟩; have B1 := Lib.hid (below_step HB.out hb); have N1 := Lib.hid (HC.out.below hb); have c0 := N1.out.get (j := 0) rfl; have c1 := N1.out.get (j := 1) rfl; have c2 := N1.out.get (j := 2) rfl; have c3 := N1.out.get (j := 3) rfl; have c4 := N1.out.get (j := 4) rfl; have c5 := N1.out.get (j := 5) rfl; clear hb)
                    | (with_reducible refine (P2.out _).mono ?_; rintro e w2 ⟨rfl, hb⟩; have B2 := Lib.hid (below_step B1.out hb); have N2 := Lib.hid (N1.out.below hb); have d0 := N2.out.get (j := 0) rfl; have d1 := N2.out.get (j := 1) rfl; have d2 := N2.out.get (j := 2) rfl; have d3 := N2.out.get (j := 3) rfl; have d4 := N2.out.get (j := 4) rfl; have d5 := N2.out.get (j := 5) rfl; clear hb))
                | (go_at_call 29; go_must (refine (PN.out _).mono ?_); rintro e w3 ⟨rfl, hb⟩; have B3 := Lib.hid (below_step B2.out hb); have N3 := Lib.hid (N2.out.below hb); have e0 := N3.out.get (j := 0) rfl; have e1 := N3.out.get (j := 1) rfl; have e2 := N3.out.get (j := 2) rfl; have e3 := N3.out.get (j := 3) rfl; have e4 := N3.out.get (j := 4) rfl; have e5 := N3.out.get (j := 5) rfl; clear hb)
                | (go_at_call 30; go_must (refine (PW.out _ (hG.below B3.out)).mono ?_); rintro e w4 ⟨rfl, hb⟩; have B4 := Lib.hid (below_step B3.out hb); have N4 := Lib.hid (N3.out.below hb); have g0 := N4.out.get (j := 0) rfl; have g1 := N4.out.get (j := 1) rfl; have g2 := N4.out.get (j := 2) rfl; have g3 := N4.out.get (j := 3) rfl; have g4 := N4.out.get (j := 4) rfl; have g5 := N4.out.get (j := 5) rfl; clear hb))
        go_ret
        exact ⟨rfl, B2.out⟩

/-- ranges.Range.Check -/
def checkV (f t n lo hi : ByteArray) (m : Int) : Int := chk (cardOk f) (cardOk t) (decide (f.size = t.size)) (Op.bytesLess t.toList f.toList) (namedOk n) (within lo.data.toList lo.data.toList hi.data.toList) m

theorem bytes_of (s : ByteArray) : (⟨s.data.toList.toArray⟩ : ByteArray) = s := by
  cases s; simp

theorem check_any (f t n lo hi : ByteArray) (m : Int) (hn : n.size ≤ 1000) (hlo : lo.size ≤ 1000) (hhi : hi.size ≤ 1000) (w : World) (hG : Glob w) :
    Calls Tryz.prog 9 #[rangeV f t n lo hi m] w fun e w' => e = .returned (.int .i64 (checkV f t n lo hi m)) ∧ Below w.heap.size w w' := by
  refine check_walk _ _ _ _ f t n lo hi m w hG (fun W => rcard_any f W) (fun W => rcard_any t W) (fun W => named_any n hn W) (fun W hW => ?_)
  have l1 : lo.data.toList.length = lo.size := by simp
  have l2 : hi.data.toList.length = hi.size := by simp
  have := within_any lo.data.toList lo.data.toList hi.data.toList (by omega) (by omega) (by omega) W hW
  rw [bytes_of, bytes_of] at this
  exact this

end Go.Proofs.YtiggnmhoececfaaGreatDoor
