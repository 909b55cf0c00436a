/- Texts taken together, trimmed. -/
import Derived.Test.YtfocognhcljhpaaGreatDoorR8
import Derived.MapKept
import Derived.Test.YtfocognhcljhpaaGreatDoorR5
import Derived.Laws.BytesArg
set_option linter.unusedVariables false
set_option linter.unusedSimpArgs false
namespace Go.Proofs.YtfocognhcljhpaaGreatDoor
open Go.RowKit Go.Shelf Go.Proofs.YtfocognhcljhpaaGreatDoorW.PrintWords Go.Proofs.YtfocognhcljhpaaGreatDoorW.PrintLast Go.Proofs.YtfocognhcljhpaaGreatDoorW.PrintMore Go.Proofs.YtfocognhcljhpaaGreatDoor.PPrintRows Go.Proofs.YtfocognhcljhpaaGreatDoor.Tree
theorem wrap64_of (n : Int) (h : -9223372036854775808 ≤ n) (h2 : n < 9223372036854775808) : wrap64 n = n := by
 unfold wrap64
 omega
theorem ext_take (s : ByteArray) (a n : Nat) : (s.extract a (a + n)).data.toList = (s.data.toList.drop a).take n := by
 rw [ByteArray.data_extract, Array.toList_extract, List.extract_eq_take_drop]
 simp
def N7 (W : World) (A : Option Addr) (l : List Node) (n : Nat) : Prop := ∀ k (hk : k < l.length), k < n → ∃ ad, A = some ad ∧ W.cell? (ad.add (k * 5)) = some (.int .i64 l[k].f0) ∧
  W.cell? ⟨(ad.add (k * 5)).block, (ad.add (k * 5)).off + 1, none⟩ = some (.string l[k].f1) ∧ W.cell? ⟨(ad.add (k * 5)).block, (ad.add (k * 5)).off + 2, none⟩ = some (.string l[k].f2) ∧
  W.cell? ⟨(ad.add (k * 5)).block, (ad.add (k * 5)).off + 3, none⟩ = some (.int .i64 l[k].f3) ∧ W.cell? ⟨(ad.add (k * 5)).block, (ad.add (k * 5)).off + 4, none⟩ = some (.int .i64 l[k].f4)
theorem N7.of {W : World} {base n c : Nat} {A : Option Addr} {l : List Node} (h : Row7 W base (.slice A n c) l) (m : Nat) : N7 W A l m := fun k hk _ => node7_at h k hk
theorem N7.below {W W1 : World} {A : Option Addr} {l : List Node} {n : Nat} (h : N7 W A l n) (hb : Below W.heap.size W W1) : N7 W1 A l n := fun k hk hn => by
 obtain ⟨ad, e, h0, h1, h2, h3, h4⟩ := h k hk hn
 exact ⟨ad, e, cellBelow hb h0, cellBelow hb h1, cellBelow hb h2, cellBelow hb h3, cellBelow hb h4⟩
theorem N7.less {W : World} {A : Option Addr} {l : List Node} {n m : Nat} (h : N7 W A l n) (hm : m ≤ n) : N7 W A l m := fun k hk hn => h k hk (by omega)
def ParLo (l : List Node) : Prop := ∀ k (h : k < l.length), -1 ≤ l[k].f3 ∧ l[k].f3 < (k : Int)
theorem dpt_neg (D : List Nd) (f : Nat) (k : Int) (h : k < 0) : dpt D f k = 0 := by
 cases f with
 | zero => rw [dpt]
 | succ f => rw [dpt, if_pos h]
set_option maxRecDepth 100000 in
set_option maxHeartbeats 4000000 in
theorem deep7_any (A : Option Addr) (c : Nat) (l : List Node) (hl : l.length ≤ 400000) (hP : ParLo l) (W : World) (hN : N7 W A l l.length) :
  Calls Tryz.prog 50 #[.slice A l.length c] W fun e w' => e = .returned (.int .i64 (mxD (l.map toD) l.length : Nat)) ∧ w' = W := by
 have HP := Lib.hid hP
 have HN := Lib.hid hN
 have HD := Lib.hid (fun (q : Nat) (hq : q < l.length) (f : Nat) => dpt_at l q hq f)
 have HG := Lib.hid (fun (k : Int) (h : k < 0) (f : Nat) => dpt_neg (l.map toD) f k h)
 obtain ⟨D, hD⟩ : ∃ D, l.map toD = D := ⟨_, rfl⟩
 have HM := Lib.hid (fun i => show mxD D (i + 1) = max (mxD D i) (dpt D (i + 1) (i : Int)) from rfl)
 rw [hD] at HD HG ⊢
 have HL := Lib.hid (fun (i : Nat) => mxD_lei D i)
 have HE := Lib.hid (fun (f : Nat) (k : Int) => dpt_le D f k)
 clear hP hN hD
 go_enter Tryz.func50, Tryz.ntmps50
 go_wp2_with fail
 go_loopw [3, 4, 5, 6] (fun v3 v4 _ _ wr => ∃ i : Nat, i ≤ l.length ∧ v4 = .int .i64 (i : Int) ∧ v3 = .int .i64 (mxD D i : Nat) ∧ wr = W) (fun _ v4 _ _ _ => l.length - (intOf v4).toNat)
 case atStart => exact ⟨0, Nat.zero_le _, rfl, rfl, rfl⟩
 case round =>
  obtain ⟨i, hi, rfl, rfl, rfl⟩ := hrel
  by_cases hlt : i < l.length
  ·have k1 : decide ((i : Int) < (l.length : Int)) = true := decide_eq_true (by omega)
   have k2 : decide (i < l.length) = true := decide_eq_true hlt
   obtain ⟨m, hm⟩ : ∃ m, mxD D i = m := ⟨_, rfl⟩
   obtain ⟨d, hd⟩ : ∃ d, dpt D (i + 1) (i : Int) = d := ⟨_, rfl⟩
   have hmi : m ≤ i := by rw [← hm]; exact HL.out i
   have hdi : d ≤ i + 1 := by rw [← hd]; exact HE.out _ _
   have HMD := Lib.hid (show mxD D (i + 1) = max m d by rw [HM.out, hm, hd])
   have HD0 := Lib.hid hd
   rw [hm]
   clear hm hd
   go_wp2_with fail
   go_loopw [5, 6] (fun v5 v6 wr2 => ∃ (n f : Nat) (k : Int), v5 = .int .i64 (n : Int) ∧ v6 = .int .i64 k ∧ -1 ≤ k ∧ k ≤ (i : Int) ∧ k < (f : Int) ∧ n + dpt D f k = d ∧ wr2 = wr) (fun _ v6 _ => (intOf v6 + 1).toNat)
   case atStart => exact ⟨0, i + 1, (i : Int), rfl, rfl, by omega, by omega, by omega, by rw [HD0.out]; omega, rfl⟩
   case round =>
    obtain ⟨n, f, k, rfl, rfl, hk0, hki, hkf, hnd, rfl⟩ := hrel
    by_cases hneg : k < 0
    ·have k3 : decide ((0 : Int) ≤ k) = false := decide_eq_false (by omega)
     rw [HG.out k hneg f, Nat.add_zero] at hnd
     subst hnd
     by_cases hgt : m < n
     ·have k4 : decide ((m : Int) < (n : Int)) = true := decide_eq_true (by omega)
      have k5 : decide (m < n) = true := decide_eq_true hgt
      have HR := Lib.hid (show mxD D (i + 1) = n by rw [HMD.out]; omega)
      clear HMD hkf
      go_wp2_with fail
      go_roundw
      case rel => exact ⟨i + 1, by omega, by go_num, by rw [HR.out], by trivial⟩
      case measure => simp [intOf]; omega
     ·have k4 : decide ((m : Int) < (n : Int)) = false := decide_eq_false (by omega)
      have k5 : decide (m < n) = false := decide_eq_false hgt
      have HR := Lib.hid (show mxD D (i + 1) = m by rw [HMD.out]; omega)
      clear HMD hkf
      go_wp2_with fail
      go_roundw
      case rel => exact ⟨i + 1, by omega, by go_num, by rw [HR.out], by trivial⟩
      case measure => simp [intOf]; omega
    ·obtain ⟨q, rfl⟩ : ∃ q : Nat, k = (q : Int) := ⟨k.toNat, by omega⟩
     obtain ⟨g, rfl⟩ : ∃ g, f = g + 1 := ⟨f - 1, by omega⟩
     have hq : q < l.length := by omega
     have k3 : decide ((0 : Int) ≤ (q : Int)) = true := decide_eq_true (by omega)
     have k4 : decide ((q : Int) < (l.length : Int)) = true := decide_eq_true (by omega)
     have k5 : decide (q < l.length) = true := decide_eq_true hq
     obtain ⟨ad, e, d0, _, _, d3, _⟩ := HN.out q hq hq
     subst e
     have hpp := HP.out q hq
     rw [HD.out q hq g] at hnd
     obtain ⟨x0, hx0⟩ : ∃ x, l[q].f0 = x := ⟨_, rfl⟩
     obtain ⟨x3, hx3⟩ : ∃ x, l[q].f3 = x := ⟨_, rfl⟩
     rw [hx0] at d0 hnd
     rw [hx3] at d3 hnd hpp
     by_cases h6 : 6 ≤ x0
     ·have k6 : decide (6 ≤ x0) = true := decide_eq_true h6
      rw [if_pos h6] at hnd
      have hn9 : n ≤ 400001 := by omega
      have kw : IntKind.i64.wrap ((n : Int) + 1) = (n : Int) + 1 := wrap_id _ (by omega) (by omega)
      have HND := Lib.hid hnd
      clear hnd hx0 hx3
      go_wp2_with fail
      go_roundw
      case rel => exact ⟨n + 1, g, x3, by go_num, rfl, by omega, by omega, by omega, by have := HND.out; omega, by trivial⟩
      case measure => simp [intOf]; omega
     ·have k6 : decide (6 ≤ x0) = false := decide_eq_false h6
      rw [if_neg h6] at hnd
      have HND := Lib.hid hnd
      clear hnd hx0 hx3
      go_wp2_with fail
      go_roundw
      case rel => exact ⟨n, g, x3, rfl, rfl, by omega, by omega, by omega, by have := HND.out; omega, by trivial⟩
      case measure => simp [intOf]; omega
  ·have k1 : decide ((i : Int) < (l.length : Int)) = false := decide_eq_false (by omega)
   have k2 : decide (i < l.length) = false := decide_eq_false hlt
   have hie : i = l.length := by omega
   subst hie
   go_wp2_with fail
   go_ret
   exact ⟨rfl, rfl⟩
def Two (l : List Node) (i k : Nat) : Prop := ∃ (hi : i < l.length) (hk : k < l.length) (q : Nat) (hq : q < l.length), l[i].f3 = (q : Int) ∧ l[k].f3 = (q : Int) ∧ l[q].f0 = 7 ∧ l[i].f1 = l[k].f1
def TwoAny (l : List Node) : Prop := ∃ i k, k < i ∧ Two l i k
theorem two_facts {l : List Node} {i k : Nat} (hi : i < l.length) (hk : k < l.length) (h : ¬ (∃ q : Nat, ∃ hq : q < l.length, l[i].f3 = (q : Int) ∧ l[k].f3 = (q : Int) ∧ l[q].f0 = 7 ∧ l[i].f1 = l[k].f1)) : ¬ Two l i k := fun ⟨_, _, q, hq, e⟩ => h ⟨q, hq, e⟩
set_option maxRecDepth 100000 in
set_option maxHeartbeats 8000000 in
theorem twice7_any (A : Option Addr) (c : Nat) (l : List Node) (hl : l.length ≤ 400000) (hP : ParLo l) (W : World) (hN : N7 W A l l.length) :
  Calls Tryz.prog 51 #[.slice A l.length c] W fun e w' => ∃ b : Bool, e = .returned (.bool b) ∧ Below W.heap.size W w' ∧ (b = true ↔ TwoAny l) := by
 have HP := Lib.hid hP
 have HN := Lib.hid hN
 clear hP hN
 go_enter Tryz.func51, Tryz.ntmps51
 go_wp2_with fail
 go_loopw [3, 4] (fun v3 _ wr => ∃ i : Nat, i ≤ l.length ∧ v3 = .int .i64 (i : Int) ∧ (∀ i' k, k < i' → i' < i → ¬ Two l i' k) ∧ Below W.heap.size W wr) (fun v3 _ _ => l.length - (intOf v3).toNat)
 case atStart => exact ⟨0, Nat.zero_le _, rfl, (fun i' k _ h => by omega), Below.refl _ _⟩
 case round =>
  obtain ⟨i, hi, rfl, hno, hB⟩ := hrel
  have HNO := Lib.hid hno
  have HB := Lib.hid hB
  clear hno hB
  by_cases hlt : i < l.length
  ·have k1 : decide ((i : Int) < (l.length : Int)) = true := decide_eq_true (by omega)
   have k2 : decide (i < l.length) = true := decide_eq_true hlt
   go_wp2_with fail
   go_loopw [4] (fun v4 wr2 => ∃ k : Nat, k ≤ i ∧ v4 = .int .i64 (k : Int) ∧ (∀ k', k' < k → ¬ Two l i k') ∧ Below W.heap.size W wr2) (fun v4 _ => i - (intOf v4).toNat)
   case atStart => exact ⟨0, Nat.zero_le _, rfl, (fun k' h => by omega), HB.out⟩
   case round =>
    obtain ⟨k, hk, rfl, hno2, hB2⟩ := hrel
    have HNO2 := Lib.hid hno2
    have HB2 := Lib.hid hB2
    have HNr := Lib.hid (HN.out.below hB2)
    clear hno2 hB2
    by_cases hki : k < i
    ·have k3 : decide ((k : Int) < (i : Int)) = true := decide_eq_true (by omega)
     have k4 : decide (k < i) = true := decide_eq_true hki
     have hkl : k < l.length := by omega
     have k5 : decide ((k : Int) < (l.length : Int)) = true := decide_eq_true (by omega)
     have k6 : decide (k < l.length) = true := decide_eq_true hkl
     obtain ⟨ad, e, d0, d1, _, d3, _⟩ := HNr.out i hlt hlt
     obtain ⟨ad2, e2, f0, f1, _, f3, _⟩ := HNr.out k hkl hkl
     subst e
     injection e2 with e2
     subst e2
     have hpi := HP.out i hlt
     obtain ⟨x3, hx3⟩ : ∃ x, l[i].f3 = x := ⟨_, rfl⟩
     obtain ⟨y3, hy3⟩ : ∃ x, l[k].f3 = x := ⟨_, rfl⟩
     obtain ⟨x1, hx1⟩ : ∃ x, l[i].f1 = x := ⟨_, rfl⟩
     obtain ⟨y1, hy1⟩ : ∃ x, l[k].f1 = x := ⟨_, rfl⟩
     rw [hx3] at d3 hpi
     rw [hy3] at f3
     rw [hx1] at d1
     rw [hy1] at f1
     have HX := Lib.hid (And.intro hx3 (And.intro hy3 (And.intro hx1 hy1)))
     clear hx3 hy3 hx1 hy1
     by_cases hneg : 0 ≤ x3
     ·have k7 : decide (0 ≤ x3) = true := decide_eq_true hneg
      by_cases hxy : x3 = y3
      ·subst hxy
       obtain ⟨q, rfl⟩ : ∃ q : Nat, x3 = (q : Int) := ⟨x3.toNat, by omega⟩
       have hql : q < l.length := by omega
       have k8 : decide ((q : Int) < (l.length : Int)) = true := decide_eq_true (by omega)
       have k9 : decide (q < l.length) = true := decide_eq_true hql
       obtain ⟨ad3, e3, g0, _⟩ := HNr.out q hql hql
       injection e3 with e3
       subst e3
       obtain ⟨z0, hz0⟩ : ∃ x, l[q].f0 = x := ⟨_, rfl⟩
       rw [hz0] at g0
       have HZ := Lib.hid hz0
       clear hz0
       by_cases h7 : z0 = 7
       ·subst h7
        obtain ⟨b9, hb9⟩ : ∃ b, (x1 == y1) = b := ⟨_, rfl⟩
        have hb8 : (x1.toList == y1.toList) = b9 := by rw [← beq_toListBytes]; exact hb9
        cases b9 with
        | true =>
         have HE := Lib.hid ((Go.MapKept.bytes_beq _ _).1 hb9)
         go_wp2_with fail
         go_big_quiet (fail)
         go_wp2_with fail
         go_ret
         refine ⟨true, rfl, pw_below_drewN HB2.out nq, fun _ => ⟨i, k, hki, hlt, hkl, q, hql, HX.out.1, HX.out.2.1, HZ.out, ?_⟩, fun _ => rfl⟩
         rw [HX.out.2.2.1, HX.out.2.2.2, HE.out]
        | false =>
         have HNT := Lib.hid (two_facts hlt hkl (fun ⟨q2, _, _, _, _, e5⟩ => by
          rw [HX.out.2.2.1, HX.out.2.2.2] at e5
          rw [e5] at hb9
          have : (y1 == y1) = true := (Go.MapKept.bytes_beq _ _).2 rfl
          rw [this] at hb9
          cases hb9))
         go_wp2_with fail
         go_big_quiet (fail)
         go_wp2_with fail
         go_roundw
         case rel =>
          refine ⟨k + 1, by omega, by go_num, (fun k' h => ?_), pw_below_drewN HB2.out nq⟩
          rcases Nat.lt_or_ge k' k with h' | h'
          ·exact HNO2.out k' h'
          ·obtain rfl : k' = k := by omega
           exact HNT.out
         case measure => simp [intOf]; omega
       ·have k10 : (z0 == 7) = false := beq_eq_false_iff_ne.2 h7
        have HNT := Lib.hid (two_facts hlt hkl (fun ⟨q2, hq2, e1, _, e3, _⟩ => by
         rw [HX.out.1] at e1
         obtain rfl : q = q2 := by omega
         exact h7 (HZ.out.symm.trans e3)))
        go_wp2_with fail
        go_big_quiet (fail)
        go_wp2_with fail
        go_roundw
        case rel =>
         refine ⟨k + 1, by omega, by go_num, (fun k' h => ?_), pw_below_drewN HB2.out nq⟩
         rcases Nat.lt_or_ge k' k with h' | h'
         ·exact HNO2.out k' h'
         ·obtain rfl : k' = k := by omega
          exact HNT.out
        case measure => simp [intOf]; omega
      ·have k8 : (x3 == y3) = false := beq_eq_false_iff_ne.2 hxy
       have HNT := Lib.hid (two_facts hlt hkl (fun ⟨q2, hq2, e1, e2, _, _⟩ => hxy (by rw [← HX.out.1, ← HX.out.2.1, e1, e2])))
       go_wp2_with fail
       go_big_quiet (fail)
       go_wp2_with fail
       go_roundw
       case rel =>
        refine ⟨k + 1, by omega, by go_num, (fun k' h => ?_), pw_below_drewN HB2.out nq⟩
        rcases Nat.lt_or_ge k' k with h' | h'
        ·exact HNO2.out k' h'
        ·obtain rfl : k' = k := by omega
         exact HNT.out
       case measure => simp [intOf]; omega
     ·have k7 : decide (0 ≤ x3) = false := decide_eq_false hneg
      have HNT := Lib.hid (two_facts hlt hkl (fun ⟨q2, hq2, e1, _, _, _⟩ => hneg (by rw [← HX.out.1, e1]; omega)))
      go_wp2_with fail
      go_big_quiet (fail)
      go_wp2_with fail
      go_roundw
      case rel =>
       refine ⟨k + 1, by omega, by go_num, (fun k' h => ?_), pw_below_drewN HB2.out nq⟩
       rcases Nat.lt_or_ge k' k with h' | h'
       ·exact HNO2.out k' h'
       ·obtain rfl : k' = k := by omega
        exact HNT.out
      case measure => simp [intOf]; omega
    ·have k3 : decide ((k : Int) < (i : Int)) = false := decide_eq_false (by omega)
     have k4 : decide (k < i) = false := decide_eq_false hki
     go_wp2_with fail
     go_roundw
     case rel =>
      refine ⟨i + 1, by omega, by go_num, (fun i' k' h1 h2 => ?_), HB2.out⟩
      rcases Nat.lt_or_ge i' i with h' | h'
      ·exact HNO.out i' k' h1 h'
      ·obtain rfl : i' = i := by omega
       exact HNO2.out k' (by omega)
     case measure => simp [intOf]; omega
  ·have k1 : decide ((i : Int) < (l.length : Int)) = false := decide_eq_false (by omega)
   have k2 : decide (i < l.length) = false := decide_eq_false hlt
   go_wp2_with fail
   go_ret
   have hni : ¬ TwoAny l := fun ⟨i', k', h1, h2⟩ => absurd h2 (HNO.out i' k' h1 (by obtain ⟨h3, _⟩ := h2; omega))
   exact ⟨false, rfl, HB.out, Iff.intro (fun h => absurd h Bool.false_ne_true) (fun h => absurd h hni)⟩
theorem kindAtI_at (l : List Node) (q : Nat) (hq : q < l.length) : kindAtI l (q : Int) = l[q].f0 := by
 unfold kindAtI
 rw [rd_node l q hq]
def memO (l : List Node) (n : Node) : Prop := ¬ (n.f3 < 0 ∨ kindAtI l n.f3 ≠ 7)
theorem two_iff (l : List Node) (hP : ParLo l) (i k : Nat) (hi : i < l.length) (hk : k < l.length) : Two l i k ↔ memO l l[i] ∧ memO l l[k] ∧ l[i].f3 = l[k].f3 ∧ l[i].f1 = l[k].f1 := by
 constructor
 ·rintro ⟨_, _, q, hq, e1, e2, e3, e4⟩
  have hm : ∀ n : Node, n.f3 = (q : Int) → memO l n := fun n hn h => by
   rw [hn, kindAtI_at l q hq] at h
   rcases h with h | h
   ·omega
   ·exact h e3
  exact ⟨hm _ e1, hm _ e2, by rw [e1, e2], e4⟩
 ·rintro ⟨h1, _, e1, e2⟩
  unfold memO at h1
  have h3 : ¬ l[i].f3 < 0 := fun h => h1 (.inl h)
  have hp := (hP i hi).2
  obtain ⟨q, hq⟩ : ∃ q : Nat, l[i].f3 = (q : Int) := ⟨l[i].f3.toNat, by omega⟩
  have hql : q < l.length := by omega
  refine ⟨hi, hk, q, hql, hq, by rw [← e1, hq], ?_, e2⟩
  have h4 : ¬ kindAtI l l[i].f3 ≠ 7 := fun h => h1 (.inr h)
  rw [hq, kindAtI_at l q hql] at h4
  exact Classical.byContradiction h4
theorem tw_go (l : List Node) : ∀ (m i : Nat) (seen : List (Int × Bytes)), i + m = l.length →
  (∀ x, x ∈ seen ↔ ∃ k, ∃ hk : k < l.length, k < i ∧ memO l l[k] ∧ x = (l[k].f3, l[k].f1.data.toList)) →
  (twGo l seen (l.drop i) = true ↔ ∃ j, ∃ hj : j < l.length, i ≤ j ∧ memO l l[j] ∧ ∃ k, ∃ hk : k < l.length, k < j ∧ memO l l[k] ∧ l[j].f3 = l[k].f3 ∧ l[j].f1 = l[k].f1)
 | 0, i, seen, him, hs => by
  rw [List.drop_of_length_le (by omega), twGo]
  constructor
  ·intro h; cases h
  ·rintro ⟨j, hj, h, _⟩; omega
 | m + 1, i, seen, him, hs => by
  have hi : i < l.length := by omega
  rw [List.drop_eq_getElem_cons hi, twGo]
  by_cases hmem : l[i].f3 < 0 ∨ kindAtI l l[i].f3 ≠ 7
  ·rw [if_pos hmem]
   have ih := tw_go l m (i + 1) seen (by omega) (fun x => by
    rw [hs x]
    constructor
    ·rintro ⟨k, hk, h1, h2, h3⟩; exact ⟨k, hk, by omega, h2, h3⟩
    ·rintro ⟨k, hk, h1, h2, h3⟩
     by_cases e : k = i
     ·subst e; exact absurd hmem h2
     ·exact ⟨k, hk, by omega, h2, h3⟩)
   rw [ih]
   constructor
   ·rintro ⟨j, hj, h1, h2⟩; exact ⟨j, hj, by omega, h2⟩
   ·rintro ⟨j, hj, h1, h2, h3⟩
    by_cases e : j = i
    ·subst e; exact absurd hmem h2
    ·exact ⟨j, hj, by omega, h2, h3⟩
  ·rw [if_neg hmem]
   by_cases hin : (l[i].f3, l[i].f1.data.toList) ∈ seen
   ·rw [if_pos hin]
    refine ⟨fun _ => ?_, fun _ => rfl⟩
    obtain ⟨k, hk, h1, h2, h3⟩ := (hs _).1 hin
    injection h3 with h3 h4
    exact ⟨i, hi, Nat.le_refl _, hmem, k, hk, h1, h2, h3, ByteArray.ext (Array.toList_inj.1 h4)⟩
   ·rw [if_neg hin]
    have ih := tw_go l m (i + 1) ((l[i].f3, l[i].f1.data.toList) :: seen) (by omega) (fun x => by
     rw [List.mem_cons, hs x]
     constructor
     ·rintro (rfl | ⟨k, hk, h1, h2, h3⟩)
      ·exact ⟨i, hi, by omega, hmem, rfl⟩
      ·exact ⟨k, hk, by omega, h2, h3⟩
     ·rintro ⟨k, hk, h1, h2, h3⟩
      by_cases e : k = i
      ·subst e; exact .inl h3
      ·exact .inr ⟨k, hk, by omega, h2, h3⟩)
    rw [ih]
    constructor
    ·rintro ⟨j, hj, h1, h2⟩; exact ⟨j, hj, by omega, h2⟩
    ·rintro ⟨j, hj, h1, h2, k, hk, h3, h4, h5, h6⟩
     by_cases e : j = i
     ·subst e
      exact absurd ((hs _).2 ⟨k, hk, h3, h4, by rw [h5, h6]⟩) hin
     ·exact ⟨j, hj, by omega, h2, k, hk, h3, h4, h5, h6⟩
theorem two_tw (l : List Node) (hP : ParLo l) : TwoAny l ↔ twGo l [] l = true := by
 have h := tw_go l l.length 0 [] (by omega) (fun x => by
  constructor
  ·intro h; cases h
  ·rintro ⟨k, _, h, _⟩; omega)
 rw [List.drop_zero] at h
 rw [h]
 constructor
 ·rintro ⟨i, k, hki, ht⟩
  have ht2 := ht
  obtain ⟨hi, hk, _⟩ := ht2
  obtain ⟨h1, h2, h3, h4⟩ := (two_iff l hP i k hi hk).1 ht
  exact ⟨i, hi, Nat.zero_le _, h1, k, hk, hki, h2, h3, h4⟩
 ·rintro ⟨j, hj, _, h1, k, hk, hkj, h2, h3, h4⟩
  exact ⟨j, k, hkj, (two_iff l hP j k hj hk).2 ⟨h1, h2, h3, h4⟩⟩
theorem par_tree (t : Tr) : ParLo (rowT t) := fun k h => ⟨(rowT_at t k h).2.2.1, (rowT_at t k h).2.2.2⟩
end Go.Proofs.YtfocognhcljhpaaGreatDoor
namespace Go.Proofs.YtfocognhcljhpaaGreatDoor
open Go.RowKit Go.Proofs.YtfocognhcljhpaaGreatDoorW.PrintWords Go.Proofs.YtfocognhcljhpaaGreatDoorW.PrintMore Go.Proofs.YtfocognhcljhpaaGreatDoor.PPrintRows Go.Proofs.YtfocognhcljhpaaGreatDoor.Tree
def ptB (n : Int) : Bool := decide (0 ≤ n ∧ n ≤ 1114111 ∧ (n < 55296 ∨ 57343 < n))
theorem point4_any (n : Int) (w : World) : Calls Tryz.prog 104 #[.int .i64 n] w fun e w' => e = .returned (.bool (ptB n)) ∧ w' = w := by
 have e := ptB.eq_1 n
 by_cases h1 : 0 ≤ n
 ·have k1 : decide (0 ≤ n) = true := decide_eq_true h1
  by_cases h2 : n ≤ 1114111
  ·have k2 : decide (n ≤ 1114111) = true := decide_eq_true h2
   by_cases h3 : n < 55296
   ·have k3 : decide (n < 55296) = true := decide_eq_true h3
    rw [decide_eq_true (by omega)] at e
    rw [e]
    clear h1 h2 h3 e
    go_enter Tryz.func104, Tryz.ntmps104
    go_wp2
    go_ret
    exact ⟨rfl, rfl⟩
   ·have k3 : decide (n < 55296) = false := decide_eq_false h3
    by_cases h4 : 57343 < n
    ·have k4 : decide (57343 < n) = true := decide_eq_true h4
     rw [decide_eq_true (by omega)] at e
     rw [e]
     clear h1 h2 h3 h4 e
     go_enter Tryz.func104, Tryz.ntmps104
     go_wp2
     go_ret
     exact ⟨rfl, rfl⟩
    ·have k4 : decide (57343 < n) = false := decide_eq_false h4
     rw [decide_eq_false (by omega)] at e
     rw [e]
     clear h1 h2 h3 h4 e
     go_enter Tryz.func104, Tryz.ntmps104
     go_wp2
     go_ret
     exact ⟨rfl, rfl⟩
  ·have k2 : decide (n ≤ 1114111) = false := decide_eq_false h2
   rw [decide_eq_false (by omega)] at e
   rw [e]
   clear h1 h2 e
   go_enter Tryz.func104, Tryz.ntmps104
   go_wp2
   go_ret
   exact ⟨rfl, rfl⟩
 ·have k1 : decide (0 ≤ n) = false := decide_eq_false h1
  rw [decide_eq_false (by omega)] at e
  rw [e]
  clear h1 e
  go_enter Tryz.func104, Tryz.ntmps104
  go_wp2
  go_ret
  exact ⟨rfl, rfl⟩
def putB (n : Int) : ByteArray := ⟨((Utf.putI n).map fun x => UInt8.ofNat x.toNat).toArray⟩
theorem putB_no {n : Int} (h : ptB n = false) : putB n = ⟨#[]⟩ := by
 have h := of_decide_eq_false h
 unfold putB Utf.putI
 rw [if_neg h]
 rfl
theorem conv_new (w : World) (xs : List Int) (C : Array Value) (n : Nat) (hn : xs.length = n) (hC : C = (xs.map (Value.int .u8)).toArray) :
  (convert 81 9 (.slice (some ⟨w.heap.size, 0, none⟩) n n)).run Tryz.prog (w.alloc (.cells C 5 (0, 0))) = .ok (.string (strOfNums xs)) (w.alloc (.cells C 5 (0, 0))) :=
 run_convert_bytes_arg (w.alloc (.cells C 5 (0, 0))) 81 5 Tryz.underlying81 Tryz.underlying5 w.heap.size 0 n n xs hn (fun i hi => by
  refine (blkc (blk_new w _) (0 + i) (v := .int .u8 (xs.getD i 0)) ?_)
  rw [Nat.zero_add, hC, List.getElem?_toArray, List.getElem?_map, List.getD_eq_getElem?_getD, List.getElem?_eq_getElem (by omega)]
  rfl) 9 Tryz.underlying9
set_option maxRecDepth 100000 in
set_option maxHeartbeats 2000000 in
theorem put4_any (n : Int) (w : World) : Calls Tryz.prog 82 #[.int .i64 n] w fun e w' => e = .returned (.string (putB n)) ∧ Below w.heap.size w w' := by
 have PT := Lib.hid (fun W => point4_any n W)
 obtain ⟨b, hb⟩ : ∃ b, ptB n = b := ⟨_, rfl⟩
 rw [hb] at PT
 cases b with
 | false =>
  rw [putB_no hb]
  clear hb
  go_enter Tryz.func82, Tryz.ntmps82
  go_wp2_with (go_at_call 104; go_must (refine (PT.out _).mono ?_); rintro e w1 ⟨rfl, rfl⟩)
  go_ret
  exact ⟨rfl, Below.refl _ _⟩
 | true =>
  have hp := of_decide_eq_true hb
  by_cases h1 : n < 128
  ·have k1 : decide (n < 128) = true := decide_eq_true h1
   have hpv : putB n = strOfNums [n] := by unfold putB Utf.putI; rw [if_pos hp, if_pos h1]; rfl
   rw [hpv]
   have u1 : IntKind.u8.wrap n = n := IntWalk.u8_in n (by omega)
   have cv := conv_new w [n] #[.int .u8 n] 1 rfl rfl
   clear hb hp h1 hpv
   go_enter Tryz.func82, Tryz.ntmps82
   go_wp2_with (go_at_call 104; go_must (refine (PT.out _).mono ?_); rintro e w1 ⟨rfl, rfl⟩)
   go_ret
   exact ⟨rfl, below_alloc (Below.refl _ _) _⟩
  ·have k1 : decide (n < 128) = false := decide_eq_false h1
   have hn0 : 0 ≤ n := hp.1
   by_cases h2 : n < 2048
   ·have k2 : decide (n < 2048) = true := decide_eq_true h2
    have hpv : putB n = strOfNums [192 + n / 64, 128 + n % 64] := by unfold putB Utf.putI; rw [if_pos hp, if_neg h1, if_pos h2]; rfl
    rw [hpv]
    have u0 : IntKind.u8.wrap (192 + n / 64) = 192 + n / 64 := IntWalk.u8_in _ (by omega)
    have u1 : IntKind.u8.wrap (128 + n % 64) = 128 + n % 64 := IntWalk.u8_in _ (by omega)
    have cv := conv_new w [192 + n / 64, 128 + n % 64] #[.int .u8 (192 + n / 64), .int .u8 (128 + n % 64)] 2 rfl rfl
    clear hb hp h1 hpv
    go_enter Tryz.func82, Tryz.ntmps82
    go_wp2_with (go_at_call 104; go_must (refine (PT.out _).mono ?_); rintro e w1 ⟨rfl, rfl⟩)
    go_ret
    exact ⟨rfl, below_alloc (Below.refl _ _) _⟩
   ·have k2 : decide (n < 2048) = false := decide_eq_false h2
    by_cases h3 : n < 65536
    ·have k3 : decide (n < 65536) = true := decide_eq_true h3
     have hpv : putB n = strOfNums [224 + n / 4096, 128 + n / 64 % 64, 128 + n % 64] := by unfold putB Utf.putI; rw [if_pos hp, if_neg h1, if_neg h2, if_pos h3]; rfl
     rw [hpv]
     have u0 : IntKind.u8.wrap (224 + n / 4096) = 224 + n / 4096 := IntWalk.u8_in _ (by omega)
     have u1 : IntKind.u8.wrap (128 + n / 64 % 64) = 128 + n / 64 % 64 := IntWalk.u8_in _ (by omega)
     have u2 : IntKind.u8.wrap (128 + n % 64) = 128 + n % 64 := IntWalk.u8_in _ (by omega)
     have cv := conv_new w [224 + n / 4096, 128 + n / 64 % 64, 128 + n % 64] #[.int .u8 (224 + n / 4096), .int .u8 (128 + n / 64 % 64), .int .u8 (128 + n % 64)] 3 rfl rfl
     clear hb hp h1 h2 hpv
     go_enter Tryz.func82, Tryz.ntmps82
     go_wp2_with (go_at_call 104; go_must (refine (PT.out _).mono ?_); rintro e w1 ⟨rfl, rfl⟩)
     go_ret
     exact ⟨rfl, below_alloc (Below.refl _ _) _⟩
    ·have k3 : decide (n < 65536) = false := decide_eq_false h3
     have h5 : n ≤ 1114111 := hp.2.1
     have hpv : putB n = strOfNums [240 + n / 262144, 128 + n / 4096 % 64, 128 + n / 64 % 64, 128 + n % 64] := by unfold putB Utf.putI; rw [if_pos hp, if_neg h1, if_neg h2, if_neg h3]; rfl
     rw [hpv]
     have u0 : IntKind.u8.wrap (240 + n / 262144) = 240 + n / 262144 := IntWalk.u8_in _ (by omega)
     have u1 : IntKind.u8.wrap (128 + n / 4096 % 64) = 128 + n / 4096 % 64 := IntWalk.u8_in _ (by omega)
     have u2 : IntKind.u8.wrap (128 + n / 64 % 64) = 128 + n / 64 % 64 := IntWalk.u8_in _ (by omega)
     have u3 : IntKind.u8.wrap (128 + n % 64) = 128 + n % 64 := IntWalk.u8_in _ (by omega)
     have cv := conv_new w [240 + n / 262144, 128 + n / 4096 % 64, 128 + n / 64 % 64, 128 + n % 64] #[.int .u8 (240 + n / 262144), .int .u8 (128 + n / 4096 % 64), .int .u8 (128 + n / 64 % 64), .int .u8 (128 + n % 64)] 4 rfl rfl
     clear hb hp h1 h2 h3 hpv
     go_enter Tryz.func82, Tryz.ntmps82
     go_wp2_with (go_at_call 104; go_must (refine (PT.out _).mono ?_); rintro e w1 ⟨rfl, rfl⟩)
     go_ret
     exact ⟨rfl, below_alloc (Below.refl _ _) _⟩
end Go.Proofs.YtfocognhcljhpaaGreatDoor
namespace Go.Proofs.YtfocognhcljhpaaGreatDoor.Utf
theorem one_first (s : List Int) (hs : ∀ x ∈ s, 0 ≤ x ∧ x < 256) : oneI s = match firstI s with | none => -1 | some p => p.1 := by
 match s, hs with
 | [], _ => rfl
 | a :: t, hs =>
  have ha := hs a (by simp)
  unfold oneI firstI
  dsimp only
  by_cases h1 : a < 128
  ·rw [if_pos ((put1 a ha).2 h1), if_pos h1]
  ·rw [if_neg (fun h => h1 ((put1 a ha).1 h)), if_neg h1]
   match t, hs with
   | [], _ =>
    dsimp only
    by_cases g1 : 192 ≤ a ∧ a < 224
    ·rw [if_pos g1]
    ·rw [if_neg g1]
     by_cases g2 : 224 ≤ a ∧ a < 240
     ·rw [if_pos g2]
     ·rw [if_neg g2]
      by_cases g3 : 240 ≤ a ∧ a < 248
      ·rw [if_pos g3]
      ·rw [if_neg g3]
   | b :: t, hs =>
    have hb := hs b (by simp)
    dsimp only
    by_cases h2 : (192 ≤ a ∧ a < 224) ∧ (128 ≤ b ∧ b < 192) ∧ 128 ≤ p2 a b
    ·rw [if_pos ((put2 a b ha hb).2 h2), if_pos h2.1, if_pos h2.2]
    ·rw [if_neg (fun h => h2 ((put2 a b ha hb).1 h))]
     match t, hs with
     | [], _ =>
      by_cases g1 : 192 ≤ a ∧ a < 224
      ·rw [if_pos g1, if_neg (fun h => h2 ⟨g1, h⟩)]
      ·rw [if_neg g1]
       by_cases g2 : 224 ≤ a ∧ a < 240
       ·rw [if_pos g2]
       ·rw [if_neg g2]
        by_cases g3 : 240 ≤ a ∧ a < 248
        ·rw [if_pos g3]
        ·rw [if_neg g3]
     | c :: t, hs =>
      have hc := hs c (by simp)
      dsimp only
      by_cases h3 : (224 ≤ a ∧ a < 240) ∧ (128 ≤ b ∧ b < 192) ∧ (128 ≤ c ∧ c < 192) ∧ 2048 ≤ p3 a b c ∧ (p3 a b c < 55296 ∨ 57343 < p3 a b c)
      ·rw [if_pos ((put3 a b c ha hb hc).2 h3), if_neg (by omega), if_pos h3.1, if_pos h3.2]
      ·rw [if_neg (fun h => h3 ((put3 a b c ha hb hc).1 h))]
       by_cases g1 : 192 ≤ a ∧ a < 224
       ·rw [if_pos g1, if_neg (fun h => h2 ⟨g1, h⟩)]
        match t, hs with
        | [], _ => rfl
        | d :: t, hs => dsimp only; rw [if_neg (fun h => by have := (put4 a b c d ha hb hc (hs d (by simp))).1 h; omega)]
       ·rw [if_neg g1]
        by_cases g2 : 224 ≤ a ∧ a < 240
        ·rw [if_pos g2, if_neg (fun h => h3 ⟨g2, h⟩)]
         match t, hs with
         | [], _ => rfl
         | d :: t, hs => dsimp only; rw [if_neg (fun h => by have := (put4 a b c d ha hb hc (hs d (by simp))).1 h; omega)]
        ·rw [if_neg g2]
         match t, hs with
         | [], _ =>
          dsimp only
          by_cases g3 : 240 ≤ a ∧ a < 248
          ·rw [if_pos g3]
          ·rw [if_neg g3]
         | d :: t, hs =>
          have hd := hs d (by simp)
          dsimp only
          by_cases h4 : (240 ≤ a ∧ a < 248) ∧ (128 ≤ b ∧ b < 192) ∧ (128 ≤ c ∧ c < 192) ∧ (128 ≤ d ∧ d < 192) ∧ 65536 ≤ p4 a b c d ∧ p4 a b c d ≤ 1114111
          ·rw [if_pos ((put4 a b c d ha hb hc hd).2 h4), if_pos h4.1, if_pos h4.2]
          ·rw [if_neg (fun h => h4 ((put4 a b c d ha hb hc hd).1 h))]
           by_cases g3 : 240 ≤ a ∧ a < 248
           ·rw [if_pos g3, if_neg (fun h => h4 ⟨g3, h⟩)]
           ·rw [if_neg g3]
end Go.Proofs.YtfocognhcljhpaaGreatDoor.Utf
namespace Go.Proofs.YtfocognhcljhpaaGreatDoor
open Go.RowKit Go.Proofs.YtfocognhcljhpaaGreatDoorW.PrintWords Go.Proofs.YtfocognhcljhpaaGreatDoorW.PrintMore Go.Proofs.YtfocognhcljhpaaGreatDoor.PPrintRows Go.Proofs.YtfocognhcljhpaaGreatDoor.Tree
def nK (l : List Int) : Nat → Int
 | 1 => l.getD 0 0
 | 2 => Utf.p2 (l.getD 0 0) (l.getD 1 0)
 | 3 => Utf.p3 (l.getD 0 0) (l.getD 1 0) (l.getD 2 0)
 | _ => Utf.p4 (l.getD 0 0) (l.getD 1 0) (l.getD 2 0) (l.getD 3 0)
def oneF (l : List Int) : Nat → Nat → Int
 | 0, _ => -1
 | f + 1, k => if l.length < k then -1 else if Utf.putI (nK l k) = l.take k then nK l k else oneF l f (k + 1)
theorem one_F (l : List Int) : Utf.oneI l = oneF l 4 1 := by
 match l with
 | [] => rfl
 | [a] =>
  simp only [Utf.oneI, oneF, nK, List.length_cons, List.length_nil, List.getD_cons_zero, List.take]
  simp
 | [a, b] =>
  simp only [Utf.oneI, oneF, nK, List.length_cons, List.length_nil, List.getD_cons_zero, List.getD_cons_succ, List.take]
  simp
 | [a, b, c] =>
  simp only [Utf.oneI, oneF, nK, List.length_cons, List.length_nil, List.getD_cons_zero, List.getD_cons_succ, List.take]
  simp
 | a :: b :: c :: d :: r =>
  simp only [Utf.oneI, oneF, nK, List.length_cons, List.getD_cons_zero, List.getD_cons_succ, List.take]
  rw [if_neg (show ¬ r.length + 1 + 1 + 1 + 1 < 1 by omega), if_neg (show ¬ r.length + 1 + 1 + 1 + 1 < 1 + 1 by omega), if_neg (show ¬ r.length + 1 + 1 + 1 + 1 < 1 + 1 + 1 by omega), if_neg (show ¬ r.length + 1 + 1 + 1 + 1 < 1 + 1 + 1 + 1 by omega)]
theorem ofInt_ints {l : List Int} {s : Bs} (h : l.map (fun x => UInt8.ofNat x.toNat) = s) (hl : ∀ x ∈ l, 0 ≤ x ∧ x < 256) : l = ints s := by
 rw [← h]
 unfold ints
 rw [List.map_map]
 conv => lhs; rw [← List.map_id l]
 apply List.map_congr_left
 intro x hx
 have := hl x hx
 show x = ((UInt8.ofNat x.toNat).toNat : Int)
 rw [UInt8.toNat_ofNat']
 omega
theorem putI_range (n : Int) : ∀ x ∈ Utf.putI n, 0 ≤ x ∧ x < 256 := by
 intro x hx
 unfold Utf.putI at hx
 split at hx
 ·rename_i h
  split at hx
  ·simp at hx; omega
  ·split at hx
   ·simp at hx; omega
   ·split at hx
    ·simp at hx; omega
    ·simp at hx; omega
 ·cases hx
theorem int_take (l : Bs) (k : Nat) : ints (l.take k) = (ints l).take k := by simp [ints]
theorem ba_beq (x y : ByteArray) : (x == y) = true ↔ x = y := Go.MapKept.bytes_beq x y
theorem put_is (n : Int) (s : ByteArray) (k : Nat) : (putB n == s.extract 0 k) = decide (Utf.putI n = (ints s.data.toList).take k) := by
 rw [Bool.eq_iff_iff, ba_beq, decide_eq_true_iff]
 have e : (s.extract 0 k).data.toList = s.data.toList.take k := by
  rw [show s.extract 0 k = s.extract 0 (0 + k) by rw [Nat.zero_add], ext_take, List.drop_zero]
 constructor
 ·intro h
  have h2 : (putB n).data.toList = (s.extract 0 k).data.toList := by rw [h]
  rw [e] at h2
  rw [← int_take]
  exact ofInt_ints h2 (putI_range n)
 ·intro h
  apply ByteArray.ext
  apply Array.toList_inj.1
  rw [e]
  show (Utf.putI n).map _ = _
  rw [h, ← int_take]
  unfold ints
  rw [List.map_map]
  conv => rhs; rw [← List.map_id (s.data.toList.take k)]
  apply List.map_congr_left
  intro c _
  show UInt8.ofNat ((c.toNat : Int)).toNat = c
  simp
theorem int_at (s : ByteArray) (k : Nat) (h : k < s.size) : (ints s.data.toList).getD k 0 = (s[k].toNat : Int) := by
 unfold ints
 rw [List.getD_eq_getElem?_getD, List.getElem?_map, List.getElem?_eq_getElem (by simpa using h)]
 rfl
set_option maxRecDepth 100000 in
set_option maxHeartbeats 4000000 in
theorem one4_any (s : ByteArray) (hs : s.size ≤ 1000000000) (w : World) : Calls Tryz.prog 81 #[.string s] w fun e w' => e = .returned (.int .i64 (Utf.oneI (ints s.data.toList))) ∧ Below w.heap.size w w' := by
 have PU := Lib.hid (fun n W => put4_any n W)
 obtain ⟨R, hR⟩ : ∃ R, Utf.oneI (ints s.data.toList) = R := ⟨_, rfl⟩
 rw [hR]
 have hlen : (ints s.data.toList).length = s.size := by simp [ints]
 have hR1 : oneF (ints s.data.toList) 4 1 = R := by rw [← one_F]; exact hR
 have IA := Lib.hid (int_at s)
 clear hR
 go_enter Tryz.func81, Tryz.ntmps81
 go_wp2_with fail
 go_loopw [3, 4] (fun v3 v4 wr => ∃ k : Nat, 1 ≤ k ∧ k ≤ 5 ∧ v3 = .int .i64 (k : Int) ∧ oneF (ints s.data.toList) (5 - k) k = R ∧ Below w.heap.size w wr) (fun v3 _ _ => 5 - (intOf v3).toNat)
 case atStart => exact ⟨1, by omega, by omega, rfl, hR1, Below.refl _ _⟩
 case round =>
  obtain ⟨k, hk1, hk5, rfl, hRk, hB⟩ := hrel
  clear hR1
  have HB := Lib.hid hB
  have hkk : k = 1 ∨ k = 2 ∨ k = 3 ∨ k = 4 ∨ k = 5 := by omega
  clear hB hk1 hk5
  rcases hkk with rfl | rfl | rfl | rfl | rfl
  ·by_cases h : 1 ≤ s.size
   ·have k1 : decide ((1 : Int) ≤ (s.size : Int)) = true := decide_eq_true (by omega)
    have k2 : decide (1 ≤ s.size) = true := decide_eq_true h
    have m0 : decide (0 < s.size) = true := decide_eq_true (by omega)
    have n0 : decide ((0 : Int) < (s.size : Int)) = true := decide_eq_true (by omega)
    have r0 := (s[0]'(by omega)).toNat_lt
    obtain ⟨a, q0⟩ : ∃ z : Int, (((s[0]'(by omega)).toNat : Nat) : Int) = z := ⟨_, rfl⟩
    have i0 := (IA.out 0 (by omega)).trans q0
    have w0 : wrap64 a = a := wrap64_of _ (by omega) (by omega)
    have hnk : nK (ints s.data.toList) 1 = a := by show (ints s.data.toList).getD 0 0 = _; rw [i0]
    rw [show 5 - 1 = 3 + 1 by rfl, oneF, if_neg (by rw [hlen]; omega), hnk] at hRk
    obtain ⟨n, hn⟩ : ∃ n : Int, a = n := ⟨_, rfl⟩
    rw [hn] at hRk hnk
    have wn : wrap64 n = n := by rw [← hn]; exact wrap64_of _ (by omega) (by omega)
    have es : (1 : Int) ≤ (s.size : Int) := by omega
    obtain ⟨b9, hb9⟩ : ∃ b, decide (Utf.putI n = (ints s.data.toList).take 1) = b := ⟨_, rfl⟩
    have heq : (putB n == s.extract 0 1) = b9 := (put_is n s 1).trans hb9
    have HRK := Lib.hid hRk
    have HB9 := Lib.hid hb9
    clear hRk hnk hb9 i0 r0
    go_wp2_with fail
    simp only [wn]
    go_upto_region 13 with (fail)
    go_cut [79] (fun v79 wc => v79 = .bool b9 ∧ Below w.heap.size w wc)
    case first =>
     refine (wpIn_wide (n := 5)).1 ?_
     have hmo : Tryz.prog.follows .mixedOrders = true := by kernel_rfl
     refine region_g (fun _ => True) (fun _ => true) hmo ?_
     refine takeQ 0 ?vaaa0 trivial rfl (by kernel_rfl) ⟨fun _ => rfl, .inl ⟨by kernel_rfl, fun w' hw' => ?yaaa0⟩⟩ ?raaa0
     case' yaaa0 => (go_simp; with_reducible rfl)
     simp only [Act.put, List.setIfInBounds_toArray, List.set_cons_succ, List.set_cons_zero]
     refine takeQ 2 ?vaaa2 trivial rfl (by kernel_rfl) ⟨fun _ => rfl, .inl ⟨by kernel_rfl, fun w' hw' => ?yaaa2⟩⟩ ?raaa2
     case' yaaa2 => (go_simp; with_reducible rfl)
     simp only [Act.put, List.setIfInBounds_toArray, List.set_cons_succ, List.set_cons_zero]
     refine takeQ 3 ?vaaa3 trivial rfl (by kernel_rfl) ⟨fun _ => rfl, .inl ⟨by kernel_rfl, fun w' hw' => ?yaaa3⟩⟩ ?raaa3
     case' yaaa3 => (go_simp; with_reducible rfl)
     simp only [Act.put, List.setIfInBounds_toArray, List.set_cons_succ, List.set_cons_zero]
     refine takeQ 4 ?vaaa4 trivial rfl (by kernel_rfl) ⟨fun _ => rfl, .inl ⟨by kernel_rfl, fun w' hw' => ?yaaa4⟩⟩ ?raaa4
     case' yaaa4 => (go_simp; with_reducible rfl)
     simp only [Act.put, List.setIfInBounds_toArray, List.set_cons_succ, List.set_cons_zero]
     refine takeL 1 rfl (by kernel_rfl) ?_
     gi_wp2_with (refine ⟨trivial, ?_⟩; gi_at_call 82; go_must (refine ((callsIn_wide (n := 4)).2 (PU.out n _)).mono ?_); rintro e w9 ⟨rfl, hb⟩; have B9 := Lib.hid (show Below w.heap.size w w9 from (by first | exact (Below.drew HB.out).trans (hb.mono HB.out.size) | exact (pw_below_drewN HB.out _).trans (hb.mono HB.out.size))); clear hb)
     refine ⟨by first | exact fun _ => trivial | trivial, ?_⟩
     refine takeL 5 rfl (by kernel_rfl) ?_
     gi_wp2
     first | refine ⟨by first | exact fun _ => trivial | trivial, doneG (by kernel_rfl) ?_⟩ | refine doneG (by kernel_rfl) ?_
     gi_wp2
     go_meet
     exact ⟨by first | exact congrArg Value.bool ((beq_toListBytes _ _).symm.trans heq) | rw [heq], B9.out⟩
    case rest =>
     obtain ⟨rfl, hbc⟩ := hcut
     have HBC := Lib.hid hbc
     clear hbc
     cases b9 with
     | true =>
      have hr : n = R := by have := HRK.out; rwa [if_pos (of_decide_eq_true HB9.out)] at this
      subst hr
      go_wp2_with fail
      go_ret
      first | exact ⟨rfl, HBC.out⟩ | exact ⟨congrArg (fun z => Ending.returned (.int .i64 z)) wn, HBC.out⟩
     | false =>
      have hr := HRK.out
      rw [if_neg (of_decide_eq_false HB9.out)] at hr
      have HR2 := Lib.hid hr
      clear hr
      go_wp2_with fail
      go_roundw
      case rel => exact ⟨2, by omega, by omega, rfl, HR2.out, HBC.out⟩
      case measure => simp [intOf]
   ·have k1 : decide ((1 : Int) ≤ (s.size : Int)) = false := decide_eq_false (by omega)
    have k2 : decide (1 ≤ s.size) = false := decide_eq_false h
    rw [show 5 - 1 = 3 + 1 by rfl, oneF, if_pos (by rw [hlen]; omega)] at hRk
    subst hRk
    go_wp2_with fail
    go_ret
    exact ⟨rfl, HB.out⟩
  ·by_cases h : 2 ≤ s.size
   ·have k1 : decide ((2 : Int) ≤ (s.size : Int)) = true := decide_eq_true (by omega)
    have k2 : decide (2 ≤ s.size) = true := decide_eq_true h
    have m0 : decide (0 < s.size) = true := decide_eq_true (by omega)
    have n0 : decide ((0 : Int) < (s.size : Int)) = true := decide_eq_true (by omega)
    have r0 := (s[0]'(by omega)).toNat_lt
    obtain ⟨a, q0⟩ : ∃ z : Int, (((s[0]'(by omega)).toNat : Nat) : Int) = z := ⟨_, rfl⟩
    have i0 := (IA.out 0 (by omega)).trans q0
    have w0 : wrap64 a = a := wrap64_of _ (by omega) (by omega)
    have m1 : decide (1 < s.size) = true := decide_eq_true (by omega)
    have n1 : decide ((1 : Int) < (s.size : Int)) = true := decide_eq_true (by omega)
    have r1 := (s[1]'(by omega)).toNat_lt
    obtain ⟨b, q1⟩ : ∃ z : Int, (((s[1]'(by omega)).toNat : Nat) : Int) = z := ⟨_, rfl⟩
    have i1 := (IA.out 1 (by omega)).trans q1
    have w1 : wrap64 b = b := wrap64_of _ (by omega) (by omega)
    have hnk : nK (ints s.data.toList) 2 = (a - 192) * 64 + b - 128 := by show Utf.p2 ((ints s.data.toList).getD 0 0) ((ints s.data.toList).getD 1 0) = _; rw [i0, i1]; rfl
    rw [show 5 - 2 = 2 + 1 by rfl, oneF, if_neg (by rw [hlen]; omega), hnk] at hRk
    have z0 : IntKind.i64.wrap (a - 192) = a - 192 := IntWalk.i64_in _ ⟨by omega, by omega⟩
    have z1 : IntKind.i64.wrap ((a - 192) * 64) = (a - 192) * 64 := IntWalk.i64_in _ ⟨by omega, by omega⟩
    have z2 : IntKind.i64.wrap ((a - 192) * 64 + b) = (a - 192) * 64 + b := IntWalk.i64_in _ ⟨by omega, by omega⟩
    have z3 : IntKind.i64.wrap ((a - 192) * 64 + b - 128) = (a - 192) * 64 + b - 128 := IntWalk.i64_in _ ⟨by omega, by omega⟩
    obtain ⟨n, hn⟩ : ∃ n : Int, (a - 192) * 64 + b - 128 = n := ⟨_, rfl⟩
    rw [hn] at hRk hnk z3
    have wn : wrap64 n = n := by rw [← hn]; exact wrap64_of _ (by omega) (by omega)
    have es : (2 : Int) ≤ (s.size : Int) := by omega
    obtain ⟨b9, hb9⟩ : ∃ b, decide (Utf.putI n = (ints s.data.toList).take 2) = b := ⟨_, rfl⟩
    have heq : (putB n == s.extract 0 2) = b9 := (put_is n s 2).trans hb9
    have HRK := Lib.hid hRk
    have HB9 := Lib.hid hb9
    clear hRk hnk hb9 i0 r0 i1 r1
    go_wp2_with fail
    go_big_quiet (fail)
    go_wp2_with fail
    go_upto_region 13 with (fail)
    go_cut [79] (fun v79 wc => v79 = .bool b9 ∧ Below w.heap.size w wc)
    case first =>
     refine (wpIn_wide (n := 5)).1 ?_
     have hmo : Tryz.prog.follows .mixedOrders = true := by kernel_rfl
     refine region_g (fun _ => True) (fun _ => true) hmo ?_
     refine takeQ 0 ?vabb0 trivial rfl (by kernel_rfl) ⟨fun _ => rfl, .inl ⟨by kernel_rfl, fun w' hw' => ?yabb0⟩⟩ ?rabb0
     case' yabb0 => (go_simp; with_reducible rfl)
     simp only [Act.put, List.setIfInBounds_toArray, List.set_cons_succ, List.set_cons_zero]
     refine takeQ 2 ?vabb2 trivial rfl (by kernel_rfl) ⟨fun _ => rfl, .inl ⟨by kernel_rfl, fun w' hw' => ?yabb2⟩⟩ ?rabb2
     case' yabb2 => (go_simp; with_reducible rfl)
     simp only [Act.put, List.setIfInBounds_toArray, List.set_cons_succ, List.set_cons_zero]
     refine takeQ 3 ?vabb3 trivial rfl (by kernel_rfl) ⟨fun _ => rfl, .inl ⟨by kernel_rfl, fun w' hw' => ?yabb3⟩⟩ ?rabb3
     case' yabb3 => (go_simp; with_reducible rfl)
     simp only [Act.put, List.setIfInBounds_toArray, List.set_cons_succ, List.set_cons_zero]
     refine takeQ 4 ?vabb4 trivial rfl (by kernel_rfl) ⟨fun _ => rfl, .inl ⟨by kernel_rfl, fun w' hw' => ?yabb4⟩⟩ ?rabb4
     case' yabb4 => (go_simp; with_reducible rfl)
     simp only [Act.put, List.setIfInBounds_toArray, List.set_cons_succ, List.set_cons_zero]
     refine takeL 1 rfl (by kernel_rfl) ?_
     gi_wp2_with (refine ⟨trivial, ?_⟩; gi_at_call 82; go_must (refine ((callsIn_wide (n := 4)).2 (PU.out n _)).mono ?_); rintro e w9 ⟨rfl, hb⟩; have B9 := Lib.hid (show Below w.heap.size w w9 from (by first | exact (Below.drew HB.out).trans (hb.mono HB.out.size) | exact (pw_below_drewN HB.out _).trans (hb.mono HB.out.size))); clear hb)
     refine ⟨by first | exact fun _ => trivial | trivial, ?_⟩
     refine takeL 5 rfl (by kernel_rfl) ?_
     gi_wp2
     first | refine ⟨by first | exact fun _ => trivial | trivial, doneG (by kernel_rfl) ?_⟩ | refine doneG (by kernel_rfl) ?_
     gi_wp2
     go_meet
     exact ⟨by first | exact congrArg Value.bool ((beq_toListBytes _ _).symm.trans heq) | rw [heq], B9.out⟩
    case rest =>
     obtain ⟨rfl, hbc⟩ := hcut
     have HBC := Lib.hid hbc
     clear hbc
     cases b9 with
     | true =>
      have hr : n = R := by have := HRK.out; rwa [if_pos (of_decide_eq_true HB9.out)] at this
      subst hr
      go_wp2_with fail
      go_ret
      first | exact ⟨rfl, HBC.out⟩ | exact ⟨congrArg (fun z => Ending.returned (.int .i64 z)) wn, HBC.out⟩
     | false =>
      have hr := HRK.out
      rw [if_neg (of_decide_eq_false HB9.out)] at hr
      have HR2 := Lib.hid hr
      clear hr
      go_wp2_with fail
      go_roundw
      case rel => exact ⟨3, by omega, by omega, rfl, HR2.out, HBC.out⟩
      case measure => simp [intOf]
   ·have k1 : decide ((2 : Int) ≤ (s.size : Int)) = false := decide_eq_false (by omega)
    have k2 : decide (2 ≤ s.size) = false := decide_eq_false h
    rw [show 5 - 2 = 2 + 1 by rfl, oneF, if_pos (by rw [hlen]; omega)] at hRk
    subst hRk
    go_wp2_with fail
    go_ret
    exact ⟨rfl, HB.out⟩
  ·by_cases h : 3 ≤ s.size
   ·have k1 : decide ((3 : Int) ≤ (s.size : Int)) = true := decide_eq_true (by omega)
    have k2 : decide (3 ≤ s.size) = true := decide_eq_true h
    have m0 : decide (0 < s.size) = true := decide_eq_true (by omega)
    have n0 : decide ((0 : Int) < (s.size : Int)) = true := decide_eq_true (by omega)
    have r0 := (s[0]'(by omega)).toNat_lt
    obtain ⟨a, q0⟩ : ∃ z : Int, (((s[0]'(by omega)).toNat : Nat) : Int) = z := ⟨_, rfl⟩
    have i0 := (IA.out 0 (by omega)).trans q0
    have w0 : wrap64 a = a := wrap64_of _ (by omega) (by omega)
    have m1 : decide (1 < s.size) = true := decide_eq_true (by omega)
    have n1 : decide ((1 : Int) < (s.size : Int)) = true := decide_eq_true (by omega)
    have r1 := (s[1]'(by omega)).toNat_lt
    obtain ⟨b, q1⟩ : ∃ z : Int, (((s[1]'(by omega)).toNat : Nat) : Int) = z := ⟨_, rfl⟩
    have i1 := (IA.out 1 (by omega)).trans q1
    have w1 : wrap64 b = b := wrap64_of _ (by omega) (by omega)
    have m2 : decide (2 < s.size) = true := decide_eq_true (by omega)
    have n2 : decide ((2 : Int) < (s.size : Int)) = true := decide_eq_true (by omega)
    have r2 := (s[2]'(by omega)).toNat_lt
    obtain ⟨c, q2⟩ : ∃ z : Int, (((s[2]'(by omega)).toNat : Nat) : Int) = z := ⟨_, rfl⟩
    have i2 := (IA.out 2 (by omega)).trans q2
    have w2 : wrap64 c = c := wrap64_of _ (by omega) (by omega)
    have hnk : nK (ints s.data.toList) 3 = (a - 224) * 4096 + (b - 128) * 64 + c - 128 := by show Utf.p3 ((ints s.data.toList).getD 0 0) ((ints s.data.toList).getD 1 0) ((ints s.data.toList).getD 2 0) = _; rw [i0, i1, i2]; rfl
    rw [show 5 - 3 = 1 + 1 by rfl, oneF, if_neg (by rw [hlen]; omega), hnk] at hRk
    have z0 : IntKind.i64.wrap (a - 224) = a - 224 := IntWalk.i64_in _ ⟨by omega, by omega⟩
    have z1 : IntKind.i64.wrap ((a - 224) * 4096) = (a - 224) * 4096 := IntWalk.i64_in _ ⟨by omega, by omega⟩
    have z2 : IntKind.i64.wrap (b - 128) = b - 128 := IntWalk.i64_in _ ⟨by omega, by omega⟩
    have z3 : IntKind.i64.wrap ((b - 128) * 64) = (b - 128) * 64 := IntWalk.i64_in _ ⟨by omega, by omega⟩
    have z4 : IntKind.i64.wrap ((a - 224) * 4096 + (b - 128) * 64) = (a - 224) * 4096 + (b - 128) * 64 := IntWalk.i64_in _ ⟨by omega, by omega⟩
    have z5 : IntKind.i64.wrap ((a - 224) * 4096 + (b - 128) * 64 + c) = (a - 224) * 4096 + (b - 128) * 64 + c := IntWalk.i64_in _ ⟨by omega, by omega⟩
    have z6 : IntKind.i64.wrap ((a - 224) * 4096 + (b - 128) * 64 + c - 128) = (a - 224) * 4096 + (b - 128) * 64 + c - 128 := IntWalk.i64_in _ ⟨by omega, by omega⟩
    obtain ⟨n, hn⟩ : ∃ n : Int, (a - 224) * 4096 + (b - 128) * 64 + c - 128 = n := ⟨_, rfl⟩
    rw [hn] at hRk hnk z6
    have wn : wrap64 n = n := by rw [← hn]; exact wrap64_of _ (by omega) (by omega)
    have es : (3 : Int) ≤ (s.size : Int) := by omega
    obtain ⟨b9, hb9⟩ : ∃ b, decide (Utf.putI n = (ints s.data.toList).take 3) = b := ⟨_, rfl⟩
    have heq : (putB n == s.extract 0 3) = b9 := (put_is n s 3).trans hb9
    have HRK := Lib.hid hRk
    have HB9 := Lib.hid hb9
    clear hRk hnk hb9 i0 r0 i1 r1 i2 r2
    go_wp2_with fail
    go_big_quiet (fail)
    go_wp2_with fail
    go_upto_region 13 with (fail)
    go_cut [79] (fun v79 wc => v79 = .bool b9 ∧ Below w.heap.size w wc)
    case first =>
     refine (wpIn_wide (n := 5)).1 ?_
     have hmo : Tryz.prog.follows .mixedOrders = true := by kernel_rfl
     refine region_g (fun _ => True) (fun _ => true) hmo ?_
     refine takeQ 0 ?vacc0 trivial rfl (by kernel_rfl) ⟨fun _ => rfl, .inl ⟨by kernel_rfl, fun w' hw' => ?yacc0⟩⟩ ?racc0
     case' yacc0 => (go_simp; with_reducible rfl)
     simp only [Act.put, List.setIfInBounds_toArray, List.set_cons_succ, List.set_cons_zero]
     refine takeQ 2 ?vacc2 trivial rfl (by kernel_rfl) ⟨fun _ => rfl, .inl ⟨by kernel_rfl, fun w' hw' => ?yacc2⟩⟩ ?racc2
     case' yacc2 => (go_simp; with_reducible rfl)
     simp only [Act.put, List.setIfInBounds_toArray, List.set_cons_succ, List.set_cons_zero]
     refine takeQ 3 ?vacc3 trivial rfl (by kernel_rfl) ⟨fun _ => rfl, .inl ⟨by kernel_rfl, fun w' hw' => ?yacc3⟩⟩ ?racc3
     case' yacc3 => (go_simp; with_reducible rfl)
     simp only [Act.put, List.setIfInBounds_toArray, List.set_cons_succ, List.set_cons_zero]
     refine takeQ 4 ?vacc4 trivial rfl (by kernel_rfl) ⟨fun _ => rfl, .inl ⟨by kernel_rfl, fun w' hw' => ?yacc4⟩⟩ ?racc4
     case' yacc4 => (go_simp; with_reducible rfl)
     simp only [Act.put, List.setIfInBounds_toArray, List.set_cons_succ, List.set_cons_zero]
     refine takeL 1 rfl (by kernel_rfl) ?_
     gi_wp2_with (refine ⟨trivial, ?_⟩; gi_at_call 82; go_must (refine ((callsIn_wide (n := 4)).2 (PU.out n _)).mono ?_); rintro e w9 ⟨rfl, hb⟩; have B9 := Lib.hid (show Below w.heap.size w w9 from (by first | exact (Below.drew HB.out).trans (hb.mono HB.out.size) | exact (pw_below_drewN HB.out _).trans (hb.mono HB.out.size))); clear hb)
     refine ⟨by first | exact fun _ => trivial | trivial, ?_⟩
     refine takeL 5 rfl (by kernel_rfl) ?_
     gi_wp2
     first | refine ⟨by first | exact fun _ => trivial | trivial, doneG (by kernel_rfl) ?_⟩ | refine doneG (by kernel_rfl) ?_
     gi_wp2
     go_meet
     exact ⟨by first | exact congrArg Value.bool ((beq_toListBytes _ _).symm.trans heq) | rw [heq], B9.out⟩
    case rest =>
     obtain ⟨rfl, hbc⟩ := hcut
     have HBC := Lib.hid hbc
     clear hbc
     cases b9 with
     | true =>
      have hr : n = R := by have := HRK.out; rwa [if_pos (of_decide_eq_true HB9.out)] at this
      subst hr
      go_wp2_with fail
      go_ret
      first | exact ⟨rfl, HBC.out⟩ | exact ⟨congrArg (fun z => Ending.returned (.int .i64 z)) wn, HBC.out⟩
     | false =>
      have hr := HRK.out
      rw [if_neg (of_decide_eq_false HB9.out)] at hr
      have HR2 := Lib.hid hr
      clear hr
      go_wp2_with fail
      go_roundw
      case rel => exact ⟨4, by omega, by omega, rfl, HR2.out, HBC.out⟩
      case measure => simp [intOf]
   ·have k1 : decide ((3 : Int) ≤ (s.size : Int)) = false := decide_eq_false (by omega)
    have k2 : decide (3 ≤ s.size) = false := decide_eq_false h
    rw [show 5 - 3 = 1 + 1 by rfl, oneF, if_pos (by rw [hlen]; omega)] at hRk
    subst hRk
    go_wp2_with fail
    go_ret
    exact ⟨rfl, HB.out⟩
  ·by_cases h : 4 ≤ s.size
   ·have k1 : decide ((4 : Int) ≤ (s.size : Int)) = true := decide_eq_true (by omega)
    have k2 : decide (4 ≤ s.size) = true := decide_eq_true h
    have m0 : decide (0 < s.size) = true := decide_eq_true (by omega)
    have n0 : decide ((0 : Int) < (s.size : Int)) = true := decide_eq_true (by omega)
    have r0 := (s[0]'(by omega)).toNat_lt
    obtain ⟨a, q0⟩ : ∃ z : Int, (((s[0]'(by omega)).toNat : Nat) : Int) = z := ⟨_, rfl⟩
    have i0 := (IA.out 0 (by omega)).trans q0
    have w0 : wrap64 a = a := wrap64_of _ (by omega) (by omega)
    have m1 : decide (1 < s.size) = true := decide_eq_true (by omega)
    have n1 : decide ((1 : Int) < (s.size : Int)) = true := decide_eq_true (by omega)
    have r1 := (s[1]'(by omega)).toNat_lt
    obtain ⟨b, q1⟩ : ∃ z : Int, (((s[1]'(by omega)).toNat : Nat) : Int) = z := ⟨_, rfl⟩
    have i1 := (IA.out 1 (by omega)).trans q1
    have w1 : wrap64 b = b := wrap64_of _ (by omega) (by omega)
    have m2 : decide (2 < s.size) = true := decide_eq_true (by omega)
    have n2 : decide ((2 : Int) < (s.size : Int)) = true := decide_eq_true (by omega)
    have r2 := (s[2]'(by omega)).toNat_lt
    obtain ⟨c, q2⟩ : ∃ z : Int, (((s[2]'(by omega)).toNat : Nat) : Int) = z := ⟨_, rfl⟩
    have i2 := (IA.out 2 (by omega)).trans q2
    have w2 : wrap64 c = c := wrap64_of _ (by omega) (by omega)
    have m3 : decide (3 < s.size) = true := decide_eq_true (by omega)
    have n3 : decide ((3 : Int) < (s.size : Int)) = true := decide_eq_true (by omega)
    have r3 := (s[3]'(by omega)).toNat_lt
    obtain ⟨d, q3⟩ : ∃ z : Int, (((s[3]'(by omega)).toNat : Nat) : Int) = z := ⟨_, rfl⟩
    have i3 := (IA.out 3 (by omega)).trans q3
    have w3 : wrap64 d = d := wrap64_of _ (by omega) (by omega)
    have hnk : nK (ints s.data.toList) 4 = (a - 240) * 262144 + (b - 128) * 4096 + (c - 128) * 64 + d - 128 := by show Utf.p4 ((ints s.data.toList).getD 0 0) ((ints s.data.toList).getD 1 0) ((ints s.data.toList).getD 2 0) ((ints s.data.toList).getD 3 0) = _; rw [i0, i1, i2, i3]; rfl
    rw [show 5 - 4 = 0 + 1 by rfl, oneF, if_neg (by rw [hlen]; omega), hnk] at hRk
    have z0 : IntKind.i64.wrap (a - 240) = a - 240 := IntWalk.i64_in _ ⟨by omega, by omega⟩
    have z1 : IntKind.i64.wrap ((a - 240) * 262144) = (a - 240) * 262144 := IntWalk.i64_in _ ⟨by omega, by omega⟩
    have z2 : IntKind.i64.wrap (b - 128) = b - 128 := IntWalk.i64_in _ ⟨by omega, by omega⟩
    have z3 : IntKind.i64.wrap ((b - 128) * 4096) = (b - 128) * 4096 := IntWalk.i64_in _ ⟨by omega, by omega⟩
    have z4 : IntKind.i64.wrap ((a - 240) * 262144 + (b - 128) * 4096) = (a - 240) * 262144 + (b - 128) * 4096 := IntWalk.i64_in _ ⟨by omega, by omega⟩
    have z5 : IntKind.i64.wrap (c - 128) = c - 128 := IntWalk.i64_in _ ⟨by omega, by omega⟩
    have z6 : IntKind.i64.wrap ((c - 128) * 64) = (c - 128) * 64 := IntWalk.i64_in _ ⟨by omega, by omega⟩
    have z7 : IntKind.i64.wrap ((a - 240) * 262144 + (b - 128) * 4096 + (c - 128) * 64) = (a - 240) * 262144 + (b - 128) * 4096 + (c - 128) * 64 := IntWalk.i64_in _ ⟨by omega, by omega⟩
    have z8 : IntKind.i64.wrap ((a - 240) * 262144 + (b - 128) * 4096 + (c - 128) * 64 + d) = (a - 240) * 262144 + (b - 128) * 4096 + (c - 128) * 64 + d := IntWalk.i64_in _ ⟨by omega, by omega⟩
    have z9 : IntKind.i64.wrap ((a - 240) * 262144 + (b - 128) * 4096 + (c - 128) * 64 + d - 128) = (a - 240) * 262144 + (b - 128) * 4096 + (c - 128) * 64 + d - 128 := IntWalk.i64_in _ ⟨by omega, by omega⟩
    obtain ⟨n, hn⟩ : ∃ n : Int, (a - 240) * 262144 + (b - 128) * 4096 + (c - 128) * 64 + d - 128 = n := ⟨_, rfl⟩
    rw [hn] at hRk hnk z9
    have wn : wrap64 n = n := by rw [← hn]; exact wrap64_of _ (by omega) (by omega)
    have es : (4 : Int) ≤ (s.size : Int) := by omega
    obtain ⟨b9, hb9⟩ : ∃ b, decide (Utf.putI n = (ints s.data.toList).take 4) = b := ⟨_, rfl⟩
    have heq : (putB n == s.extract 0 4) = b9 := (put_is n s 4).trans hb9
    have HRK := Lib.hid hRk
    have HB9 := Lib.hid hb9
    clear hRk hnk hb9 i0 r0 i1 r1 i2 r2 i3 r3
    go_wp2_with fail
    go_big_quiet (fail)
    go_wp2_with fail
    go_upto_region 13 with (fail)
    go_cut [79] (fun v79 wc => v79 = .bool b9 ∧ Below w.heap.size w wc)
    case first =>
     refine (wpIn_wide (n := 5)).1 ?_
     have hmo : Tryz.prog.follows .mixedOrders = true := by kernel_rfl
     refine region_g (fun _ => True) (fun _ => true) hmo ?_
     refine takeQ 0 ?vadd0 trivial rfl (by kernel_rfl) ⟨fun _ => rfl, .inl ⟨by kernel_rfl, fun w' hw' => ?yadd0⟩⟩ ?radd0
     case' yadd0 => (go_simp; with_reducible rfl)
     simp only [Act.put, List.setIfInBounds_toArray, List.set_cons_succ, List.set_cons_zero]
     refine takeQ 2 ?vadd2 trivial rfl (by kernel_rfl) ⟨fun _ => rfl, .inl ⟨by kernel_rfl, fun w' hw' => ?yadd2⟩⟩ ?radd2
     case' yadd2 => (go_simp; with_reducible rfl)
     simp only [Act.put, List.setIfInBounds_toArray, List.set_cons_succ, List.set_cons_zero]
     refine takeQ 3 ?vadd3 trivial rfl (by kernel_rfl) ⟨fun _ => rfl, .inl ⟨by kernel_rfl, fun w' hw' => ?yadd3⟩⟩ ?radd3
     case' yadd3 => (go_simp; with_reducible rfl)
     simp only [Act.put, List.setIfInBounds_toArray, List.set_cons_succ, List.set_cons_zero]
     refine takeQ 4 ?vadd4 trivial rfl (by kernel_rfl) ⟨fun _ => rfl, .inl ⟨by kernel_rfl, fun w' hw' => ?yadd4⟩⟩ ?radd4
     case' yadd4 => (go_simp; with_reducible rfl)
     simp only [Act.put, List.setIfInBounds_toArray, List.set_cons_succ, List.set_cons_zero]
     refine takeL 1 rfl (by kernel_rfl) ?_
     gi_wp2_with (refine ⟨trivial, ?_⟩; gi_at_call 82; go_must (refine ((callsIn_wide (n := 4)).2 (PU.out n _)).mono ?_); rintro e w9 ⟨rfl, hb⟩; have B9 := Lib.hid (show Below w.heap.size w w9 from (by first | exact (Below.drew HB.out).trans (hb.mono HB.out.size) | exact (pw_below_drewN HB.out _).trans (hb.mono HB.out.size))); clear hb)
     refine ⟨by first | exact fun _ => trivial | trivial, ?_⟩
     refine takeL 5 rfl (by kernel_rfl) ?_
     gi_wp2
     first | refine ⟨by first | exact fun _ => trivial | trivial, doneG (by kernel_rfl) ?_⟩ | refine doneG (by kernel_rfl) ?_
     gi_wp2
     go_meet
     exact ⟨by first | exact congrArg Value.bool ((beq_toListBytes _ _).symm.trans heq) | rw [heq], B9.out⟩
    case rest =>
     obtain ⟨rfl, hbc⟩ := hcut
     have HBC := Lib.hid hbc
     clear hbc
     cases b9 with
     | true =>
      have hr : n = R := by have := HRK.out; rwa [if_pos (of_decide_eq_true HB9.out)] at this
      subst hr
      go_wp2_with fail
      go_ret
      first | exact ⟨rfl, HBC.out⟩ | exact ⟨congrArg (fun z => Ending.returned (.int .i64 z)) wn, HBC.out⟩
     | false =>
      have hr := HRK.out
      rw [if_neg (of_decide_eq_false HB9.out)] at hr
      have HR2 := Lib.hid hr
      clear hr
      go_wp2_with fail
      go_roundw
      case rel => exact ⟨5, by omega, by omega, rfl, HR2.out, HBC.out⟩
      case measure => simp [intOf]
   ·have k1 : decide ((4 : Int) ≤ (s.size : Int)) = false := decide_eq_false (by omega)
    have k2 : decide (4 ≤ s.size) = false := decide_eq_false h
    rw [show 5 - 4 = 0 + 1 by rfl, oneF, if_pos (by rw [hlen]; omega)] at hRk
    subst hRk
    go_wp2_with fail
    go_ret
    exact ⟨rfl, HB.out⟩
  ·have hRk : (-1 : Int) = R := hRk
   subst hRk
   go_wp2_with fail
   go_ret
   exact ⟨rfl, HB.out⟩
end Go.Proofs.YtfocognhcljhpaaGreatDoor
namespace Go.Proofs.YtfocognhcljhpaaGreatDoor
open Go.RowKit Go.Proofs.YtfocognhcljhpaaGreatDoorW.PrintWords Go.Proofs.YtfocognhcljhpaaGreatDoorW.PrintMore Go.Proofs.YtfocognhcljhpaaGreatDoor.PPrintRows Go.Proofs.YtfocognhcljhpaaGreatDoor.Tree
theorem ints_range2 (l : Bs) (k : Nat) : ∀ x ∈ (ints l).drop k, 0 ≤ x ∧ x < 256 := fun x hx => ints_range l x (List.mem_of_mem_drop hx)
theorem putB_size (l : List Int) (hl : ∀ x ∈ l, 0 ≤ x ∧ x < 256) (p : Int × Nat) (h : Utf.firstI l = some p) : (putB p.1).size = p.2 ∧ 1 ≤ p.2 ∧ p.2 ≤ l.length ∧ 0 ≤ p.1 := by
 obtain ⟨h1, h2, h3, h4⟩ := Utf.first_put l hl p h
 refine ⟨?_, h3, h2, h4⟩
 unfold putB
 show ((Utf.putI p.1).map _).toArray.size = _
 rw [List.size_toArray, List.length_map, h1, List.length_take]
 omega
theorem open_len4 {w : World} {base : Nat} {v : Value} {op : List Nat} (h : OpenAt w base v op) : ∃ A c, v = .slice A op.length c := by
 obtain ⟨_, h1 | ⟨g, cap, cur, rfl, _⟩⟩ := open_own h
 ·exact ⟨none, 0, by rw [h1.1, h1.2]⟩
 ·exact ⟨_, _, rfl⟩
theorem alloc_old (w : World) (o : Obj) {k : Nat} (h : k < w.heap.size) : (w.alloc o).heap[k]? = w.heap[k]? := (below_alloc (Below.refl w.heap.size w) o).block k h
theorem two_append {w1 : World} {base : Nat} {v5 v6 : Value} {L5 L6 : List Nat} (hb : base ≤ w1.heap.size) (o5 : OpenAt w1 base v5 L5) (o6 : OpenAt w1 base v6 L6) (dj : ∀ z, v5.ownBlock = some z → v6.ownBlock ≠ some z) (k q : Nat) (h5 : L5.length ≤ 900000) (h6 : L6.length ≤ 900000) :
  ∃ A7 c7 w7 A8 c8 w8, (Builtin.append_ #[71, 71] 71 #[v5, .slice (some ⟨w1.heap.size, 0, none⟩) 1 1]).run Tryz.prog (w1.alloc (.cells #[.int .i64 (k : Int)] 3)) = .ok (.slice A7 (L5.length + 1) c7) w7 ∧
   (Builtin.append_ #[71, 71] 71 #[v6, .slice (some ⟨w7.heap.size, 0, none⟩) 1 1]).run Tryz.prog (w7.alloc (.cells #[.int .i64 (q : Int)] 3)) = .ok (.slice A8 (L6.length + 1) c8) w8 ∧
   Hid (OpenAt w8 base (.slice A7 (L5.length + 1) c7) (k :: L5) ∧ OpenAt w8 base (.slice A8 (L6.length + 1) c8) (q :: L6) ∧ (∀ z, (Value.slice A7 (L5.length + 1) c7).ownBlock = some z → (Value.slice A8 (L6.length + 1) c8).ownBlock ≠ some z) ∧ Below base w1 w8) := by
 obtain ⟨v7, w7, r7, O7, g7, d7⟩ := int_append o5 k h5 hb
 obtain ⟨A7, c7, rfl⟩ := open_len4 O7
 have s7 : w1.heap.size < w7.heap.size := by have := g7.size; simp at this; omega
 have dj2 : ∀ z, (Value.slice A7 (k :: L5).length c7).ownBlock = some z → v6.ownBlock ≠ some z := fun z hz h2 => by
  rcases d7 z hz with h | h
  ·exact dj z h h2
  ·have := open_lt o6 z h2; omega
 have o6b : OpenAt w7 base v6 L6 := o6.keep fun z hz => by
  have hlt := open_lt o6 z hz
  exact (g7.block z (by simp; omega) (fun e => dj z e.symm hz)).trans (alloc_old w1 _ hlt)
 obtain ⟨v8, w8, r8, O8, g8, d8⟩ := int_append o6b q h6 (by omega)
 obtain ⟨A8, c8, rfl⟩ := open_len4 O8
 refine ⟨A7, c7, w7, A8, c8, w8, r7, r8, Lib.hid ⟨O7.keep fun z hz => ?_, O8, fun z hz h2 => ?_, ?_⟩⟩
 ·have hlt := open_lt O7 z hz
  exact (g8.block z (by simp; omega) (fun e => dj2 z hz e.symm)).trans (alloc_old w7 _ hlt)
 ·rcases d8 z h2 with h | h
  ·exact dj2 z hz h
  ·have := open_lt O7 z hz; omega
 ·refine ⟨g8.os.trans g7.os, g8.tape.trans g7.tape, g8.output.trans g7.output, ?_, fun z hz => ?_⟩
  ·have := g8.size; simp at this; omega
  ·have hz1 : z < w1.heap.size := by omega
   have hz7 : z < w7.heap.size := by omega
   have e1 := (g7.block z (by simp; omega) (fun e => by have := (own_int (open_own o5) z e.symm).1; omega)).trans (alloc_old w1 _ hz1)
   have e2 := (g8.block z (by simp; omega) (fun e => by have := (own_int (open_own o6b) z e.symm).1; omega)).trans (alloc_old w7 _ hz7)
   exact e2.trans e1
set_option maxRecDepth 100000 in
set_option maxHeartbeats 4000000 in
theorem runes4_any (s : ByteArray) (hs : s.size ≤ 800000) (w : World) : Calls Tryz.prog 49 #[.string s] w fun e w' => ∃ v1 v2, e = .returned (.tuple #[v1, v2, .int .i64 (badL s.data.toList)]) ∧ Below w.heap.size w w' := by
 have ON := Lib.hid (fun k W => one4_any (s.extract k s.size) (by rw [ByteArray.size_extract]; omega) W)
 have PU := Lib.hid (fun n W => put4_any n W)
 obtain ⟨l, hl⟩ : ∃ l, s.data.toList = l := ⟨_, rfl⟩
 have hlen : l.length = s.size := by rw [← hl]; simp
 have hil : (ints l).length = s.size := by simp [ints, hlen]
 obtain ⟨E, hE⟩ : ∃ E, endI s.size 0 (ints l) = E := ⟨_, rfl⟩
 have hbad : badL l = if E = s.size then -1 else (E : Int) := by unfold badL; rw [hlen, hE]
 have HBAD := Lib.hid hbad
 have EX := Lib.hid (fun k => (congrArg ints (ext_list s k)).trans (by rw [hl, ints_drop] : ints (s.data.toList.drop k) = (ints l).drop k))
 rw [hl]
 clear hl hbad
 go_enter Tryz.func49, Tryz.ntmps49
 go_wp2_with fail
 go_loopw [5, 6, 7, 8] (fun v5 v6 v7 _ wr => ∃ (k f : Nat) (L5 L6 : List Nat) (A5 A6 : Option Addr) (n5 n6 c5 c6 : Nat), v5 = .slice A5 n5 c5 ∧ v6 = .slice A6 n6 c6 ∧ v7 = .int .i64 (k : Int) ∧ n5 = L5.length ∧ n6 = L6.length ∧ k ≤ s.size ∧ L5.length ≤ k ∧ L6.length ≤ k ∧ s.size - k ≤ f ∧ endI f k ((ints l).drop k) = E ∧
   OpenAt wr w.heap.size (.slice A5 n5 c5) L5 ∧ OpenAt wr w.heap.size (.slice A6 n6 c6) L6 ∧ (∀ q, (Value.slice A5 n5 c5).ownBlock = some q → (Value.slice A6 n6 c6).ownBlock ≠ some q) ∧ Below w.heap.size w wr) (fun _ _ v7 _ _ => s.size - (intOf v7).toNat)
 case atStart => exact ⟨0, s.size, [], [], none, none, 0, 0, 0, 0, rfl, rfl, rfl, rfl, rfl, Nat.zero_le _, Nat.zero_le _, Nat.zero_le _, by omega, hE, open_of (World.ownsRow_nil _ _ _ _), open_of (World.ownsRow_nil _ _ _ _), (fun q h => by cases h), Below.refl _ _⟩
 case round =>
  obtain ⟨k, f, L5, L6, A5, A6, n5, n6, c5, c6, rfl, rfl, rfl, rfl, rfl, hk, hl5, hl6, hf, hEk, hO5, hO6, hdj, hB⟩ := hrel
  have HO := Lib.hid (And.intro hO5 (And.intro hO6 hdj))
  have HB := Lib.hid hB
  clear hO5 hO6 hdj hB hE
  by_cases hks : k < s.size
  ·have k1 : decide ((k : Int) < (s.size : Int)) = true := decide_eq_true (by omega)
   have k2 : decide (k < s.size) = true := decide_eq_true hks
   have e0 : (0 : Int) ≤ (k : Int) := by omega
   have e1 : (k : Int) ≤ (s.size : Int) := by omega
   obtain ⟨g, rfl⟩ : ∃ g, f = g + 1 := ⟨f - 1, by omega⟩
   have h1 := Utf.one_first ((ints l).drop k) (ints_range2 l k)
   have ON1 := Lib.hid (fun W => ON.out k W)
   rw [EX.out k] at ON1
   unfold endI at hEk
   cases hfi : Utf.firstI ((ints l).drop k) with
   | none =>
    rw [hfi] at h1 hEk
    replace hEk : k = E := hEk
    replace h1 : Utf.oneI ((ints l).drop k) = -1 := h1
    rw [h1] at ON1
    have HEK := Lib.hid hEk
    clear hfi h1 hEk
    go_wp2_with (go_at_call 81; go_must (refine (ON1.out _).mono ?_); rintro e w1 ⟨rfl, hb⟩; have B1 := Lib.hid hb; clear hb)
    go_ret3
    have hv : badL l = (k : Int) := by rw [HBAD.out, ← HEK.out, if_neg (by omega)]
    rw [hv]
    first | exact ⟨_, _, rfl, below_step HB.out B1.out⟩ | exact ⟨⟨_, _, rfl⟩, below_step HB.out B1.out⟩
   | some p =>
    obtain ⟨g1, g2, g3, g4⟩ := putB_size _ (ints_range2 l k) p hfi
    rw [hfi] at h1 hEk
    dsimp only at h1 hEk
    rw [h1] at ON1
    rw [List.length_drop, hil] at g3
    obtain ⟨pn, pk⟩ := p
    obtain ⟨q, rfl⟩ : ∃ q : Nat, pn = (q : Int) := ⟨pn.toNat, by dsimp only at g4; omega⟩
    dsimp only at g1 g2 g3 hEk ON1
    rw [List.drop_drop] at hEk
    have HEK := Lib.hid hEk
    have PU1 := Lib.hid (fun W => PU.out (q : Int) W)
    obtain ⟨pb, hpb⟩ : ∃ pb, putB (q : Int) = pb := ⟨_, rfl⟩
    rw [hpb] at PU1 g1
    have kq : decide ((q : Int) < 0) = false := decide_eq_false (by omega)
    have kz : (pb.size : Int) = (pk : Int) := by omega
    clear hfi h1 hEk hpb g4
    go_wp2_with (first | (go_at_call 81; go_must (refine (ON1.out _).mono ?_); rintro e w1 ⟨rfl, hb⟩; obtain ⟨o5, o6, odj⟩ := HO.out; obtain ⟨A7, c7, w7, A8, c8, w8, hr7, hr8, HF⟩ := two_append (Nat.le_trans HB.out.size hb.size) (o5.keep fun z hz => hb.block z (open_lt o5 z hz)) (o6.keep fun z hz => hb.block z (open_lt o6 z hz)) odj k q (by omega) (by omega); have B1 := Lib.hid (below_step HB.out hb); clear hb o5 o6 odj) | (at_builtin; first | (refine wpList_append_runI _ rfl _ _ 71 71 rfl _ _ rfl rfl hr7 ?_) | (refine wpList_append_runI _ rfl _ _ 71 71 rfl _ _ rfl rfl hr8 ?_)) | (go_at_call 82; go_must (refine (PU1.out _).mono ?_); rintro e w9 ⟨rfl, hb⟩; have B9 := Lib.hid hb; clear hb))
    go_roundw
    case rel =>
     obtain ⟨o5, o6, odj, hb8⟩ := HF.out
     have hb9 := B9.out
     have hs8 := hb8.size
     exact ⟨k + pk, g, k :: L5, q :: L6, A7, A8, _, _, c7, c8, rfl, rfl, by go_num, rfl, rfl, by omega, by simp; omega, by simp; omega, by omega, HEK.out, o5.keep fun z hz => hb9.block z (open_lt o5 z hz), o6.keep fun z hz => hb9.block z (open_lt o6 z hz), odj, (B1.out.trans hb8).trans (hb9.mono (Nat.le_trans B1.out.size hs8))⟩
    case measure => simp [intOf]; omega
  ·have k1 : decide ((k : Int) < (s.size : Int)) = false := decide_eq_false (by omega)
   have k2 : decide (k < s.size) = false := decide_eq_false hks
   have hkk : k = s.size := by omega
   have hEk2 : E = s.size := by
    rw [← hEk, List.drop_of_length_le (by rw [hil]; omega)]
    cases f <;> exact hkk
   go_wp2_with fail
   go_ret3
   have hv : badL l = -1 := by rw [HBAD.out, if_pos hEk2]
   rw [hv]
   first | exact ⟨_, _, rfl, HB.out⟩ | exact ⟨⟨_, _, rfl⟩, HB.out⟩
end Go.Proofs.YtfocognhcljhpaaGreatDoor
namespace Go.Proofs.YtfocognhcljhpaaGreatDoor
open Go.RowKit Go.Shelf Go.Proofs.YtfocognhcljhpaaGreatDoorW.PrintWords Go.Proofs.YtfocognhcljhpaaGreatDoorW.PrintLast Go.Proofs.YtfocognhcljhpaaGreatDoorW.PrintMore Go.Proofs.YtfocognhcljhpaaGreatDoor.PPrintRows Go.Proofs.YtfocognhcljhpaaGreatDoor.Tree
theorem bad_valid2 (l : Bs) : (validL l = true ∧ badL l = -1) ∨ (validL l = false ∧ ∃ k : Nat, badL l = (k : Int)) := by
 unfold validL badL
 by_cases h : endI l.length 0 (ints l) = l.length
 ·exact .inl ⟨decide_eq_true h, if_pos h⟩
 ·exact .inr ⟨decide_eq_false h, _, if_neg h⟩
theorem bad_at {l : List Node} {q : Nat} (hq : q < l.length) (h : validL l[q].f1.data.toList = false ∨ validL l[q].f2.data.toList = false) : badTexts l = true := by
 unfold badTexts
 rw [List.any_eq_true]
 refine ⟨l[q], List.getElem_mem hq, ?_⟩
 rcases h with h | h <;> simp [h]
theorem bad_none {l : List Node} (h : ∀ q (hq : q < l.length), validL l[q].f1.data.toList = true ∧ validL l[q].f2.data.toList = true) : badTexts l = false := by
 unfold badTexts
 rw [List.any_eq_false]
 intro n hn
 obtain ⟨q, hq, rfl⟩ := List.getElem_of_mem hn
 obtain ⟨h1, h2⟩ := h q hq
 simp [h1, h2]
set_option maxRecDepth 100000 in
set_option maxHeartbeats 4000000 in
theorem check7_laid (A : Option Addr) (c : Nat) (l : List Node) (hl : l.length ≤ 400000) (hpos : 0 < l.length) (htx : ∀ n ∈ l, n.f1.size ≤ 800000 ∧ n.f2.size ≤ 800000) (hP : ParLo l) (hlaid : laidP isNumL (l.map toD) = true)
  (SPh : ∀ W, N7 W A l l.length → Calls Tryz.prog 30 #[.slice A l.length c, .int .i64 0, .int .i64 (-1), .bool false] W fun e w' => e = .returned (.int .i64 (l.length : Int)) ∧ Below W.heap.size W w') (W : World) (hN : N7 W A l l.length) :
  Calls Tryz.prog 17 #[.slice A l.length c] W fun e w' => e = .returned (.int .i64 (chkP l)) ∧ Below W.heap.size W w' := by
 have hchk : ∀ b, badTexts l = b → chkP l = if b = true then 9 else limitsV l (mxD (l.map toD) l.length) := fun b hb => by unfold chkP; rw [if_pos hlaid, hb]
 have H9 := Lib.hid (fun (q : Nat) (hq : q < l.length) (h : validL l[q].f1.data.toList = false ∨ validL l[q].f2.data.toList = false) => (hchk true (bad_at hq h)).trans (if_pos rfl))
 have H0 := Lib.hid (fun (h : ∀ q (hq : q < l.length), validL l[q].f1.data.toList = true ∧ validL l[q].f2.data.toList = true) => (hchk false (bad_none h)).trans (if_neg Bool.false_ne_true))
 have HN := Lib.hid hN
 have HTX := Lib.hid (fun (q : Nat) (hq : q < l.length) => htx l[q] (List.getElem_mem hq))
 have SP := Lib.hid SPh
 have DP := Lib.hid (fun W h => deep7_any A c l hl hP W h)
 have TW := Lib.hid (fun W h => twice7_any A c l hl hP W h)
 have TT := Lib.hid (two_tw l hP)
 have hd9 : mxD (l.map toD) l.length ≤ l.length := mxD_lei _ _
 obtain ⟨d, hd⟩ : ∃ d, mxD (l.map toD) l.length = d := ⟨_, rfl⟩
 rw [hd] at DP H0 hd9
 obtain ⟨z, hz⟩ : ∃ z, chkP l = z := ⟨_, rfl⟩
 rw [hz] at H9 H0 ⊢
 have k1 : ((l.length : Int) == 0) = false := by rw [beq_eq_false_iff_ne]; omega
 have k2 : (l.length == 0) = false := by rw [beq_eq_false_iff_ne]; omega
 have k3 : ¬ l.length = 0 := by omega
 clear hN htx SPh hP hlaid hchk hd hz
 go_enter Tryz.func17, Tryz.ntmps17
 go_wp2_with (go_at_call 30; go_must (refine (SP.out _ HN.out).mono ?_); rintro e w1 ⟨rfl, hb⟩; have B1 := Lib.hid hb; clear hb)
 go_loopw [4, 5, 6, 7, 8, 9, 10, 23] (fun _ _ _ _ _ _ _ vi wr => ∃ q : Nat, q ≤ l.length ∧ vi = .int .i64 (q : Int) ∧ (∀ j (hj : j < l.length), j < q → validL l[j].f1.data.toList = true ∧ validL l[j].f2.data.toList = true) ∧ Below W.heap.size W wr) (fun _ _ _ _ _ _ _ vi _ => l.length - (intOf vi).toNat)
 case atStart => exact ⟨0, Nat.zero_le _, rfl, (fun j _ h => by omega), B1.out⟩
 case round =>
  obtain ⟨q, hql, rfl, hv, hB⟩ := hrel
  have HV := Lib.hid hv
  have HB := Lib.hid hB
  have HNr := Lib.hid (HN.out.below hB)
  clear hv hB
  by_cases hq : q < l.length
  ·have k4 : decide ((q : Int) < (l.length : Int)) = true := decide_eq_true (by omega)
   have k5 : decide (q < l.length) = true := decide_eq_true hq
   obtain ⟨ad, e, d0, d1, d2, d3, d4⟩ := HNr.out q hq hq
   subst e
   obtain ⟨s1, s2⟩ := HTX.out q hq
   obtain ⟨⟨kk, key, text, par, en⟩, hx⟩ : ∃ x, l[q] = x := ⟨_, rfl⟩
   rw [hx] at d0 d1 d2 d3 d4 s1 s2
   dsimp only at d0 d1 d2 d3 d4 s1 s2
   have BA := Lib.hid (below_alloc (Below.refl wr.heap.size wr) (.cells #[.int .i64 kk, .string key, .string text, .int .i64 par, .int .i64 en] 47))
   have R0 := Lib.hid (fun W => runes4_any key s1 W)
   have R1 := Lib.hid (fun W => runes4_any text s2 W)
   have hkv : validL l[q].f1.data.toList = validL key.data.toList ∧ validL l[q].f2.data.toList = validL text.data.toList := by rw [hx]; exact ⟨rfl, rfl⟩
   have HX := Lib.hid hkv
   clear hx
   rcases bad_valid2 key.data.toList with ⟨g1, g2⟩ | ⟨g1, kb, g2⟩
   ·rw [g2] at R0
    rcases bad_valid2 text.data.toList with ⟨g3, g4⟩ | ⟨g3, kc, g4⟩
    ·rw [g4] at R1
     have HG := Lib.hid (And.intro g1 g3)
     clear g1 g2 g3 g4 hkv
     go_wp2_with (go_at_call 49; first | ((with_reducible refine (R0.out _).mono ?_); rintro e w2 ⟨va, vb, rfl, hb⟩; have c2 : w2.cell? ⟨wr.heap.size, 2, none⟩ = some (.string text) := cellBelow hb (blkc (blk_new _ _) 2 rfl); have X2 := Lib.hid hb; clear hb) | ((with_reducible refine (R1.out _).mono ?_); rintro e w3 ⟨vc, vd, rfl, hb⟩; have X3 := Lib.hid hb; clear hb))
     go_roundw
     case rel =>
      refine ⟨q + 1, by omega, by go_num, (fun j hj h => ?_), HB.out.trans ((below_step BA.out (below_step X2.out X3.out)).mono HB.out.size)⟩
      rcases Nat.lt_or_ge j q with h' | h'
      ·exact HV.out j hj h'
      ·obtain rfl : j = q := by omega
       rw [HX.out.1, HX.out.2]
       exact HG.out
     case measure => simp [intOf]; omega
    ·rw [g4] at R1
     have k6 : decide ((0 : Int) ≤ (kc : Int)) = true := decide_eq_true (by omega)
     have h9 := Lib.hid (H9.out q hq (.inr (by rw [hkv.2]; exact g3)))
     clear hkv g1 g2 g3 g4
     go_wp2_with (go_at_call 49; first | ((with_reducible refine (R0.out _).mono ?_); rintro e w2 ⟨va, vb, rfl, hb⟩; have c2 : w2.cell? ⟨wr.heap.size, 2, none⟩ = some (.string text) := cellBelow hb (blkc (blk_new _ _) 2 rfl); have X2 := Lib.hid hb; clear hb) | ((with_reducible refine (R1.out _).mono ?_); rintro e w3 ⟨vc, vd, rfl, hb⟩; have X3 := Lib.hid hb; clear hb))
     go_ret
     rw [h9.out]
     exact ⟨rfl, HB.out.trans ((below_step BA.out (below_step X2.out X3.out)).mono HB.out.size)⟩
   ·rw [g2] at R0
    obtain ⟨bb, hbb⟩ : ∃ b, badL text.data.toList = b := ⟨_, rfl⟩
    rw [hbb] at R1
    have k6 : decide ((0 : Int) ≤ (kb : Int)) = true := decide_eq_true (by omega)
    have h9 := Lib.hid (H9.out q hq (.inl (by rw [hkv.1]; exact g1)))
    clear hkv g1 g2 hbb
    go_wp2_with (go_at_call 49; first | ((with_reducible refine (R0.out _).mono ?_); rintro e w2 ⟨va, vb, rfl, hb⟩; have c2 : w2.cell? ⟨wr.heap.size, 2, none⟩ = some (.string text) := cellBelow hb (blkc (blk_new _ _) 2 rfl); have X2 := Lib.hid hb; clear hb) | ((with_reducible refine (R1.out _).mono ?_); rintro e w3 ⟨vc, vd, rfl, hb⟩; have X3 := Lib.hid hb; clear hb))
    go_ret
    rw [h9.out]
    exact ⟨rfl, HB.out.trans ((below_step BA.out (below_step X2.out X3.out)).mono HB.out.size)⟩
  ·have k4 : decide ((q : Int) < (l.length : Int)) = false := decide_eq_false (by omega)
   have k5 : decide (q < l.length) = false := decide_eq_false hq
   have hz := H0.out (fun j hj => HV.out j hj (by omega))
   have HZ := Lib.hid hz
   clear hz
   by_cases h8 : 8 < d
   ·have k6 : decide ((8 : Int) < (d : Int)) = true := decide_eq_true (by omega)
    have hz2 : z = 8 := by rw [HZ.out]; unfold limitsV; rw [if_pos (by omega)]
    subst hz2
    go_wp2_with (go_at_call 50; go_must (refine (DP.out _ HNr.out).mono ?_); rintro e w4 ⟨rfl, rfl⟩)
    go_ret
    exact ⟨rfl, HB.out⟩
   ·have k6 : decide ((8 : Int) < (d : Int)) = false := decide_eq_false (by omega)
    by_cases h9 : 256 < l.length
    ·have k7 : decide ((256 : Int) < (l.length : Int)) = true := decide_eq_true (by omega)
     have k8 : decide (256 < l.length) = true := decide_eq_true h9
     have hz2 : z = 6 := by rw [HZ.out]; unfold limitsV; rw [if_neg (by omega), if_pos h9]
     subst hz2
     go_wp2_with (go_at_call 50; go_must (refine (DP.out _ HNr.out).mono ?_); rintro e w4 ⟨rfl, rfl⟩)
     go_ret
     exact ⟨rfl, HB.out⟩
    ·have k7 : decide ((256 : Int) < (l.length : Int)) = false := decide_eq_false (by omega)
     have k8 : decide (256 < l.length) = false := decide_eq_false h9
     have hz2 : z = if twGo l [] l = true then 10 else 0 := by rw [HZ.out]; unfold limitsV; rw [if_neg (by omega), if_neg h9]
     have HZ2 := Lib.hid hz2
     clear hz2
     go_wp2_with (go_at_call 50; go_must (refine (DP.out _ HNr.out).mono ?_); rintro e w4 ⟨rfl, rfl⟩)
     go_wp2_with (go_at_call 51; go_must (refine (TW.out _ HNr.out).mono ?_); rintro e w5 ⟨b, rfl, hb, hiff⟩; have HI := Lib.hid hiff; have X5 := Lib.hid hb; clear hb hiff)
     ·rename_i hbt
      have hz3 : z = 10 := by rw [HZ2.out, if_pos (TT.out.mp (HI.out.mp hbt))]
      subst hz3
      go_ret
      exact ⟨rfl, HB.out.trans (X5.out.mono HB.out.size)⟩
     ·rename_i hbt
      have hz3 : z = 0 := by rw [HZ2.out, if_neg (fun ht => Bool.false_ne_true (hbt.symm.trans (HI.out.mpr (TT.out.mpr ht))))]
      subst hz3
      go_ret
      exact ⟨rfl, HB.out.trans (X5.out.mono HB.out.size)⟩
end Go.Proofs.YtfocognhcljhpaaGreatDoor
namespace Go.Proofs.YtfocognhcljhpaaGreatDoor
open Go.RowKit Go.Proofs.YtfocognhcljhpaaGreatDoorW.PrintWords Go.Proofs.YtfocognhcljhpaaGreatDoorW.PrintMore Go.Proofs.YtfocognhcljhpaaGreatDoor.PPrintRows Go.Proofs.YtfocognhcljhpaaGreatDoor.Tree
theorem cashierref07_run_l0 (s : ByteArray) (hs : s.size ≤ 1000000000000) (a : Nat) (ha : a ≤ s.size + 3) : ∀ (k j : Nat), s.size < a + j + k → 0 < k → j ≤ s.size → PRef.cashierref07_run.l0 k s (a : Int) (j : Int) = some ((j + runL (s.data.toList.drop (a + j)) : Nat) : Int)
 | 0, j, _, h, _ => by omega
 | k + 1, j, h, _, hj => by
  rw [PRef.cashierref07_run.l0, w64 _ (by omega) (by omega)]
  by_cases hlt : a + j < s.size
  ·obtain ⟨c, h1, h2, h3⟩ := bt_nat s (a + j) hlt
   have e : (a : Int) + (j : Int) = ((a + j : Nat) : Int) := by omega
   rw [e, h1, if_pos (by omega), if_pos (by omega), h3, runL_cons, w64 _ (by omega) (by omega)]
   by_cases g1 : 48 ≤ c.toNat
   ·rw [if_pos (by omega)]
    by_cases g2 : c.toNat ≤ 57
    ·rw [if_pos (by omega), if_pos ⟨by rw [UInt8.le_iff_toNat_le]; exact g1, by rw [UInt8.le_iff_toNat_le]; exact g2⟩]
     have := cashierref07_run_l0 s hs a ha k (j + 1) (by omega) (by omega) (by omega)
     rw [show (j : Int) + 1 = ((j + 1 : Nat) : Int) by omega, this, ← Nat.add_assoc]
     congr 2
     omega
    ·rw [if_neg (by omega), if_neg (by rw [UInt8.le_iff_toNat_le, UInt8.le_iff_toNat_le]; rintro ⟨_, h⟩; exact g2 h)]
     simp
   ·rw [if_neg (by omega), if_neg (by rw [UInt8.le_iff_toNat_le, UInt8.le_iff_toNat_le]; rintro ⟨h, _⟩; exact g1 h)]
    simp
  ·rw [if_neg (by omega), List.drop_of_length_le (by simp; omega)]
   simp [runL]
theorem cashierref07_run_f (s : ByteArray) (hs : s.size ≤ 1000000000000) (a : Nat) (ha : a ≤ s.size + 3) (k : Nat) (hk : s.size < k) : PRef.cashierref07_run.f k s (a : Int) = some ((runL (s.data.toList.drop a) : Nat) : Int) := by
 unfold PRef.cashierref07_run.f
 have := cashierref07_run_l0 s hs a ha k 0 (by omega) (by omega) (by omega)
 simpa using this
theorem rnum_e2 (s : ByteArray) (hs : s.size ≤ 1000000000000) (a : Nat) (ha : a ≤ s.size) (k : Nat) (hk : s.size + 4 < k) : PRef.cashierref07_Numeral.j4 k s (a : Int) = some ((expL s.data.toList a : Nat) : Int) := by
  obtain ⟨k, rfl⟩ : ∃ k', k = k' + 3 := ⟨k - 3, by omega⟩
  have hlen : s.data.toList.length = s.size := by simp
  have fin : ∀ at_ : Nat, at_ ≤ s.size + 2 → (PRef.cashierref07_run.f (k) s (at_ : Int)).bind (fun t => if t = 0 then (some 0 : Option Int) else some (wrap64 ((at_ : Int) + t))) = some (((if runL (s.data.toList.drop at_) = 0 then 0 else at_ + runL (s.data.toList.drop at_)) : Nat) : Int) := by
    intro at_ hat
    rw [cashierref07_run_f s hs at_ (by omega) k (by omega), Option.bind_some]
    have h1 := run_sz s.data.toList at_
    rw [hlen] at h1
    by_cases h0 : runL (s.data.toList.drop at_) = 0
    · rw [if_pos (by omega), if_pos h0]; rfl
    · rw [if_neg (by omega), if_neg h0, w64 _ (by omega) (by omega)]
      congr 1
  unfold expL
  by_cases hlt : a < s.size
  · have e101 := bt_is s a hlt 101 (by omega)
    have e69 := bt_is s a hlt 69 (by omega)
    have fk : ∀ b : Bool, b = decide (s.data.toList[a]? = some 101 ∨ s.data.toList[a]? = some 69) → PRef.cashierref07_Numeral.j5 (k + 2) s (a : Int) b = some ((((if s.data.toList[a]? = some 101 ∨ s.data.toList[a]? = some 69 then (if runL (s.data.toList.drop (expAt s.data.toList (a + 1))) = 0 then 0 else expAt s.data.toList (a + 1) + runL (s.data.toList.drop (expAt s.data.toList (a + 1)))) else a) : Nat)) : Int) := by
      rintro b rfl
      rw [PRef.cashierref07_Numeral.j5]
      by_cases he : s.data.toList[a]? = some 101 ∨ s.data.toList[a]? = some 69
      · rw [if_pos (decide_eq_true he), if_pos he, w64 _ (by omega) (by omega)]
        have e1 : (a : Int) + 1 = ((a + 1 : Nat) : Int) := by omega
        rw [e1]
        by_cases hl2 : a + 1 < s.size
        · rw [if_pos (by omega), if_pos (by omega)]
          have e43 := bt_is s (a + 1) hl2 43 (by omega)
          have e45 := bt_is s (a + 1) hl2 45 (by omega)
          have fj : ∀ b : Bool, b = decide (s.data.toList[a + 1]? = some 43 ∨ s.data.toList[a + 1]? = some 45) → PRef.cashierref07_Numeral.j6 (k + 1) s ((a + 1 : Nat) : Int) b = some ((((if runL (s.data.toList.drop (expAt s.data.toList (a + 1))) = 0 then 0 else expAt s.data.toList (a + 1) + runL (s.data.toList.drop (expAt s.data.toList (a + 1))))) : Nat) : Int) := by
            rintro b rfl
            rw [PRef.cashierref07_Numeral.j6]
            unfold expAt
            by_cases hs2 : s.data.toList[a + 1]? = some 43 ∨ s.data.toList[a + 1]? = some 45
            · rw [if_pos (decide_eq_true hs2), if_pos hs2, w64 _ (by omega) (by omega)]
              have e2 : ((a + 1 : Nat) : Int) + 1 = ((a + 1 + 1 : Nat) : Int) := by omega
              rw [e2]
              exact fin (a + 1 + 1) (by omega)
            · rw [if_neg (by rw [decide_eq_false hs2]; simp), if_neg hs2]
              exact fin (a + 1) (by omega)
          by_cases h43 : bt s ((a + 1 : Nat) : Int) = 43
          · rw [if_pos h43]
            have h43' : (bt s ((a + 1 : Nat) : Int) == ((43 : Nat) : Int)) = true := by rw [beq_iff_eq]; exact h43
            rw [e43, decide_eq_true_eq] at h43'
            exact fj true (decide_eq_true (.inl h43')).symm
          · rw [if_neg h43]
            refine fj _ ?_
            have h43' : ¬ s.data.toList[a + 1]? = some 43 := fun h => h43 (by have : (bt s ((a + 1 : Nat) : Int) == ((43 : Nat) : Int)) = true := by rw [e43]; exact decide_eq_true h
                                                                              exact beq_iff_eq.1 this)
            show (bt s ((a + 1 : Nat) : Int) == ((45 : Nat) : Int)) = _
            rw [e45, Bool.eq_iff_iff, decide_eq_true_eq, decide_eq_true_eq]
            exact ⟨fun h => .inr h, fun h => h.resolve_left h43'⟩
        · rw [if_neg (by omega), PRef.cashierref07_Numeral.j6, if_neg (by simp)]
          have hn := at_none s (a + 1) (by omega)
          have e0 : expAt s.data.toList (a + 1) = a + 1 := by unfold expAt; rw [hn, if_neg (by simp)]
          rw [e0]
          exact fin (a + 1) (by omega)
      · rw [if_neg (by rw [decide_eq_false he]; simp), if_neg he]
    rw [PRef.cashierref07_Numeral.j4, if_pos (by omega), if_pos (by omega)]
    by_cases h101 : bt s (a : Int) = 101
    · rw [if_pos h101]
      have h' : (bt s (a : Int) == ((101 : Nat) : Int)) = true := by rw [beq_iff_eq]; exact h101
      rw [e101, decide_eq_true_eq] at h'
      exact fk true (decide_eq_true (.inl h')).symm
    · rw [if_neg h101]
      refine fk _ ?_
      have h' : ¬ s.data.toList[a]? = some 101 := fun h => h101 (by have : (bt s (a : Int) == ((101 : Nat) : Int)) = true := by rw [e101]; exact decide_eq_true h
                                                                    exact beq_iff_eq.1 this)
      show (bt s (a : Int) == ((69 : Nat) : Int)) = _
      rw [e69, Bool.eq_iff_iff, decide_eq_true_eq, decide_eq_true_eq]
      exact ⟨fun h => .inr h, fun h => h.resolve_left h'⟩
  · rw [PRef.cashierref07_Numeral.j4, if_neg (by omega), PRef.cashierref07_Numeral.j5, if_neg (by simp)]
    have hn := at_none s a (by omega)
    rw [hn, if_neg (by simp)]
theorem rnum_e1 (s : ByteArray) (hs : s.size ≤ 1000000000000) (z : Nat) (hz : z ≤ 1) (hzs : z ≤ s.size) (k : Nat) (hk : s.size + 10 < k) : PRef.cashierref07_Numeral.j1 k s (z : Int) = some (((if runL (s.data.toList.drop z) = 0 ∨ (1 < runL (s.data.toList.drop z) ∧ s.data.toList[z]? = some 48) then 0
  else if fracL s.data.toList (z + runL (s.data.toList.drop z)) = 0 then 0 else expL s.data.toList (fracL s.data.toList (z + runL (s.data.toList.drop z)))) : Nat) : Int) := by
 obtain ⟨k, rfl⟩ : ∃ k', k = k' + 3 := ⟨k - 3, by omega⟩
 have hlen : s.data.toList.length = s.size := by simp
 rw [PRef.cashierref07_Numeral.j1, cashierref07_run_f s hs z (by omega) (k + 2) (by omega), Option.bind_some]
 obtain ⟨t, ht⟩ : ∃ t, runL (s.data.toList.drop z) = t := ⟨_, rfl⟩
 have htl : z + t ≤ s.size := by
  have := runL_le (s.data.toList.drop z)
  rw [List.length_drop, hlen] at this
  omega
 rw [ht]
 have step : PRef.cashierref07_Numeral.j2 (k + 2) s (z : Int) (t : Int) false = some (((if fracL s.data.toList (z + t) = 0 then 0 else expL s.data.toList (fracL s.data.toList (z + t))) : Nat) : Int) ∨ t = 0 := by
  by_cases ht0 : t = 0
  ·exact .inr ht0
  left
  rw [PRef.cashierref07_Numeral.j2, if_neg (by simp), w64 _ (by omega) (by omega)]
  have e : (z : Int) + (t : Int) = ((z + t : Nat) : Int) := by omega
  rw [e]
  have nz : ¬ (z + t = 0) := by omega
  by_cases hlt : z + t < s.size
  ·rw [if_pos (by omega), if_pos (by omega)]
   have e46 := bt_is s (z + t) hlt 46 (by omega)
   rw [PRef.cashierref07_Numeral.j3]
   by_cases h46 : s.data.toList[z + t]? = some 46
   ·rw [if_pos (by show (bt s ((z + t : Nat) : Int) == ((46 : Nat) : Int)) = true; rw [e46]; exact decide_eq_true h46), w64 _ (by omega) (by omega)]
    have e2 : ((z + t : Nat) : Int) + 1 = ((z + t + 1 : Nat) : Int) := by omega
    rw [e2, cashierref07_run_f s hs (z + t + 1) (by omega) k (by omega), Option.bind_some]
    obtain ⟨u, hu⟩ : ∃ u, runL (s.data.toList.drop (z + t + 1)) = u := ⟨_, rfl⟩
    have hul : z + t + 1 + u ≤ s.size := by
     have := runL_le (s.data.toList.drop (z + t + 1))
     rw [List.length_drop, hlen] at this
     omega
    rw [hu]
    have hf : fracL s.data.toList (z + t) = if u = 0 then 0 else z + t + 1 + u := by unfold fracL; rw [if_pos h46, hu]
    rw [hf]
    by_cases hu0 : u = 0
    ·rw [if_pos (by omega), if_pos hu0, if_pos rfl]; rfl
    ·rw [if_neg (by omega), if_neg hu0, if_neg (by omega)]
     rw [w64 _ (by omega) (by omega), show ((z + t + 1 : Nat) : Int) + (u : Int) = ((z + t + 1 + u : Nat) : Int) by omega]
     exact rnum_e2 s hs (z + t + 1 + u) hul k (by omega)
   ·rw [if_neg (by show ¬ (bt s ((z + t : Nat) : Int) == ((46 : Nat) : Int)) = true; rw [e46]; exact fun h => h46 (of_decide_eq_true h)), (show fracL s.data.toList (z + t) = z + t by unfold fracL; rw [if_neg h46]), if_neg nz]
    exact rnum_e2 s hs (z + t) htl k (by omega)
  ·rw [if_neg (by omega), PRef.cashierref07_Numeral.j3, if_neg (by simp), (show fracL s.data.toList (z + t) = z + t by unfold fracL; rw [at_none s (z + t) (by omega), if_neg (by simp)]), if_neg nz]
   exact rnum_e2 s hs (z + t) htl k (by omega)
 by_cases ht0 : t = 0
 ·subst ht0
  rw [if_pos (show ((0 : Nat) : Int) = 0 from rfl), if_pos (.inl rfl), PRef.cashierref07_Numeral.j2, if_pos rfl]
  rfl
 have step := step.resolve_right ht0
 rw [if_neg (by omega)]
 by_cases ht1 : 1 < t
 ·have hzl : z < s.size := by omega
  rw [if_pos (by omega), if_pos (by omega), if_pos (by omega)]
  have e48 := bt_is s z hzl 48 (by omega)
  have : (bt s (z : Int) == 48) = decide (s.data.toList[z]? = some 48) := e48
  rw [this]
  by_cases h48 : s.data.toList[z]? = some 48
  ·rw [decide_eq_true h48, if_pos (.inr ⟨ht1, h48⟩), PRef.cashierref07_Numeral.j2, if_pos rfl]
   rfl
  ·rw [decide_eq_false h48, if_neg (by rintro (h | h); exact ht0 h; exact h48 h.2)]
   exact step
 ·rw [if_neg (by omega), if_neg (by rintro (h | h); exact ht0 h; exact ht1 h.1)]
  exact step
theorem ref_num (s : ByteArray) (hs : s.size ≤ 1000000000000) (k : Nat) (hk : s.size + 12 < k) : PRef.cashierref07_Numeral.f k s = some ((numL s.data.toList : Nat) : Int) := by
 obtain ⟨k, rfl⟩ : ∃ k', k = k' + 1 := ⟨k - 1, by omega⟩
 unfold PRef.cashierref07_Numeral.f numL signL
 by_cases h0 : 0 < s.size
 ·rw [if_pos (by omega), if_pos (by omega), PRef.cashierref07_Numeral.j0]
  have : (bt s 0 == 45) = decide (s.data.toList[0]? = some 45) := bt_is s 0 h0 45 (by omega)
  rw [this]
  by_cases h : s.data.toList[0]? = some 45
  ·rw [if_pos (decide_eq_true h), if_pos h]
   exact rnum_e1 s hs 1 (Nat.le_refl _) h0 k (by omega)
  ·rw [if_neg (by rw [decide_eq_false h]; simp), if_neg h]
   exact rnum_e1 s hs 0 (by omega) (Nat.zero_le _) k (by omega)
 ·have hsg : (if s.data.toList[0]? = some 45 then 1 else 0) = 0 := by rw [at_none s 0 (by omega), if_neg (by simp)]
  rw [if_neg (by omega), PRef.cashierref07_Numeral.j0, if_neg (by simp), hsg]
  exact rnum_e1 s hs 0 (by omega) (Nat.zero_le _) k (by omega)
theorem num7_any (s : ByteArray) (hs : s.size ≤ 1000000000000) (w : World) : Calls Tryz.prog 69 #[.string s] w fun e w' => e = .returned (.int .i64 ((numL s.data.toList : Nat) : Int)) ∧ Drawn0 w w' := PRef.cashierref07_Numeral.calls (s.size + 13) s _ w (ref_num s hs (s.size + 13) (by omega))
end Go.Proofs.YtfocognhcljhpaaGreatDoor
namespace Go.Proofs.YtfocognhcljhpaaGreatDoor
open Go.RowKit Go.Shelf Go.Proofs.YtfocognhcljhpaaGreatDoorW.PrintWords Go.Proofs.YtfocognhcljhpaaGreatDoorW.PrintLast Go.Proofs.YtfocognhcljhpaaGreatDoorW.PrintMore Go.Proofs.YtfocognhcljhpaaGreatDoor.PPrintRows Go.Proofs.YtfocognhcljhpaaGreatDoor.Tree
set_option maxRecDepth 100000 in
set_option maxHeartbeats 4000000 in
theorem span7_leaf (A : Option Addr) (l : List Node) (k : Int) (key text : ByteArray) (nm : Bool) (i : Nat) (p : Int) (n cap : Nat) (hi : i < l.length) (hli : l[i] = ⟨k, key, text, p, ((i + 1 : Nat) : Int)⟩) (hin : i < n) (hn : n ≤ 400000) (hk : k = 1 ∨ k = 2 ∨ k = 3 ∨ k = 5) (hkey : nm = true ∨ key = ⟨#[]⟩) (htext : k = 5 ∨ text = ⟨#[]⟩) (W : World) (hN : N7 W A l n) :
  Calls Tryz.prog 30 #[.slice A n cap, .int .i64 (i : Int), .int .i64 p, .bool nm] W fun e w' => e = .returned (.int .i64 1) ∧ Below W.heap.size W w' := by
 obtain ⟨ad, rfl, d0, d1, d2, d3, d4⟩ := hN i hi hin
 rw [hli] at d0 d1 d2 d3 d4
 dsimp only at d0 d1 d2 d3 d4
 have k1 : decide (i < n) = true := decide_eq_true hin
 have k2 : decide ((i : Int) < (n : Int)) = true := decide_eq_true (by omega)
 have k3 : decide ((n : Int) ≤ (i : Int)) = false := decide_eq_false (by omega)
 have k4 : ¬ n ≤ i := by omega
 have k5 : decide (n ≤ i) = false := decide_eq_false (by omega)
 have HB := Lib.hid (below_alloc (Below.refl W.heap.size W) (.cells #[.int .i64 k, .string key, .string text, .int .i64 p, .int .i64 ((i + 1 : Nat) : Int)] 47))
 clear hN hli
 cases nm with
 | false =>
  have hke : key = ⟨#[]⟩ := by rcases hkey with h | h <;> first | exact h | cases h
  subst hke
  rcases hk with rfl | rfl | rfl | rfl
  case inr.inr.inr =>
   go_enter Tryz.func30, Tryz.ntmps30
   go_wp2_with fail
   go_quiet (fail)
   go_wp2_with fail
   go_ret
   exact ⟨rfl, below_step HB.out ⟨rfl, rfl, rfl, Nat.le_refl _, fun _ _ => rfl⟩⟩
  all_goals
   have hte : text = ⟨#[]⟩ := by rcases htext with h | h <;> first | exact h | cases h
   subst hte
   go_enter Tryz.func30, Tryz.ntmps30
   go_wp2_with fail
   go_quiet (fail)
   go_wp2_with fail
   go_ret
   exact ⟨rfl, below_step HB.out ⟨rfl, rfl, rfl, Nat.le_refl _, fun _ _ => rfl⟩⟩
 | true =>
  rcases hk with rfl | rfl | rfl | rfl
  case inr.inr.inr =>
   go_enter Tryz.func30, Tryz.ntmps30
   go_wp2_with fail
   go_quiet (fail)
   go_wp2_with fail
   go_ret
   exact ⟨rfl, below_step HB.out ⟨rfl, rfl, rfl, Nat.le_refl _, fun _ _ => rfl⟩⟩
  all_goals
   have hte : text = ⟨#[]⟩ := by rcases htext with h | h <;> first | exact h | cases h
   subst hte
   go_enter Tryz.func30, Tryz.ntmps30
   go_wp2_with fail
   go_quiet (fail)
   go_wp2_with fail
   go_ret
   exact ⟨rfl, below_step HB.out ⟨rfl, rfl, rfl, Nat.le_refl _, fun _ _ => rfl⟩⟩
attribute [local go_sem] Oper.semAt_some
set_option maxRecDepth 100000 in
set_option maxHeartbeats 4000000 in
theorem span7_num (A : Option Addr) (l : List Node) (key text : ByteArray) (nm : Bool) (i : Nat) (p : Int) (n cap : Nat) (hi : i < l.length) (hli : l[i] = ⟨4, key, text, p, ((i + 1 : Nat) : Int)⟩) (hin : i < n) (hn : n ≤ 400000) (hkey : nm = true ∨ key = ⟨#[]⟩) (htext : isNumL text = true) (hts : text.size ≤ 100000) (W : World) (hN : N7 W A l n) :
  Calls Tryz.prog 30 #[.slice A n cap, .int .i64 (i : Int), .int .i64 p, .bool nm] W fun e w' => e = .returned (.int .i64 1) ∧ Below W.heap.size W w' := by
 obtain ⟨ad, rfl, d0, d1, d2, d3, d4⟩ := hN i hi hin
 rw [hli] at d0 d1 d2 d3 d4
 dsimp only at d0 d1 d2 d3 d4
 have hnum : 0 < text.size ∧ numL text.data.toList = text.size := by
  unfold isNumL at htext
  rw [Bool.and_eq_true] at htext
  exact ⟨of_decide_eq_true htext.1, by simpa using htext.2⟩
 have k1 : decide (i < n) = true := decide_eq_true hin
 have k2 : decide ((i : Int) < (n : Int)) = true := decide_eq_true (by omega)
 have k3 : decide ((n : Int) ≤ (i : Int)) = false := decide_eq_false (by omega)
 have k4 : ¬ n ≤ i := by omega
 have k5 : decide (n ≤ i) = false := decide_eq_false (by omega)
 have NUM := Lib.hid (num7_any text (by omega))
 rw [hnum.2] at NUM
 obtain ⟨W1, hW1⟩ : ∃ W1, W.alloc (.cells #[.int .i64 4, .string key, .string text, .int .i64 p, .int .i64 ((i : Int) + 1)] 47) = W1 := ⟨_, rfl⟩
 have hb1 : Below W.heap.size W W1 := by rw [← hW1]; exact below_alloc (Below.refl _ _) _
 have hx1 : W1.heap[W.heap.size]? = some (.cells #[.int .i64 4, .string key, .string text, .int .i64 p, .int .i64 ((i : Int) + 1)] 47 (0, 0)) := by rw [← hW1]; exact blk_new _ _
 have hne : (text.size == 0) = false := by rw [beq_eq_false_iff_ne]; omega
 have hne2 : ((text.size : Int) == 0) = false := by rw [beq_eq_false_iff_ne]; omega
 have hne3 : ¬ text.size = 0 := by omega
 have HB := Lib.hid hb1
 have HX := Lib.hid hx1
 have HW1 := Lib.hid hW1
 have hgood : ∀ w, Below W1.heap.size W1 w → w.cell? ⟨W.heap.size, 0, none⟩ = some (.int .i64 4) ∧ w.cell? ⟨W.heap.size, 2, none⟩ = some (.string text) ∧ w.cell? ⟨W.heap.size, 4, none⟩ = some (.int .i64 ((i : Int) + 1)) := fun w h => by
  have hx := (h.block _ (blk_lt hx1)).trans hx1
  exact ⟨blkc hx 0 rfl, blkc hx 2 rfl, blkc hx 4 rfl⟩
 have GOOD := Lib.hid hgood
 have hmo : Tryz.prog.follows .mixedOrders = true := by kernel_rfl
 clear hN hli hnum hb1 hx1 hW1 hgood
 refine (callsIn_wide (n := 5)).1 ?_
 refine callsIn_of_wp Tryz.func30 rfl trivial ?_ rfl
 simp only [Tryz.ntmps30, List.size_toArray, List.length_cons, List.length_nil, Nat.reduceAdd, Nat.reduceSub, Array.replicate_succ, Array.replicate_zero, List.push_toArray, List.append_toArray, List.nil_append, List.cons_append]
 cases nm with
 | false =>
  have hke : key = ⟨#[]⟩ := by rcases hkey with h | h <;> first | exact h | cases h
  subst hke
  gi_wp2
  rw [HW1.out]
  refine region_g (fun w => w.cell? ⟨W.heap.size, 0, none⟩ = some (.int .i64 4) ∧ w.cell? ⟨W.heap.size, 2, none⟩ = some (.string text) ∧ w.cell? ⟨W.heap.size, 4, none⟩ = some (.int .i64 ((i : Int) + 1))) (fun _ => true) hmo ?_
  have hg0 := GOOD.out W1.drew ⟨rfl, rfl, rfl, Nat.le_refl _, fun _ _ => rfl⟩
  refine takeQ 0 (.pointer (some ⟨W.heap.size, 0, none⟩)) hg0 rfl (by kernel_rfl) ⟨fun _ => by first | rfl | (go_simp; done), .inl ⟨by kernel_rfl, fun w' hw' => by obtain ⟨z0, z1, z2⟩ := hw'; go_simp⟩⟩ ?_
  simp only [Act.put, List.setIfInBounds_toArray, List.set_cons_succ, List.set_cons_zero]
  refine takeQ 1 (.int .i64 4) hg0 rfl (by kernel_rfl) ⟨fun _ => by first | rfl | (go_simp; done), .inl ⟨by kernel_rfl, fun w' hw' => by obtain ⟨z0, z1, z2⟩ := hw'; go_simp⟩⟩ ?_
  simp only [Act.put, List.setIfInBounds_toArray, List.set_cons_succ, List.set_cons_zero]
  refine takeQ 2 (.bool true) hg0 rfl (by kernel_rfl) ⟨fun _ => by first | rfl | (go_simp; done), .inl ⟨by kernel_rfl, fun w' hw' => by obtain ⟨z0, z1, z2⟩ := hw'; go_simp⟩⟩ ?_
  simp only [Act.put, List.setIfInBounds_toArray, List.set_cons_succ, List.set_cons_zero]
  refine takeQ 3 (.bool true) hg0 rfl (by kernel_rfl) ⟨fun _ => by first | rfl | (go_simp; done), .inl ⟨by kernel_rfl, fun w' hw' => by obtain ⟨z0, z1, z2⟩ := hw'; go_simp⟩⟩ ?_
  simp only [Act.put, List.setIfInBounds_toArray, List.set_cons_succ, List.set_cons_zero]
  refine takeQ 4 (.pointer (some ⟨W.heap.size, 2, none⟩)) hg0 rfl (by kernel_rfl) ⟨fun _ => by first | rfl | (go_simp; done), .inl ⟨by kernel_rfl, fun w' hw' => by obtain ⟨z0, z1, z2⟩ := hw'; go_simp⟩⟩ ?_
  simp only [Act.put, List.setIfInBounds_toArray, List.set_cons_succ, List.set_cons_zero]
  refine takeQ 5 (.string text) hg0 rfl (by kernel_rfl) ⟨fun _ => by first | rfl | (go_simp; done), .inl ⟨by kernel_rfl, fun w' hw' => by obtain ⟨z0, z1, z2⟩ := hw'; go_simp⟩⟩ ?_
  simp only [Act.put, List.setIfInBounds_toArray, List.set_cons_succ, List.set_cons_zero]
  refine takeQ 6 (.int .i64 (text.size : Int)) hg0 rfl (by kernel_rfl) ⟨fun _ => by first | rfl | (go_simp; done), .inl ⟨by kernel_rfl, fun w' hw' => by obtain ⟨z0, z1, z2⟩ := hw'; go_simp⟩⟩ ?_
  simp only [Act.put, List.setIfInBounds_toArray, List.set_cons_succ, List.set_cons_zero]
  refine takeQ 7 (.bool false) hg0 rfl (by kernel_rfl) ⟨fun _ => by first | rfl | (go_simp; done), .inl ⟨by kernel_rfl, fun w' hw' => by obtain ⟨z0, z1, z2⟩ := hw'; go_simp⟩⟩ ?_
  simp only [Act.put, List.setIfInBounds_toArray, List.set_cons_succ, List.set_cons_zero]
  refine takeQ 8 (.bool false) hg0 rfl (by kernel_rfl) ⟨fun _ => by first | rfl | (go_simp; done), .inl ⟨by kernel_rfl, fun w' hw' => by obtain ⟨z0, z1, z2⟩ := hw'; go_simp⟩⟩ ?_
  simp only [Act.put, List.setIfInBounds_toArray, List.set_cons_succ, List.set_cons_zero]
  refine takeQ 9 (.pointer (some ⟨W.heap.size, 2, none⟩)) hg0 rfl (by kernel_rfl) ⟨fun _ => by first | rfl | (go_simp; done), .inl ⟨by kernel_rfl, fun w' hw' => by obtain ⟨z0, z1, z2⟩ := hw'; go_simp⟩⟩ ?_
  simp only [Act.put, List.setIfInBounds_toArray, List.set_cons_succ, List.set_cons_zero]
  refine takeQ 12 (.pointer (some ⟨W.heap.size, 2, none⟩)) hg0 rfl (by kernel_rfl) ⟨fun _ => by first | rfl | (go_simp; done), .inl ⟨by kernel_rfl, fun w' hw' => by obtain ⟨z0, z1, z2⟩ := hw'; go_simp⟩⟩ ?_
  simp only [Act.put, List.setIfInBounds_toArray, List.set_cons_succ, List.set_cons_zero]
  refine takeQ 10 (.string text) hg0 rfl (by kernel_rfl) ⟨fun _ => by first | rfl | (go_simp; done), .inl ⟨by kernel_rfl, fun w' hw' => by obtain ⟨z0, z1, z2⟩ := hw'; go_simp⟩⟩ ?_
  simp only [Act.put, List.setIfInBounds_toArray, List.set_cons_succ, List.set_cons_zero]
  refine takeQ 13 (.string text) hg0 rfl (by kernel_rfl) ⟨fun _ => by first | rfl | (go_simp; done), .inl ⟨by kernel_rfl, fun w' hw' => by obtain ⟨z0, z1, z2⟩ := hw'; go_simp⟩⟩ ?_
  simp only [Act.put, List.setIfInBounds_toArray, List.set_cons_succ, List.set_cons_zero]
  refine takeQ 14 (.int .i64 (text.size : Int)) hg0 rfl (by kernel_rfl) ⟨fun _ => by first | rfl | (go_simp; done), .inl ⟨by kernel_rfl, fun w' hw' => by obtain ⟨z0, z1, z2⟩ := hw'; go_simp⟩⟩ ?_
  simp only [Act.put, List.setIfInBounds_toArray, List.set_cons_succ, List.set_cons_zero]
  refine takeW 11 rfl (by kernel_rfl) (by kernel_rfl) rfl ?_
  gi_wp2_with (refine ⟨trivial, ?_⟩; gi_at_call 69; go_must (refine ((callsIn_wide (n := 4)).2 (NUM.out _)).mono ?_); rintro e' w2 ⟨rfl, hd2⟩)
  have hd3 : Below W1.heap.size W1 w2 := ⟨hd2.below.os, hd2.below.tape, hd2.below.output, hd2.below.size, hd2.below.block⟩
  have hg1 := GOOD.out w2 hd3
  have HD3 := Lib.hid hd3
  clear hd2 hd3 hg0
  refine ⟨fun _ => hg1, ?_⟩
  refine takeQ 15 (.bool false) hg1 rfl (by kernel_rfl) ⟨fun _ => by first | rfl | (go_simp; done), .inl ⟨by kernel_rfl, fun w' hw' => by obtain ⟨z0, z1, z2⟩ := hw'; go_simp⟩⟩ ?_
  simp only [Act.put, List.setIfInBounds_toArray, List.set_cons_succ, List.set_cons_zero]
  refine takeQ 16 (.bool false) hg1 rfl (by kernel_rfl) ⟨fun _ => by first | rfl | (go_simp; done), .inl ⟨by kernel_rfl, fun w' hw' => by obtain ⟨z0, z1, z2⟩ := hw'; go_simp⟩⟩ ?_
  simp only [Act.put, List.setIfInBounds_toArray, List.set_cons_succ, List.set_cons_zero]
  refine takeQ 17 (.bool false) hg1 rfl (by kernel_rfl) ⟨fun _ => by first | rfl | (go_simp; done), .inl ⟨by kernel_rfl, fun w' hw' => by obtain ⟨z0, z1, z2⟩ := hw'; go_simp⟩⟩ ?_
  simp only [Act.put, List.setIfInBounds_toArray, List.set_cons_succ, List.set_cons_zero]
  refine doneG (by kernel_rfl) ?_
  obtain ⟨z0, z1, z2⟩ := hg1
  gi_wp2
  refine bodyPost_ret (results_tmp rfl _ _ _) rfl ?_
  exact ⟨rfl, below_step HB.out HD3.out⟩
 | true =>
  gi_wp2
  rw [HW1.out]
  refine region_g (fun w => w.cell? ⟨W.heap.size, 0, none⟩ = some (.int .i64 4) ∧ w.cell? ⟨W.heap.size, 2, none⟩ = some (.string text) ∧ w.cell? ⟨W.heap.size, 4, none⟩ = some (.int .i64 ((i : Int) + 1))) (fun _ => true) hmo ?_
  have hg0 := GOOD.out W1.drew ⟨rfl, rfl, rfl, Nat.le_refl _, fun _ _ => rfl⟩
  refine takeQ 0 (.pointer (some ⟨W.heap.size, 0, none⟩)) hg0 rfl (by kernel_rfl) ⟨fun _ => by first | rfl | (go_simp; done), .inl ⟨by kernel_rfl, fun w' hw' => by obtain ⟨z0, z1, z2⟩ := hw'; go_simp⟩⟩ ?_
  simp only [Act.put, List.setIfInBounds_toArray, List.set_cons_succ, List.set_cons_zero]
  refine takeQ 1 (.int .i64 4) hg0 rfl (by kernel_rfl) ⟨fun _ => by first | rfl | (go_simp; done), .inl ⟨by kernel_rfl, fun w' hw' => by obtain ⟨z0, z1, z2⟩ := hw'; go_simp⟩⟩ ?_
  simp only [Act.put, List.setIfInBounds_toArray, List.set_cons_succ, List.set_cons_zero]
  refine takeQ 2 (.bool true) hg0 rfl (by kernel_rfl) ⟨fun _ => by first | rfl | (go_simp; done), .inl ⟨by kernel_rfl, fun w' hw' => by obtain ⟨z0, z1, z2⟩ := hw'; go_simp⟩⟩ ?_
  simp only [Act.put, List.setIfInBounds_toArray, List.set_cons_succ, List.set_cons_zero]
  refine takeQ 3 (.bool true) hg0 rfl (by kernel_rfl) ⟨fun _ => by first | rfl | (go_simp; done), .inl ⟨by kernel_rfl, fun w' hw' => by obtain ⟨z0, z1, z2⟩ := hw'; go_simp⟩⟩ ?_
  simp only [Act.put, List.setIfInBounds_toArray, List.set_cons_succ, List.set_cons_zero]
  refine takeQ 4 (.pointer (some ⟨W.heap.size, 2, none⟩)) hg0 rfl (by kernel_rfl) ⟨fun _ => by first | rfl | (go_simp; done), .inl ⟨by kernel_rfl, fun w' hw' => by obtain ⟨z0, z1, z2⟩ := hw'; go_simp⟩⟩ ?_
  simp only [Act.put, List.setIfInBounds_toArray, List.set_cons_succ, List.set_cons_zero]
  refine takeQ 5 (.string text) hg0 rfl (by kernel_rfl) ⟨fun _ => by first | rfl | (go_simp; done), .inl ⟨by kernel_rfl, fun w' hw' => by obtain ⟨z0, z1, z2⟩ := hw'; go_simp⟩⟩ ?_
  simp only [Act.put, List.setIfInBounds_toArray, List.set_cons_succ, List.set_cons_zero]
  refine takeQ 6 (.int .i64 (text.size : Int)) hg0 rfl (by kernel_rfl) ⟨fun _ => by first | rfl | (go_simp; done), .inl ⟨by kernel_rfl, fun w' hw' => by obtain ⟨z0, z1, z2⟩ := hw'; go_simp⟩⟩ ?_
  simp only [Act.put, List.setIfInBounds_toArray, List.set_cons_succ, List.set_cons_zero]
  refine takeQ 7 (.bool false) hg0 rfl (by kernel_rfl) ⟨fun _ => by first | rfl | (go_simp; done), .inl ⟨by kernel_rfl, fun w' hw' => by obtain ⟨z0, z1, z2⟩ := hw'; go_simp⟩⟩ ?_
  simp only [Act.put, List.setIfInBounds_toArray, List.set_cons_succ, List.set_cons_zero]
  refine takeQ 8 (.bool false) hg0 rfl (by kernel_rfl) ⟨fun _ => by first | rfl | (go_simp; done), .inl ⟨by kernel_rfl, fun w' hw' => by obtain ⟨z0, z1, z2⟩ := hw'; go_simp⟩⟩ ?_
  simp only [Act.put, List.setIfInBounds_toArray, List.set_cons_succ, List.set_cons_zero]
  refine takeQ 9 (.pointer (some ⟨W.heap.size, 2, none⟩)) hg0 rfl (by kernel_rfl) ⟨fun _ => by first | rfl | (go_simp; done), .inl ⟨by kernel_rfl, fun w' hw' => by obtain ⟨z0, z1, z2⟩ := hw'; go_simp⟩⟩ ?_
  simp only [Act.put, List.setIfInBounds_toArray, List.set_cons_succ, List.set_cons_zero]
  refine takeQ 12 (.pointer (some ⟨W.heap.size, 2, none⟩)) hg0 rfl (by kernel_rfl) ⟨fun _ => by first | rfl | (go_simp; done), .inl ⟨by kernel_rfl, fun w' hw' => by obtain ⟨z0, z1, z2⟩ := hw'; go_simp⟩⟩ ?_
  simp only [Act.put, List.setIfInBounds_toArray, List.set_cons_succ, List.set_cons_zero]
  refine takeQ 10 (.string text) hg0 rfl (by kernel_rfl) ⟨fun _ => by first | rfl | (go_simp; done), .inl ⟨by kernel_rfl, fun w' hw' => by obtain ⟨z0, z1, z2⟩ := hw'; go_simp⟩⟩ ?_
  simp only [Act.put, List.setIfInBounds_toArray, List.set_cons_succ, List.set_cons_zero]
  refine takeQ 13 (.string text) hg0 rfl (by kernel_rfl) ⟨fun _ => by first | rfl | (go_simp; done), .inl ⟨by kernel_rfl, fun w' hw' => by obtain ⟨z0, z1, z2⟩ := hw'; go_simp⟩⟩ ?_
  simp only [Act.put, List.setIfInBounds_toArray, List.set_cons_succ, List.set_cons_zero]
  refine takeQ 14 (.int .i64 (text.size : Int)) hg0 rfl (by kernel_rfl) ⟨fun _ => by first | rfl | (go_simp; done), .inl ⟨by kernel_rfl, fun w' hw' => by obtain ⟨z0, z1, z2⟩ := hw'; go_simp⟩⟩ ?_
  simp only [Act.put, List.setIfInBounds_toArray, List.set_cons_succ, List.set_cons_zero]
  refine takeW 11 rfl (by kernel_rfl) (by kernel_rfl) rfl ?_
  gi_wp2_with (refine ⟨trivial, ?_⟩; gi_at_call 69; go_must (refine ((callsIn_wide (n := 4)).2 (NUM.out _)).mono ?_); rintro e' w2 ⟨rfl, hd2⟩)
  have hd3 : Below W1.heap.size W1 w2 := ⟨hd2.below.os, hd2.below.tape, hd2.below.output, hd2.below.size, hd2.below.block⟩
  have hg1 := GOOD.out w2 hd3
  have HD3 := Lib.hid hd3
  clear hd2 hd3 hg0
  refine ⟨fun _ => hg1, ?_⟩
  refine takeQ 15 (.bool false) hg1 rfl (by kernel_rfl) ⟨fun _ => by first | rfl | (go_simp; done), .inl ⟨by kernel_rfl, fun w' hw' => by obtain ⟨z0, z1, z2⟩ := hw'; go_simp⟩⟩ ?_
  simp only [Act.put, List.setIfInBounds_toArray, List.set_cons_succ, List.set_cons_zero]
  refine takeQ 16 (.bool false) hg1 rfl (by kernel_rfl) ⟨fun _ => by first | rfl | (go_simp; done), .inl ⟨by kernel_rfl, fun w' hw' => by obtain ⟨z0, z1, z2⟩ := hw'; go_simp⟩⟩ ?_
  simp only [Act.put, List.setIfInBounds_toArray, List.set_cons_succ, List.set_cons_zero]
  refine takeQ 17 (.bool false) hg1 rfl (by kernel_rfl) ⟨fun _ => by first | rfl | (go_simp; done), .inl ⟨by kernel_rfl, fun w' hw' => by obtain ⟨z0, z1, z2⟩ := hw'; go_simp⟩⟩ ?_
  simp only [Act.put, List.setIfInBounds_toArray, List.set_cons_succ, List.set_cons_zero]
  refine doneG (by kernel_rfl) ?_
  obtain ⟨z0, z1, z2⟩ := hg1
  gi_wp2
  refine bodyPost_ret (results_tmp rfl _ _ _) rfl ?_
  exact ⟨rfl, below_step HB.out HD3.out⟩
end Go.Proofs.YtfocognhcljhpaaGreatDoor
