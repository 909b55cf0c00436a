/- Texts taken together, trimmed. -/
import Derived.Test.YtfocognhcljhpaaGreatDoorR10
import Derived.MapKept
set_option linter.unusedVariables false
set_option linter.unusedSimpArgs false
namespace Go.Proofs.YtfocognhcljhpaaGreatDoor
open Go.RowKit Go.Shelf Go.Proofs.YtfocognhcljhpaaGreatDoorW.PrintWords Go.Proofs.YtfocognhcljhpaaGreatDoorW.PrintLast Go.Proofs.YtfocognhcljhpaaGreatDoorW.PrintMore Go.Proofs.YtfocognhcljhpaaGreatDoor.PPrintRows Go.Proofs.YtfocognhcljhpaaGreatDoor.Tree
attribute [local go_sem] Oper.semAt_some
theorem ba_ne_empty {x : ByteArray} (h : x ≠ ⟨#[]⟩) : x.toList.isEmpty = false := by
 cases hx : x.toList with
 | nil =>
  refine absurd ((Go.MapKept.bytes_beq x ⟨#[]⟩).1 ?_) h
  rw [beq_toListBytes, hx]
  kernel_rfl
 | cons a b => rfl
set_option maxRecDepth 100000 in
set_option maxHeartbeats 4000000 in
theorem span_k0 (A : Option Addr) (l : List Node) (k : Int) (key text : ByteArray) (pr en : Int) (nm : Bool) (i : Nat) (p : Int) (n cap : Nat) (hi : i < l.length) (hli : l[i] = ⟨k, key, text, pr, en⟩) (hin : i < n) (hn : n ≤ 400000) (hk : k < 1) (W : World) (hN : N7 W A l n) :
  Calls Tryz.prog 30 #[.slice A n cap, .int .i64 (i : Int), .int .i64 p, .bool nm] W fun e w' => e = .returned (.int .i64 0) ∧ Below W.heap.size W w' := by
 obtain ⟨ad, rfl, d0, d1, d2, d3, d4⟩ := hN i hi hin
 rw [hli] at d0 d1 d2 d3 d4
 dsimp only at d0 d1 d2 d3 d4
 have k1 : decide (i < n) = true := decide_eq_true hin
 have k2 : decide ((i : Int) < (n : Int)) = true := decide_eq_true (by omega)
 have k3 : decide ((n : Int) ≤ (i : Int)) = false := decide_eq_false (by omega)
 have k4 : ¬ n ≤ i := by omega
 have k5 : decide (n ≤ i) = false := decide_eq_false (by omega)
 have HB := Lib.hid (below_alloc (Below.refl W.heap.size W) (.cells #[.int .i64 k, .string key, .string text, .int .i64 pr, .int .i64 en] 47))
 have e1 : decide (k < 1) = true := decide_eq_true hk
 clear hN hli
 cases nm with
 | false =>
  go_enter Tryz.func30, Tryz.ntmps30
  go_wp2_with fail
  go_ret
  exact ⟨rfl, HB.out⟩
 | true =>
  go_enter Tryz.func30, Tryz.ntmps30
  go_wp2_with fail
  go_ret
  exact ⟨rfl, HB.out⟩
set_option maxRecDepth 100000 in
set_option maxHeartbeats 4000000 in
theorem span_k8 (A : Option Addr) (l : List Node) (k : Int) (key text : ByteArray) (pr en : Int) (nm : Bool) (i : Nat) (p : Int) (n cap : Nat) (hi : i < l.length) (hli : l[i] = ⟨k, key, text, pr, en⟩) (hin : i < n) (hn : n ≤ 400000) (hk : 7 < k) (W : World) (hN : N7 W A l n) :
  Calls Tryz.prog 30 #[.slice A n cap, .int .i64 (i : Int), .int .i64 p, .bool nm] W fun e w' => e = .returned (.int .i64 0) ∧ Below W.heap.size W w' := by
 obtain ⟨ad, rfl, d0, d1, d2, d3, d4⟩ := hN i hi hin
 rw [hli] at d0 d1 d2 d3 d4
 dsimp only at d0 d1 d2 d3 d4
 have k1 : decide (i < n) = true := decide_eq_true hin
 have k2 : decide ((i : Int) < (n : Int)) = true := decide_eq_true (by omega)
 have k3 : decide ((n : Int) ≤ (i : Int)) = false := decide_eq_false (by omega)
 have k4 : ¬ n ≤ i := by omega
 have k5 : decide (n ≤ i) = false := decide_eq_false (by omega)
 have HB := Lib.hid (below_alloc (Below.refl W.heap.size W) (.cells #[.int .i64 k, .string key, .string text, .int .i64 pr, .int .i64 en] 47))
 have e1 : decide (k < 1) = false := decide_eq_false (by omega)
 have e2 : decide (7 < k) = true := decide_eq_true hk
 clear hN hli
 cases nm with
 | false =>
  go_enter Tryz.func30, Tryz.ntmps30
  go_wp2_with fail
  go_ret
  exact ⟨rfl, HB.out⟩
 | true =>
  go_enter Tryz.func30, Tryz.ntmps30
  go_wp2_with fail
  go_ret
  exact ⟨rfl, HB.out⟩
set_option maxRecDepth 100000 in
set_option maxHeartbeats 4000000 in
theorem span_par (A : Option Addr) (l : List Node) (k : Int) (key text : ByteArray) (pr en : Int) (nm : Bool) (i : Nat) (p : Int) (n cap : Nat) (hi : i < l.length) (hli : l[i] = ⟨k, key, text, pr, en⟩) (hin : i < n) (hn : n ≤ 400000) (hk : 1 ≤ k ∧ k ≤ 7) (hp : pr ≠ p) (W : World) (hN : N7 W A l n) :
  Calls Tryz.prog 30 #[.slice A n cap, .int .i64 (i : Int), .int .i64 p, .bool nm] W fun e w' => e = .returned (.int .i64 0) ∧ Below W.heap.size W w' := by
 obtain ⟨ad, rfl, d0, d1, d2, d3, d4⟩ := hN i hi hin
 rw [hli] at d0 d1 d2 d3 d4
 dsimp only at d0 d1 d2 d3 d4
 have k1 : decide (i < n) = true := decide_eq_true hin
 have k2 : decide ((i : Int) < (n : Int)) = true := decide_eq_true (by omega)
 have k3 : decide ((n : Int) ≤ (i : Int)) = false := decide_eq_false (by omega)
 have k4 : ¬ n ≤ i := by omega
 have k5 : decide (n ≤ i) = false := decide_eq_false (by omega)
 have HB := Lib.hid (below_alloc (Below.refl W.heap.size W) (.cells #[.int .i64 k, .string key, .string text, .int .i64 pr, .int .i64 en] 47))
 have e1 : decide (k < 1) = false := decide_eq_false (by omega)
 have e2 : decide (7 < k) = false := decide_eq_false (by omega)
 have e3 : (pr != p) = true := bne_iff_ne.2 hp
 clear hN hli
 cases nm with
 | false =>
  go_enter Tryz.func30, Tryz.ntmps30
  go_wp2_with fail
  go_ret
  exact ⟨rfl, HB.out⟩
 | true =>
  go_enter Tryz.func30, Tryz.ntmps30
  go_wp2_with fail
  go_ret
  exact ⟨rfl, HB.out⟩
set_option maxRecDepth 100000 in
set_option maxHeartbeats 4000000 in
theorem span_key (A : Option Addr) (l : List Node) (k : Int) (key text : ByteArray) (pr en : Int) (nm : Bool) (i : Nat) (p : Int) (n cap : Nat) (hi : i < l.length) (hli : l[i] = ⟨k, key, text, pr, en⟩) (hin : i < n) (hn : n ≤ 400000) (hk : 1 ≤ k ∧ k ≤ 7) (hp : pr = p) (hnm : nm = false) (hkey : key ≠ ⟨#[]⟩) (W : World) (hN : N7 W A l n) :
  Calls Tryz.prog 30 #[.slice A n cap, .int .i64 (i : Int), .int .i64 p, .bool nm] W fun e w' => e = .returned (.int .i64 0) ∧ Below W.heap.size W w' := by
 obtain ⟨ad, rfl, d0, d1, d2, d3, d4⟩ := hN i hi hin
 rw [hli] at d0 d1 d2 d3 d4
 dsimp only at d0 d1 d2 d3 d4
 have k1 : decide (i < n) = true := decide_eq_true hin
 have k2 : decide ((i : Int) < (n : Int)) = true := decide_eq_true (by omega)
 have k3 : decide ((n : Int) ≤ (i : Int)) = false := decide_eq_false (by omega)
 have k4 : ¬ n ≤ i := by omega
 have k5 : decide (n ≤ i) = false := decide_eq_false (by omega)
 have HB := Lib.hid (below_alloc (Below.refl W.heap.size W) (.cells #[.int .i64 k, .string key, .string text, .int .i64 pr, .int .i64 en] 47))
 have e1 : decide (k < 1) = false := decide_eq_false (by omega)
 have e2 : decide (7 < k) = false := decide_eq_false (by omega)
 subst hp
 have q1 : (key == ⟨#[]⟩) = false := by cases h : (key == ⟨#[]⟩); rfl; exact absurd ((Go.MapKept.bytes_beq _ _).1 h) hkey
 have q2 : (key.toList == (⟨#[]⟩ : ByteArray).toList) = false := by rw [← beq_toListBytes]; exact q1
 have q3 : (key != ⟨#[]⟩) = true := by unfold bne; rw [q1]; rfl
 have q4 := ba_ne_empty hkey
 clear hN hli
 cases nm with
 | false =>
  go_enter Tryz.func30, Tryz.ntmps30
  go_wp2_with fail
  go_ret
  exact ⟨rfl, HB.out⟩
 | true => cases hnm
set_option maxRecDepth 100000 in
set_option maxHeartbeats 4000000 in
theorem span_text (A : Option Addr) (l : List Node) (k : Int) (key text : ByteArray) (pr en : Int) (nm : Bool) (i : Nat) (p : Int) (n cap : Nat) (hi : i < l.length) (hli : l[i] = ⟨k, key, text, pr, en⟩) (hin : i < n) (hn : n ≤ 400000) (hk : 1 ≤ k ∧ k ≤ 7) (hp : pr = p) (hkey : nm = true ∨ key = ⟨#[]⟩) (h4 : k ≠ 4) (h5 : k ≠ 5) (htext : text ≠ ⟨#[]⟩) (W : World) (hN : N7 W A l n) :
  Calls Tryz.prog 30 #[.slice A n cap, .int .i64 (i : Int), .int .i64 p, .bool nm] W fun e w' => e = .returned (.int .i64 0) ∧ Below W.heap.size W w' := by
 obtain ⟨ad, rfl, d0, d1, d2, d3, d4⟩ := hN i hi hin
 rw [hli] at d0 d1 d2 d3 d4
 dsimp only at d0 d1 d2 d3 d4
 have k1 : decide (i < n) = true := decide_eq_true hin
 have k2 : decide ((i : Int) < (n : Int)) = true := decide_eq_true (by omega)
 have k3 : decide ((n : Int) ≤ (i : Int)) = false := decide_eq_false (by omega)
 have k4 : ¬ n ≤ i := by omega
 have k5 : decide (n ≤ i) = false := decide_eq_false (by omega)
 have HB := Lib.hid (below_alloc (Below.refl W.heap.size W) (.cells #[.int .i64 k, .string key, .string text, .int .i64 pr, .int .i64 en] 47))
 have e1 : decide (k < 1) = false := decide_eq_false (by omega)
 have e2 : decide (7 < k) = false := decide_eq_false (by omega)
 subst hp
 have e5 : (k != 4) = true := bne_iff_ne.2 h4
 have e6 : (k != 5) = true := bne_iff_ne.2 h5
 have q1 : (text == ⟨#[]⟩) = false := by cases h : (text == ⟨#[]⟩); rfl; exact absurd ((Go.MapKept.bytes_beq _ _).1 h) htext
 have q2 : (text.toList == (⟨#[]⟩ : ByteArray).toList) = false := by rw [← beq_toListBytes]; exact q1
 have q3 : (text != ⟨#[]⟩) = true := by unfold bne; rw [q1]; rfl
 have q4 := ba_ne_empty htext
 clear hN hli
 cases nm with
 | false =>
  have hke : key = ⟨#[]⟩ := by rcases hkey with h | h <;> first | exact h | cases h
  subst hke
  go_enter Tryz.func30, Tryz.ntmps30
  go_wp2_with fail
  go_ret
  exact ⟨rfl, HB.out⟩
 | true =>
  go_enter Tryz.func30, Tryz.ntmps30
  go_wp2_with fail
  go_ret
  exact ⟨rfl, HB.out⟩
set_option maxRecDepth 100000 in
set_option maxHeartbeats 4000000 in
theorem span_end (A : Option Addr) (l : List Node) (k : Int) (key text : ByteArray) (pr en : Int) (nm : Bool) (i : Nat) (p : Int) (n cap : Nat) (hi : i < l.length) (hli : l[i] = ⟨k, key, text, pr, en⟩) (hin : i < n) (hn : n ≤ 400000) (hk : 1 ≤ k ∧ k < 6) (hp : pr = p) (hkey : nm = true ∨ key = ⟨#[]⟩) (h4 : k ≠ 4) (htext : k = 5 ∨ text = ⟨#[]⟩) (hen : en ≠ (i : Int) + 1) (W : World) (hN : N7 W A l n) :
  Calls Tryz.prog 30 #[.slice A n cap, .int .i64 (i : Int), .int .i64 p, .bool nm] W fun e w' => e = .returned (.int .i64 0) ∧ Below W.heap.size W w' := by
 obtain ⟨ad, rfl, d0, d1, d2, d3, d4⟩ := hN i hi hin
 rw [hli] at d0 d1 d2 d3 d4
 dsimp only at d0 d1 d2 d3 d4
 have k1 : decide (i < n) = true := decide_eq_true hin
 have k2 : decide ((i : Int) < (n : Int)) = true := decide_eq_true (by omega)
 have k3 : decide ((n : Int) ≤ (i : Int)) = false := decide_eq_false (by omega)
 have k4 : ¬ n ≤ i := by omega
 have k5 : decide (n ≤ i) = false := decide_eq_false (by omega)
 have HB := Lib.hid (below_alloc (Below.refl W.heap.size W) (.cells #[.int .i64 k, .string key, .string text, .int .i64 pr, .int .i64 en] 47))
 have e1 : decide (k < 1) = false := decide_eq_false (by omega)
 have e2 : decide (7 < k) = false := decide_eq_false (by omega)
 subst hp
 have e3 : (pr != pr) = false := by simp
 have e5 : (k == 4) = false := beq_eq_false_iff_ne.2 h4
 have e6 : (k != 4) = true := bne_iff_ne.2 h4
 have e7 : decide (k < 6) = true := decide_eq_true hk.2
 have e8 : (en != (i : Int) + 1) = true := bne_iff_ne.2 hen
 have e9 : (k != 5) = false ∨ (text = ⟨#[]⟩ ∧ (k != 5) = true) := by rcases htext with h | h; exact .inl (by simp [h]); (by_cases h5 : k = 5); exact .inl (by simp [h5]); exact .inr ⟨h, bne_iff_ne.2 h5⟩
 clear hN hli
 cases nm with
 | false =>
  have hke : key = ⟨#[]⟩ := by rcases hkey with h | h <;> first | exact h | cases h
  subst hke
  rcases e9 with e9 | ⟨e10, e9⟩
  ·go_enter Tryz.func30, Tryz.ntmps30
   go_wp2_with fail
   go_quiet (fail)
   go_wp2_with fail
   go_ret
   exact ⟨rfl, below_step HB.out ⟨rfl, rfl, rfl, Nat.le_refl _, fun _ _ => rfl⟩⟩
  ·subst e10
   go_enter Tryz.func30, Tryz.ntmps30
   go_wp2_with fail
   go_quiet (fail)
   go_wp2_with fail
   go_ret
   exact ⟨rfl, below_step HB.out ⟨rfl, rfl, rfl, Nat.le_refl _, fun _ _ => rfl⟩⟩
 | true =>
  rcases e9 with e9 | ⟨e10, e9⟩
  ·go_enter Tryz.func30, Tryz.ntmps30
   go_wp2_with fail
   go_quiet (fail)
   go_wp2_with fail
   go_ret
   exact ⟨rfl, below_step HB.out ⟨rfl, rfl, rfl, Nat.le_refl _, fun _ _ => rfl⟩⟩
  ·subst e10
   go_enter Tryz.func30, Tryz.ntmps30
   go_wp2_with fail
   go_quiet (fail)
   go_wp2_with fail
   go_ret
   exact ⟨rfl, below_step HB.out ⟨rfl, rfl, rfl, Nat.le_refl _, fun _ _ => rfl⟩⟩
set_option maxRecDepth 100000 in
set_option maxHeartbeats 4000000 in
theorem span_e0 (A : Option Addr) (l : List Node) (k : Int) (key text : ByteArray) (pr en : Int) (nm : Bool) (i : Nat) (p : Int) (n cap : Nat) (hi : i < l.length) (hli : l[i] = ⟨k, key, text, pr, en⟩) (hin : i < n) (hn : n ≤ 400000) (hk : 6 ≤ k ∧ k ≤ 7) (hp : pr = p) (hkey : nm = true ∨ key = ⟨#[]⟩) (htext : text = ⟨#[]⟩) (hen : en ≤ (i : Int)) (W : World) (hN : N7 W A l n) :
  Calls Tryz.prog 30 #[.slice A n cap, .int .i64 (i : Int), .int .i64 p, .bool nm] W fun e w' => e = .returned (.int .i64 0) ∧ Below W.heap.size W w' := by
 obtain ⟨ad, rfl, d0, d1, d2, d3, d4⟩ := hN i hi hin
 rw [hli] at d0 d1 d2 d3 d4
 dsimp only at d0 d1 d2 d3 d4
 have k1 : decide (i < n) = true := decide_eq_true hin
 have k2 : decide ((i : Int) < (n : Int)) = true := decide_eq_true (by omega)
 have k3 : decide ((n : Int) ≤ (i : Int)) = false := decide_eq_false (by omega)
 have k4 : ¬ n ≤ i := by omega
 have k5 : decide (n ≤ i) = false := decide_eq_false (by omega)
 have HB := Lib.hid (below_alloc (Below.refl W.heap.size W) (.cells #[.int .i64 k, .string key, .string text, .int .i64 pr, .int .i64 en] 47))
 have e1 : decide (k < 1) = false := decide_eq_false (by omega)
 have e2 : decide (7 < k) = false := decide_eq_false (by omega)
 subst hp
 have e3 : (pr != pr) = false := by simp
 have e5 : (k == 4) = false := by rw [beq_eq_false_iff_ne]; omega
 have e6 : (k != 4) = true := by rw [bne_iff_ne]; omega
 have e7 : decide (k < 6) = false := decide_eq_false (by omega)
 have e9 : (k != 5) = true := by rw [bne_iff_ne]; omega
 subst htext
 have e8 : decide (en ≤ (i : Int)) = true := decide_eq_true hen
 clear hN hli
 cases nm with
 | false =>
  have hke : key = ⟨#[]⟩ := by rcases hkey with h | h <;> first | exact h | cases h
  subst hke
  go_enter Tryz.func30, Tryz.ntmps30
  go_wp2_with fail
  go_quiet (fail)
  go_wp2_with fail
  go_ret
  exact ⟨rfl, below_step HB.out ⟨rfl, rfl, rfl, Nat.le_refl _, fun _ _ => rfl⟩⟩
 | true =>
  go_enter Tryz.func30, Tryz.ntmps30
  go_wp2_with fail
  go_quiet (fail)
  go_wp2_with fail
  go_ret
  exact ⟨rfl, below_step HB.out ⟨rfl, rfl, rfl, Nat.le_refl _, fun _ _ => rfl⟩⟩
set_option maxRecDepth 100000 in
set_option maxHeartbeats 4000000 in
theorem span_en (A : Option Addr) (l : List Node) (k : Int) (key text : ByteArray) (pr en : Int) (nm : Bool) (i : Nat) (p : Int) (n cap : Nat) (hi : i < l.length) (hli : l[i] = ⟨k, key, text, pr, en⟩) (hin : i < n) (hn : n ≤ 400000) (hk : 6 ≤ k ∧ k ≤ 7) (hp : pr = p) (hkey : nm = true ∨ key = ⟨#[]⟩) (htext : text = ⟨#[]⟩) (hen : ¬ en ≤ (i : Int)) (hen2 : (n : Int) < en) (W : World) (hN : N7 W A l n) :
  Calls Tryz.prog 30 #[.slice A n cap, .int .i64 (i : Int), .int .i64 p, .bool nm] W fun e w' => e = .returned (.int .i64 0) ∧ Below W.heap.size W w' := by
 obtain ⟨ad, rfl, d0, d1, d2, d3, d4⟩ := hN i hi hin
 rw [hli] at d0 d1 d2 d3 d4
 dsimp only at d0 d1 d2 d3 d4
 have k1 : decide (i < n) = true := decide_eq_true hin
 have k2 : decide ((i : Int) < (n : Int)) = true := decide_eq_true (by omega)
 have k3 : decide ((n : Int) ≤ (i : Int)) = false := decide_eq_false (by omega)
 have k4 : ¬ n ≤ i := by omega
 have k5 : decide (n ≤ i) = false := decide_eq_false (by omega)
 have HB := Lib.hid (below_alloc (Below.refl W.heap.size W) (.cells #[.int .i64 k, .string key, .string text, .int .i64 pr, .int .i64 en] 47))
 have e1 : decide (k < 1) = false := decide_eq_false (by omega)
 have e2 : decide (7 < k) = false := decide_eq_false (by omega)
 subst hp
 have e3 : (pr != pr) = false := by simp
 have e5 : (k == 4) = false := by rw [beq_eq_false_iff_ne]; omega
 have e6 : (k != 4) = true := by rw [bne_iff_ne]; omega
 have e7 : decide (k < 6) = false := decide_eq_false (by omega)
 have e9 : (k != 5) = true := by rw [bne_iff_ne]; omega
 subst htext
 have e8 : decide (en ≤ (i : Int)) = false := decide_eq_false hen
 have e10 : decide ((n : Int) < en) = true := decide_eq_true hen2
 clear hN hli
 cases nm with
 | false =>
  have hke : key = ⟨#[]⟩ := by rcases hkey with h | h <;> first | exact h | cases h
  subst hke
  go_enter Tryz.func30, Tryz.ntmps30
  go_wp2_with fail
  go_quiet (fail)
  go_wp2_with fail
  go_ret
  exact ⟨rfl, below_step HB.out ⟨rfl, rfl, rfl, Nat.le_refl _, fun _ _ => rfl⟩⟩
 | true =>
  go_enter Tryz.func30, Tryz.ntmps30
  go_wp2_with fail
  go_quiet (fail)
  go_wp2_with fail
  go_ret
  exact ⟨rfl, below_step HB.out ⟨rfl, rfl, rfl, Nat.le_refl _, fun _ _ => rfl⟩⟩
set_option maxRecDepth 100000 in
set_option maxHeartbeats 4000000 in
theorem span_4e (A : Option Addr) (l : List Node) (k : Int) (key text : ByteArray) (pr en : Int) (nm : Bool) (i : Nat) (p : Int) (n cap : Nat) (hi : i < l.length) (hli : l[i] = ⟨k, key, text, pr, en⟩) (hin : i < n) (hn : n ≤ 400000) (hk : k = 4) (hp : pr = p) (hkey : nm = true ∨ key = ⟨#[]⟩) (htext : text = ⟨#[]⟩) (W : World) (hN : N7 W A l n) :
  Calls Tryz.prog 30 #[.slice A n cap, .int .i64 (i : Int), .int .i64 p, .bool nm] W fun e w' => e = .returned (.int .i64 0) ∧ Below W.heap.size W w' := by
 obtain ⟨ad, rfl, d0, d1, d2, d3, d4⟩ := hN i hi hin
 rw [hli] at d0 d1 d2 d3 d4
 dsimp only at d0 d1 d2 d3 d4
 have k1 : decide (i < n) = true := decide_eq_true hin
 have k2 : decide ((i : Int) < (n : Int)) = true := decide_eq_true (by omega)
 have k3 : decide ((n : Int) ≤ (i : Int)) = false := decide_eq_false (by omega)
 have k4 : ¬ n ≤ i := by omega
 have k5 : decide (n ≤ i) = false := decide_eq_false (by omega)
 have HB := Lib.hid (below_alloc (Below.refl W.heap.size W) (.cells #[.int .i64 k, .string key, .string text, .int .i64 pr, .int .i64 en] 47))
 subst hk
 subst hp
 have e3 : (pr != pr) = false := by simp
 subst htext
 clear hN hli
 cases nm with
 | false =>
  have hke : key = ⟨#[]⟩ := by rcases hkey with h | h <;> first | exact h | cases h
  subst hke
  go_enter Tryz.func30, Tryz.ntmps30
  go_wp2_with fail
  go_quiet (fail)
  go_wp2_with fail
  go_ret
  exact ⟨rfl, below_step HB.out ⟨rfl, rfl, rfl, Nat.le_refl _, fun _ _ => rfl⟩⟩
 | true =>
  go_enter Tryz.func30, Tryz.ntmps30
  go_wp2_with fail
  go_quiet (fail)
  go_wp2_with fail
  go_ret
  exact ⟨rfl, below_step HB.out ⟨rfl, rfl, rfl, Nat.le_refl _, fun _ _ => rfl⟩⟩
set_option maxRecDepth 100000 in
set_option maxHeartbeats 4000000 in
theorem span4_bad (A : Option Addr) (l : List Node) (key text : ByteArray) (nm : Bool) (i : Nat) (p : Int) (n cap : Nat) (hi : i < l.length) (en : Int) (hli : l[i] = ⟨4, key, text, p, en⟩) (hin : i < n) (hn : n ≤ 400000) (hkey : nm = true ∨ key = ⟨#[]⟩) (hpos : 0 < text.size) (hbad : numL text.data.toList ≠ text.size) (hts : text.size ≤ 100000) (W : World) (hN : N7 W A l n) :
  Calls Tryz.prog 30 #[.slice A n cap, .int .i64 (i : Int), .int .i64 p, .bool nm] W fun e w' => e = .returned (.int .i64 0) ∧ Below W.heap.size W w' := by
 obtain ⟨ad, rfl, d0, d1, d2, d3, d4⟩ := hN i hi hin
 rw [hli] at d0 d1 d2 d3 d4
 dsimp only at d0 d1 d2 d3 d4
 obtain ⟨v, hv⟩ : ∃ v, numL text.data.toList = v := ⟨_, rfl⟩
 rw [hv] at hbad
 have hv1 : ((v : Int) != (text.size : Int)) = true := bne_iff_ne.2 (by omega)
 have hv2 : (v != text.size) = true := bne_iff_ne.2 hbad
 have k1 : decide (i < n) = true := decide_eq_true hin
 have k2 : decide ((i : Int) < (n : Int)) = true := decide_eq_true (by omega)
 have k3 : decide ((n : Int) ≤ (i : Int)) = false := decide_eq_false (by omega)
 have k4 : ¬ n ≤ i := by omega
 have k5 : decide (n ≤ i) = false := decide_eq_false (by omega)
 have NUM := Lib.hid (num7_any text (by omega))
 rw [hv] at NUM
 obtain ⟨W1, hW1⟩ : ∃ W1, W.alloc (.cells #[.int .i64 4, .string key, .string text, .int .i64 p, .int .i64 en] 47) = W1 := ⟨_, rfl⟩
 have hb1 : Below W.heap.size W W1 := by rw [← hW1]; exact below_alloc (Below.refl _ _) _
 have hx1 : W1.heap[W.heap.size]? = some (.cells #[.int .i64 4, .string key, .string text, .int .i64 p, .int .i64 en] 47 (0, 0)) := by rw [← hW1]; exact blk_new _ _
 have hne : (text.size == 0) = false := by rw [beq_eq_false_iff_ne]; omega
 have hne2 : ((text.size : Int) == 0) = false := by rw [beq_eq_false_iff_ne]; omega
 have hne3 : ¬ text.size = 0 := by omega
 have HB := Lib.hid hb1
 have HX := Lib.hid hx1
 have HW1 := Lib.hid hW1
 have hgood : ∀ w, Below W1.heap.size W1 w → w.cell? ⟨W.heap.size, 0, none⟩ = some (.int .i64 4) ∧ w.cell? ⟨W.heap.size, 2, none⟩ = some (.string text) ∧ w.cell? ⟨W.heap.size, 4, none⟩ = some (.int .i64 en) := fun w h => by
  have hx := (h.block _ (blk_lt hx1)).trans hx1
  exact ⟨blkc hx 0 rfl, blkc hx 2 rfl, blkc hx 4 rfl⟩
 have GOOD := Lib.hid hgood
 have hmo : Tryz.prog.follows .mixedOrders = true := by kernel_rfl
 clear hN hli hv hb1 hx1 hW1 hgood
 refine (callsIn_wide (n := 5)).1 ?_
 refine callsIn_of_wp Tryz.func30 rfl trivial ?_ rfl
 simp only [Tryz.ntmps30, List.size_toArray, List.length_cons, List.length_nil, Nat.reduceAdd, Nat.reduceSub, Array.replicate_succ, Array.replicate_zero, List.push_toArray, List.append_toArray, List.nil_append, List.cons_append]
 cases nm with
 | false =>
  have hke : key = ⟨#[]⟩ := by rcases hkey with h | h <;> first | exact h | cases h
  subst hke
  gi_wp2
  rw [HW1.out]
  refine region_g (fun w => w.cell? ⟨W.heap.size, 0, none⟩ = some (.int .i64 4) ∧ w.cell? ⟨W.heap.size, 2, none⟩ = some (.string text) ∧ w.cell? ⟨W.heap.size, 4, none⟩ = some (.int .i64 en)) (fun _ => true) hmo ?_
  have hg0 := GOOD.out W1.drew ⟨rfl, rfl, rfl, Nat.le_refl _, fun _ _ => rfl⟩
  refine takeQ 0 (.pointer (some ⟨W.heap.size, 0, none⟩)) hg0 rfl (by kernel_rfl) ⟨fun _ => by first | rfl | (go_simp; done), .inl ⟨by kernel_rfl, fun w' hw' => by obtain ⟨z0, z1, z2⟩ := hw'; go_simp⟩⟩ ?_
  simp only [Act.put, List.setIfInBounds_toArray, List.set_cons_succ, List.set_cons_zero]
  refine takeQ 1 (.int .i64 4) hg0 rfl (by kernel_rfl) ⟨fun _ => by first | rfl | (go_simp; done), .inl ⟨by kernel_rfl, fun w' hw' => by obtain ⟨z0, z1, z2⟩ := hw'; go_simp⟩⟩ ?_
  simp only [Act.put, List.setIfInBounds_toArray, List.set_cons_succ, List.set_cons_zero]
  refine takeQ 2 (.bool true) hg0 rfl (by kernel_rfl) ⟨fun _ => by first | rfl | (go_simp; done), .inl ⟨by kernel_rfl, fun w' hw' => by obtain ⟨z0, z1, z2⟩ := hw'; go_simp⟩⟩ ?_
  simp only [Act.put, List.setIfInBounds_toArray, List.set_cons_succ, List.set_cons_zero]
  refine takeQ 3 (.bool true) hg0 rfl (by kernel_rfl) ⟨fun _ => by first | rfl | (go_simp; done), .inl ⟨by kernel_rfl, fun w' hw' => by obtain ⟨z0, z1, z2⟩ := hw'; go_simp⟩⟩ ?_
  simp only [Act.put, List.setIfInBounds_toArray, List.set_cons_succ, List.set_cons_zero]
  refine takeQ 4 (.pointer (some ⟨W.heap.size, 2, none⟩)) hg0 rfl (by kernel_rfl) ⟨fun _ => by first | rfl | (go_simp; done), .inl ⟨by kernel_rfl, fun w' hw' => by obtain ⟨z0, z1, z2⟩ := hw'; go_simp⟩⟩ ?_
  simp only [Act.put, List.setIfInBounds_toArray, List.set_cons_succ, List.set_cons_zero]
  refine takeQ 5 (.string text) hg0 rfl (by kernel_rfl) ⟨fun _ => by first | rfl | (go_simp; done), .inl ⟨by kernel_rfl, fun w' hw' => by obtain ⟨z0, z1, z2⟩ := hw'; go_simp⟩⟩ ?_
  simp only [Act.put, List.setIfInBounds_toArray, List.set_cons_succ, List.set_cons_zero]
  refine takeQ 6 (.int .i64 (text.size : Int)) hg0 rfl (by kernel_rfl) ⟨fun _ => by first | rfl | (go_simp; done), .inl ⟨by kernel_rfl, fun w' hw' => by obtain ⟨z0, z1, z2⟩ := hw'; go_simp⟩⟩ ?_
  simp only [Act.put, List.setIfInBounds_toArray, List.set_cons_succ, List.set_cons_zero]
  refine takeQ 7 (.bool false) hg0 rfl (by kernel_rfl) ⟨fun _ => by first | rfl | (go_simp; done), .inl ⟨by kernel_rfl, fun w' hw' => by obtain ⟨z0, z1, z2⟩ := hw'; go_simp⟩⟩ ?_
  simp only [Act.put, List.setIfInBounds_toArray, List.set_cons_succ, List.set_cons_zero]
  refine takeQ 8 (.bool false) hg0 rfl (by kernel_rfl) ⟨fun _ => by first | rfl | (go_simp; done), .inl ⟨by kernel_rfl, fun w' hw' => by obtain ⟨z0, z1, z2⟩ := hw'; go_simp⟩⟩ ?_
  simp only [Act.put, List.setIfInBounds_toArray, List.set_cons_succ, List.set_cons_zero]
  refine takeQ 9 (.pointer (some ⟨W.heap.size, 2, none⟩)) hg0 rfl (by kernel_rfl) ⟨fun _ => by first | rfl | (go_simp; done), .inl ⟨by kernel_rfl, fun w' hw' => by obtain ⟨z0, z1, z2⟩ := hw'; go_simp⟩⟩ ?_
  simp only [Act.put, List.setIfInBounds_toArray, List.set_cons_succ, List.set_cons_zero]
  refine takeQ 12 (.pointer (some ⟨W.heap.size, 2, none⟩)) hg0 rfl (by kernel_rfl) ⟨fun _ => by first | rfl | (go_simp; done), .inl ⟨by kernel_rfl, fun w' hw' => by obtain ⟨z0, z1, z2⟩ := hw'; go_simp⟩⟩ ?_
  simp only [Act.put, List.setIfInBounds_toArray, List.set_cons_succ, List.set_cons_zero]
  refine takeQ 10 (.string text) hg0 rfl (by kernel_rfl) ⟨fun _ => by first | rfl | (go_simp; done), .inl ⟨by kernel_rfl, fun w' hw' => by obtain ⟨z0, z1, z2⟩ := hw'; go_simp⟩⟩ ?_
  simp only [Act.put, List.setIfInBounds_toArray, List.set_cons_succ, List.set_cons_zero]
  refine takeQ 13 (.string text) hg0 rfl (by kernel_rfl) ⟨fun _ => by first | rfl | (go_simp; done), .inl ⟨by kernel_rfl, fun w' hw' => by obtain ⟨z0, z1, z2⟩ := hw'; go_simp⟩⟩ ?_
  simp only [Act.put, List.setIfInBounds_toArray, List.set_cons_succ, List.set_cons_zero]
  refine takeQ 14 (.int .i64 (text.size : Int)) hg0 rfl (by kernel_rfl) ⟨fun _ => by first | rfl | (go_simp; done), .inl ⟨by kernel_rfl, fun w' hw' => by obtain ⟨z0, z1, z2⟩ := hw'; go_simp⟩⟩ ?_
  simp only [Act.put, List.setIfInBounds_toArray, List.set_cons_succ, List.set_cons_zero]
  refine takeW 11 rfl (by kernel_rfl) (by kernel_rfl) rfl ?_
  gi_wp2_with (refine ⟨trivial, ?_⟩; gi_at_call 69; go_must (refine ((callsIn_wide (n := 4)).2 (NUM.out _)).mono ?_); rintro e' w2 ⟨rfl, hd2⟩)
  have hd3 : Below W1.heap.size W1 w2 := ⟨hd2.below.os, hd2.below.tape, hd2.below.output, hd2.below.size, hd2.below.block⟩
  have hg1 := GOOD.out w2 hd3
  have HD3 := Lib.hid hd3
  clear hd2 hd3 hg0
  refine ⟨fun _ => hg1, ?_⟩
  refine takeQ 15 (.bool true) hg1 rfl (by kernel_rfl) ⟨fun _ => by first | rfl | (go_simp; done), .inl ⟨by kernel_rfl, fun w' hw' => by obtain ⟨z0, z1, z2⟩ := hw'; go_simp⟩⟩ ?_
  simp only [Act.put, List.setIfInBounds_toArray, List.set_cons_succ, List.set_cons_zero]
  refine takeQ 16 (.bool true) hg1 rfl (by kernel_rfl) ⟨fun _ => by first | rfl | (go_simp; done), .inl ⟨by kernel_rfl, fun w' hw' => by obtain ⟨z0, z1, z2⟩ := hw'; go_simp⟩⟩ ?_
  simp only [Act.put, List.setIfInBounds_toArray, List.set_cons_succ, List.set_cons_zero]
  refine takeQ 17 (.bool true) hg1 rfl (by kernel_rfl) ⟨fun _ => by first | rfl | (go_simp; done), .inl ⟨by kernel_rfl, fun w' hw' => by obtain ⟨z0, z1, z2⟩ := hw'; go_simp⟩⟩ ?_
  simp only [Act.put, List.setIfInBounds_toArray, List.set_cons_succ, List.set_cons_zero]
  refine doneG (by kernel_rfl) ?_
  obtain ⟨z0, z1, z2⟩ := hg1
  gi_wp2
  refine bodyPost_ret (results_tmp rfl _ _ _) rfl ?_
  exact ⟨rfl, below_step HB.out HD3.out⟩
 | true =>
  gi_wp2
  rw [HW1.out]
  refine region_g (fun w => w.cell? ⟨W.heap.size, 0, none⟩ = some (.int .i64 4) ∧ w.cell? ⟨W.heap.size, 2, none⟩ = some (.string text) ∧ w.cell? ⟨W.heap.size, 4, none⟩ = some (.int .i64 en)) (fun _ => true) hmo ?_
  have hg0 := GOOD.out W1.drew ⟨rfl, rfl, rfl, Nat.le_refl _, fun _ _ => rfl⟩
  refine takeQ 0 (.pointer (some ⟨W.heap.size, 0, none⟩)) hg0 rfl (by kernel_rfl) ⟨fun _ => by first | rfl | (go_simp; done), .inl ⟨by kernel_rfl, fun w' hw' => by obtain ⟨z0, z1, z2⟩ := hw'; go_simp⟩⟩ ?_
  simp only [Act.put, List.setIfInBounds_toArray, List.set_cons_succ, List.set_cons_zero]
  refine takeQ 1 (.int .i64 4) hg0 rfl (by kernel_rfl) ⟨fun _ => by first | rfl | (go_simp; done), .inl ⟨by kernel_rfl, fun w' hw' => by obtain ⟨z0, z1, z2⟩ := hw'; go_simp⟩⟩ ?_
  simp only [Act.put, List.setIfInBounds_toArray, List.set_cons_succ, List.set_cons_zero]
  refine takeQ 2 (.bool true) hg0 rfl (by kernel_rfl) ⟨fun _ => by first | rfl | (go_simp; done), .inl ⟨by kernel_rfl, fun w' hw' => by obtain ⟨z0, z1, z2⟩ := hw'; go_simp⟩⟩ ?_
  simp only [Act.put, List.setIfInBounds_toArray, List.set_cons_succ, List.set_cons_zero]
  refine takeQ 3 (.bool true) hg0 rfl (by kernel_rfl) ⟨fun _ => by first | rfl | (go_simp; done), .inl ⟨by kernel_rfl, fun w' hw' => by obtain ⟨z0, z1, z2⟩ := hw'; go_simp⟩⟩ ?_
  simp only [Act.put, List.setIfInBounds_toArray, List.set_cons_succ, List.set_cons_zero]
  refine takeQ 4 (.pointer (some ⟨W.heap.size, 2, none⟩)) hg0 rfl (by kernel_rfl) ⟨fun _ => by first | rfl | (go_simp; done), .inl ⟨by kernel_rfl, fun w' hw' => by obtain ⟨z0, z1, z2⟩ := hw'; go_simp⟩⟩ ?_
  simp only [Act.put, List.setIfInBounds_toArray, List.set_cons_succ, List.set_cons_zero]
  refine takeQ 5 (.string text) hg0 rfl (by kernel_rfl) ⟨fun _ => by first | rfl | (go_simp; done), .inl ⟨by kernel_rfl, fun w' hw' => by obtain ⟨z0, z1, z2⟩ := hw'; go_simp⟩⟩ ?_
  simp only [Act.put, List.setIfInBounds_toArray, List.set_cons_succ, List.set_cons_zero]
  refine takeQ 6 (.int .i64 (text.size : Int)) hg0 rfl (by kernel_rfl) ⟨fun _ => by first | rfl | (go_simp; done), .inl ⟨by kernel_rfl, fun w' hw' => by obtain ⟨z0, z1, z2⟩ := hw'; go_simp⟩⟩ ?_
  simp only [Act.put, List.setIfInBounds_toArray, List.set_cons_succ, List.set_cons_zero]
  refine takeQ 7 (.bool false) hg0 rfl (by kernel_rfl) ⟨fun _ => by first | rfl | (go_simp; done), .inl ⟨by kernel_rfl, fun w' hw' => by obtain ⟨z0, z1, z2⟩ := hw'; go_simp⟩⟩ ?_
  simp only [Act.put, List.setIfInBounds_toArray, List.set_cons_succ, List.set_cons_zero]
  refine takeQ 8 (.bool false) hg0 rfl (by kernel_rfl) ⟨fun _ => by first | rfl | (go_simp; done), .inl ⟨by kernel_rfl, fun w' hw' => by obtain ⟨z0, z1, z2⟩ := hw'; go_simp⟩⟩ ?_
  simp only [Act.put, List.setIfInBounds_toArray, List.set_cons_succ, List.set_cons_zero]
  refine takeQ 9 (.pointer (some ⟨W.heap.size, 2, none⟩)) hg0 rfl (by kernel_rfl) ⟨fun _ => by first | rfl | (go_simp; done), .inl ⟨by kernel_rfl, fun w' hw' => by obtain ⟨z0, z1, z2⟩ := hw'; go_simp⟩⟩ ?_
  simp only [Act.put, List.setIfInBounds_toArray, List.set_cons_succ, List.set_cons_zero]
  refine takeQ 12 (.pointer (some ⟨W.heap.size, 2, none⟩)) hg0 rfl (by kernel_rfl) ⟨fun _ => by first | rfl | (go_simp; done), .inl ⟨by kernel_rfl, fun w' hw' => by obtain ⟨z0, z1, z2⟩ := hw'; go_simp⟩⟩ ?_
  simp only [Act.put, List.setIfInBounds_toArray, List.set_cons_succ, List.set_cons_zero]
  refine takeQ 10 (.string text) hg0 rfl (by kernel_rfl) ⟨fun _ => by first | rfl | (go_simp; done), .inl ⟨by kernel_rfl, fun w' hw' => by obtain ⟨z0, z1, z2⟩ := hw'; go_simp⟩⟩ ?_
  simp only [Act.put, List.setIfInBounds_toArray, List.set_cons_succ, List.set_cons_zero]
  refine takeQ 13 (.string text) hg0 rfl (by kernel_rfl) ⟨fun _ => by first | rfl | (go_simp; done), .inl ⟨by kernel_rfl, fun w' hw' => by obtain ⟨z0, z1, z2⟩ := hw'; go_simp⟩⟩ ?_
  simp only [Act.put, List.setIfInBounds_toArray, List.set_cons_succ, List.set_cons_zero]
  refine takeQ 14 (.int .i64 (text.size : Int)) hg0 rfl (by kernel_rfl) ⟨fun _ => by first | rfl | (go_simp; done), .inl ⟨by kernel_rfl, fun w' hw' => by obtain ⟨z0, z1, z2⟩ := hw'; go_simp⟩⟩ ?_
  simp only [Act.put, List.setIfInBounds_toArray, List.set_cons_succ, List.set_cons_zero]
  refine takeW 11 rfl (by kernel_rfl) (by kernel_rfl) rfl ?_
  gi_wp2_with (refine ⟨trivial, ?_⟩; gi_at_call 69; go_must (refine ((callsIn_wide (n := 4)).2 (NUM.out _)).mono ?_); rintro e' w2 ⟨rfl, hd2⟩)
  have hd3 : Below W1.heap.size W1 w2 := ⟨hd2.below.os, hd2.below.tape, hd2.below.output, hd2.below.size, hd2.below.block⟩
  have hg1 := GOOD.out w2 hd3
  have HD3 := Lib.hid hd3
  clear hd2 hd3 hg0
  refine ⟨fun _ => hg1, ?_⟩
  refine takeQ 15 (.bool true) hg1 rfl (by kernel_rfl) ⟨fun _ => by first | rfl | (go_simp; done), .inl ⟨by kernel_rfl, fun w' hw' => by obtain ⟨z0, z1, z2⟩ := hw'; go_simp⟩⟩ ?_
  simp only [Act.put, List.setIfInBounds_toArray, List.set_cons_succ, List.set_cons_zero]
  refine takeQ 16 (.bool true) hg1 rfl (by kernel_rfl) ⟨fun _ => by first | rfl | (go_simp; done), .inl ⟨by kernel_rfl, fun w' hw' => by obtain ⟨z0, z1, z2⟩ := hw'; go_simp⟩⟩ ?_
  simp only [Act.put, List.setIfInBounds_toArray, List.set_cons_succ, List.set_cons_zero]
  refine takeQ 17 (.bool true) hg1 rfl (by kernel_rfl) ⟨fun _ => by first | rfl | (go_simp; done), .inl ⟨by kernel_rfl, fun w' hw' => by obtain ⟨z0, z1, z2⟩ := hw'; go_simp⟩⟩ ?_
  simp only [Act.put, List.setIfInBounds_toArray, List.set_cons_succ, List.set_cons_zero]
  refine doneG (by kernel_rfl) ?_
  obtain ⟨z0, z1, z2⟩ := hg1
  gi_wp2
  refine bodyPost_ret (results_tmp rfl _ _ _) rfl ?_
  exact ⟨rfl, below_step HB.out HD3.out⟩
set_option maxRecDepth 100000 in
set_option maxHeartbeats 4000000 in
theorem span4_end (A : Option Addr) (l : List Node) (key text : ByteArray) (nm : Bool) (i : Nat) (p : Int) (n cap : Nat) (hi : i < l.length) (en : Int) (hli : l[i] = ⟨4, key, text, p, en⟩) (hin : i < n) (hn : n ≤ 400000) (hkey : nm = true ∨ key = ⟨#[]⟩) (htext : isNumL text = true) (hen : en ≠ (i : Int) + 1) (hts : text.size ≤ 100000) (W : World) (hN : N7 W A l n) :
  Calls Tryz.prog 30 #[.slice A n cap, .int .i64 (i : Int), .int .i64 p, .bool nm] W fun e w' => e = .returned (.int .i64 0) ∧ Below W.heap.size W w' := by
 obtain ⟨ad, rfl, d0, d1, d2, d3, d4⟩ := hN i hi hin
 rw [hli] at d0 d1 d2 d3 d4
 dsimp only at d0 d1 d2 d3 d4
 have hnum : 0 < text.size ∧ numL text.data.toList = text.size := by
  unfold isNumL at htext
  rw [Bool.and_eq_true] at htext
  exact ⟨of_decide_eq_true htext.1, by simpa using htext.2⟩
 have he1 : (en != (i : Int) + 1) = true := bne_iff_ne.2 hen
 have k1 : decide (i < n) = true := decide_eq_true hin
 have k2 : decide ((i : Int) < (n : Int)) = true := decide_eq_true (by omega)
 have k3 : decide ((n : Int) ≤ (i : Int)) = false := decide_eq_false (by omega)
 have k4 : ¬ n ≤ i := by omega
 have k5 : decide (n ≤ i) = false := decide_eq_false (by omega)
 have NUM := Lib.hid (num7_any text (by omega))
 rw [hnum.2] at NUM
 obtain ⟨W1, hW1⟩ : ∃ W1, W.alloc (.cells #[.int .i64 4, .string key, .string text, .int .i64 p, .int .i64 en] 47) = W1 := ⟨_, rfl⟩
 have hb1 : Below W.heap.size W W1 := by rw [← hW1]; exact below_alloc (Below.refl _ _) _
 have hx1 : W1.heap[W.heap.size]? = some (.cells #[.int .i64 4, .string key, .string text, .int .i64 p, .int .i64 en] 47 (0, 0)) := by rw [← hW1]; exact blk_new _ _
 have hne : (text.size == 0) = false := by rw [beq_eq_false_iff_ne]; omega
 have hne2 : ((text.size : Int) == 0) = false := by rw [beq_eq_false_iff_ne]; omega
 have hne3 : ¬ text.size = 0 := by omega
 have HB := Lib.hid hb1
 have HX := Lib.hid hx1
 have HW1 := Lib.hid hW1
 have hgood : ∀ w, Below W1.heap.size W1 w → w.cell? ⟨W.heap.size, 0, none⟩ = some (.int .i64 4) ∧ w.cell? ⟨W.heap.size, 2, none⟩ = some (.string text) ∧ w.cell? ⟨W.heap.size, 4, none⟩ = some (.int .i64 en) := fun w h => by
  have hx := (h.block _ (blk_lt hx1)).trans hx1
  exact ⟨blkc hx 0 rfl, blkc hx 2 rfl, blkc hx 4 rfl⟩
 have GOOD := Lib.hid hgood
 have hmo : Tryz.prog.follows .mixedOrders = true := by kernel_rfl
 clear hN hli hnum hb1 hx1 hW1 hgood
 refine (callsIn_wide (n := 5)).1 ?_
 refine callsIn_of_wp Tryz.func30 rfl trivial ?_ rfl
 simp only [Tryz.ntmps30, List.size_toArray, List.length_cons, List.length_nil, Nat.reduceAdd, Nat.reduceSub, Array.replicate_succ, Array.replicate_zero, List.push_toArray, List.append_toArray, List.nil_append, List.cons_append]
 cases nm with
 | false =>
  have hke : key = ⟨#[]⟩ := by rcases hkey with h | h <;> first | exact h | cases h
  subst hke
  gi_wp2
  rw [HW1.out]
  refine region_g (fun w => w.cell? ⟨W.heap.size, 0, none⟩ = some (.int .i64 4) ∧ w.cell? ⟨W.heap.size, 2, none⟩ = some (.string text) ∧ w.cell? ⟨W.heap.size, 4, none⟩ = some (.int .i64 en)) (fun _ => true) hmo ?_
  have hg0 := GOOD.out W1.drew ⟨rfl, rfl, rfl, Nat.le_refl _, fun _ _ => rfl⟩
  refine takeQ 0 (.pointer (some ⟨W.heap.size, 0, none⟩)) hg0 rfl (by kernel_rfl) ⟨fun _ => by first | rfl | (go_simp; done), .inl ⟨by kernel_rfl, fun w' hw' => by obtain ⟨z0, z1, z2⟩ := hw'; go_simp⟩⟩ ?_
  simp only [Act.put, List.setIfInBounds_toArray, List.set_cons_succ, List.set_cons_zero]
  refine takeQ 1 (.int .i64 4) hg0 rfl (by kernel_rfl) ⟨fun _ => by first | rfl | (go_simp; done), .inl ⟨by kernel_rfl, fun w' hw' => by obtain ⟨z0, z1, z2⟩ := hw'; go_simp⟩⟩ ?_
  simp only [Act.put, List.setIfInBounds_toArray, List.set_cons_succ, List.set_cons_zero]
  refine takeQ 2 (.bool true) hg0 rfl (by kernel_rfl) ⟨fun _ => by first | rfl | (go_simp; done), .inl ⟨by kernel_rfl, fun w' hw' => by obtain ⟨z0, z1, z2⟩ := hw'; go_simp⟩⟩ ?_
  simp only [Act.put, List.setIfInBounds_toArray, List.set_cons_succ, List.set_cons_zero]
  refine takeQ 3 (.bool true) hg0 rfl (by kernel_rfl) ⟨fun _ => by first | rfl | (go_simp; done), .inl ⟨by kernel_rfl, fun w' hw' => by obtain ⟨z0, z1, z2⟩ := hw'; go_simp⟩⟩ ?_
  simp only [Act.put, List.setIfInBounds_toArray, List.set_cons_succ, List.set_cons_zero]
  refine takeQ 4 (.pointer (some ⟨W.heap.size, 2, none⟩)) hg0 rfl (by kernel_rfl) ⟨fun _ => by first | rfl | (go_simp; done), .inl ⟨by kernel_rfl, fun w' hw' => by obtain ⟨z0, z1, z2⟩ := hw'; go_simp⟩⟩ ?_
  simp only [Act.put, List.setIfInBounds_toArray, List.set_cons_succ, List.set_cons_zero]
  refine takeQ 5 (.string text) hg0 rfl (by kernel_rfl) ⟨fun _ => by first | rfl | (go_simp; done), .inl ⟨by kernel_rfl, fun w' hw' => by obtain ⟨z0, z1, z2⟩ := hw'; go_simp⟩⟩ ?_
  simp only [Act.put, List.setIfInBounds_toArray, List.set_cons_succ, List.set_cons_zero]
  refine takeQ 6 (.int .i64 (text.size : Int)) hg0 rfl (by kernel_rfl) ⟨fun _ => by first | rfl | (go_simp; done), .inl ⟨by kernel_rfl, fun w' hw' => by obtain ⟨z0, z1, z2⟩ := hw'; go_simp⟩⟩ ?_
  simp only [Act.put, List.setIfInBounds_toArray, List.set_cons_succ, List.set_cons_zero]
  refine takeQ 7 (.bool false) hg0 rfl (by kernel_rfl) ⟨fun _ => by first | rfl | (go_simp; done), .inl ⟨by kernel_rfl, fun w' hw' => by obtain ⟨z0, z1, z2⟩ := hw'; go_simp⟩⟩ ?_
  simp only [Act.put, List.setIfInBounds_toArray, List.set_cons_succ, List.set_cons_zero]
  refine takeQ 8 (.bool false) hg0 rfl (by kernel_rfl) ⟨fun _ => by first | rfl | (go_simp; done), .inl ⟨by kernel_rfl, fun w' hw' => by obtain ⟨z0, z1, z2⟩ := hw'; go_simp⟩⟩ ?_
  simp only [Act.put, List.setIfInBounds_toArray, List.set_cons_succ, List.set_cons_zero]
  refine takeQ 9 (.pointer (some ⟨W.heap.size, 2, none⟩)) hg0 rfl (by kernel_rfl) ⟨fun _ => by first | rfl | (go_simp; done), .inl ⟨by kernel_rfl, fun w' hw' => by obtain ⟨z0, z1, z2⟩ := hw'; go_simp⟩⟩ ?_
  simp only [Act.put, List.setIfInBounds_toArray, List.set_cons_succ, List.set_cons_zero]
  refine takeQ 12 (.pointer (some ⟨W.heap.size, 2, none⟩)) hg0 rfl (by kernel_rfl) ⟨fun _ => by first | rfl | (go_simp; done), .inl ⟨by kernel_rfl, fun w' hw' => by obtain ⟨z0, z1, z2⟩ := hw'; go_simp⟩⟩ ?_
  simp only [Act.put, List.setIfInBounds_toArray, List.set_cons_succ, List.set_cons_zero]
  refine takeQ 10 (.string text) hg0 rfl (by kernel_rfl) ⟨fun _ => by first | rfl | (go_simp; done), .inl ⟨by kernel_rfl, fun w' hw' => by obtain ⟨z0, z1, z2⟩ := hw'; go_simp⟩⟩ ?_
  simp only [Act.put, List.setIfInBounds_toArray, List.set_cons_succ, List.set_cons_zero]
  refine takeQ 13 (.string text) hg0 rfl (by kernel_rfl) ⟨fun _ => by first | rfl | (go_simp; done), .inl ⟨by kernel_rfl, fun w' hw' => by obtain ⟨z0, z1, z2⟩ := hw'; go_simp⟩⟩ ?_
  simp only [Act.put, List.setIfInBounds_toArray, List.set_cons_succ, List.set_cons_zero]
  refine takeQ 14 (.int .i64 (text.size : Int)) hg0 rfl (by kernel_rfl) ⟨fun _ => by first | rfl | (go_simp; done), .inl ⟨by kernel_rfl, fun w' hw' => by obtain ⟨z0, z1, z2⟩ := hw'; go_simp⟩⟩ ?_
  simp only [Act.put, List.setIfInBounds_toArray, List.set_cons_succ, List.set_cons_zero]
  refine takeW 11 rfl (by kernel_rfl) (by kernel_rfl) rfl ?_
  gi_wp2_with (refine ⟨trivial, ?_⟩; gi_at_call 69; go_must (refine ((callsIn_wide (n := 4)).2 (NUM.out _)).mono ?_); rintro e' w2 ⟨rfl, hd2⟩)
  have hd3 : Below W1.heap.size W1 w2 := ⟨hd2.below.os, hd2.below.tape, hd2.below.output, hd2.below.size, hd2.below.block⟩
  have hg1 := GOOD.out w2 hd3
  have HD3 := Lib.hid hd3
  clear hd2 hd3 hg0
  refine ⟨fun _ => hg1, ?_⟩
  refine takeQ 15 (.bool false) hg1 rfl (by kernel_rfl) ⟨fun _ => by first | rfl | (go_simp; done), .inl ⟨by kernel_rfl, fun w' hw' => by obtain ⟨z0, z1, z2⟩ := hw'; go_simp⟩⟩ ?_
  simp only [Act.put, List.setIfInBounds_toArray, List.set_cons_succ, List.set_cons_zero]
  refine takeQ 16 (.bool false) hg1 rfl (by kernel_rfl) ⟨fun _ => by first | rfl | (go_simp; done), .inl ⟨by kernel_rfl, fun w' hw' => by obtain ⟨z0, z1, z2⟩ := hw'; go_simp⟩⟩ ?_
  simp only [Act.put, List.setIfInBounds_toArray, List.set_cons_succ, List.set_cons_zero]
  refine takeQ 17 (.bool false) hg1 rfl (by kernel_rfl) ⟨fun _ => by first | rfl | (go_simp; done), .inl ⟨by kernel_rfl, fun w' hw' => by obtain ⟨z0, z1, z2⟩ := hw'; go_simp⟩⟩ ?_
  simp only [Act.put, List.setIfInBounds_toArray, List.set_cons_succ, List.set_cons_zero]
  refine doneG (by kernel_rfl) ?_
  obtain ⟨z0, z1, z2⟩ := hg1
  gi_wp2
  refine bodyPost_ret (results_tmp rfl _ _ _) rfl ?_
  exact ⟨rfl, below_step HB.out HD3.out⟩
 | true =>
  gi_wp2
  rw [HW1.out]
  refine region_g (fun w => w.cell? ⟨W.heap.size, 0, none⟩ = some (.int .i64 4) ∧ w.cell? ⟨W.heap.size, 2, none⟩ = some (.string text) ∧ w.cell? ⟨W.heap.size, 4, none⟩ = some (.int .i64 en)) (fun _ => true) hmo ?_
  have hg0 := GOOD.out W1.drew ⟨rfl, rfl, rfl, Nat.le_refl _, fun _ _ => rfl⟩
  refine takeQ 0 (.pointer (some ⟨W.heap.size, 0, none⟩)) hg0 rfl (by kernel_rfl) ⟨fun _ => by first | rfl | (go_simp; done), .inl ⟨by kernel_rfl, fun w' hw' => by obtain ⟨z0, z1, z2⟩ := hw'; go_simp⟩⟩ ?_
  simp only [Act.put, List.setIfInBounds_toArray, List.set_cons_succ, List.set_cons_zero]
  refine takeQ 1 (.int .i64 4) hg0 rfl (by kernel_rfl) ⟨fun _ => by first | rfl | (go_simp; done), .inl ⟨by kernel_rfl, fun w' hw' => by obtain ⟨z0, z1, z2⟩ := hw'; go_simp⟩⟩ ?_
  simp only [Act.put, List.setIfInBounds_toArray, List.set_cons_succ, List.set_cons_zero]
  refine takeQ 2 (.bool true) hg0 rfl (by kernel_rfl) ⟨fun _ => by first | rfl | (go_simp; done), .inl ⟨by kernel_rfl, fun w' hw' => by obtain ⟨z0, z1, z2⟩ := hw'; go_simp⟩⟩ ?_
  simp only [Act.put, List.setIfInBounds_toArray, List.set_cons_succ, List.set_cons_zero]
  refine takeQ 3 (.bool true) hg0 rfl (by kernel_rfl) ⟨fun _ => by first | rfl | (go_simp; done), .inl ⟨by kernel_rfl, fun w' hw' => by obtain ⟨z0, z1, z2⟩ := hw'; go_simp⟩⟩ ?_
  simp only [Act.put, List.setIfInBounds_toArray, List.set_cons_succ, List.set_cons_zero]
  refine takeQ 4 (.pointer (some ⟨W.heap.size, 2, none⟩)) hg0 rfl (by kernel_rfl) ⟨fun _ => by first | rfl | (go_simp; done), .inl ⟨by kernel_rfl, fun w' hw' => by obtain ⟨z0, z1, z2⟩ := hw'; go_simp⟩⟩ ?_
  simp only [Act.put, List.setIfInBounds_toArray, List.set_cons_succ, List.set_cons_zero]
  refine takeQ 5 (.string text) hg0 rfl (by kernel_rfl) ⟨fun _ => by first | rfl | (go_simp; done), .inl ⟨by kernel_rfl, fun w' hw' => by obtain ⟨z0, z1, z2⟩ := hw'; go_simp⟩⟩ ?_
  simp only [Act.put, List.setIfInBounds_toArray, List.set_cons_succ, List.set_cons_zero]
  refine takeQ 6 (.int .i64 (text.size : Int)) hg0 rfl (by kernel_rfl) ⟨fun _ => by first | rfl | (go_simp; done), .inl ⟨by kernel_rfl, fun w' hw' => by obtain ⟨z0, z1, z2⟩ := hw'; go_simp⟩⟩ ?_
  simp only [Act.put, List.setIfInBounds_toArray, List.set_cons_succ, List.set_cons_zero]
  refine takeQ 7 (.bool false) hg0 rfl (by kernel_rfl) ⟨fun _ => by first | rfl | (go_simp; done), .inl ⟨by kernel_rfl, fun w' hw' => by obtain ⟨z0, z1, z2⟩ := hw'; go_simp⟩⟩ ?_
  simp only [Act.put, List.setIfInBounds_toArray, List.set_cons_succ, List.set_cons_zero]
  refine takeQ 8 (.bool false) hg0 rfl (by kernel_rfl) ⟨fun _ => by first | rfl | (go_simp; done), .inl ⟨by kernel_rfl, fun w' hw' => by obtain ⟨z0, z1, z2⟩ := hw'; go_simp⟩⟩ ?_
  simp only [Act.put, List.setIfInBounds_toArray, List.set_cons_succ, List.set_cons_zero]
  refine takeQ 9 (.pointer (some ⟨W.heap.size, 2, none⟩)) hg0 rfl (by kernel_rfl) ⟨fun _ => by first | rfl | (go_simp; done), .inl ⟨by kernel_rfl, fun w' hw' => by obtain ⟨z0, z1, z2⟩ := hw'; go_simp⟩⟩ ?_
  simp only [Act.put, List.setIfInBounds_toArray, List.set_cons_succ, List.set_cons_zero]
  refine takeQ 12 (.pointer (some ⟨W.heap.size, 2, none⟩)) hg0 rfl (by kernel_rfl) ⟨fun _ => by first | rfl | (go_simp; done), .inl ⟨by kernel_rfl, fun w' hw' => by obtain ⟨z0, z1, z2⟩ := hw'; go_simp⟩⟩ ?_
  simp only [Act.put, List.setIfInBounds_toArray, List.set_cons_succ, List.set_cons_zero]
  refine takeQ 10 (.string text) hg0 rfl (by kernel_rfl) ⟨fun _ => by first | rfl | (go_simp; done), .inl ⟨by kernel_rfl, fun w' hw' => by obtain ⟨z0, z1, z2⟩ := hw'; go_simp⟩⟩ ?_
  simp only [Act.put, List.setIfInBounds_toArray, List.set_cons_succ, List.set_cons_zero]
  refine takeQ 13 (.string text) hg0 rfl (by kernel_rfl) ⟨fun _ => by first | rfl | (go_simp; done), .inl ⟨by kernel_rfl, fun w' hw' => by obtain ⟨z0, z1, z2⟩ := hw'; go_simp⟩⟩ ?_
  simp only [Act.put, List.setIfInBounds_toArray, List.set_cons_succ, List.set_cons_zero]
  refine takeQ 14 (.int .i64 (text.size : Int)) hg0 rfl (by kernel_rfl) ⟨fun _ => by first | rfl | (go_simp; done), .inl ⟨by kernel_rfl, fun w' hw' => by obtain ⟨z0, z1, z2⟩ := hw'; go_simp⟩⟩ ?_
  simp only [Act.put, List.setIfInBounds_toArray, List.set_cons_succ, List.set_cons_zero]
  refine takeW 11 rfl (by kernel_rfl) (by kernel_rfl) rfl ?_
  gi_wp2_with (refine ⟨trivial, ?_⟩; gi_at_call 69; go_must (refine ((callsIn_wide (n := 4)).2 (NUM.out _)).mono ?_); rintro e' w2 ⟨rfl, hd2⟩)
  have hd3 : Below W1.heap.size W1 w2 := ⟨hd2.below.os, hd2.below.tape, hd2.below.output, hd2.below.size, hd2.below.block⟩
  have hg1 := GOOD.out w2 hd3
  have HD3 := Lib.hid hd3
  clear hd2 hd3 hg0
  refine ⟨fun _ => hg1, ?_⟩
  refine takeQ 15 (.bool false) hg1 rfl (by kernel_rfl) ⟨fun _ => by first | rfl | (go_simp; done), .inl ⟨by kernel_rfl, fun w' hw' => by obtain ⟨z0, z1, z2⟩ := hw'; go_simp⟩⟩ ?_
  simp only [Act.put, List.setIfInBounds_toArray, List.set_cons_succ, List.set_cons_zero]
  refine takeQ 16 (.bool false) hg1 rfl (by kernel_rfl) ⟨fun _ => by first | rfl | (go_simp; done), .inl ⟨by kernel_rfl, fun w' hw' => by obtain ⟨z0, z1, z2⟩ := hw'; go_simp⟩⟩ ?_
  simp only [Act.put, List.setIfInBounds_toArray, List.set_cons_succ, List.set_cons_zero]
  refine takeQ 17 (.bool false) hg1 rfl (by kernel_rfl) ⟨fun _ => by first | rfl | (go_simp; done), .inl ⟨by kernel_rfl, fun w' hw' => by obtain ⟨z0, z1, z2⟩ := hw'; go_simp⟩⟩ ?_
  simp only [Act.put, List.setIfInBounds_toArray, List.set_cons_succ, List.set_cons_zero]
  refine doneG (by kernel_rfl) ?_
  obtain ⟨z0, z1, z2⟩ := hg1
  gi_wp2
  refine bodyPost_ret (results_tmp rfl _ _ _) rfl ?_
  exact ⟨rfl, below_step HB.out HD3.out⟩
end Go.Proofs.YtfocognhcljhpaaGreatDoor
namespace Go.Proofs.YtfocognhcljhpaaGreatDoor
open Go.RowKit Go.Shelf Go.Proofs.YtfocognhcljhpaaGreatDoorW.PrintWords Go.Proofs.YtfocognhcljhpaaGreatDoorW.PrintLast Go.Proofs.YtfocognhcljhpaaGreatDoorW.PrintMore Go.Proofs.YtfocognhcljhpaaGreatDoor.PPrintRows Go.Proofs.YtfocognhcljhpaaGreatDoor.Tree
set_option maxRecDepth 100000 in
set_option maxHeartbeats 4000000 in
theorem span7_at (A : Option Addr) (l : List Node) (hl : l.length ≤ 400000) : ∀ (m : Nat) (s : Tr) (nm : Bool) (i : Nat) (p : Int) (r : List Node) (n cap : Nat), s.size ≤ m → s.ok isNumL nm = true → s.tx (fun b => decide (b.size ≤ 100000)) = true → p < (i : Int) → l.drop i = (s.flat p i).map toN ++ r → i + s.size ≤ n → n ≤ l.length → n ≤ cap → ∀ W, N7 W A l n →
  Calls Tryz.prog 30 #[.slice A n cap, .int .i64 (i : Int), .int .i64 p, .bool nm] W fun e w' => e = .returned (.int .i64 (s.size : Int)) ∧ Below W.heap.size W w'
 | 0, s, nm, i, p, r, n, cap, hm, _, _, _, _, _, _, _ => by have := s.size_pos; omega
 | m + 1, .mk k key text kids, nm, i, p, r, n, cap, hm, hok, htx, hp, hd, hin, hnl, hnc => by
  intro W hN
  obtain ⟨hn, hd2⟩ := drop_flat hd
  obtain ⟨hi, hli⟩ := List.getElem?_eq_some_iff.1 hn
  rw [Tr.ok, Bool.and_eq_true, Bool.and_eq_true] at hok
  rw [Tr.tx, Bool.and_eq_true, Bool.and_eq_true] at htx
  have hokn := hok.1.1
  unfold okN at hokn
  rw [Bool.and_eq_true, Bool.and_eq_true] at hokn
  obtain ⟨⟨hk17, hkey⟩, htext⟩ := hokn
  have hk17 := of_decide_eq_true hk17
  have hkey2 : nm = true ∨ key = ⟨#[]⟩ := by
   rw [Bool.or_eq_true] at hkey
   rcases hkey with h | h
   ·exact .inl h
   ·exact .inr (ba_eq h)
  rw [Tr.size] at hm hin ⊢
  by_cases h6 : k < 6
  ·have hz : kids = [] := by
    have := hok.1.2
    rw [Bool.or_eq_true] at this
    rcases this with h3 | h3
    ·have := of_decide_eq_true h3; omega
    ·cases kids with
     | nil => rfl
     | cons => cases h3
   subst hz
   rw [sizes] at hli ⊢
   by_cases h4 : k = 4
   ·subst h4
    rw [if_pos rfl] at htext
    exact span7_num A l key text nm i p n cap hi hli (by omega) (by omega) hkey2 htext (of_decide_eq_true htx.1.2) W hN
   ·rw [if_neg h4, Bool.or_eq_true] at htext
    exact span7_leaf A l k key text nm i p n cap hi hli (by omega) (by omega) (by omega) hkey2 (by
     rcases htext with h | h
     ·exact .inl (of_decide_eq_true h)
     ·exact .inr (ba_eq h)) W hN
  ·have htx0 : text = ⟨#[]⟩ := by
    rw [if_neg (by omega), Bool.or_eq_true] at htext
    rcases htext with h | h
    ·have := of_decide_eq_true h; omega
    ·exact ba_eq h
   subst htx0
   have IH := Lib.hid (span7_at A l hl m)
   obtain ⟨nmk, hnmk⟩ : ∃ b, (k == 7) = b := ⟨_, rfl⟩
   have k7 := hnmk
   rw [hnmk] at hok
   obtain ⟨e, he⟩ : ∃ e, i + 1 + sizes kids = e := ⟨_, rfl⟩
   rw [he] at hli
   obtain ⟨ad, rfl, d0, d1, d2, d3, d4⟩ := hN i hi (by omega)
   rw [hli] at d0 d1 d2 d3 d4
   dsimp only at d0 d1 d2 d3 d4
   have k1 : decide (i < n) = true := decide_eq_true (by omega)
   have k2 : decide ((i : Int) < (n : Int)) = true := decide_eq_true (by omega)
   have k3 : decide ((n : Int) ≤ (i : Int)) = false := decide_eq_false (by omega)
   have k4 : ¬ n ≤ i := by omega
   have e1 : decide (k < 1) = false := decide_eq_false (by omega)
   have e2 : decide (7 < k) = false := decide_eq_false (by omega)
   have e3 : decide (k < 6) = false := decide_eq_false h6
   have e4 : (k == 4) = false := by rw [beq_eq_false_iff_ne]; omega
   have e5 : (k != 4) = true := by rw [bne_iff_ne]; omega
   have e6 : (k != 5) = true := by rw [bne_iff_ne]; omega
   have e7 : decide ((e : Int) ≤ (i : Int)) = false := decide_eq_false (by omega)
   have e8 : decide ((n : Int) < (e : Int)) = false := decide_eq_false (by omega)
   have e9 : ¬ e ≤ i := by omega
   have e10 : ¬ n < e := by omega
   have HNN := Lib.hid (hN.less (m := e) (by omega))
   have hkx : ∀ t ∈ kids, t.ok isNumL nmk = true ∧ t.tx (fun b => decide (b.size ≤ 100000)) = true := by
    have h1 := hok.2
    have h2 := htx.2
    rw [oks_all] at h1
    rw [txs_all] at h2
    exact fun t ht => ⟨List.all_eq_true.1 h1 t ht, List.all_eq_true.1 h2 t ht⟩
   have HKX := Lib.hid hkx
   have HD2 := Lib.hid hd2
   obtain ⟨W1, hW1⟩ : ∃ W1, W.alloc (.cells #[.int .i64 k, .string key, .string ⟨#[]⟩, .int .i64 p, .int .i64 (e : Int)] 47) = W1 := ⟨_, rfl⟩
   have hb1 : Below W.heap.size W W1 := by rw [← hW1]; exact below_alloc (Below.refl _ _) _
   have hx1 : W1.heap[W.heap.size]? = some (.cells #[.int .i64 k, .string key, .string ⟨#[]⟩, .int .i64 p, .int .i64 (e : Int)] 47 (0, 0)) := by rw [← hW1]; exact blk_new _ _
   have HB1 := Lib.hid hb1
   have HX1 := Lib.hid hx1
   have HW1 := Lib.hid hW1
   have hmo : Tryz.prog.follows .mixedOrders = true := by kernel_rfl
   have hsz : 1 + sizes kids = e - i := by omega
   rw [hsz]
   have he4 : e ≤ 400000 := by omega
   have HE := Lib.hid he
   clear hN hli hn hd hd2 hok htx htext hkey hkx hb1 hx1 hW1 hnmk hsz he
   cases nm with
   | false =>
    have hke : key = ⟨#[]⟩ := by rcases hkey2 with h | h <;> first | exact h | cases h
    subst hke
    clear hkey2
    go_enter Tryz.func30, Tryz.ntmps30
    go_wp2_with fail
    go_quiet (fail)
    go_wp2_with fail
    go_loopw [10] (fun v10 wr => ∃ (ts1 ts2 : List Tr) (at_ : Nat), kids = ts1 ++ ts2 ∧ at_ = i + 1 + sizes ts1 ∧ v10 = .int .i64 (at_ : Int) ∧ wr.heap[W.heap.size]? = some (.cells #[.int .i64 k, .string ⟨#[]⟩, .string ⟨#[]⟩, .int .i64 p, .int .i64 (e : Int)] 47 (0, 0)) ∧ Below W.heap.size W wr)
     (fun v10 _ => e - (intOf v10).toNat)
    case atStart => exact ⟨[], kids, i + 1, rfl, by rw [sizes], by go_num, by rw [HW1.out]; exact HX1.out, by rw [HW1.out]; exact below_step HB1.out ⟨rfl, rfl, rfl, Nat.le_refl _, fun _ _ => rfl⟩⟩
    case round =>
     obtain ⟨ts1, ts2, at_, hts, hat, rfl, hbx, hB⟩ := hrel
     have hE := HE.out
     have c0 : wr.cell? ⟨W.heap.size, 0, none⟩ = some (.int .i64 k) := blkc hbx 0 rfl
     have c4 : wr.cell? ⟨W.heap.size, 4, none⟩ = some (.int .i64 (e : Int)) := blkc hbx 4 rfl
     have hsa : sizes kids = sizes ts1 + sizes ts2 := by rw [hts, sizes_app]
     cases ts2 with
     | nil =>
      rw [sizes] at hsa
      have hae : at_ = e := by omega
      subst hae
      have k9 : decide ((at_ : Int) < (at_ : Int)) = false := decide_eq_false (by omega)
      have HB := Lib.hid hB
      have hge : i ≤ at_ := by omega
      clear hbx hB hts hat hsa hE
      go_wp2_with fail
      go_ret
      rw [show ((at_ - i : Nat) : Int) = (at_ : Int) - (i : Int) by omega]
      exact ⟨rfl, HB.out⟩
     | cons u us =>
      rw [sizes] at hsa
      have hpos := u.size_pos
      have hlt : at_ < e := by omega
      have k9 : decide ((at_ : Int) < (e : Int)) = true := decide_eq_true (by omega)
      have hdu : ∃ r', l.drop at_ = (u.flat (i : Int) at_).map toN ++ r' := by
       have h := HD2.out
       rw [hts, flats_app, List.map_append, List.append_assoc] at h
       refine ⟨(flats (i : Int) (at_ + u.size) us).map toN ++ r, ?_⟩
       rw [hat, ← List.drop_drop, h, List.drop_left' (by rw [List.length_map, flats_len]), flats, List.map_append, List.append_assoc]
      obtain ⟨r', hdu⟩ := hdu
      obtain ⟨ho, hx⟩ := HKX.out u (by rw [hts]; simp)
      have SP := Lib.hid (fun w (h : Below W.heap.size W w) => IH.out u nmk at_ (i : Int) r' e cap (by omega) ho hx (by omega) hdu (by omega) (by omega) (by omega) w (HNN.out.below h))
      have HB := Lib.hid hB
      have HBX := Lib.hid hbx
      have HTS := Lib.hid (And.intro hts (And.intro hat hsa))
      have HLT := Lib.hid hlt
      have g3 : decide (e ≤ cap) = true := decide_eq_true (by omega)
      have g4 : e ≤ cap := by omega
      have g5 : decide ((e : Int) ≤ (cap : Int)) = true := decide_eq_true (by omega)
      obtain ⟨us_, hus⟩ : ∃ z, u.size = z := ⟨_, rfl⟩
      rw [hus] at SP hpos
      have hne : ((us_ : Int) == 0) = false := by rw [beq_eq_false_iff_ne]; omega
      have hne2 : ¬ us_ = 0 := by omega
      have HUS := Lib.hid hus
      have hbd : at_ + us_ ≤ e := by omega
      clear hbx hB hts hat hsa hdu ho hx hus hE
      go_wp2_with fail
      refine (wpIn_wide (n := 5)).1 ?_
      refine region_g (fun w => w.cell? ⟨W.heap.size, 0, none⟩ = some (.int .i64 k) ∧ w.cell? ⟨W.heap.size, 4, none⟩ = some (.int .i64 (e : Int))) (fun _ => true) hmo ?_
      have hg0 : wr.drew.cell? ⟨W.heap.size, 0, none⟩ = some (.int .i64 k) ∧ wr.drew.cell? ⟨W.heap.size, 4, none⟩ = some (.int .i64 (e : Int)) := ⟨c0, c4⟩
      refine takeQ 0 (.slice (some ad) n cap) hg0 rfl (by kernel_rfl) ⟨fun _ => by first | rfl | (go_simp; done), .inl ⟨by kernel_rfl, fun w' hw' => by obtain ⟨z0, z1⟩ := hw'; go_simp⟩⟩ ?_
      simp only [Act.put, List.setIfInBounds_toArray, List.set_cons_succ, List.set_cons_zero]
      refine takeQ 1 (.pointer (some ⟨W.heap.size, 4, none⟩)) hg0 rfl (by kernel_rfl) ⟨fun _ => by first | rfl | (go_simp; done), .inl ⟨by kernel_rfl, fun w' hw' => by obtain ⟨z0, z1⟩ := hw'; go_simp⟩⟩ ?_
      simp only [Act.put, List.setIfInBounds_toArray, List.set_cons_succ, List.set_cons_zero]
      refine takeQ 2 (.int .i64 (e : Int)) hg0 rfl (by kernel_rfl) ⟨fun _ => by first | rfl | (go_simp; done), .inl ⟨by kernel_rfl, fun w' hw' => by obtain ⟨z0, z1⟩ := hw'; go_simp⟩⟩ ?_
      simp only [Act.put, List.setIfInBounds_toArray, List.set_cons_succ, List.set_cons_zero]
      refine takeQ 3 (.slice (some ad) e cap) hg0 rfl (by kernel_rfl) ⟨fun _ => by first | rfl | (go_simp; done), .inl ⟨by kernel_rfl, fun w' hw' => by obtain ⟨z0, z1⟩ := hw'; go_simp⟩⟩ ?_
      simp only [Act.put, List.setIfInBounds_toArray, List.set_cons_succ, List.set_cons_zero]
      refine takeQ 4 (.int .i64 (at_ : Int)) hg0 rfl (by kernel_rfl) ⟨fun _ => by first | rfl | (go_simp; done), .inl ⟨by kernel_rfl, fun w' hw' => by obtain ⟨z0, z1⟩ := hw'; go_simp⟩⟩ ?_
      simp only [Act.put, List.setIfInBounds_toArray, List.set_cons_succ, List.set_cons_zero]
      refine takeQ 5 (.int .i64 (i : Int)) hg0 rfl (by kernel_rfl) ⟨fun _ => by first | rfl | (go_simp; done), .inl ⟨by kernel_rfl, fun w' hw' => by obtain ⟨z0, z1⟩ := hw'; go_simp⟩⟩ ?_
      simp only [Act.put, List.setIfInBounds_toArray, List.set_cons_succ, List.set_cons_zero]
      refine takeQ 6 (.pointer (some ⟨W.heap.size, 0, none⟩)) hg0 rfl (by kernel_rfl) ⟨fun _ => by first | rfl | (go_simp; done), .inl ⟨by kernel_rfl, fun w' hw' => by obtain ⟨z0, z1⟩ := hw'; go_simp⟩⟩ ?_
      simp only [Act.put, List.setIfInBounds_toArray, List.set_cons_succ, List.set_cons_zero]
      refine takeQ 7 (.int .i64 k) hg0 rfl (by kernel_rfl) ⟨fun _ => by first | rfl | (go_simp; done), .inl ⟨by kernel_rfl, fun w' hw' => by obtain ⟨z0, z1⟩ := hw'; go_simp⟩⟩ ?_
      simp only [Act.put, List.setIfInBounds_toArray, List.set_cons_succ, List.set_cons_zero]
      refine takeQ 8 (.bool nmk) hg0 rfl (by kernel_rfl) ⟨fun _ => by first | rfl | (go_simp; done), .inl ⟨by kernel_rfl, fun w' hw' => by obtain ⟨z0, z1⟩ := hw'; go_simp⟩⟩ ?_
      simp only [Act.put, List.setIfInBounds_toArray, List.set_cons_succ, List.set_cons_zero]
      refine takeL 9 rfl (by kernel_rfl) ?_
      gi_wp2_with (refine ⟨trivial, ?_⟩; gi_at_call 30; go_must (refine ((callsIn_wide (n := 4)).2 (SP.out wr.drew (below_step HB.out ⟨rfl, rfl, rfl, Nat.le_refl _, fun _ _ => rfl⟩))).mono ?_); rintro e' w2 ⟨rfl, hb2⟩)
      have hb3 : Below wr.heap.size wr w2 := ⟨hb2.os, hb2.tape, hb2.output, hb2.size, hb2.block⟩
      have hx2 := (hb3.block _ (blk_lt HBX.out)).trans HBX.out
      have hg1 : w2.cell? ⟨W.heap.size, 0, none⟩ = some (.int .i64 k) ∧ w2.cell? ⟨W.heap.size, 4, none⟩ = some (.int .i64 (e : Int)) := ⟨blkc hx2 0 rfl, blkc hx2 4 rfl⟩
      have HB2 := Lib.hid (And.intro hx2 (below_step HB.out hb3))
      clear hb2 hb3 hx2 hg0
      refine ⟨fun _ => hg1, ?_⟩
      refine takeL 10 rfl (by kernel_rfl) ?_
      gi_wp2
      refine ⟨by first | exact hg1 | exact fun _ => hg1, doneG (by kernel_rfl) ?_⟩
      obtain ⟨z0, z1⟩ := hg1
      go_wp2_with fail
      go_roundw
      case rel =>
       obtain ⟨h1, h2, h3⟩ := HTS.out
       have hus := HUS.out
       exact ⟨ts1 ++ [u], us, at_ + us_, by rw [h1]; simp, by rw [sizes_app, sizes, sizes]; omega, by go_num, HB2.out.1, HB2.out.2⟩
      case measure => have := HLT.out; simp [intOf]; omega
   | true =>
    clear hkey2
    go_enter Tryz.func30, Tryz.ntmps30
    go_wp2_with fail
    go_quiet (fail)
    go_wp2_with fail
    go_loopw [10] (fun v10 wr => ∃ (ts1 ts2 : List Tr) (at_ : Nat), kids = ts1 ++ ts2 ∧ at_ = i + 1 + sizes ts1 ∧ v10 = .int .i64 (at_ : Int) ∧ wr.heap[W.heap.size]? = some (.cells #[.int .i64 k, .string key, .string ⟨#[]⟩, .int .i64 p, .int .i64 (e : Int)] 47 (0, 0)) ∧ Below W.heap.size W wr)
     (fun v10 _ => e - (intOf v10).toNat)
    case atStart => exact ⟨[], kids, i + 1, rfl, by rw [sizes], by go_num, by rw [HW1.out]; exact HX1.out, by rw [HW1.out]; exact below_step HB1.out ⟨rfl, rfl, rfl, Nat.le_refl _, fun _ _ => rfl⟩⟩
    case round =>
     obtain ⟨ts1, ts2, at_, hts, hat, rfl, hbx, hB⟩ := hrel
     have hE := HE.out
     have c0 : wr.cell? ⟨W.heap.size, 0, none⟩ = some (.int .i64 k) := blkc hbx 0 rfl
     have c4 : wr.cell? ⟨W.heap.size, 4, none⟩ = some (.int .i64 (e : Int)) := blkc hbx 4 rfl
     have hsa : sizes kids = sizes ts1 + sizes ts2 := by rw [hts, sizes_app]
     cases ts2 with
     | nil =>
      rw [sizes] at hsa
      have hae : at_ = e := by omega
      subst hae
      have k9 : decide ((at_ : Int) < (at_ : Int)) = false := decide_eq_false (by omega)
      have HB := Lib.hid hB
      have hge : i ≤ at_ := by omega
      clear hbx hB hts hat hsa hE
      go_wp2_with fail
      go_ret
      rw [show ((at_ - i : Nat) : Int) = (at_ : Int) - (i : Int) by omega]
      exact ⟨rfl, HB.out⟩
     | cons u us =>
      rw [sizes] at hsa
      have hpos := u.size_pos
      have hlt : at_ < e := by omega
      have k9 : decide ((at_ : Int) < (e : Int)) = true := decide_eq_true (by omega)
      have hdu : ∃ r', l.drop at_ = (u.flat (i : Int) at_).map toN ++ r' := by
       have h := HD2.out
       rw [hts, flats_app, List.map_append, List.append_assoc] at h
       refine ⟨(flats (i : Int) (at_ + u.size) us).map toN ++ r, ?_⟩
       rw [hat, ← List.drop_drop, h, List.drop_left' (by rw [List.length_map, flats_len]), flats, List.map_append, List.append_assoc]
      obtain ⟨r', hdu⟩ := hdu
      obtain ⟨ho, hx⟩ := HKX.out u (by rw [hts]; simp)
      have SP := Lib.hid (fun w (h : Below W.heap.size W w) => IH.out u nmk at_ (i : Int) r' e cap (by omega) ho hx (by omega) hdu (by omega) (by omega) (by omega) w (HNN.out.below h))
      have HB := Lib.hid hB
      have HBX := Lib.hid hbx
      have HTS := Lib.hid (And.intro hts (And.intro hat hsa))
      have HLT := Lib.hid hlt
      have g3 : decide (e ≤ cap) = true := decide_eq_true (by omega)
      have g4 : e ≤ cap := by omega
      have g5 : decide ((e : Int) ≤ (cap : Int)) = true := decide_eq_true (by omega)
      obtain ⟨us_, hus⟩ : ∃ z, u.size = z := ⟨_, rfl⟩
      rw [hus] at SP hpos
      have hne : ((us_ : Int) == 0) = false := by rw [beq_eq_false_iff_ne]; omega
      have hne2 : ¬ us_ = 0 := by omega
      have HUS := Lib.hid hus
      have hbd : at_ + us_ ≤ e := by omega
      clear hbx hB hts hat hsa hdu ho hx hus hE
      go_wp2_with fail
      refine (wpIn_wide (n := 5)).1 ?_
      refine region_g (fun w => w.cell? ⟨W.heap.size, 0, none⟩ = some (.int .i64 k) ∧ w.cell? ⟨W.heap.size, 4, none⟩ = some (.int .i64 (e : Int))) (fun _ => true) hmo ?_
      have hg0 : wr.drew.cell? ⟨W.heap.size, 0, none⟩ = some (.int .i64 k) ∧ wr.drew.cell? ⟨W.heap.size, 4, none⟩ = some (.int .i64 (e : Int)) := ⟨c0, c4⟩
      refine takeQ 0 (.slice (some ad) n cap) hg0 rfl (by kernel_rfl) ⟨fun _ => by first | rfl | (go_simp; done), .inl ⟨by kernel_rfl, fun w' hw' => by obtain ⟨z0, z1⟩ := hw'; go_simp⟩⟩ ?_
      simp only [Act.put, List.setIfInBounds_toArray, List.set_cons_succ, List.set_cons_zero]
      refine takeQ 1 (.pointer (some ⟨W.heap.size, 4, none⟩)) hg0 rfl (by kernel_rfl) ⟨fun _ => by first | rfl | (go_simp; done), .inl ⟨by kernel_rfl, fun w' hw' => by obtain ⟨z0, z1⟩ := hw'; go_simp⟩⟩ ?_
      simp only [Act.put, List.setIfInBounds_toArray, List.set_cons_succ, List.set_cons_zero]
      refine takeQ 2 (.int .i64 (e : Int)) hg0 rfl (by kernel_rfl) ⟨fun _ => by first | rfl | (go_simp; done), .inl ⟨by kernel_rfl, fun w' hw' => by obtain ⟨z0, z1⟩ := hw'; go_simp⟩⟩ ?_
      simp only [Act.put, List.setIfInBounds_toArray, List.set_cons_succ, List.set_cons_zero]
      refine takeQ 3 (.slice (some ad) e cap) hg0 rfl (by kernel_rfl) ⟨fun _ => by first | rfl | (go_simp; done), .inl ⟨by kernel_rfl, fun w' hw' => by obtain ⟨z0, z1⟩ := hw'; go_simp⟩⟩ ?_
      simp only [Act.put, List.setIfInBounds_toArray, List.set_cons_succ, List.set_cons_zero]
      refine takeQ 4 (.int .i64 (at_ : Int)) hg0 rfl (by kernel_rfl) ⟨fun _ => by first | rfl | (go_simp; done), .inl ⟨by kernel_rfl, fun w' hw' => by obtain ⟨z0, z1⟩ := hw'; go_simp⟩⟩ ?_
      simp only [Act.put, List.setIfInBounds_toArray, List.set_cons_succ, List.set_cons_zero]
      refine takeQ 5 (.int .i64 (i : Int)) hg0 rfl (by kernel_rfl) ⟨fun _ => by first | rfl | (go_simp; done), .inl ⟨by kernel_rfl, fun w' hw' => by obtain ⟨z0, z1⟩ := hw'; go_simp⟩⟩ ?_
      simp only [Act.put, List.setIfInBounds_toArray, List.set_cons_succ, List.set_cons_zero]
      refine takeQ 6 (.pointer (some ⟨W.heap.size, 0, none⟩)) hg0 rfl (by kernel_rfl) ⟨fun _ => by first | rfl | (go_simp; done), .inl ⟨by kernel_rfl, fun w' hw' => by obtain ⟨z0, z1⟩ := hw'; go_simp⟩⟩ ?_
      simp only [Act.put, List.setIfInBounds_toArray, List.set_cons_succ, List.set_cons_zero]
      refine takeQ 7 (.int .i64 k) hg0 rfl (by kernel_rfl) ⟨fun _ => by first | rfl | (go_simp; done), .inl ⟨by kernel_rfl, fun w' hw' => by obtain ⟨z0, z1⟩ := hw'; go_simp⟩⟩ ?_
      simp only [Act.put, List.setIfInBounds_toArray, List.set_cons_succ, List.set_cons_zero]
      refine takeQ 8 (.bool nmk) hg0 rfl (by kernel_rfl) ⟨fun _ => by first | rfl | (go_simp; done), .inl ⟨by kernel_rfl, fun w' hw' => by obtain ⟨z0, z1⟩ := hw'; go_simp⟩⟩ ?_
      simp only [Act.put, List.setIfInBounds_toArray, List.set_cons_succ, List.set_cons_zero]
      refine takeL 9 rfl (by kernel_rfl) ?_
      gi_wp2_with (refine ⟨trivial, ?_⟩; gi_at_call 30; go_must (refine ((callsIn_wide (n := 4)).2 (SP.out wr.drew (below_step HB.out ⟨rfl, rfl, rfl, Nat.le_refl _, fun _ _ => rfl⟩))).mono ?_); rintro e' w2 ⟨rfl, hb2⟩)
      have hb3 : Below wr.heap.size wr w2 := ⟨hb2.os, hb2.tape, hb2.output, hb2.size, hb2.block⟩
      have hx2 := (hb3.block _ (blk_lt HBX.out)).trans HBX.out
      have hg1 : w2.cell? ⟨W.heap.size, 0, none⟩ = some (.int .i64 k) ∧ w2.cell? ⟨W.heap.size, 4, none⟩ = some (.int .i64 (e : Int)) := ⟨blkc hx2 0 rfl, blkc hx2 4 rfl⟩
      have HB2 := Lib.hid (And.intro hx2 (below_step HB.out hb3))
      clear hb2 hb3 hx2 hg0
      refine ⟨fun _ => hg1, ?_⟩
      refine takeL 10 rfl (by kernel_rfl) ?_
      gi_wp2
      refine ⟨by first | exact hg1 | exact fun _ => hg1, doneG (by kernel_rfl) ?_⟩
      obtain ⟨z0, z1⟩ := hg1
      go_wp2_with fail
      go_roundw
      case rel =>
       obtain ⟨h1, h2, h3⟩ := HTS.out
       have hus := HUS.out
       exact ⟨ts1 ++ [u], us, at_ + us_, by rw [h1]; simp, by rw [sizes_app, sizes, sizes]; omega, by go_num, HB2.out.1, HB2.out.2⟩
      case measure => have := HLT.out; simp [intOf]; omega
def TreeAt (l : List Node) (n i : Nat) (p : Int) (nm : Bool) (k : Nat) : Prop := ∃ t : Tr, t.ok isNumL nm = true ∧ k = t.size ∧ i + k ≤ n ∧ ∃ r, l.drop i = (t.flat p i).map toN ++ r
set_option maxRecDepth 100000 in
theorem span_no (A : Option Addr) (n cap i : Nat) (p : Int) (nm : Bool) (h : n ≤ i) (W : World) : Calls Tryz.prog 30 #[.slice A n cap, .int .i64 (i : Int), .int .i64 p, .bool nm] W fun e w' => e = .returned (.int .i64 0) ∧ Below W.heap.size W w' := by
 have k3 : decide ((n : Int) ≤ (i : Int)) = true := decide_eq_true (by omega)
 have k5 : decide (n ≤ i) = true := decide_eq_true h
 go_enter Tryz.func30, Tryz.ntmps30
 go_wp2_with fail
 go_ret
 exact ⟨rfl, Below.refl _ _⟩
def SpanR (A : Option Addr) (l : List Node) (n i : Nat) (p : Int) (nm : Bool) (cap : Nat) (W : World) : Prop :=
 Calls Tryz.prog 30 #[.slice A n cap, .int .i64 (i : Int), .int .i64 p, .bool nm] W fun e w' => ∃ k : Nat, e = .returned (.int .i64 (k : Int)) ∧ Below W.heap.size W w' ∧ (k = 0 ∨ TreeAt l n i p nm k)
theorem SpanR.zero {A : Option Addr} {l : List Node} {n i : Nat} {p : Int} {nm : Bool} {cap : Nat} {W : World} (h : Calls Tryz.prog 30 #[.slice A n cap, .int .i64 (i : Int), .int .i64 p, .bool nm] W fun e w' => e = .returned (.int .i64 0) ∧ Below W.heap.size W w') : SpanR A l n i p nm cap W :=
 h.mono fun e w' ⟨h1, h2⟩ => ⟨0, h1, h2, .inl rfl⟩
theorem SpanR.leaf {A : Option Addr} {l : List Node} {n i : Nat} {p : Int} {nm : Bool} {cap : Nat} {W : World} (k : Int) (key text : ByteArray) (hi : i < l.length) (hin : i < n) (hli : l[i] = ⟨k, key, text, p, ((i + 1 : Nat) : Int)⟩) (hok : (Tr.mk k key text []).ok isNumL nm = true)
  (h : Calls Tryz.prog 30 #[.slice A n cap, .int .i64 (i : Int), .int .i64 p, .bool nm] W fun e w' => e = .returned (.int .i64 1) ∧ Below W.heap.size W w') : SpanR A l n i p nm cap W :=
 h.mono fun e w' ⟨h1, h2⟩ => ⟨1, h1, h2, .inr ⟨.mk k key text [], hok, by rw [Tr.size, sizes], by omega, l.drop (i + 1), by
  rw [List.drop_eq_getElem_cons hi, hli, Tr.flat, flats, sizes]
  rfl⟩⟩
set_option maxRecDepth 100000 in
set_option maxHeartbeats 4000000 in
theorem span_rel (A : Option Addr) (l : List Node) (hl : l.length ≤ 400000) (htx : ∀ n ∈ l, n.f2.size ≤ 100000) : ∀ (m n i : Nat) (p : Int) (nm : Bool) (cap : Nat), n ≤ l.length → n ≤ cap → n - i ≤ m → ∀ W, N7 W A l n → SpanR A l n i p nm cap W
 | 0, n, i, p, nm, cap, hnl, hnc, hm => fun W hN => .zero (span_no A n cap i p nm (by omega) W)
 | m + 1, n, i, p, nm, cap, hnl, hnc, hm => by
  intro W hN
  rcases Nat.lt_or_ge i n with hin | hin
  rotate_left
  ·exact .zero (span_no A n cap i p nm hin W)
  have hi : i < l.length := by omega
  obtain ⟨⟨k, key, text, pr, en⟩, hli⟩ : ∃ x, l[i] = x := ⟨_, rfl⟩
  have hts : text.size ≤ 100000 := by have := htx l[i] (List.getElem_mem hi); rw [hli] at this; exact this
  have hn4 : n ≤ 400000 := by omega
  by_cases h1 : k < 1
  ·exact .zero (span_k0 A l k key text pr en nm i p n cap hi hli hin hn4 h1 W hN)
  by_cases h2 : 7 < k
  ·exact .zero (span_k8 A l k key text pr en nm i p n cap hi hli hin hn4 h2 W hN)
  have hk : 1 ≤ k ∧ k ≤ 7 := by omega
  by_cases h3 : pr = p
  rotate_left
  ·exact .zero (span_par A l k key text pr en nm i p n cap hi hli hin hn4 hk h3 W hN)
  have hba : ∀ x : ByteArray, x = ⟨#[]⟩ ∨ x ≠ ⟨#[]⟩ := fun x => Classical.em _
  rcases (show (nm = true ∨ key = ⟨#[]⟩) ∨ (nm = false ∧ key ≠ ⟨#[]⟩) by cases nm <;> rcases hba key with h | h <;> simp [h]) with hkey | ⟨hnm, hkey⟩
  rotate_left
  ·exact .zero (span_key A l k key text pr en nm i p n cap hi hli hin hn4 hk h3 hnm hkey W hN)
  have hkb : (nm || key == ⟨#[]⟩) = true := by
   rcases hkey with h | h
   ·rw [h]; rfl
   ·rw [(Go.MapKept.bytes_beq key ⟨#[]⟩).2 h, Bool.or_true]
  have hokL : ∀ ts : List Tr, (if k = 4 then isNumL text else (decide (k = 5) || text == ⟨#[]⟩)) = true → (6 ≤ k ∨ ts = []) → oks isNumL (k == 7) ts = true → (Tr.mk k key text ts).ok isNumL nm = true := fun ts a b c => by
   rw [Tr.ok, c, Bool.and_true]
   unfold okN
   rw [a, hkb, decide_eq_true hk, Bool.and_true, Bool.and_true, Bool.true_and]
   rcases b with b | b
   ·rw [decide_eq_true b]; rfl
   ·rw [b]; simp
  subst h3
  by_cases h4 : k = 4
  ·subst h4
   by_cases h5 : text = ⟨#[]⟩
   ·exact .zero (span_4e A l 4 key text pr en nm i pr n cap hi hli hin hn4 rfl rfl hkey h5 W hN)
   have hpos : 0 < text.size := by
    rcases Nat.eq_zero_or_pos text.size with h | h
    ·exact absurd (ByteArray.ext (Array.eq_empty_of_size_eq_zero h)) h5
    ·exact h
   by_cases h6 : numL text.data.toList = text.size
   rotate_left
   ·exact .zero (span4_bad A l key text nm i pr n cap hi en hli hin hn4 hkey hpos h6 hts W hN)
   have hnum : isNumL text = true := by unfold isNumL; rw [decide_eq_true hpos, h6]; simp
   by_cases h7 : en = (i : Int) + 1
   ·subst h7
    exact .leaf 4 key text hi hin hli (hokL [] (by rw [if_pos rfl]; exact hnum) (.inr rfl) (by rw [oks])) (span7_num A l key text nm i pr n cap hi hli hin hn4 hkey hnum hts W hN)
   ·exact .zero (span4_end A l key text nm i pr n cap hi en hli hin hn4 hkey hnum h7 hts W hN)
  by_cases h5 : k ≠ 5 ∧ text ≠ ⟨#[]⟩
  ·exact .zero (span_text A l k key text pr en nm i pr n cap hi hli hin hn4 hk rfl hkey h4 h5.1 h5.2 W hN)
  have htext : k = 5 ∨ text = ⟨#[]⟩ := by
   by_cases h : k = 5
   ·exact .inl h
   ·rcases hba text with h' | h'
    ·exact .inr h'
    ·exact absurd ⟨h, h'⟩ h5
  have htb : (if k = 4 then isNumL text else (decide (k = 5) || text == ⟨#[]⟩)) = true := by
   rw [if_neg h4]
   rcases htext with h | h
   ·rw [decide_eq_true h]; rfl
   ·rw [(Go.MapKept.bytes_beq text ⟨#[]⟩).2 h, Bool.or_true]
  by_cases h6 : k < 6
  ·by_cases h7 : en = (i : Int) + 1
   ·subst h7
    exact .leaf k key text hi hin hli (hokL [] htb (.inr rfl) (by rw [oks])) (span7_leaf A l k key text nm i pr n cap hi hli hin hn4 (by omega) hkey htext W hN)
   ·exact .zero (span_end A l k key text pr en nm i pr n cap hi hli hin hn4 ⟨by omega, h6⟩ rfl hkey h4 htext h7 W hN)
  have hk67 : 6 ≤ k ∧ k ≤ 7 := by omega
  have htx0 : text = ⟨#[]⟩ := by rcases htext with h | h; omega; exact h
  by_cases h7 : en ≤ (i : Int)
  ·exact .zero (span_e0 A l k key text pr en nm i pr n cap hi hli hin hn4 hk67 rfl hkey htx0 h7 W hN)
  by_cases h8 : (n : Int) < en
  ·exact .zero (span_en A l k key text pr en nm i pr n cap hi hli hin hn4 hk67 rfl hkey htx0 h7 h8 W hN)
  obtain ⟨e, rfl⟩ : ∃ e : Nat, en = (e : Int) := ⟨en.toNat, by omega⟩
  subst htx0
  have IH := Lib.hid (span_rel A l hl htx m)
  obtain ⟨nmk, hnmk⟩ : ∃ b, (k == 7) = b := ⟨_, rfl⟩
  have k7 := hnmk
  have HOK := Lib.hid (fun ts (h : oks isNumL nmk ts = true) => hokL ts htb (.inl hk67.1) (by rw [hnmk]; exact h))
  have HDR := Lib.hid ((List.drop_eq_getElem_cons hi).trans (by rw [hli]))
  obtain ⟨ad, rfl, d0, d1, d2, d3, d4⟩ := hN i hi hin
  rw [hli] at d0 d1 d2 d3 d4
  dsimp only at d0 d1 d2 d3 d4
  have k1 : decide (i < n) = true := decide_eq_true (by omega)
  have k2 : decide ((i : Int) < (n : Int)) = true := decide_eq_true (by omega)
  have k3 : decide ((n : Int) ≤ (i : Int)) = false := decide_eq_false (by omega)
  have k4 : ¬ n ≤ i := by omega
  have e1 : decide (k < 1) = false := decide_eq_false (by omega)
  have e2 : decide (7 < k) = false := decide_eq_false (by omega)
  have e3 : decide (k < 6) = false := decide_eq_false h6
  have e4 : (k == 4) = false := by rw [beq_eq_false_iff_ne]; omega
  have e5 : (k != 4) = true := by rw [bne_iff_ne]; omega
  have e6 : (k != 5) = true := by rw [bne_iff_ne]; omega
  have e7 : decide ((e : Int) ≤ (i : Int)) = false := decide_eq_false (by omega)
  have e8 : decide ((n : Int) < (e : Int)) = false := decide_eq_false (by omega)
  have e9 : ¬ e ≤ i := by omega
  have e10 : ¬ n < e := by omega
  have hie : i < e := by omega
  have hen : e ≤ n := by omega
  have HNN := Lib.hid (hN.less (m := e) (by omega))
  obtain ⟨W1, hW1⟩ : ∃ W1, W.alloc (.cells #[.int .i64 k, .string key, .string ⟨#[]⟩, .int .i64 pr, .int .i64 (e : Int)] 47) = W1 := ⟨_, rfl⟩
  have hb1 : Below W.heap.size W W1 := by rw [← hW1]; exact below_alloc (Below.refl _ _) _
  have hx1 : W1.heap[W.heap.size]? = some (.cells #[.int .i64 k, .string key, .string ⟨#[]⟩, .int .i64 pr, .int .i64 (e : Int)] 47 (0, 0)) := by rw [← hW1]; exact blk_new _ _
  have HB1 := Lib.hid hb1
  have HX1 := Lib.hid hx1
  have HW1 := Lib.hid hW1
  have hmo : Tryz.prog.follows .mixedOrders = true := by kernel_rfl
  have he4 : e ≤ 400000 := by omega
  unfold SpanR
  clear hN hli htb hokL hkb hba htext hts hb1 hx1 hW1 hnmk h5 h4 h7 h8 h1 h2 hk hk67 h6
  cases nm with
  | false =>
   have hke : key = ⟨#[]⟩ := by rcases hkey with h | h <;> first | exact h | cases h
   subst hke
   clear hkey
   go_enter Tryz.func30, Tryz.ntmps30
   go_wp2_with fail
   go_quiet (fail)
   go_wp2_with fail
   go_loopw [10, 11] (fun v10 _ wr => ∃ (ts : List Tr) (at_ : Nat), at_ = i + 1 + sizes ts ∧ at_ ≤ e ∧ oks isNumL nmk ts = true ∧ (∃ r, l.drop (i + 1) = (flats (i : Int) (i + 1) ts).map toN ++ r) ∧ v10 = .int .i64 (at_ : Int) ∧ wr.heap[W.heap.size]? = some (.cells #[.int .i64 k, .string ⟨#[]⟩, .string ⟨#[]⟩, .int .i64 pr, .int .i64 (e : Int)] 47 (0, 0)) ∧ Below W.heap.size W wr)
    (fun v10 _ _ => e - (intOf v10).toNat)
   case atStart => exact ⟨[], i + 1, by rw [sizes], by omega, by rw [oks], ⟨l.drop (i + 1), by rw [flats]; rfl⟩, by go_num, by rw [HW1.out]; exact HX1.out, by rw [HW1.out]; exact below_step HB1.out ⟨rfl, rfl, rfl, Nat.le_refl _, fun _ _ => rfl⟩⟩
   case round =>
    obtain ⟨ts, at_, hat, hae, hok, hfl, rfl, hbx, hB⟩ := hrel
    have c0 : wr.cell? ⟨W.heap.size, 0, none⟩ = some (.int .i64 k) := blkc hbx 0 rfl
    have c4 : wr.cell? ⟨W.heap.size, 4, none⟩ = some (.int .i64 (e : Int)) := blkc hbx 4 rfl
    have HB := Lib.hid hB
    have HBX := Lib.hid hbx
    have HTS := Lib.hid (And.intro hat (And.intro hok hfl))
    by_cases hlt : at_ < e
    ·have k9 : decide ((at_ : Int) < (e : Int)) = true := decide_eq_true (by omega)
     have SP := Lib.hid (fun w (h : Below W.heap.size W w) => IH.out e at_ (i : Int) nmk cap (by omega) (by omega) (by omega) w (HNN.out.below h))
     have HLT := Lib.hid hlt
     have g3 : decide (e ≤ cap) = true := decide_eq_true (by omega)
     have g4 : e ≤ cap := by omega
     have g5 : decide ((e : Int) ≤ (cap : Int)) = true := decide_eq_true (by omega)
     clear hbx hB hat hok hfl
     go_wp2_with fail
     refine (wpIn_wide (n := 5)).1 ?_
     refine region_g (fun w => w.cell? ⟨W.heap.size, 0, none⟩ = some (.int .i64 k) ∧ w.cell? ⟨W.heap.size, 4, none⟩ = some (.int .i64 (e : Int))) (fun _ => true) hmo ?_
     have hg0 : wr.drew.cell? ⟨W.heap.size, 0, none⟩ = some (.int .i64 k) ∧ wr.drew.cell? ⟨W.heap.size, 4, none⟩ = some (.int .i64 (e : Int)) := ⟨c0, c4⟩
     refine takeQ 0 (.slice (some ad) n cap) hg0 rfl (by kernel_rfl) ⟨fun _ => by first | rfl | (go_simp; done), .inl ⟨by kernel_rfl, fun w' hw' => by obtain ⟨z0, z1⟩ := hw'; go_simp⟩⟩ ?_
     simp only [Act.put, List.setIfInBounds_toArray, List.set_cons_succ, List.set_cons_zero]
     refine takeQ 1 (.pointer (some ⟨W.heap.size, 4, none⟩)) hg0 rfl (by kernel_rfl) ⟨fun _ => by first | rfl | (go_simp; done), .inl ⟨by kernel_rfl, fun w' hw' => by obtain ⟨z0, z1⟩ := hw'; go_simp⟩⟩ ?_
     simp only [Act.put, List.setIfInBounds_toArray, List.set_cons_succ, List.set_cons_zero]
     refine takeQ 2 (.int .i64 (e : Int)) hg0 rfl (by kernel_rfl) ⟨fun _ => by first | rfl | (go_simp; done), .inl ⟨by kernel_rfl, fun w' hw' => by obtain ⟨z0, z1⟩ := hw'; go_simp⟩⟩ ?_
     simp only [Act.put, List.setIfInBounds_toArray, List.set_cons_succ, List.set_cons_zero]
     refine takeQ 3 (.slice (some ad) e cap) hg0 rfl (by kernel_rfl) ⟨fun _ => by first | rfl | (go_simp; done), .inl ⟨by kernel_rfl, fun w' hw' => by obtain ⟨z0, z1⟩ := hw'; go_simp⟩⟩ ?_
     simp only [Act.put, List.setIfInBounds_toArray, List.set_cons_succ, List.set_cons_zero]
     refine takeQ 4 (.int .i64 (at_ : Int)) hg0 rfl (by kernel_rfl) ⟨fun _ => by first | rfl | (go_simp; done), .inl ⟨by kernel_rfl, fun w' hw' => by obtain ⟨z0, z1⟩ := hw'; go_simp⟩⟩ ?_
     simp only [Act.put, List.setIfInBounds_toArray, List.set_cons_succ, List.set_cons_zero]
     refine takeQ 5 (.int .i64 (i : Int)) hg0 rfl (by kernel_rfl) ⟨fun _ => by first | rfl | (go_simp; done), .inl ⟨by kernel_rfl, fun w' hw' => by obtain ⟨z0, z1⟩ := hw'; go_simp⟩⟩ ?_
     simp only [Act.put, List.setIfInBounds_toArray, List.set_cons_succ, List.set_cons_zero]
     refine takeQ 6 (.pointer (some ⟨W.heap.size, 0, none⟩)) hg0 rfl (by kernel_rfl) ⟨fun _ => by first | rfl | (go_simp; done), .inl ⟨by kernel_rfl, fun w' hw' => by obtain ⟨z0, z1⟩ := hw'; go_simp⟩⟩ ?_
     simp only [Act.put, List.setIfInBounds_toArray, List.set_cons_succ, List.set_cons_zero]
     refine takeQ 7 (.int .i64 k) hg0 rfl (by kernel_rfl) ⟨fun _ => by first | rfl | (go_simp; done), .inl ⟨by kernel_rfl, fun w' hw' => by obtain ⟨z0, z1⟩ := hw'; go_simp⟩⟩ ?_
     simp only [Act.put, List.setIfInBounds_toArray, List.set_cons_succ, List.set_cons_zero]
     refine takeQ 8 (.bool nmk) hg0 rfl (by kernel_rfl) ⟨fun _ => by first | rfl | (go_simp; done), .inl ⟨by kernel_rfl, fun w' hw' => by obtain ⟨z0, z1⟩ := hw'; go_simp⟩⟩ ?_
     simp only [Act.put, List.setIfInBounds_toArray, List.set_cons_succ, List.set_cons_zero]
     refine takeL 9 rfl (by kernel_rfl) ?_
     gi_wp2_with (refine ⟨trivial, ?_⟩; gi_at_call 30; go_must (refine ((callsIn_wide (n := 4)).2 (SP.out wr.drew (below_step HB.out ⟨rfl, rfl, rfl, Nat.le_refl _, fun _ _ => rfl⟩))).mono ?_); rintro e' w2 ⟨us_, rfl, hb2, hT⟩)
     have hb3 : Below wr.heap.size wr w2 := ⟨hb2.os, hb2.tape, hb2.output, hb2.size, hb2.block⟩
     have hx2 := (hb3.block _ (blk_lt HBX.out)).trans HBX.out
     have hg1 : w2.cell? ⟨W.heap.size, 0, none⟩ = some (.int .i64 k) ∧ w2.cell? ⟨W.heap.size, 4, none⟩ = some (.int .i64 (e : Int)) := ⟨blkc hx2 0 rfl, blkc hx2 4 rfl⟩
     have HB2 := Lib.hid (And.intro hx2 (below_step HB.out hb3))
     have HT := Lib.hid hT
     clear hb2 hb3 hx2 hg0 hT
     refine ⟨fun _ => hg1, ?_⟩
     refine takeL 10 rfl (by kernel_rfl) ?_
     gi_wp2
     refine ⟨by first | exact hg1 | exact fun _ => hg1, doneG (by kernel_rfl) ?_⟩
     obtain ⟨z0, z1⟩ := hg1
     by_cases hz : us_ = 0
     ·subst hz
      go_wp2_with fail
      go_ret
      exact ⟨0, rfl, HB2.out.2, .inl rfl⟩
     ·have hne : ((us_ : Int) == 0) = false := by rw [beq_eq_false_iff_ne]; omega
      have hbd : at_ + us_ ≤ e := by
       rcases HT.out with h | ⟨_, _, _, h, _⟩
       ·exact absurd h hz
       ·exact h
      have hkw : IntKind.i64.wrap ((at_ : Int) + (us_ : Int)) = (at_ : Int) + (us_ : Int) := wrap_id _ (by omega) (by omega)
      go_wp2_with fail
      go_roundw
      case rel =>
       obtain ⟨h1, h2, h3⟩ := HTS.out
       obtain ⟨u, hu1, hu2, hu3, ru, hu4⟩ := HT.out.resolve_left hz
       obtain ⟨r, h3⟩ := h3
       refine ⟨ts ++ [u], at_ + us_, by rw [sizes_app, sizes, sizes]; omega, hbd, ?_, ⟨ru, ?_⟩, by go_num, HB2.out.1, HB2.out.2⟩
       ·rw [oks_app, h2, oks, oks, hu1]; rfl
       ·have e1 : l.drop at_ = r := by rw [h1, ← List.drop_drop, h3, List.drop_left' (by rw [List.length_map, flats_len])]
        rw [flats_app, List.map_append, List.append_assoc, flats, flats, List.append_nil, h3, ← e1, hu4, h1]
      case measure => have := HLT.out; simp [intOf]; omega
    ·have hae2 : at_ = e := by omega
     subst hae2
     have k9 : decide ((at_ : Int) < (at_ : Int)) = false := decide_eq_false (by omega)
     clear hbx hB hat hok hfl
     go_wp2_with fail
     go_ret
     obtain ⟨h1, h2, r, h3⟩ := HTS.out
     refine ⟨at_ - i, ?_, HB.out, .inr ⟨.mk k ⟨#[]⟩ ⟨#[]⟩ ts, HOK.out ts h2, ?_, by omega, r, ?_⟩⟩
     ·rw [show ((at_ - i : Nat) : Int) = (at_ : Int) - (i : Int) by omega]; rfl
     ·rw [Tr.size]; omega
     ·rw [Tr.flat, List.map_cons, List.cons_append, ← h3, HDR.out]
      congr 1
      unfold toN
      dsimp only
      rw [← h1]
  | true =>
   clear hkey
   go_enter Tryz.func30, Tryz.ntmps30
   go_wp2_with fail
   go_quiet (fail)
   go_wp2_with fail
   go_loopw [10, 11] (fun v10 _ wr => ∃ (ts : List Tr) (at_ : Nat), at_ = i + 1 + sizes ts ∧ at_ ≤ e ∧ oks isNumL nmk ts = true ∧ (∃ r, l.drop (i + 1) = (flats (i : Int) (i + 1) ts).map toN ++ r) ∧ v10 = .int .i64 (at_ : Int) ∧ wr.heap[W.heap.size]? = some (.cells #[.int .i64 k, .string key, .string ⟨#[]⟩, .int .i64 pr, .int .i64 (e : Int)] 47 (0, 0)) ∧ Below W.heap.size W wr)
    (fun v10 _ _ => e - (intOf v10).toNat)
   case atStart => exact ⟨[], i + 1, by rw [sizes], by omega, by rw [oks], ⟨l.drop (i + 1), by rw [flats]; rfl⟩, by go_num, by rw [HW1.out]; exact HX1.out, by rw [HW1.out]; exact below_step HB1.out ⟨rfl, rfl, rfl, Nat.le_refl _, fun _ _ => rfl⟩⟩
   case round =>
    obtain ⟨ts, at_, hat, hae, hok, hfl, rfl, hbx, hB⟩ := hrel
    have c0 : wr.cell? ⟨W.heap.size, 0, none⟩ = some (.int .i64 k) := blkc hbx 0 rfl
    have c4 : wr.cell? ⟨W.heap.size, 4, none⟩ = some (.int .i64 (e : Int)) := blkc hbx 4 rfl
    have HB := Lib.hid hB
    have HBX := Lib.hid hbx
    have HTS := Lib.hid (And.intro hat (And.intro hok hfl))
    by_cases hlt : at_ < e
    ·have k9 : decide ((at_ : Int) < (e : Int)) = true := decide_eq_true (by omega)
     have SP := Lib.hid (fun w (h : Below W.heap.size W w) => IH.out e at_ (i : Int) nmk cap (by omega) (by omega) (by omega) w (HNN.out.below h))
     have HLT := Lib.hid hlt
     have g3 : decide (e ≤ cap) = true := decide_eq_true (by omega)
     have g4 : e ≤ cap := by omega
     have g5 : decide ((e : Int) ≤ (cap : Int)) = true := decide_eq_true (by omega)
     clear hbx hB hat hok hfl
     go_wp2_with fail
     refine (wpIn_wide (n := 5)).1 ?_
     refine region_g (fun w => w.cell? ⟨W.heap.size, 0, none⟩ = some (.int .i64 k) ∧ w.cell? ⟨W.heap.size, 4, none⟩ = some (.int .i64 (e : Int))) (fun _ => true) hmo ?_
     have hg0 : wr.drew.cell? ⟨W.heap.size, 0, none⟩ = some (.int .i64 k) ∧ wr.drew.cell? ⟨W.heap.size, 4, none⟩ = some (.int .i64 (e : Int)) := ⟨c0, c4⟩
     refine takeQ 0 (.slice (some ad) n cap) hg0 rfl (by kernel_rfl) ⟨fun _ => by first | rfl | (go_simp; done), .inl ⟨by kernel_rfl, fun w' hw' => by obtain ⟨z0, z1⟩ := hw'; go_simp⟩⟩ ?_
     simp only [Act.put, List.setIfInBounds_toArray, List.set_cons_succ, List.set_cons_zero]
     refine takeQ 1 (.pointer (some ⟨W.heap.size, 4, none⟩)) hg0 rfl (by kernel_rfl) ⟨fun _ => by first | rfl | (go_simp; done), .inl ⟨by kernel_rfl, fun w' hw' => by obtain ⟨z0, z1⟩ := hw'; go_simp⟩⟩ ?_
     simp only [Act.put, List.setIfInBounds_toArray, List.set_cons_succ, List.set_cons_zero]
     refine takeQ 2 (.int .i64 (e : Int)) hg0 rfl (by kernel_rfl) ⟨fun _ => by first | rfl | (go_simp; done), .inl ⟨by kernel_rfl, fun w' hw' => by obtain ⟨z0, z1⟩ := hw'; go_simp⟩⟩ ?_
     simp only [Act.put, List.setIfInBounds_toArray, List.set_cons_succ, List.set_cons_zero]
     refine takeQ 3 (.slice (some ad) e cap) hg0 rfl (by kernel_rfl) ⟨fun _ => by first | rfl | (go_simp; done), .inl ⟨by kernel_rfl, fun w' hw' => by obtain ⟨z0, z1⟩ := hw'; go_simp⟩⟩ ?_
     simp only [Act.put, List.setIfInBounds_toArray, List.set_cons_succ, List.set_cons_zero]
     refine takeQ 4 (.int .i64 (at_ : Int)) hg0 rfl (by kernel_rfl) ⟨fun _ => by first | rfl | (go_simp; done), .inl ⟨by kernel_rfl, fun w' hw' => by obtain ⟨z0, z1⟩ := hw'; go_simp⟩⟩ ?_
     simp only [Act.put, List.setIfInBounds_toArray, List.set_cons_succ, List.set_cons_zero]
     refine takeQ 5 (.int .i64 (i : Int)) hg0 rfl (by kernel_rfl) ⟨fun _ => by first | rfl | (go_simp; done), .inl ⟨by kernel_rfl, fun w' hw' => by obtain ⟨z0, z1⟩ := hw'; go_simp⟩⟩ ?_
     simp only [Act.put, List.setIfInBounds_toArray, List.set_cons_succ, List.set_cons_zero]
     refine takeQ 6 (.pointer (some ⟨W.heap.size, 0, none⟩)) hg0 rfl (by kernel_rfl) ⟨fun _ => by first | rfl | (go_simp; done), .inl ⟨by kernel_rfl, fun w' hw' => by obtain ⟨z0, z1⟩ := hw'; go_simp⟩⟩ ?_
     simp only [Act.put, List.setIfInBounds_toArray, List.set_cons_succ, List.set_cons_zero]
     refine takeQ 7 (.int .i64 k) hg0 rfl (by kernel_rfl) ⟨fun _ => by first | rfl | (go_simp; done), .inl ⟨by kernel_rfl, fun w' hw' => by obtain ⟨z0, z1⟩ := hw'; go_simp⟩⟩ ?_
     simp only [Act.put, List.setIfInBounds_toArray, List.set_cons_succ, List.set_cons_zero]
     refine takeQ 8 (.bool nmk) hg0 rfl (by kernel_rfl) ⟨fun _ => by first | rfl | (go_simp; done), .inl ⟨by kernel_rfl, fun w' hw' => by obtain ⟨z0, z1⟩ := hw'; go_simp⟩⟩ ?_
     simp only [Act.put, List.setIfInBounds_toArray, List.set_cons_succ, List.set_cons_zero]
     refine takeL 9 rfl (by kernel_rfl) ?_
     gi_wp2_with (refine ⟨trivial, ?_⟩; gi_at_call 30; go_must (refine ((callsIn_wide (n := 4)).2 (SP.out wr.drew (below_step HB.out ⟨rfl, rfl, rfl, Nat.le_refl _, fun _ _ => rfl⟩))).mono ?_); rintro e' w2 ⟨us_, rfl, hb2, hT⟩)
     have hb3 : Below wr.heap.size wr w2 := ⟨hb2.os, hb2.tape, hb2.output, hb2.size, hb2.block⟩
     have hx2 := (hb3.block _ (blk_lt HBX.out)).trans HBX.out
     have hg1 : w2.cell? ⟨W.heap.size, 0, none⟩ = some (.int .i64 k) ∧ w2.cell? ⟨W.heap.size, 4, none⟩ = some (.int .i64 (e : Int)) := ⟨blkc hx2 0 rfl, blkc hx2 4 rfl⟩
     have HB2 := Lib.hid (And.intro hx2 (below_step HB.out hb3))
     have HT := Lib.hid hT
     clear hb2 hb3 hx2 hg0 hT
     refine ⟨fun _ => hg1, ?_⟩
     refine takeL 10 rfl (by kernel_rfl) ?_
     gi_wp2
     refine ⟨by first | exact hg1 | exact fun _ => hg1, doneG (by kernel_rfl) ?_⟩
     obtain ⟨z0, z1⟩ := hg1
     by_cases hz : us_ = 0
     ·subst hz
      go_wp2_with fail
      go_ret
      exact ⟨0, rfl, HB2.out.2, .inl rfl⟩
     ·have hne : ((us_ : Int) == 0) = false := by rw [beq_eq_false_iff_ne]; omega
      have hbd : at_ + us_ ≤ e := by
       rcases HT.out with h | ⟨_, _, _, h, _⟩
       ·exact absurd h hz
       ·exact h
      have hkw : IntKind.i64.wrap ((at_ : Int) + (us_ : Int)) = (at_ : Int) + (us_ : Int) := wrap_id _ (by omega) (by omega)
      go_wp2_with fail
      go_roundw
      case rel =>
       obtain ⟨h1, h2, h3⟩ := HTS.out
       obtain ⟨u, hu1, hu2, hu3, ru, hu4⟩ := HT.out.resolve_left hz
       obtain ⟨r, h3⟩ := h3
       refine ⟨ts ++ [u], at_ + us_, by rw [sizes_app, sizes, sizes]; omega, hbd, ?_, ⟨ru, ?_⟩, by go_num, HB2.out.1, HB2.out.2⟩
       ·rw [oks_app, h2, oks, oks, hu1]; rfl
       ·have e1 : l.drop at_ = r := by rw [h1, ← List.drop_drop, h3, List.drop_left' (by rw [List.length_map, flats_len])]
        rw [flats_app, List.map_append, List.append_assoc, flats, flats, List.append_nil, h3, ← e1, hu4, h1]
      case measure => have := HLT.out; simp [intOf]; omega
    ·have hae2 : at_ = e := by omega
     subst hae2
     have k9 : decide ((at_ : Int) < (at_ : Int)) = false := decide_eq_false (by omega)
     clear hbx hB hat hok hfl
     go_wp2_with fail
     go_ret
     obtain ⟨h1, h2, r, h3⟩ := HTS.out
     refine ⟨at_ - i, ?_, HB.out, .inr ⟨.mk k key ⟨#[]⟩ ts, HOK.out ts h2, ?_, by omega, r, ?_⟩⟩
     ·rw [show ((at_ - i : Nat) : Int) = (at_ : Int) - (i : Int) by omega]; rfl
     ·rw [Tr.size]; omega
     ·rw [Tr.flat, List.map_cons, List.cons_append, ← h3, HDR.out]
      congr 1
      unfold toN
      dsimp only
      rw [← h1]
theorem tx_rows {t : Tr} {m : Nat} (h : ∀ n ∈ rowT t, n.f1.size ≤ m ∧ n.f2.size ≤ m) : t.tx (fun b => decide (b.size ≤ m)) = true := by
 rw [← flat_tx _ t (-1) 0, List.all_eq_true]
 intro n hn
 have := h (toN n) (by unfold rowT; exact List.mem_map_of_mem hn)
 rw [Bool.and_eq_true]
 exact ⟨decide_eq_true this.1, decide_eq_true this.2⟩
set_option maxRecDepth 100000 in
set_option maxHeartbeats 4000000 in
theorem check7_none (A : Option Addr) (c : Nat) (W : World) : Calls Tryz.prog 17 #[.slice A 0 c] W fun e w' => e = .returned (.int .i64 4) ∧ Below W.heap.size W w' := by
 go_enter Tryz.func17, Tryz.ntmps17
 go_wp2_with fail
 go_ret
 exact ⟨rfl, Below.refl _ _⟩
set_option maxRecDepth 100000 in
set_option maxHeartbeats 4000000 in
theorem check7_bad (A : Option Addr) (c n : Nat) (h0 : 0 < n) (hn : n ≤ 400000) (W : World)
  (SP : Hid (Calls Tryz.prog 30 #[.slice A n c, .int .i64 0, .int .i64 (-1), .bool false] W fun e w' => ∃ k : Nat, k ≠ n ∧ e = .returned (.int .i64 (k : Int)) ∧ Below W.heap.size W w')) :
  Calls Tryz.prog 17 #[.slice A n c] W fun e w' => e = .returned (.int .i64 4) ∧ Below W.heap.size W w' := by
 have k1 : ((n : Int) == 0) = false := by rw [beq_eq_false_iff_ne]; omega
 have k2 : (n == 0) = false := by rw [beq_eq_false_iff_ne]; omega
 have k3 : ¬ n = 0 := by omega
 clear h0
 go_enter Tryz.func17, Tryz.ntmps17
 go_wp2_with (go_at_call 30; go_must (refine SP.out.mono ?_); rintro e w1 ⟨k, hk, rfl, hb⟩; have B1 := Lib.hid hb; have k4 : ((k : Int) == (n : Int)) = false := (by rw [beq_eq_false_iff_ne]; omega); have k5 : (k == n) = false := (by rw [beq_eq_false_iff_ne]; omega); have k6 : ¬ k = n := hk; clear hb hk hn)
 go_ret
 exact ⟨rfl, B1.out⟩
theorem check7_any (A : Option Addr) (c : Nat) (l : List Node) (hl : l.length ≤ 400000) (hlc : l.length ≤ c) (htx : ∀ n ∈ l, n.f1.size ≤ 100000 ∧ n.f2.size ≤ 100000) (W : World) (hN : N7 W A l l.length) :
  Calls Tryz.prog 17 #[.slice A l.length c] W fun e w' => e = .returned (.int .i64 (chkP l)) ∧ Below W.heap.size W w' := by
 by_cases hlaid : laidP isNumL (l.map toD) = true
 ·obtain ⟨t, hok, rfl⟩ := laid_tree_of hlaid
  have hsz := rowT_len t
  exact check7_laid A c (rowT t) hl (by have := t.size_pos; omega) (fun n hn => by have := htx n hn; omega) (par_tree t) hlaid (fun W hN => by
   have h := span7_at A (rowT t) hl t.size t false 0 (-1) [] (rowT t).length c (Nat.le_refl _) hok (tx_rows htx) (by omega) (rowT_drop t) (by omega) (Nat.le_refl _) hlc W hN
   rw [← hsz] at h
   exact h) W hN
 ·have h4 : chkP l = 4 := by unfold chkP; rw [if_neg hlaid]
  rw [h4]
  by_cases h0 : l.length = 0
  ·rw [h0]; exact check7_none A c W
  ·have h := span_rel A l hl (fun n hn => (htx n hn).2) l.length l.length 0 (-1) false c (Nat.le_refl _) hlc (by omega) W hN
   unfold SpanR at h
   refine check7_bad A c l.length (by omega) hl W (Lib.hid (h.mono ?_))
   rintro e w1 ⟨k, h1, h2, h3⟩
   refine ⟨k, ?_, h1, h2⟩
   rintro rfl
   rcases h3 with h3 | ⟨t, hok, hs, _, r, hr⟩
   ·omega
   ·have hr0 : r = [] := by
     have := congrArg List.length hr
     rw [List.length_drop, List.length_append, List.length_map, Tr.flat_len, ← hs] at this
     exact List.length_eq_zero_iff.1 (by omega)
    subst hr0
    rw [List.drop_zero, List.append_nil] at hr
    exact hlaid (by rw [show l = rowT t from hr]; exact tree_laid t hok)
end Go.Proofs.YtfocognhcljhpaaGreatDoor
