/- Texts taken together, trimmed. -/
import Derived.Test.YtfocognhcljhpaaGreatDoorR1
import Derived.Test.YtfocognhcljhpaaGreatDoorR2
import Derived.Test.YtfocognhcljhpaaGreatDoorR3
import Derived.Sort.QuietIn
import Derived.Lib.QuietBelowIn
import Derived.Shelf.Abstract
import Derived.Shelf.RegionOpen
import Derived.OwnWalkIn
import Derived.TacticsInMore
import Derived.LoopNIn
import Derived.LoopIn
import Derived.Test.YtfocognhcljhpaaGreatDoorProg
import Derived.Shelf.SlSortCmp.Whole1
import Derived.Laws.Cover1
import Derived.Sort.LotA
set_option linter.unusedVariables false
set_option linter.unusedSimpArgs false
namespace Go.Proofs.YtfocognhcljhpaaGreatDoor
open Go.RowKit Go.Proofs.YtfocognhcljhpaaGreatDoorW.PrintWords Go.Proofs.YtfocognhcljhpaaGreatDoor.Tree
def leadV (c : Int) : Int × Int := if c < 128 then (1, c) else if 192 ≤ c ∧ c < 224 then (2, c % 32) else if 224 ≤ c ∧ c < 240 then (3, c % 16) else if 240 ≤ c ∧ c < 248 then (4, c % 8) else (0, 0)
set_option maxRecDepth 100000 in
set_option maxHeartbeats 1000000 in
theorem lead_any (c : Int) (h0 : 0 ≤ c) (h1 : c < 256) (w : World) :
  Calls Tryz.prog 140 #[.int .u8 c] w fun e w' => e = .returned (.tuple #[.int .i64 (leadV c).1, .int .i32 (leadV c).2]) ∧ w' = w := by
 go_enter Tryz.func140, Tryz.ntmps140
 go_wp2
 all_goals
  go_ret2
  refine ⟨?_, rfl⟩
  unfold leadV
  repeat (first | rw [if_pos (by omega)] | rw [if_neg (by omega)])
  try rfl
def pointV (r : Int) : Bool := decide (0 ≤ r ∧ r ≤ 1114111 ∧ (r < 55296 ∨ 57343 < r))
def sizeV (r : Int) : Int := if r < 128 then 1 else if r < 2048 then 2 else if r < 65536 then 3 else 4
theorem point_f (r : Int) : PRef.utf_point.f r = some (pointV r) := by
 unfold PRef.utf_point.f pointV
 repeat' split
 all_goals (congr 1; rw [Bool.eq_iff_iff]; simp; try omega)
theorem size_f (r : Int) : PRef.utf_size.f r = some (sizeV r) := by
 unfold PRef.utf_size.f sizeV
 repeat' split
 all_goals rfl
theorem point_any (r : Int) (w : World) : Calls Tryz.prog 141 #[.int .i32 r] w fun e w' => e = .returned (.bool (pointV r)) ∧ Drawn0 w w' := PRef.utf_point.calls r _ w (point_f r)
theorem size_any (r : Int) (w : World) : Calls Tryz.prog 107 #[.int .i32 r] w fun e w' => e = .returned (.int .i64 (sizeV r)) ∧ Drawn0 w w' := PRef.utf_size.calls r _ w (size_f r)
def accV (r0 : Int) (l : List Int) : Nat → Int
 | 0 => r0
 | 1 => r0
 | k + 2 => accV r0 l (k + 1) * 64 + (l.getD (k + 1) 0) % 64
theorem accV_le (r0 : Int) (l : List Int) (h : 0 ≤ r0 ∧ r0 < 128) (k : Nat) (hk : k ≤ 4) : 0 ≤ accV r0 l k ∧ accV r0 l k < 33554432 ∧ (k < 4 → accV r0 l k < 1048576) := by
 match k, hk with
 | 0, _ => simp only [accV]; omega
 | 1, _ => simp only [accV]; omega
 | 2, _ => simp only [accV]; omega
 | 3, _ => simp only [accV]; omega
 | 4, _ => simp only [accV]; omega
def firstV (l : Bs) : Int × Int := match Utf.firstI (ints l) with | none => (0, 0) | some p => (p.1, (p.2 : Int))
theorem leadV_r (c : Int) (h0 : 0 ≤ c) (h1 : c < 256) : 0 ≤ (leadV c).2 ∧ (leadV c).2 < 128 := by
 unfold leadV
 repeat' split
 all_goals (dsimp only; omega)
theorem first_broken (l : List Int) (n : Nat) (r0 : Int) (a : Int) (t : List Int) (hl : l = a :: t) (ha : 0 ≤ a ∧ a < 256) (hL : leadV a = ((n : Int), r0)) (k : Nat) (hk1 : 1 ≤ k) (hkn : k < n) (b : Int) (hb : l[k]? = some b) (hno : ¬ (128 ≤ b ∧ b < 192)) : Utf.firstI l = none := by
 subst hl
 unfold leadV at hL
 unfold Utf.firstI
 dsimp only
 by_cases h1 : a < 128
 ·rw [if_pos h1] at hL; simp at hL; omega
 ·rw [if_neg h1] at hL ⊢
  by_cases h2 : 192 ≤ a ∧ a < 224
  ·rw [if_pos h2] at hL ⊢
   have : n = 2 := by simp at hL; omega
   subst this
   obtain rfl : k = 1 := by omega
   match t, hb with
   | [], _ => rfl
   | b' :: _, hb => simp at hb; subst hb; dsimp only; rw [if_neg (by omega)]
  ·rw [if_neg h2] at hL ⊢
   by_cases h3 : 224 ≤ a ∧ a < 240
   ·rw [if_pos h3] at hL ⊢
    have : n = 3 := by simp at hL; omega
    subst this
    match t, hb with
    | [], _ => rfl
    | [_], _ => rfl
    | b1 :: b2 :: _, hb =>
     dsimp only
     rcases (show k = 1 ∨ k = 2 by omega) with rfl | rfl
     ·simp at hb; subst hb; rw [if_neg (by omega)]
     ·simp at hb; subst hb; rw [if_neg (by omega)]
   ·rw [if_neg h3] at hL ⊢
    by_cases h4 : 240 ≤ a ∧ a < 248
    ·rw [if_pos h4] at hL ⊢
     have : n = 4 := by simp at hL; omega
     subst this
     match t, hb with
     | [], _ => rfl
     | [_], _ => rfl
     | [_, _], _ => rfl
     | b1 :: b2 :: b3 :: _, hb =>
      dsimp only
      rcases (show k = 1 ∨ k = 2 ∨ k = 3 by omega) with rfl | rfl | rfl
      ·simp at hb; subst hb; rw [if_neg (by omega)]
      ·simp at hb; subst hb; rw [if_neg (by omega)]
      ·simp at hb; subst hb; rw [if_neg (by omega)]
    ·rw [if_neg h4]
theorem first_whole (l : List Int) (n : Nat) (r0 : Int) (a : Int) (t : List Int) (hl : l = a :: t) (ha : 0 ≤ a ∧ a < 256) (hn : 1 ≤ n) (hL : leadV a = ((n : Int), r0)) (hlen : n ≤ l.length)
  (hall : ∀ k, 1 ≤ k → k < n → ∃ b, l[k]? = some b ∧ 128 ≤ b ∧ b < 192) :
  Utf.firstI l = if pointV (accV r0 l n) = true ∧ sizeV (accV r0 l n) = (n : Int) then some (accV r0 l n, n) else none := by
 subst hl
 unfold leadV at hL
 unfold Utf.firstI
 dsimp only
 by_cases h1 : a < 128
 ·rw [if_pos h1] at hL ⊢
  obtain ⟨rfl, rfl⟩ : n = 1 ∧ r0 = a := by simp at hL; omega
  simp only [accV]
  have hps : pointV r0 = true ∧ sizeV r0 = ((1 : Nat) : Int) := ⟨by unfold pointV; simp; omega, by unfold sizeV; rw [if_pos h1]; rfl⟩
  exact (if_pos hps).symm
 ·rw [if_neg h1] at hL ⊢
  by_cases h2 : 192 ≤ a ∧ a < 224
  ·rw [if_pos h2] at hL ⊢
   obtain ⟨rfl, rfl⟩ : n = 2 ∧ r0 = a % 32 := by simp at hL; omega
   obtain ⟨b, hb, hb1, hb2⟩ := hall 1 (by omega) (by omega)
   match t, hb with
   | b' :: t, hb =>
    simp at hb
    subst hb
    simp only [accV]
    simp only [List.getD_cons_succ, List.getD_cons_zero]
    have e : a % 32 * 64 + b' % 64 = Utf.p2 a b' := by unfold Utf.p2; omega
    rw [e]
    have e2 : Utf.p2 a b' < 2048 ∧ 0 ≤ Utf.p2 a b' := by unfold Utf.p2; omega
    generalize Utf.p2 a b' = r at e2
    by_cases g : 128 ≤ r
    ·rw [if_pos ⟨⟨hb1, hb2⟩, g⟩, if_pos]
     refine ⟨by unfold pointV; simp; omega, by unfold sizeV; rw [if_neg (by omega), if_pos (by omega)]; rfl⟩
    ·rw [if_neg (fun h => g h.2), if_neg]
     rintro ⟨_, h⟩
     unfold sizeV at h
     rw [if_pos (by omega)] at h
     simp at h
  ·rw [if_neg h2] at hL ⊢
   by_cases h3 : 224 ≤ a ∧ a < 240
   ·rw [if_pos h3] at hL ⊢
    obtain ⟨rfl, rfl⟩ : n = 3 ∧ r0 = a % 16 := by simp at hL; omega
    obtain ⟨b, hb, hb1, hb2⟩ := hall 1 (by omega) (by omega)
    obtain ⟨c, hc, hc1, hc2⟩ := hall 2 (by omega) (by omega)
    match t, hb, hc with
    | b' :: c' :: t, hb, hc =>
     simp at hb hc
     subst hb hc
     simp only [accV]
     simp only [List.getD_cons_succ, List.getD_cons_zero]
     have e : (a % 16 * 64 + b' % 64) * 64 + c' % 64 = Utf.p3 a b' c' := by unfold Utf.p3; omega
     rw [e]
     have e2 : Utf.p3 a b' c' < 65536 ∧ 0 ≤ Utf.p3 a b' c' := by unfold Utf.p3; omega
     generalize Utf.p3 a b' c' = r at e2
     by_cases g : 2048 ≤ r ∧ (r < 55296 ∨ 57343 < r)
     ·rw [if_pos ⟨⟨hb1, hb2⟩, ⟨hc1, hc2⟩, g⟩, if_pos]
      refine ⟨by unfold pointV; simp; omega, by unfold sizeV; rw [if_neg (by omega), if_neg (by omega), if_pos (by omega)]; rfl⟩
     ·rw [if_neg (fun h => g h.2.2), if_neg]
      rintro ⟨h1, h⟩
      unfold pointV at h1
      simp at h1
      unfold sizeV at h
      by_cases k1 : r < 128
      ·rw [if_pos k1] at h; simp at h
      ·rw [if_neg k1, if_pos (by omega)] at h; simp at h
   ·rw [if_neg h3] at hL ⊢
    by_cases h4 : 240 ≤ a ∧ a < 248
    ·rw [if_pos h4] at hL ⊢
     obtain ⟨rfl, rfl⟩ : n = 4 ∧ r0 = a % 8 := by simp at hL; omega
     obtain ⟨b, hb, hb1, hb2⟩ := hall 1 (by omega) (by omega)
     obtain ⟨c, hc, hc1, hc2⟩ := hall 2 (by omega) (by omega)
     obtain ⟨d, hd, hd1, hd2⟩ := hall 3 (by omega) (by omega)
     match t, hb, hc, hd with
     | b' :: c' :: d' :: t, hb, hc, hd =>
      simp at hb hc hd
      subst hb hc hd
      simp only [accV]
      simp only [List.getD_cons_succ, List.getD_cons_zero]
      have e : ((a % 8 * 64 + b' % 64) * 64 + c' % 64) * 64 + d' % 64 = Utf.p4 a b' c' d' := by unfold Utf.p4; omega
      rw [e]
      have e2 : 0 ≤ Utf.p4 a b' c' d' := by unfold Utf.p4; omega
      generalize Utf.p4 a b' c' d' = r at e2
      by_cases g : 65536 ≤ r ∧ r ≤ 1114111
      ·rw [if_pos ⟨⟨hb1, hb2⟩, ⟨hc1, hc2⟩, ⟨hd1, hd2⟩, g⟩, if_pos]
       refine ⟨by unfold pointV; simp; omega, by unfold sizeV; rw [if_neg (by omega), if_neg (by omega), if_neg (by omega)]; rfl⟩
      ·rw [if_neg (fun h => g h.2.2.2), if_neg]
       rintro ⟨h1, h⟩
       unfold pointV at h1
       simp at h1
       unfold sizeV at h
       by_cases k1 : r < 128
       ·rw [if_pos k1] at h; simp at h
       ·rw [if_neg k1] at h
        by_cases k2 : r < 2048
        ·rw [if_pos k2] at h; simp at h
        ·rw [if_neg k2, if_pos (by omega)] at h; simp at h
    ·rw [if_neg h4] at hL; simp at hL; omega
set_option maxRecDepth 100000 in
theorem andNot63 (c : Nat) (h : c < 256) : (Go.bits .andNot .u8 (c : Int) 63 != 128) = !(c / 64 == 2) := by
 have h : ∀ y : Fin 256, (Go.bits .andNot .u8 (y.1 : Int) 63 != 128) = !(y.1 / 64 == 2) := by decide
 exact h ⟨c, by omega⟩
theorem ints_at (s : ByteArray) (k : Nat) (h : k < s.size) : (ints s.data.toList)[k]? = some ((s[k].toNat : Nat) : Int) := by
 unfold ints
 rw [List.getElem?_map, List.getElem?_eq_getElem (by simpa using h)]
 rfl
theorem ints_head (s : ByteArray) (h : 0 < s.size) : ∃ t, ints s.data.toList = ((s[0].toNat : Nat) : Int) :: t := by
 have := ints_at s 0 h
 cases hh : ints s.data.toList with
 | nil => rw [hh] at this; simp at this
 | cons a t => rw [hh] at this; simp at this; exact ⟨t, by rw [this]⟩
theorem drawn0_trans {a b c : World} (h : Drawn0 a b) (k : Drawn0 b c) : Drawn0 a c := by
 obtain ⟨n, rfl⟩ := h.out
 obtain ⟨m, rfl⟩ := k.out
 exact h.step m
theorem ints_len (l : Bs) : (ints l).length = l.length := by simp [ints]
set_option maxRecDepth 100000 in
set_option maxHeartbeats 1000000 in
theorem first_some (s : ByteArray) (n : Nat) (r0 : Int) (h0 : 0 < s.size) (hn : 1 ≤ n) (hn4 : n ≤ 4) (hL : leadV (s[0].toNat : Nat) = ((n : Int), r0)) (hsz : n ≤ s.size) (w : World) :
  Calls Tryz.prog 127 #[.string s] w fun e w' => e = .returned (.tuple #[.int .i32 (firstV s.data.toList).1, .int .i64 (firstV s.data.toList).2]) ∧ Drawn0 w w' := by
 obtain ⟨fr, fn, hf⟩ : ∃ fr fn, firstV s.data.toList = (fr, fn) := ⟨_, _, rfl⟩
 rw [hf]
 have HF := Lib.hid hf
 clear hf
 have HL := Lib.hid (fun W => (lead_any (s[0].toNat : Nat) (by omega) (by have := s[0].toNat_lt; omega) W))
 rw [hL] at HL
 have k0 : ((n : Int) == 0) = false := by simp; omega
 have k1 : decide (s.size < n) = false := decide_eq_false (by omega)
 have hr0 := leadV_r (s[0].toNat : Nat) (by omega) (by have := s[0].toNat_lt; omega)
 rw [hL] at hr0
 obtain ⟨t, ht⟩ := ints_head s h0
 have h256 : (0 : Int) ≤ (s[0].toNat : Nat) ∧ ((s[0].toNat : Nat) : Int) < 256 := by have := s[0].toNat_lt; omega
 have HBR := Lib.hid (first_broken _ n r0 _ t ht h256 hL)
 have HWH := Lib.hid (first_whole _ n r0 _ t ht h256 hn hL (by rw [ints_len]; simpa using hsz))
 have HR0 := Lib.hid hr0
 clear hr0 ht hL h256
 go_enter Tryz.func127, Tryz.ntmps127
 go_wp2_with (go_at_call 140; go_must (refine (HL.out _).mono ?_); rintro e w1 ⟨rfl, rfl⟩)
 go_loopw [5, 6] (fun vr vi w' => w' = w1 ∧ ∃ k : Nat, 1 ≤ k ∧ k ≤ n ∧ vi = .int .i64 k ∧ vr = .int .i32 (accV r0 (ints s.data.toList) k) ∧ (∀ j, 1 ≤ j → j < k → ∃ b, (ints s.data.toList)[j]? = some b ∧ 128 ≤ b ∧ b < 192)) (fun _ vi _ => n - (intOf vi).toNat)
 case atStart => exact ⟨rfl, 1, Nat.le_refl _, hn, rfl, rfl, fun j h1 h2 => by omega⟩
 case round =>
  obtain ⟨rfl, k, hk1, hkn, rfl, rfl, hcont⟩ := hrel
  obtain ⟨acc, hacc⟩ : ∃ a, accV r0 (ints s.data.toList) k = a := ⟨_, rfl⟩
  have hab := accV_le r0 (ints s.data.toList) HR0.out k (by omega)
  rw [hacc] at hab ⊢
  obtain ⟨ha0, ha1, ha2⟩ := hab
  have HC := Lib.hid hcont
  have HA := Lib.hid hacc
  clear hcont hacc
  by_cases hlt : k < n
  ·have k2 : decide ((k : Int) < (n : Int)) = true := decide_eq_true (by omega)
   have hks : k < s.size := by omega
   have ha3 : acc < 1048576 := ha2 (by omega)
   have hat := Lib.hid (ints_at s k hks)
   obtain ⟨c, hc⟩ : ∃ c : Nat, s[k].toNat = c := ⟨_, rfl⟩
   have hcc : c < 256 := by have := s[k].toNat_lt; omega
   have hcI : ((s[k].toNat : Nat) : Int) = (c : Int) := by rw [hc]
   have k3 := andNot63 c hcc
   rw [hcI] at hat
   by_cases hco : c / 64 = 2
   ·rw [show (!(c / 64 == 2)) = false by simp [hco]] at k3
    go_wp2
    go_roundw
    case rel =>
     refine ⟨trivial, k + 1, by omega, by omega, by go_num, ?_, ?_⟩
     ·obtain ⟨m, rfl⟩ : ∃ m, k = m + 1 := ⟨k - 1, by omega⟩
      rw [accV, HA.out, List.getD_eq_getElem?_getD, hat.out]
      rfl
     ·intro j h1 h2
      rcases (show j < k ∨ j = k by omega) with h3 | rfl
      ·exact HC.out j h1 h3
      ·exact ⟨c, hat.out, by omega, by omega⟩
    case measure => simp [intOf]; omega
   ·rw [show (!(c / 64 == 2)) = true by simp [hco]] at k3
    have hnone : firstV s.data.toList = (0, 0) := by unfold firstV; rw [HBR.out k hk1 hlt _ hat.out (by omega)]
    obtain ⟨rfl, rfl⟩ : fr = 0 ∧ fn = 0 := by have := HF.out.symm.trans hnone; simpa using this
    go_wp2
    go_ret2
    exact ⟨rfl, Drawn0.refl _⟩
  ·obtain rfl : k = n := by omega
   have k2 : decide ((k : Int) < (k : Int)) = false := by simp
   have hW := HWH.out HC.out
   rw [HA.out] at hW
   have HP := Lib.hid (fun W => point_any acc W)
   have HS := Lib.hid (fun W => size_any acc W)
   cases hpv : pointV acc with
   | false =>
    rw [hpv] at HP hW
    have hnone : firstV s.data.toList = (0, 0) := by unfold firstV; rw [hW, if_neg (by simp)]
    obtain ⟨rfl, rfl⟩ : fr = 0 ∧ fn = 0 := by have := HF.out.symm.trans hnone; simpa using this
    clear hW hnone
    go_wp2_with (first | (go_at_call 141; go_must (refine (HP.out _).mono ?_); rintro e w2 ⟨rfl, hw⟩) | (go_at_call 107; go_must (refine (HS.out _).mono ?_); rintro e w2 ⟨rfl, hw⟩))
    go_ret2
    exact ⟨rfl, hw⟩
   | true =>
    rw [hpv] at HP hW
    by_cases hsn : sizeV acc = (k : Int)
    ·have hval : firstV s.data.toList = (acc, (k : Int)) := by unfold firstV; rw [hW, if_pos ⟨rfl, hsn⟩]
     obtain ⟨rfl, rfl⟩ : fr = acc ∧ fn = (k : Int) := by have := HF.out.symm.trans hval; simpa using this
     rw [hsn] at HS
     have k4 : ((k : Int) != (k : Int)) = false := by simp
     clear hW hval
     go_wp2_with (first | (go_at_call 141; go_must (refine (HP.out _).mono ?_); rintro e w2 ⟨rfl, hw⟩) | (go_at_call 107; go_must (refine (HS.out _).mono ?_); rintro e w3 ⟨rfl, hw3⟩))
     go_ret2
     exact ⟨rfl, drawn0_trans hw hw3⟩
    ·have hnone : firstV s.data.toList = (0, 0) := by unfold firstV; rw [hW, if_neg (fun h => hsn h.2)]
     obtain ⟨rfl, rfl⟩ : fr = 0 ∧ fn = 0 := by have := HF.out.symm.trans hnone; simpa using this
     have k4 : (sizeV acc != (k : Int)) = true := by simpa using hsn
     clear hW hnone
     go_wp2_with (first | (go_at_call 141; go_must (refine (HP.out _).mono ?_); rintro e w2 ⟨rfl, hw⟩) | (go_at_call 107; go_must (refine (HS.out _).mono ?_); rintro e w3 ⟨rfl, hw3⟩))
     go_ret2
     exact ⟨rfl, drawn0_trans hw hw3⟩
set_option maxRecDepth 100000 in
set_option maxHeartbeats 1000000 in
theorem first_none (s : ByteArray) (n : Nat) (r0 : Int) (h0 : 0 < s.size) (hL : leadV (s[0].toNat : Nat) = ((n : Int), r0)) (hsz : n = 0 ∨ s.size < n) (w : World) :
  Calls Tryz.prog 127 #[.string s] w fun e w' => e = .returned (.tuple #[.int .i32 0, .int .i64 0]) ∧ Drawn0 w w' := by
 have HL := Lib.hid (fun W => (lead_any (s[0].toNat : Nat) (by omega) (by have := s[0].toNat_lt; omega) W))
 rw [hL] at HL
 clear hL
 rcases hsz with rfl | hsz
 ·go_enter Tryz.func127, Tryz.ntmps127
  go_wp2_with (go_at_call 140; go_must (refine (HL.out _).mono ?_); rintro e w1 ⟨rfl, rfl⟩)
  go_ret2
  exact ⟨rfl, Drawn0.refl _⟩
 ·have k0 : ((n : Int) == 0) = false := by simp; omega
  have k1 : decide (s.size < n) = true := decide_eq_true (by omega)
  go_enter Tryz.func127, Tryz.ntmps127
  go_wp2_with (go_at_call 140; go_must (refine (HL.out _).mono ?_); rintro e w1 ⟨rfl, rfl⟩)
  go_ret2
  exact ⟨rfl, Drawn0.refl _⟩
theorem first_any (s : ByteArray) (h0 : 0 < s.size) (w : World) :
  Calls Tryz.prog 127 #[.string s] w fun e w' => e = .returned (.tuple #[.int .i32 (firstV s.data.toList).1, .int .i64 (firstV s.data.toList).2]) ∧ Drawn0 w w' := by
 have h256 : (0 : Int) ≤ (s[0].toNat : Nat) ∧ ((s[0].toNat : Nat) : Int) < 256 := by have := s[0].toNat_lt; omega
 obtain ⟨n, r0, hL, hn4⟩ : ∃ (n : Nat) (r0 : Int), leadV (s[0].toNat : Nat) = ((n : Int), r0) ∧ n ≤ 4 := by
  unfold leadV
  repeat' split
  ·exact ⟨1, _, rfl, by omega⟩
  ·exact ⟨2, _, rfl, by omega⟩
  ·exact ⟨3, _, rfl, by omega⟩
  ·exact ⟨4, _, rfl, by omega⟩
  ·exact ⟨0, _, rfl, by omega⟩
 by_cases h : n = 0 ∨ s.size < n
 ·have : firstV s.data.toList = (0, 0) := by
   obtain ⟨t, ht⟩ := ints_head s h0
   have hlen : s.size = t.length + 1 := by
    have := congrArg List.length ht
    rw [ints_len] at this
    simpa using this
   unfold firstV
   have hno : Utf.firstI (ints s.data.toList) = none := by
    rw [ht]
    unfold leadV at hL
    unfold Utf.firstI
    dsimp only
    generalize ((s[0].toNat : Nat) : Int) = a at hL
    by_cases h1 : a < 128
    ·rw [if_pos h1] at hL; simp at hL; omega
    ·rw [if_neg h1] at hL ⊢
     by_cases h2 : 192 ≤ a ∧ a < 224
     ·rw [if_pos h2] at hL ⊢
      have : n = 2 := by simp at hL; omega
      match t, hlen with
      | [], _ => rfl
      | _ :: _, hlen => simp at hlen; omega
     ·rw [if_neg h2] at hL ⊢
      by_cases h3 : 224 ≤ a ∧ a < 240
      ·rw [if_pos h3] at hL ⊢
       have : n = 3 := by simp at hL; omega
       match t, hlen with
       | [], _ => rfl
       | [_], _ => rfl
       | _ :: _ :: _, hlen => simp at hlen; omega
      ·rw [if_neg h3] at hL ⊢
       by_cases h4 : 240 ≤ a ∧ a < 248
       ·rw [if_pos h4] at hL ⊢
        have : n = 4 := by simp at hL; omega
        match t, hlen with
        | [], _ => rfl
        | [_], _ => rfl
        | [_, _], _ => rfl
        | _ :: _ :: _ :: _, hlen => simp at hlen; omega
       ·rw [if_neg h4]
   rw [hno]
  rw [this]
  exact first_none s n r0 h0 hL h w
 ·exact first_some s n r0 h0 (by omega) hn4 hL (by omega) w
end Go.Proofs.YtfocognhcljhpaaGreatDoor
namespace Go.Proofs.YtfocognhcljhpaaGreatDoor
open Go.RowKit Go.Sort
section
variable {F : Fence} {n : Nat} {P : Program} {ops : Array Oper} {md : Region.Mode} {C : World → Prop}
def notDefer (o : Oper) : Bool := match o.op with | .defer _ => false | _ => true
theorem notDefer_spec {o : Oper} (h : notDefer o = true) : ∀ c, o.op ≠ .defer c := fun c e => by
 unfold notDefer at h
 rw [e] at h
 cases h
theorem wpIn_of_quietR {o : Oper} {a : Act} {K : Act → Prop} {K' : Act → World → Prop} {Q' : Exit → Act → World → Prop} {w : World} (hnd : notDefer o = true) (hw : C w) (h : ∀ a w', C w' → K a → K' a w')
  (ha : o.askedIn F P a C) (hh : o.quietIn F n P a C K) : o.wpIn F n P a w K' Q' := by
 obtain ⟨v, h1, h2⟩ := hh
 have h3 := h1 w hw
 unfold Oper.quietAtIn at h3
 unfold Oper.wpIn
 refine ⟨ha w hw, ?_⟩
 rw [Oper.semAt_eq _ _ _ (notDefer_spec hnd)]
 generalize (execOp a.eval o).run P w = r at *
 cases r with
 | ok x w' =>
  cases x <;> simp only [Oper.quietUponIn] at h3 <;> simp only [Oper.uponIn]
  case value u =>
   obtain ⟨e1, e2⟩ := h3
   rw [e1, e2]
   exact h _ _ hw h2
  case skip =>
   obtain ⟨e1, e2⟩ := h3
   rw [e1, ← e2]
   exact h _ _ hw h2
  case enter f args =>
   obtain ⟨e1, hd, hc⟩ := h3
   rw [e1]
   exact ⟨hd, hc.mono fun e w'' ⟨he, hw''⟩ => by subst he; exact h _ _ hw'' h2⟩
 | halt x w' => simp only [Oper.quietUponIn] at h3
theorem wpOpIn_of_qOpInR {i : Nat} {a : Act} {K : Act → Prop} {K' : Act → World → Prop} {Q' : Exit → Act → World → Prop} {w : World} (hnd : ops.all notDefer = true) (hC : C w) (h : ∀ a w', C w' → K a → K' a w')
  (hh : qOpIn F n P ops C i K a) : wpOpIn F n P ops Q' i K' a w := by
 unfold qOpIn at hh
 unfold wpOpIn
 split
 ·rename_i ho; simp only [ho] at hh; exact h _ _ hC hh
 ·rename_i o ho
  simp only [ho] at hh
  obtain ⟨ha, hh⟩ := hh
  have hn : notDefer o = true := by
   rw [Array.all_eq_true_iff_forall_mem] at hnd
   exact hnd o (Array.mem_of_getElem? ho)
  split
  ·rename_i hw; simp only [hw, if_true] at hh; exact wpIn_of_quietR hn hC h ha hh
  ·rename_i hw; simp only [hw] at hh; exact ⟨ha w hC, h _ _ hC hh⟩
theorem wpAnyIn_of_quietR {Q : Act → Prop} {Q' : Exit → Act → World → Prop} (hnd : ops.all notDefer = true) (hQ : ∀ a w, C w → Q a → Q' .normal a w) : ∀ (fuel : Nat) (listed : Array Bool) (a : Act) (w : World), C w →
  wpAnyQIn F n P md ops C Q fuel listed a → wpAnyIn F n P md ops Q' fuel listed a w
 | 0, _, _, _, hw, h => ⟨h.1, hQ _ _ hw h.2⟩
 | fuel + 1, _, _, _, hw, h => ⟨fun h0 => hQ _ _ hw (h.1 h0), fun i hi => wpOpIn_of_qOpInR hnd hw (fun a' w' hw' => wpAnyIn_of_quietR hnd hQ fuel _ a' w' hw') (h.2 i hi)⟩
theorem wpIn_region_quietR {id : Nat} {Q : Exit → Act → World → Prop} {a : Act} {w : World} (hnd : ops.all notDefer = true) (hm : P.follows .mixedOrders = true) (hB : Region.lexB .any ops = true) (hC : C { w with drawn := w.drawn + 1 })
  (h : wpQuietIn F n P ops C (fun a' => ∀ w', C w' → Q .normal a' w') ops.toList a) : (Code.region id ops true).wpIn F n P Q a w := by
 simp only [Region.lexB, Bool.and_eq_true] at hB
 refine wpIn_region_any hm (wpAnyIn_of_quietR (Q := fun a' => ∀ w', C w' → Q .normal a' w') hnd (fun _ w' hw' h => h w' hw') _ _ _ _ hC ?_)
 have := wpAnyQIn_lex (F := F) (n := n) (C := C) (md := .any) hB.1 ops.toList 0 (Array.replicate ops.size false) a (by simp) (by simpa using hB.2) h
 simpa using this
theorem wpIn_region_quietR_lit {id : Nat} {Q : Exit → Act → World → Prop} {a : Act} {w : World} {l : List Oper} (hnd : l.toArray.all notDefer = true) (hm : P.follows .mixedOrders = true) (hB : Region.lexB .any l.toArray = true)
  (h : wpQuietIn F n P l.toArray (fun w' => ∃ n, w' = w.drewN n) (fun a' => ∀ w', (∃ n, w' = w.drewN n) → Q .normal a' w') l a) : (Code.region id l.toArray true).wpIn F n P Q a w :=
 wpIn_region_quietR (C := fun w' => ∃ n, w' = w.drewN n) hnd hm hB ⟨1, rfl⟩ (by simpa using h)
end
end Go.Proofs.YtfocognhcljhpaaGreatDoor
namespace Go.Proofs.YtfocognhcljhpaaGreatDoor
open Go.RowKit Go.Shelf Go.Proofs.YtfocognhcljhpaaGreatDoorW.PrintWords Go.Proofs.YtfocognhcljhpaaGreatDoor.Tree
attribute [local go_sem] Oper.semAt_some
def runeEnc (x : Nat × Int) : Array Value := #[.int .i64 x.1, .int .i32 x.2]
def ptsL (l : List Int) : List (Nat × Int) := pts l.length 0 l
theorem pts_none {f a : Nat} {l : List Int} (h : Utf.firstI l = none) : pts f a l = [] := by
 cases f with
 | zero => rfl
 | succ f => rw [pts, h]
theorem pts_some {f a : Nat} {l : List Int} {p : Int × Nat} (h : Utf.firstI l = some p) : pts (f + 1) a l = (a, p.1) :: pts f (a + p.2) (l.drop p.2) := by rw [pts, h]
theorem firstV_none {l : Bs} (h : Utf.firstI (ints l) = none) : firstV l = (0, 0) := by unfold firstV; rw [h]
theorem firstV_some {l : Bs} {p : Int × Nat} (h : Utf.firstI (ints l) = some p) : firstV l = (p.1, (p.2 : Int)) := by unfold firstV; rw [h]
theorem extract_drop (s : ByteArray) (k : Nat) : (s.extract k s.size).data.toList = s.data.toList.drop k := by
 rw [Lib.extract_data, List.take_of_length_le (by rw [List.length_drop]; simp)]
def AtK (l : List Int) (k : Nat) (pre : List (Nat × Int)) : Prop := k ≤ l.length ∧ ∃ f, l.length ≤ k + f ∧ ptsL l = pre ++ pts f k (l.drop k)
theorem AtK.start (l : List Int) : AtK l 0 [] := ⟨Nat.zero_le _, l.length, by omega, rfl⟩
theorem AtK.step {l : List Int} {k : Nat} {pre : List (Nat × Int)} (h : AtK l k pre) {p : Int × Nat} (hl : ∀ x ∈ l, 0 ≤ x ∧ x < 256) (hp : Utf.firstI (l.drop k) = some p) : AtK l (k + p.2) (pre ++ [(k, p.1)]) ∧ 0 < p.2 ∧ k + p.2 ≤ l.length := by
 obtain ⟨hk, f, hf, e⟩ := h
 obtain ⟨_, h2, h3, _⟩ := Utf.first_put _ (fun x hx => hl x (List.mem_of_mem_drop hx)) p hp
 rw [List.length_drop] at h2
 cases f with
 | zero =>
  rw [List.drop_of_length_le (by omega)] at hp
  simp [Utf.firstI] at hp
 | succ f =>
  rw [pts_some hp, List.drop_drop] at e
  exact ⟨⟨by omega, f, by omega, by rw [e, List.append_assoc]; rfl⟩, h3, by omega⟩
theorem AtK.stop {l : List Int} {k : Nat} {pre : List (Nat × Int)} (h : AtK l k pre) (hp : Utf.firstI (l.drop k) = none) : pre = ptsL l := by
 obtain ⟨_, f, _, e⟩ := h
 rw [pts_none hp, List.append_nil] at e
 exact e.symm
theorem AtK.end_ {l : List Int} {k : Nat} {pre : List (Nat × Int)} (h : AtK l k pre) (hk : l.length ≤ k) : pre = ptsL l :=
 h.stop (by rw [List.drop_of_length_le hk]; rfl)
set_option maxRecDepth 100000 in
set_option maxHeartbeats 4000000 in
theorem runes1_in (l Bs : Nat) (s : ByteArray) (hs : s.size ≤ 1000000000) (J Jx : List (Nat × Int) → World → Prop)
  (hY : ∀ pre x W, J pre W → pre ++ [x] <+: ptsL (ints s.data.toList) → YieldAt Fence.wide 8 Tryz.prog l (runeEnc x) W fun e W' =>
   (e = .returned (.bool true) ∧ J (pre ++ [x]) W' ∧ W'.heap[Bs]? = W.heap[Bs]?) ∨ (e = .returned (.bool false) ∧ Jx (pre ++ [x]) W'))
  (hJ : ∀ pre (A B : World), J pre A → Below A.heap.size A B → J pre B)
  (W : World) (hBs : W.heap[Bs]? = some (.cells #[.string s] 9 (0, 0))) (h0 : J [] W) :
  CallsIn Fence.wide 9 Tryz.prog 126 #[.func (.yield l) #[] #[], .pointer (some ⟨Bs, 0, none⟩)] W fun e W' => (∃ v, e = .returned v) ∧
   ((∃ ys, ys = ptsL (ints s.data.toList) ∧ J ys W') ∨ (∃ pre, pre <+: ptsL (ints s.data.toList) ∧ Jx pre W')) := by
 have hlen : (ints s.data.toList).length = s.size := by rw [ints_len]; simp
 refine callsIn_of_wp Tryz.func126 rfl trivial ?_ rfl
 simp only [Tryz.ntmps126, List.size_toArray, List.length_cons, List.length_nil, Nat.reduceAdd, Nat.reduceSub, Array.replicate_succ, Array.replicate_zero, List.push_toArray, List.append_toArray, List.nil_append, List.cons_append]
 gi_wp2
 gi_loopw [3] (fun i wr => ∃ (k : Nat) (pre : List (Nat × Int)), AtK (ints s.data.toList) k pre ∧ i = .int .i64 k ∧ J pre wr ∧ wr.heap[Bs]? = some (.cells #[.string s] 9 (0, 0)))
  (fun i _ => s.size - (intOf i).toNat)
 case atStart => exact ⟨0, [], AtK.start _, rfl, h0, hBs⟩
 case round =>
  obtain ⟨k, pre, hat, rfl, hJs, hnx⟩ := hrel
  have hks : k ≤ s.size := by have := hat.1; omega
  have c0 := blkc hnx 0 rfl
  by_cases hlt : k < s.size
  ·have k2 : decide ((k : Int) < (s.size : Int)) = true := decide_eq_true (by omega)
   have hsz : 0 < (s.extract k s.size).size := by rw [ByteArray.size_extract]; omega
   have HFi := Lib.hid (fun W => first_any (s.extract k s.size) hsz W)
   rw [extract_drop] at HFi
   have hdr : ints (s.data.toList.drop k) = (ints s.data.toList).drop k := ints_drop _ _
   cases hp : Utf.firstI ((ints s.data.toList).drop k) with
   | none =>
    rw [firstV_none (by rw [hdr]; exact hp)] at HFi
    have HE := Lib.hid (hat.stop hp)
    have HJ := Lib.hid hJs
    clear hat hp hdr hJs
    gi_wp2_with (refine ⟨trivial, ?_⟩; gi_at_call 127; go_must (refine ((callsIn_wide (n := 8)).2 (HFi.out _)).mono ?_); rintro e w1 ⟨rfl, hw⟩)
    refine ⟨fun _ h => (by cases h), ?_⟩
    gi_wp2
    refine bodyPost_ret (results_none rfl _ _ _) rfl ?_
    exact ⟨⟨_, rfl⟩, .inl ⟨_, HE.out, hJ _ _ _ HJ.out hw.below⟩⟩
   | some p =>
    rw [firstV_some (p := p) (by rw [hdr]; exact hp)] at HFi
    obtain ⟨hat2, hp0, hpl⟩ := hat.step (ints_range _) hp
    have hpre : pre ++ [(k, p.1)] <+: ptsL (ints s.data.toList) := by
     obtain ⟨_, f, _, e⟩ := hat2
     exact ⟨_, e.symm⟩
    have k3 : ((p.2 : Int) == 0) = false := by simp; omega
    have HE := Lib.hid hat2
    have HJ := Lib.hid hJs
    have HX := Lib.hid hnx
    have HPR := Lib.hid hpre
    obtain ⟨q, n⟩ := p
    dsimp only at HFi hp0 hpl k3 HE HPR
    clear hat hp hdr hJs hat2 hnx hpre
    gi_wp2_with (refine ⟨trivial, ?_⟩; gi_at_call 127; go_must (refine ((callsIn_wide (n := 8)).2 (HFi.out _)).mono ?_); rintro e w1 ⟨rfl, hw⟩; obtain ⟨fn, tmps, assign, body, hy, hR⟩ := hY pre (k, q) w1 (hJ _ _ _ HJ.out hw.below) HPR.out; dsimp only [runeEnc] at hy)
    refine hR.mono ?_
    rintro e W3 (⟨rfl, hJ3, hk3⟩ | ⟨rfl, hJx3⟩)
    ·have HK := Lib.hid (hk3.trans (blk_below HX.out hw.below))
     clear hk3
     gi_wp2
     go_roundw
     case rel => exact ⟨k + n, pre ++ [(k, q)], HE.out, by go_num, hJ3, HK.out⟩
     case measure => simp [intOf]; omega
    ·gi_wp2
     refine bodyPost_ret (results_none rfl _ _ _) rfl ?_
     exact ⟨⟨_, rfl⟩, .inr ⟨_, HPR.out, hJx3⟩⟩
  ·have k2 : decide ((k : Int) < (s.size : Int)) = false := decide_eq_false (by omega)
   have HE := Lib.hid (hat.end_ (by omega))
   have HJ := Lib.hid hJs
   clear hat hJs hnx
   gi_wp2
   go_end0
   exact ⟨⟨_, rfl⟩, .inl ⟨_, HE.out, HJ.out⟩⟩
theorem seq_runes (Bs : Nat) (s : ByteArray) (w0 : World) (hs : s.size ≤ 1000000000) (hBs : w0.heap[Bs]? = some (.cells #[.string s] 9 (0, 0))) :
  SeqT 9 Tryz.prog 126 #[.pointer (some ⟨Bs, 0, none⟩)] runeEnc (fun A B => B.heap[Bs]? = A.heap[Bs]?) (fun A B => Below A.heap.size A B) (fun pre x => pre ++ [x] <+: ptsL (ints s.data.toList)) (fun ys => ys = ptsL (ints s.data.toList)) (fun pre => pre <+: ptsL (ints s.data.toList)) w0 := by
 intro l J Jx W hW hJ _ hY h0
 exact runes1_in l Bs s hs J Jx hY hJ W ((hW.block Bs (blk_lt hBs)).trans hBs) h0
theorem runes_any (s : ByteArray) (w : World) :
  Calls Tryz.prog 106 #[.string s] w fun e w' => e = .returned (.func (.func 126) #[] #[.pointer (some ⟨w.heap.size, 0, none⟩)]) ∧ w' = w.alloc (.cells #[.string s] 9) := by
 go_enter Tryz.func106, Tryz.ntmps106
 go_wp2
 go_ret
 exact ⟨rfl, rfl⟩
def endP (pre : List (Nat × Int)) : Int := match pre.getLast? with | none => 0 | some x => (x.1 : Int) + sizeV x.2
theorem endP_snoc (pre : List (Nat × Int)) (x : Nat × Int) : endP (pre ++ [x]) = (x.1 : Int) + sizeV x.2 := by simp [endP]
theorem size_first {l : List Int} (hl : ∀ x ∈ l, 0 ≤ x ∧ x < 256) {p : Int × Nat} (h : Utf.firstI l = some p) : sizeV p.1 = (p.2 : Int) := by
 match l, hl with
 | [], _ => simp [Utf.firstI] at h
 | a :: t, hl =>
  have ha := hl a (by simp)
  unfold Utf.firstI at h
  dsimp only at h
  by_cases h1 : a < 128
  ·rw [if_pos h1] at h
   obtain rfl := Option.some.inj h
   unfold sizeV; rw [if_pos h1]; rfl
  ·rw [if_neg h1] at h
   by_cases g1 : 192 ≤ a ∧ a < 224
   ·rw [if_pos g1] at h
    match t with
    | [] => simp at h
    | b :: t =>
     dsimp only at h
     by_cases h2 : (128 ≤ b ∧ b < 192) ∧ 128 ≤ Utf.p2 a b
     ·rw [if_pos h2] at h
      obtain rfl := Option.some.inj h
      have : Utf.p2 a b < 2048 := by unfold Utf.p2; omega
      unfold sizeV; dsimp only; rw [if_neg (by omega), if_pos this]; rfl
     ·rw [if_neg h2] at h; cases h
   ·rw [if_neg g1] at h
    by_cases g2 : 224 ≤ a ∧ a < 240
    ·rw [if_pos g2] at h
     match t with
     | [] => simp at h
     | [b] => simp at h
     | b :: c :: t =>
      dsimp only at h
      by_cases h3 : (128 ≤ b ∧ b < 192) ∧ (128 ≤ c ∧ c < 192) ∧ 2048 ≤ Utf.p3 a b c ∧ (Utf.p3 a b c < 55296 ∨ 57343 < Utf.p3 a b c)
      ·rw [if_pos h3] at h
       obtain rfl := Option.some.inj h
       have : Utf.p3 a b c < 65536 := by unfold Utf.p3; omega
       unfold sizeV; dsimp only; rw [if_neg (by omega), if_neg (by omega), if_pos this]; rfl
      ·rw [if_neg h3] at h; cases h
    ·rw [if_neg g2] at h
     by_cases g3 : 240 ≤ a ∧ a < 248
     ·rw [if_pos g3] at h
      match t with
      | [] => simp at h
      | [b] => simp at h
      | [b, c] => simp at h
      | b :: c :: d :: t =>
       dsimp only at h
       by_cases h4 : (128 ≤ b ∧ b < 192) ∧ (128 ≤ c ∧ c < 192) ∧ (128 ≤ d ∧ d < 192) ∧ 65536 ≤ Utf.p4 a b c d ∧ Utf.p4 a b c d ≤ 1114111
       ·rw [if_pos h4] at h
        obtain rfl := Option.some.inj h
        unfold sizeV; dsimp only; rw [if_neg (by omega), if_neg (by omega), if_neg (by omega)]; rfl
       ·rw [if_neg h4] at h; cases h
     ·rw [if_neg g3] at h; cases h
theorem endP_pts : ∀ (f a : Nat) (l : List Int), (∀ x ∈ l, 0 ≤ x ∧ x < 256) → (endI f a l : Int) = if pts f a l = [] then (a : Int) else endP (pts f a l)
 | 0, a, l, _ => by rw [pts, endI, if_pos rfl]
 | f + 1, a, l, hl => by
  rw [pts, endI]
  cases hp : Utf.firstI l with
  | none => rfl
  | some p =>
   dsimp only
   rw [if_neg (by simp), endP_pts f (a + p.2) (l.drop p.2) (fun x hx => hl x (List.mem_of_mem_drop hx))]
   by_cases h : pts f (a + p.2) (l.drop p.2) = []
   ·rw [if_pos h, h]
    have := size_first hl hp
    unfold endP
    simp
    omega
   ·rw [if_neg h]
    unfold endP
    rw [List.getLast?_cons]
    cases hh : (pts f (a + p.2) (l.drop p.2)).getLast? with
    | none => rw [List.getLast?_eq_none_iff] at hh; exact absurd hh h
    | some x => simp
theorem endP_all (l : Bs) : endP (ptsL (ints l)) = (endI l.length 0 (ints l) : Int) := by
 have := endP_pts (ints l).length 0 (ints l) (ints_range l)
 rw [ints_len] at this
 unfold ptsL
 rw [ints_len, this]
 split
 ·rename_i h; rw [h]; rfl
 ·rfl
end Go.Proofs.YtfocognhcljhpaaGreatDoor
namespace Go.Proofs.YtfocognhcljhpaaGreatDoor
open Go.RowKit Go.Shelf Go.Proofs.YtfocognhcljhpaaGreatDoorW.PrintWords Go.Proofs.YtfocognhcljhpaaGreatDoor.Tree
attribute [local go_sem] Oper.semAt_some
theorem ownFrom_blk {β : Type} (B k : Nat) (f : β → Array Value) (T : TypeId) : OwnFrom B (fun s W => W.heap[k]? = some (.cells (f s) T (0, 0))) := fun s A C row hs hg hr =>
 (hg.block k (blk_lt hs) (fun e => by obtain ⟨_, o, ho, hc⟩ := hr k e.symm; rw [hs] at ho; cases ho; cases hc)).trans hs
theorem keepsFrom_below {B : Nat} {W W2 : World} (h : Below W.heap.size W W2) : KeepsFrom B W W2 := ⟨h.size, fun k o _ hk _ => (h.block k (Array.getElem?_eq_some_iff.1 hk).1).trans hk⟩
theorem pts_place : ∀ (f a : Nat) (l : List Int), (∀ x ∈ l, 0 ≤ x ∧ x < 256) → ∀ x ∈ pts f a l, x.1 ≤ a + l.length
 | 0, a, l, _, x, hx => by simp [pts] at hx
 | f + 1, a, l, hl, x, hx => by
  rw [pts] at hx
  cases hp : Utf.firstI l with
  | none => rw [hp] at hx; simp at hx
  | some p =>
   rw [hp] at hx
   dsimp only at hx
   rcases List.mem_cons.1 hx with rfl | hx
   ·dsimp only; omega
   ·have := pts_place f (a + p.2) (l.drop p.2) (fun x hx => hl x (List.mem_of_mem_drop hx)) x hx
    have h2 := (Utf.first_put l hl p hp).2.1
    rw [List.length_drop] at this
    omega
theorem pts_len : ∀ (f a : Nat) (l : List Int), (pts f a l).length ≤ f
 | 0, a, l => by simp [pts]
 | f + 1, a, l => by
  rw [pts]
  cases Utf.firstI l with
  | none => simp
  | some p => have := pts_len f (a + p.2) (l.drop p.2); simpa using this
theorem ptsL_len (l : List Int) : (ptsL l).length ≤ l.length := pts_len _ _ _
set_option maxRecDepth 100000 in
set_option maxHeartbeats 4000000 in
theorem bad_any (s : ByteArray) (hs : s.size ≤ 1000000000) (w : World) :
  Calls Tryz.prog 84 #[.string s] w fun e w' => e = .returned (.int .i64 (badL s.data.toList)) ∧ Below w.heap.size w w' := by
 obtain ⟨v, hv⟩ : ∃ v, badL s.data.toList = v := ⟨_, rfl⟩
 rw [hv]
 have HB := Lib.hid hv
 clear hv
 refine (callsIn_wide (n := 10)).1 ?_
 refine callsIn_of_wp_marks Tryz.func84 rfl trivial ?_ rfl
 simp only [Tryz.ntmps84, List.size_toArray, List.length_cons, List.length_nil, Nat.reduceAdd, Nat.reduceSub, Array.replicate_succ, Array.replicate_zero, List.push_toArray, List.append_toArray, List.nil_append, List.cons_append]
 gi_wp2_with (refine ⟨trivial, ?_⟩; gi_at_call 106; go_must (refine ((callsIn_wide (n := 9)).2 (runes_any _ _)).mono ?_); rintro e w1 ⟨rfl, hw1⟩; have HW1 := Lib.hid hw1; clear hw1)
 have g0 : w1.heap[w.heap.size]? = some (.cells #[.int .i64 (endP [])] 3 (0, 0)) := by rw [HW1.out]; exact allocs_get w [.cells #[.int .i64 0] 3, .cells #[.string s] 9] 0 _ rfl
 have g1 : w1.heap[w.heap.size + 1]? = some (.cells #[.string s] 9 (0, 0)) := by rw [HW1.out]; exact allocs_get w [.cells #[.int .i64 0] 3, .cells #[.string s] 9] 1 _ rfl
 have hbel : Below w.heap.size w w1 := by rw [HW1.out]; exact allocs_below w [.cells #[.int .i64 0] 3, .cells #[.string s] 9]
 have hsz : w1.heap.size = w.heap.size + 2 := by rw [HW1.out]; simp
 have hseq := seq_runes (w.heap.size + 1) s w1 hs g1
 have HV := Lib.hid (endP_all s.data.toList)
 have hlen : s.data.toList.length = s.size := by simp
 clear HW1
 refine range_t (by omega) (gf := 126) (lb := #[.pointer (some ⟨w.heap.size + 1, 0, none⟩)]) rfl (enters_of Tryz.func126 (by kernel_rfl) rfl)
  hseq (Below.refl _ _) (fun h k => k.trans h) (fun W l o o' hl ho _ _ => World.putObj_heap_other (by omega)) (fun X Y h k o _ ho _ _ => (h.block k (blk_lt ho)).trans ho) (fun _ => rfl)
  (fun pre W => W.heap[w.heap.size]? = some (.cells #[.int .i64 (endP pre)] 3 (0, 0)) ∧ W.heap[w.heap.size + 1]? = some (.cells #[.string s] 9 (0, 0)) ∧ Below w.heap.size w W ∧ w1.heap.size ≤ W.heap.size)
  (fun _ _ _ => False)
  (OwnFrom.and (ownFrom_blk _ _ (fun (pre : List (Nat × Int)) => #[.int .i64 (endP pre)]) _) (OwnFrom.and (ownFrom_blk _ _ _ _) (OwnFrom.and (ownFrom_below (Nat.le_refl _) (by omega)) (fun s A B row hs hg hr => Nat.le_trans hs hg.size))))
  (fun _ _ _ _ _ hs _ _ => hs)
  (fun s X Y h k => ⟨blk_below h.1 k, blk_below h.2.1 k, below_step h.2.2.1 k, Nat.le_trans h.2.2.2 k.size⟩)
  (fun _ _ _ _ h _ => h)
  ⟨g0, g1, hbel, Nat.le_refl _⟩
  (fun x a' W => a' = { tmps := #[.string s, undef, .int .i64 0, .pointer (some ⟨w.heap.size, 0, none⟩), .int .i64 x.1, .int .i32 x.2, .string s, .func (.func 126) #[] #[.pointer (some ⟨w.heap.size + 1, 0, none⟩)], .int .i64 x.1, .int .i32 x.2, undef, undef, undef, undef, undef, undef, undef, undef, undef], defers := [] })
  (fun x a' s X Y row hs hg hr => hs)
  ?assign ?body ?done ?stop
 case assign =>
  rintro l pre x W K ⟨i0, i1, ib, is⟩ hK
  have e1 : (runeEnc x) = #[.int .i64 x.1, .int .i32 x.2] := rfl
  rw [e1]
  clear e1
  gi_wp2
  exact hK _ _ ((keepsFrom_below (Below.refl _ _))) rfl ⟨i0, i1, ib, is⟩ rfl
 case body =>
  rintro l pre x a' W hl ⟨r, hr⟩ ⟨i0, i1, ib, is⟩ rfl hT
  have HSZ := Lib.hid (size_any x.2)
  have hend := endP_snoc pre x
  have hx : 0 ≤ (x.1 : Int) + sizeV x.2 ∧ (x.1 : Int) + sizeV x.2 < 9223372036854775807 := by
   have hm : x ∈ ptsL (ints s.data.toList) := by
    obtain ⟨t, ht⟩ := hT
    rw [← ht]
    simp
   have h1 := pts_place _ _ _ (ints_range _) _ hm
   rw [ints_len] at h1
   have h2 : 1 ≤ sizeV x.2 ∧ sizeV x.2 ≤ 4 := by unfold sizeV; repeat' split <;> omega
   omega
  have hend1 := Lib.hid hend
  have I0 := Lib.hid i0
  have I1 := Lib.hid i1
  clear hr hseq hend i0 i1
  gi_wp2_with (refine ⟨trivial, ?_⟩; gi_at_call 107; go_must (refine (CallsIn.inRound l ((callsIn_wide (n := 7)).2 (HSZ.out _))).mono ?_); rintro e W1 ⟨rfl, hw⟩; have j0 := blk_below I0.out hw.below; have j0_0 := blkc j0 0 rfl; have j0_f := blk_frozen j0 0)
  refine ⟨(keepsFrom_below hw.below).trans ((KeepsOthers.setCell _ _ _).from _), ?_, ?_, blk_far (blk_below I1.out hw.below) (by dsimp only; omega) _, (below_step ib hw.below).setCell (by dsimp only; omega) _, ?_⟩
  ·exact (Below.heap_setCell _ _ _ _ (by dsimp only; omega)).trans (hw.below.block _ (blk_lt I1.out))
  ·rw [hend1.out]; exact blk_set j0 0 _
  ·have := hw.below.size
   simpa [World.setCell] using Nat.le_trans is this
 case done =>
  rintro D ys W hD rfl ⟨i0, i1, ib, is⟩ hK
  rw [HV.out] at i0
  have i0_0 := blkc i0 0 rfl
  have HK := Lib.hid hK
  have IB := Lib.hid ib
  have hv := HB.out
  unfold badL at hv
  clear hseq i1 ib hK
  rw [hlen] at hv i0_0
  by_cases he : endI s.size 0 (ints s.data.toList) = s.size
  ·rw [if_pos he] at hv
   subst hv
   have k1 : ((endI s.size 0 (ints s.data.toList) : Int) == (s.size : Int)) = true := by simp [he]
   have k2 : (endI s.size 0 (ints s.data.toList) == s.size) = true := by simp [he]
   generalize endI s.size 0 (ints s.data.toList) = z at *
   clear i0 he
   gi_wp2
   refine ⟨by simp, .inl ⟨_, _, rfl, run_takeDeferred HK.out, ?_⟩⟩
   exact ⟨_, results_tmp rfl _ _ _, rfl, IB.out.trans (belowK_b (w := w) (Nat.le_refl _) W D _ _ (by omega) HK.out rfl rfl)⟩
  ·rw [if_neg he] at hv
   have k1 : ((endI s.size 0 (ints s.data.toList) : Int) == (s.size : Int)) = false := by simp; omega
   have k2 : (endI s.size 0 (ints s.data.toList) == s.size) = false := by simp [he]
   generalize endI s.size 0 (ints s.data.toList) = z at *
   subst hv
   clear i0 he
   gi_wp2
   refine ⟨by simp, .inl ⟨_, _, rfl, run_takeDeferred HK.out, ?_⟩⟩
   exact ⟨_, results_tmp rfl _ _ _, rfl, IB.out.trans (belowK_b (w := w) (Nat.le_refl _) W D _ _ (by omega) HK.out rfl rfl)⟩
 case stop =>
  rintro D c pre W _ _ h _
  exact h.elim
theorem valid_any (s : ByteArray) (hs : s.size ≤ 1000000000) (w : World) :
  Calls Tryz.prog 58 #[.string s] w fun e w' => e = .returned (.bool (validL s.data.toList)) ∧ Below w.heap.size w w' := by
 have HB := Lib.hid (bad_any s hs)
 have hv : decide (badL s.data.toList < 0) = validL s.data.toList := by
  unfold badL validL
  by_cases h : endI s.data.toList.length 0 (ints s.data.toList) = s.data.toList.length
  ·rw [if_pos h, decide_eq_true h]; rfl
  ·rw [if_neg h, decide_eq_false h]; exact decide_eq_false (by omega)
 generalize badL s.data.toList = v at *
 generalize validL s.data.toList = r at *
 go_enter Tryz.func58, Tryz.ntmps58
 go_wp2_with (go_at_call 84; go_must (refine (HB.out _).mono ?_); rintro e w1 ⟨rfl, hb⟩)
 go_ret
 exact ⟨rfl, hb⟩
set_option maxRecDepth 100000 in
set_option maxHeartbeats 4000000 in
theorem count_any (s : ByteArray) (hs : s.size ≤ 1000000000) (w : World) :
  Calls Tryz.prog 134 #[.string s] w fun e w' => e = .returned (.int .i64 (ptsL (ints s.data.toList)).length) ∧ Below w.heap.size w w' := by
 refine (callsIn_wide (n := 10)).1 ?_
 refine callsIn_of_wp_marks Tryz.func134 rfl trivial ?_ rfl
 simp only [Tryz.ntmps134, List.size_toArray, List.length_cons, List.length_nil, Nat.reduceAdd, Nat.reduceSub, Array.replicate_succ, Array.replicate_zero, List.push_toArray, List.append_toArray, List.nil_append, List.cons_append]
 gi_wp2_with (refine ⟨trivial, ?_⟩; gi_at_call 106; go_must (refine ((callsIn_wide (n := 9)).2 (runes_any _ _)).mono ?_); rintro e w1 ⟨rfl, hw1⟩; have HW1 := Lib.hid hw1; clear hw1)
 have g0 : w1.heap[w.heap.size]? = some (.cells #[.int .i64 (([] : List (Nat × Int)).length : Nat)] 3 (0, 0)) := by rw [HW1.out]; exact allocs_get w [.cells #[.int .i64 0] 3, .cells #[.string s] 9] 0 _ rfl
 have g1 : w1.heap[w.heap.size + 1]? = some (.cells #[.string s] 9 (0, 0)) := by rw [HW1.out]; exact allocs_get w [.cells #[.int .i64 0] 3, .cells #[.string s] 9] 1 _ rfl
 have hbel : Below w.heap.size w w1 := by rw [HW1.out]; exact allocs_below w [.cells #[.int .i64 0] 3, .cells #[.string s] 9]
 have hsz : w1.heap.size = w.heap.size + 2 := by rw [HW1.out]; simp
 have hseq := seq_runes (w.heap.size + 1) s w1 hs g1
 clear HW1
 refine range_t (by omega) (gf := 126) (lb := #[.pointer (some ⟨w.heap.size + 1, 0, none⟩)]) rfl (enters_of Tryz.func126 (by kernel_rfl) rfl)
  hseq (Below.refl _ _) (fun h k => k.trans h) (fun W l o o' hl ho _ _ => World.putObj_heap_other (by omega)) (fun X Y h k o _ ho _ _ => (h.block k (blk_lt ho)).trans ho) (fun _ => rfl)
  (fun pre W => W.heap[w.heap.size]? = some (.cells #[.int .i64 (pre.length : Nat)] 3 (0, 0)) ∧ W.heap[w.heap.size + 1]? = some (.cells #[.string s] 9 (0, 0)) ∧ Below w.heap.size w W ∧ w1.heap.size ≤ W.heap.size)
  (fun _ _ _ => False)
  (OwnFrom.and (ownFrom_blk _ _ (fun (pre : List (Nat × Int)) => #[.int .i64 (pre.length : Nat)]) _) (OwnFrom.and (ownFrom_blk _ _ _ _) (OwnFrom.and (ownFrom_below (Nat.le_refl _) (by omega)) (fun s A B row hs hg hr => Nat.le_trans hs hg.size))))
  (fun _ _ _ _ _ hs _ _ => hs)
  (fun s X Y h k => ⟨blk_below h.1 k, blk_below h.2.1 k, below_step h.2.2.1 k, Nat.le_trans h.2.2.2 k.size⟩)
  (fun _ _ _ _ h _ => h)
  ⟨g0, g1, hbel, Nat.le_refl _⟩
  (fun x a' W => a' = { tmps := #[.string s, undef, .int .i64 0, .pointer (some ⟨w.heap.size, 0, none⟩), .string s, .func (.func 126) #[] #[.pointer (some ⟨w.heap.size + 1, 0, none⟩)], .int .i64 x.1, .int .i32 x.2, undef, undef, undef], defers := [] })
  (fun x a' s X Y row hs hg hr => hs)
  ?assign ?body ?done ?stop
 case assign =>
  rintro l pre x W K ⟨i0, i1, ib, is⟩ hK
  have e1 : (runeEnc x) = #[.int .i64 x.1, .int .i32 x.2] := rfl
  rw [e1]
  clear e1
  gi_wp2
  exact hK _ _ (keepsFrom_below (Below.refl _ _)) rfl ⟨i0, i1, ib, is⟩ (by simp)
 case body =>
  rintro l pre x a' W hl ⟨r, hr⟩ ⟨i0, i1, ib, is⟩ rfl hT
  have hx : pre.length < 9000000000 := by
   have h1 := hT.length_le
   rw [List.length_append] at h1
   have h2 := ptsL_len (ints s.data.toList)
   rw [ints_len] at h2
   simp at h1 h2
   omega
  have i0_0 := blkc i0 0 rfl
  have i0_f := blk_frozen i0 0
  have I0 := Lib.hid i0
  have I1 := Lib.hid i1
  clear hr hseq i0 i1
  gi_wp2
  refine ⟨(KeepsOthers.setCell _ _ _).from _, ?_, ?_, blk_far I1.out (by dsimp only; omega) _, ib.setCell (by dsimp only; omega) _, ?_⟩
  ·exact Below.heap_setCell _ _ _ _ (by dsimp only; omega)
  ·rw [List.length_append]; exact blk_set I0.out 0 _
  ·simpa [World.setCell] using is
 case done =>
  rintro D ys W hD rfl ⟨i0, i1, ib, is⟩ hK
  have i0_0 := blkc i0 0 rfl
  have HK := Lib.hid hK
  have IB := Lib.hid ib
  clear hseq i1 ib hK i0
  gi_wp2
  refine ⟨by simp, .inl ⟨_, _, rfl, run_takeDeferred HK.out, ?_⟩⟩
  exact ⟨_, results_tmp rfl _ _ _, rfl, IB.out.trans (belowK_b (w := w) (Nat.le_refl _) W D _ _ (by omega) HK.out rfl rfl)⟩
 case stop =>
  rintro D c pre W _ _ h _
  exact h.elim
end Go.Proofs.YtfocognhcljhpaaGreatDoor
namespace Go.Proofs.YtfocognhcljhpaaGreatDoor
open Go.RowKit Go.Shelf Go.Proofs.YtfocognhcljhpaaGreatDoorW.PrintWords Go.Proofs.YtfocognhcljhpaaGreatDoorW.PrintMore Go.Proofs.YtfocognhcljhpaaGreatDoor.PPrintRows Go.Proofs.YtfocognhcljhpaaGreatDoor.Tree
attribute [local go_sem] Oper.semAt_some
theorem wpList_append_runI {P : Program} (w : World) {ops : Array Oper} {rest : List Oper} {o : Oper} {a : Act} {Q : Exit → Act → World → Prop} (hg : o.guard = none) (d x : Operand) (dT sT : TypeId)
  (hop : o.op = Op.call { callee := Callee.builtin Builtin.append, args := #[d, x], argTypes := #[dT, sT] }) (v u : Value) (hd : a.eval d = v) (hx : a.eval x = u) {v' : Value} {w' : World}
  (hr : (Builtin.append_ #[dT, sT] o.type #[v, u]).run P w = .ok v' w') (h : wpList P ops Q rest (a.put o.dst v') w') : wpList P ops Q (o :: rest) a w := by
 refine wpList_plain hg fun K hK => ?_
 unfold Oper.wp
 simp [execOp, hop, resolve, invoke, builtin, hd, hx, hr, Result.andThen]
 exact hK _ _ h
theorem wpListIn_append_runI {F : Fence} {n : Nat} {P : Program} (w : World) {ops : Array Oper} {rest : List Oper} {o : Oper} {a : Act} {Q : Exit → Act → World → Prop} (hg : o.guard = none) (d x : Operand) (dT sT : TypeId)
  (hop : o.op = Op.call { callee := Callee.builtin Builtin.append, args := #[d, x], argTypes := #[dT, sT] }) (v u : Value) (hd : a.eval d = v) (hx : a.eval x = u) {v' : Value} {w' : World}
  (hr : (Builtin.append_ #[dT, sT] o.type #[v, u]).run P w = .ok v' w') (h : wpListIn F n P ops Q rest (a.put o.dst v') w') : wpListIn F n P ops Q (o :: rest) a w := by
 refine wpListIn_plain hg fun K hK => ?_
 unfold Oper.wpIn
 refine ⟨by simp [Oper.about, hop, resolve, Target.leads, Sem.run_pure], ?_⟩
 rw [Oper.semAt_plain F _ _ (by rw [hop]; intro c hc'; cases hc')]
 simp [execOp, hop, resolve, invoke, builtin, hd, hx, hr, Result.andThen]
 exact hK _ _ h
def kidsP (l : List Node) (e : Int) : Nat → Nat → List Nat
 | 0, _ => []
 | f + 1, k => if (k : Int) < e then k :: kidsP l e f (endAt l k).toNat else []
theorem kidsP_len (l : List Node) (e : Int) : ∀ f k, (kidsP l e f k).length ≤ f
 | 0, _ => by rw [kidsP]; exact Nat.le_refl _
 | f + 1, k => by
  rw [kidsP]
  split
  ·rw [List.length_cons]; have := kidsP_len l e f (endAt l k).toNat; omega
  ·simp
def KpS (S : Nat → Prop) (A B : World) : Prop := A.heap.size ≤ B.heap.size ∧ ∀ k, S k → B.heap[k]? = A.heap[k]?
theorem KpS.refl (S : Nat → Prop) (A : World) : KpS S A A := ⟨Nat.le_refl _, fun _ _ => rfl⟩
theorem KpS.trans {S : Nat → Prop} {A B C : World} (h : KpS S A B) (k : KpS S B C) : KpS S A C := ⟨Nat.le_trans h.1 k.1, fun j hj => (k.2 j hj).trans (h.2 j hj)⟩
theorem KpS.putObj {S : Nat → Prop} {W : World} {l : Nat} {o' : Obj} (hl : ¬ S l) : KpS S W (W.putObj l o') :=
 ⟨by simp [World.putObj], fun k hk => World.putObj_heap_other (fun e => hl (e ▸ hk))⟩
theorem KpS.of_below {S : Nat → Prop} {A B : World} {N : Nat} (h : Below N A B) (hS : ∀ k, S k → k < N) : KpS S A B := ⟨h.size, fun k hk => h.block k (hS k hk)⟩
theorem kdC_keep {w w1 : World} {A : Option Addr} {l : List Node} (h : Kd.C kN w A l.length l) (hk : ∀ a, A = some a → w1.heap[a.block]? = w.heap[a.block]?) : Kd.C kN w1 A l.length l := by
 obtain ⟨h1, h2, h3⟩ := h
 refine ⟨h1, h2, fun hp => ?_⟩
 obtain ⟨ad, e, h4⟩ := h3 hp
 refine ⟨ad, e, fun j p hj => ?_⟩
 obtain ⟨c, hc, hK, hcl⟩ := h4 j p hj
 obtain rfl := k48_open hK
 refine ⟨_, hc, k48_mk w1 p, fun i u hu => ?_⟩
 have hb : (ad.add (j * kN.sz + i)).block = ad.block := by unfold Addr.add; split <;> rfl
 exact (World.cell?_of_block (a := ad.add (j * kN.sz + i)) (by rw [hb]; exact hk ad e)).trans (hcl i u hu)
def intEnc (j : Nat) : Array Value := #[.int .i64 (j : Int)]
def WS (Bi Bl : Nat) (A : Option Addr) (k : Nat) : Prop := k = Bi ∨ k = Bl ∨ ∃ a, A = some a ∧ k = a.block
set_option maxRecDepth 100000 in
set_option maxHeartbeats 4000000 in
theorem within1_in (lp Bi Bl : Nat) (A : Option Addr) (cap : Nat) (l : List Node) (i : Nat) (hi : i < l.length) (hl : l.length ≤ 900000) (hlc : l.length ≤ cap)
  (hmono : ∀ (k : Nat) (h : k < l.length), (k : Int) < l[k].f4 ∧ l[k].f4 ≤ l.length) (all : List Nat) (hall : all = kidsP l (l[i].f4) l.length (i + 1))
  (J Jx : List Nat → World → Prop)
  (hY : ∀ pre x W, J pre W → pre ++ [x] <+: all → YieldAt Fence.wide 8 Tryz.prog lp (intEnc x) W fun e W' =>
   (e = .returned (.bool true) ∧ J (pre ++ [x]) W' ∧ KpS (WS Bi Bl A) W W') ∨ (e = .returned (.bool false) ∧ Jx (pre ++ [x]) W'))
  (W : World) (hBi : W.heap[Bi]? = some (.cells #[.int .i64 (i : Int)] 3 (0, 0))) (hBl : W.heap[Bl]? = some (.cells #[.slice A l.length cap] 22 (0, 0))) (hC : Kd.C kN W A l.length l) (h0 : J [] W) :
  CallsIn Fence.wide 9 Tryz.prog 100 #[.func (.yield lp) #[] #[], .pointer (some ⟨Bi, 0, none⟩), .pointer (some ⟨Bl, 0, none⟩)] W fun e W' => (∃ v, e = .returned v) ∧
   ((∃ ys, ys = all ∧ J ys W') ∨ (∃ pre, pre <+: all ∧ Jx pre W')) := by
 have HM := Lib.hid hmono
 have HY := Lib.hid hY
 have HAL := Lib.hid hall
 have HC := Lib.hid hC
 have ci := blkc hBi 0 rfl
 have hei := (hmono i hi).2
 obtain ⟨ad, rfl, _, _, _, _, d4⟩ := node_at hC i hi
 clear hmono hY hall hC
 generalize hE : l[i].f4 = e at *
 refine callsIn_of_wp Tryz.func100 rfl trivial ?_ rfl
 simp only [Tryz.ntmps100, List.size_toArray, List.length_cons, List.length_nil, Nat.reduceAdd, Nat.reduceSub, Array.replicate_succ, Array.replicate_zero, List.push_toArray, List.append_toArray, List.nil_append, List.cons_append]
 gi_wp2
 gi_loopw [4] (fun vi wr => ∃ (k f : Nat) (pre : List Nat), vi = .int .i64 k ∧ l.length < k + f ∧ i < k ∧ k ≤ l.length ∧ all = pre ++ kidsP l e f k ∧ J pre wr ∧ wr.heap[Bi]? = some (.cells #[.int .i64 (i : Int)] 3 (0, 0)) ∧ wr.heap[Bl]? = some (.cells #[.slice (some ad) l.length cap] 22 (0, 0)) ∧ Kd.C kN wr (some ad) l.length l)
  (fun vi _ => l.length - (intOf vi).toNat)
 case atStart => exact ⟨i + 1, l.length, [], by go_num, by omega, by omega, by omega, HAL.out, h0, hBi, hBl, HC.out⟩
 case round =>
  obtain ⟨k, f, pre, rfl, hf, hik, hkl, hpre, hJ, hBi', hBl', hC'⟩ := hrel
  have c0 := blkc hBi' 0 rfl
  have c1 := blkc hBl' 0 rfl
  obtain ⟨_, e9, _, _, _, _, d4'⟩ := node_at hC' i hi
  injection e9 with e9
  subst e9
  rw [hE] at d4'
  have k5 : decide ((i : Int) < (l.length : Int)) = true := decide_eq_true (by omega)
  clear ci d4
  by_cases hlt : (k : Int) < e
  ·have k9 : decide ((k : Int) < e) = true := decide_eq_true hlt
   have hk2 : k < l.length := by omega
   obtain ⟨f', rfl⟩ : ∃ f', f = f' + 1 := ⟨f - 1, by omega⟩
   rw [kidsP, if_pos hlt] at hpre
   have hE2 : endAt l k = l[k].f4 := by unfold endAt; rw [List.getElem?_eq_getElem hk2]
   obtain ⟨m1, m2⟩ := HM.out k hk2
   obtain ⟨k', hk'⟩ : ∃ k' : Nat, l[k].f4 = (k' : Int) := ⟨l[k].f4.toNat, by omega⟩
   rw [hE2, hk', Int.toNat_natCast] at hpre
   have hpf : pre ++ [k] <+: all := ⟨_, by rw [List.append_assoc]; exact hpre.symm⟩
   have HPF := Lib.hid hpf
   have HPR := Lib.hid (show all = (pre ++ [k]) ++ kidsP l e f' k' by rw [List.append_assoc]; exact hpre)
   obtain ⟨fn, tmps, assign, body, hy, hR0⟩ := HY.out pre k wr hJ hpf
   have hR := hR0
   clear hR0 hpre hpf hE2
   dsimp only [intEnc] at hy
   have HB1 := Lib.hid hBi'
   have HB2 := Lib.hid hBl'
   have HCC := Lib.hid hC'
   clear hBi' hBl' hC' hJ
   gi_wp2
   refine hR.mono ?_
   rintro e W3 (⟨rfl, hJ3, hk3⟩ | ⟨rfl, hJx3⟩)
   ·have HX := Lib.hid ((hk3.2 Bi (.inl rfl)).trans HB1.out)
    have HX2 := Lib.hid ((hk3.2 Bl (.inr (.inl rfl))).trans HB2.out)
    have HX3 := Lib.hid (kdC_keep HCC.out (w1 := W3) (fun a ha => hk3.2 a.block (.inr (.inr ⟨a, ha, rfl⟩))))
    obtain ⟨_, e9, _, _, _, _, q4⟩ := node_at HX3.out k hk2
    injection e9 with e9
    subst e9
    rw [hk'] at q4
    have c5 := blkc HX2.out 0 rfl
    have k6 : decide ((k : Int) < (l.length : Int)) = true := decide_eq_true (by omega)
    have k7 : decide (k < l.length) = true := decide_eq_true (by omega)
    clear hk3 hy
    gi_wp2
    go_roundw
    case rel => exact ⟨k', f', pre ++ [k], rfl, by omega, by omega, by omega, HPR.out, hJ3, HX.out, HX2.out, HX3.out⟩
    case measure => simp [intOf]; omega
   ·gi_wp2
    refine bodyPost_ret (results_none rfl _ _ _) rfl ?_
    exact ⟨⟨_, rfl⟩, .inr ⟨_, HPF.out, hJx3⟩⟩
  ·have k9 : decide ((k : Int) < e) = false := decide_eq_false hlt
   have hall2 : pre = all := by
    rw [hpre]
    cases f with
    | zero => rw [kidsP, List.append_nil]
    | succ f => rw [kidsP, if_neg hlt, List.append_nil]
   have HA2 := Lib.hid hall2
   clear hpre hall2
   gi_wp2
   go_end0
   exact ⟨⟨_, rfl⟩, .inl (HA2.out ▸ hJ)⟩
theorem seq_within (Bi Bl : Nat) (A : Option Addr) (cap : Nat) (l : List Node) (i : Nat) (hi : i < l.length) (hl : l.length ≤ 900000) (hlc : l.length ≤ cap)
  (hmono : ∀ (k : Nat) (h : k < l.length), (k : Int) < l[k].f4 ∧ l[k].f4 ≤ l.length) (w0 : World) (hBi : w0.heap[Bi]? = some (.cells #[.int .i64 (i : Int)] 3 (0, 0))) (hBl : w0.heap[Bl]? = some (.cells #[.slice A l.length cap] 22 (0, 0))) (hC : Kd.C kN w0 A l.length l) :
  SeqT 9 Tryz.prog 100 #[.pointer (some ⟨Bi, 0, none⟩), .pointer (some ⟨Bl, 0, none⟩)] intEnc (KpS (WS Bi Bl A)) (fun A B => B = A) (fun pre x => pre ++ [x] <+: kidsP l (l[i].f4) l.length (i + 1)) (fun ys => ys = kidsP l (l[i].f4) l.length (i + 1)) (fun pre => pre <+: kidsP l (l[i].f4) l.length (i + 1)) w0 := by
 intro lp J Jx W hW _ _ hY h0
 exact within1_in lp Bi Bl A cap l i hi hl hlc hmono _ rfl J Jx hY W ((hW.block Bi (blk_lt hBi)).trans hBi) (blk_below hBl hW) (Kd.C_below hC hW) h0
theorem within_any (A : Option Addr) (n c : Nat) (i : Int) (w : World) :
  Calls Tryz.prog 77 #[.slice A n c, .int .i64 i] w fun e w' => e = .returned (.func (.func 100) #[] #[.pointer (some ⟨w.heap.size + 1, 0, none⟩), .pointer (some ⟨w.heap.size, 0, none⟩)]) ∧ w' = (w.alloc (.cells #[.slice A n c] 22)).alloc (.cells #[.int .i64 i] 3) := by
 go_enter Tryz.func77, Tryz.ntmps77
 go_wp2
 go_ret
 exact ⟨rfl, rfl⟩
end Go.Proofs.YtfocognhcljhpaaGreatDoor
namespace Go.Proofs.YtfocognhcljhpaaGreatDoor
open Go.RowKit Go.Shelf Go.Proofs.YtfocognhcljhpaaGreatDoorW.PrintWords Go.Proofs.YtfocognhcljhpaaGreatDoorW.PrintMore Go.Proofs.YtfocognhcljhpaaGreatDoor.PPrintRows Go.Proofs.YtfocognhcljhpaaGreatDoor.Tree
attribute [local go_sem] Oper.semAt_some
def BoxInts (N : Nat) (w0 : World) (B : Nat) (pre : List Nat) (W : World) : Prop :=
 ∃ v, W.heap[B]? = some (.cells #[v] 71 (0, 0)) ∧ OpenAt W N v pre.reverse ∧ Below N w0 W ∧ B < W.heap.size
theorem BoxInts.keep {N B : Nat} {w0 W W' : World} {pre : List Nat} (h : BoxInts N w0 B pre W) (hk : ∀ (k : Nat) cs T fr, W.heap[k]? = some (Obj.cells cs T fr) → W'.heap[k]? = W.heap[k]?) (hb : Below N w0 W') (hs : W.heap.size ≤ W'.heap.size) : BoxInts N w0 B pre W' := by
 obtain ⟨v, h1, h2, h3, h4⟩ := h
 refine ⟨v, (hk _ _ _ _ h1).trans h1, h2.keep (fun k hv => ?_), hb, by omega⟩
 obtain ⟨_, cells, hc⟩ := own_int (open_own h2) k hv
 exact hk _ _ _ _ hc
set_option maxRecDepth 100000 in
set_option maxHeartbeats 4000000 in
theorem appendSeq_t {gf : Nat} {lb : Array Value} (eg : ∀ args w, (callFunc gf args).run Tryz.prog w = .ok (.enter gf args) w) (S : Nat → Prop) (all : List Nat) (hlen : all.length ≤ 900000) (w : World) (hS : ∀ k, S k → k < w.heap.size)
  (hseq : SeqT 9 Tryz.prog gf lb intEnc (KpS S) (fun A B => B = A) (fun pre x => pre ++ [x] <+: all) (fun ys => ys = all) (fun pre => pre <+: all) w) :
  Calls Tryz.prog 99 #[.slice none 0 0, .func (.func gf) #[] lb] w fun e w' => ∃ v, e = .returned v ∧ OpenAt w' w.heap.size v all.reverse ∧ Below w.heap.size w w' := by
 refine (callsIn_wide (n := 10)).1 ?_
 refine callsIn_of_wp_marks Tryz.func99 rfl trivial ?_ rfl
 simp only [Tryz.ntmps99, List.size_toArray, List.length_cons, List.length_nil, Nat.reduceAdd, Nat.reduceSub, Array.replicate_succ, Array.replicate_zero, List.push_toArray, List.append_toArray, List.nil_append, List.cons_append]
 have HSQ := Lib.hid hseq
 clear hseq
 gi_wp2
 obtain ⟨w1, hw1⟩ : ∃ w1, w.alloc (.cells #[.slice none 0 0] 71) = w1 := ⟨_, rfl⟩
 have hx1 : w1.heap[w.heap.size]? = some (.cells #[.slice none 0 0] 71 (0, 0)) := by rw [← hw1]; exact blk_new _ _
 have hb1 : Below w.heap.size w w1 := by rw [← hw1]; exact below_alloc (Below.refl _ _) _
 have hs1 : w1.heap.size = w.heap.size + 1 := by rw [← hw1]; simp
 rw [hw1]
 have hs2 : w.heap.size < w1.heap.size := by omega
 have HS := Lib.hid hS
 clear hw1 hS
 refine range_t (by omega) (gf := gf) (lb := lb) rfl eg HSQ.out hb1 (fun h k => h.trans k) (fun W l o o' hl ho hc _ => KpS.putObj (fun hS' => by have := HS.out l hS'; omega)) (fun X Y (h : Y = X) k o _ ho _ _ => by rw [h]; exact ho) (fun _ => rfl)
  (fun pre W => BoxInts w.heap.size w w.heap.size pre W) (fun _ _ _ => False)
  (fun s A C row hs hg hr => hs.keep (fun k cs T fr hk => hg.block k (blk_lt hk) (fun e => by obtain ⟨_, o, ho, hc⟩ := hr k e.symm; rw [hk] at ho; cases ho; cases hc)) (by obtain ⟨_, _, _, h3, _⟩ := hs; exact (ownFrom_below (β := List Nat) (Nat.le_refl _) (by omega)) s A C row h3 hg hr) hg.size)
  (fun _ _ _ _ _ hs _ _ => hs) (fun s X Y h (k : Y = X) => k ▸ h) (fun _ _ _ _ h _ => h) ⟨_, hx1, open_of (World.ownsRow_nil _ _ _ _), hb1, by omega⟩
  (fun x a' W => a' = { tmps := #[.slice none 0 0, .func (.func gf) #[] lb, .pointer (some ⟨w.heap.size, 0, none⟩), undef, .slice none 0 0, .int .i64 (x : Int), .func (.func gf) #[] lb, .int .i64 (x : Int), undef, undef, undef, undef, undef], defers := [] })
  (fun x a' s X Y row hs hg hr => hs) ?assign ?body ?done ?stop
 case assign =>
  rintro lp pre x W K hI hK
  have e1 : (intEnc x) = #[.int .i64 (x : Int)] := rfl
  rw [e1]
  have HI := Lib.hid hI
  clear e1 hI hx1 hb1 hs1
  gi_wp2
  exact hK _ _ (keepsFrom_below (Below.refl _ _)) (KpS.refl _ _) HI.out rfl
 case body =>
  rintro lp pre x a' W hl ⟨r, hr⟩ ⟨v, h1, h2, h3, h4⟩ rfl hT
  have hlen2 : pre.length ≤ 900000 := by
   obtain ⟨t, ht⟩ := hT
   rw [← ht] at hlen
   simp at hlen
   omega
  have hsz := h3.size
  obtain ⟨v', w2, hr1, hO, hg, hown⟩ := int_append h2 x (by simpa using hlen2) hsz
  obtain ⟨A', c', n', rfl⟩ : ∃ A' c' n', v' = .slice A' n' c' := by obtain ⟨A', c', e⟩ := Kd.R_slice hO; exact ⟨A', c', _, e⟩
  have c0 : W.cell? ⟨w.heap.size, 0, none⟩ = some v := blkc h1 0 rfl
  have hne : v.ownBlock ≠ some w.heap.size := fun e => by
   obtain ⟨_, cells, hc⟩ := own_int (open_own h2) _ e
   rw [h1] at hc
   injection hc with hc
   injection hc with _ hc
   cases hc
  have hx2 : w2.heap[w.heap.size]? = some (.cells #[v] 71 (0, 0)) := (hg.block _ (by simp; omega) (fun e => hne e.symm)).trans (blk_alloc h1 _)
  have q0 : w2.cell? ⟨w.heap.size, 0, none⟩ = some v := blkc hx2 0 rfl
  have qf := blk_frozen hx2 0
  have HX2 := Lib.hid hx2
  have HO := Lib.hid hO
  have HG := Lib.hid hg
  have HOW := Lib.hid hown
  have H1 := Lib.hid h1
  have H2 := Lib.hid h2
  have H3 := Lib.hid h3
  clear hx1 hb1 hs1 hT hr h1 h2 h3 hx2 hO hg hown
  gi_wp2_with (gi_at_builtin; refine wpListIn_append_runI _ rfl _ _ 71 71 rfl _ _ rfl rfl hr1 ?_)
  have hty := own_int (open_own H2.out)
  have hty2 := own_int (open_own HO.out)
  have hx3 : (w2.setCell ⟨w.heap.size, 0, none⟩ (.slice A' n' c')).heap[w.heap.size]? = some (.cells #[.slice A' n' c'] 71 (0, 0)) := by
   simp [World.setCell, Array.getElem?_modify, HX2.out]
  have hoth : ∀ k, k < W.heap.size → v.ownBlock ≠ some k → k ≠ w.heap.size → (w2.setCell ⟨w.heap.size, 0, none⟩ (.slice A' n' c')).heap[k]? = W.heap[k]? := fun k hk hv hw =>
   (Below.heap_setCell _ _ _ _ hw).trans ((HG.out.block k (by simp; omega) (fun e => hv e.symm)).trans ((below_alloc (Below.refl _ _) _).block k hk))
  have hsz2 := HG.out.size
  simp only [World.size_alloc] at hsz2
  refine ⟨⟨by simp [World.setCell]; omega, fun k o hk ho hc => (hoth k (blk_lt ho) (fun e => ?_) (by omega)).trans ho⟩, ⟨by simp [World.setCell]; omega, fun k hk => ?_⟩, ?_⟩
  ·obtain ⟨_, cells, h⟩ := hty k e
   rw [ho] at h
   cases h
   cases hc
  ·have := HS.out k hk
   exact hoth k (by omega) (fun e => by have := (hty k e).1; omega) (by omega)
  ·refine ⟨_, hx3, ?_, ((below_alloc H3.out _).grown HG.out (by simp; omega) (fun k e => (hty k e).1)).setCell (by exact Nat.le_refl _) _, by simp [World.setCell]; omega⟩
   rw [List.reverse_append]
   exact HO.out.keep (fun k hk => Below.heap_setCell _ _ _ _ (fun e => by
    obtain ⟨_, cells, h⟩ := hty2 k hk
    rw [e] at h
    have := HX2.out.symm.trans h
    injection this with this
    injection this with _ this
    cases this))
 case done =>
  rintro D ys W hD rfl ⟨v, h1, h2, h3, h4⟩ hK
  have hD2 : w.heap.size ≤ D := by omega
  have c0 : W.cell? ⟨w.heap.size, 0, none⟩ = some v := blkc h1 0 rfl
  have H1 := Lib.hid h1
  have H2 := Lib.hid h2
  have H3 := Lib.hid h3
  have HK := Lib.hid hK
  clear hx1 hb1 hs1 h1 h2 h3 hK
  gi_wp2
  refine ⟨by simp, .inl ⟨_, _, rfl, run_takeDeferred HK.out, ?_⟩⟩
  exact ⟨_, results_tmp rfl _ _ _, ⟨_, rfl, H2.out.keep (fun k hk => World.putObj_heap_other (fun e => by
   obtain ⟨_, cells, hc⟩ := own_int (open_own H2.out) _ hk
   rw [e, HK.out] at hc
   cases hc)), H3.out.trans (belowK_b (w := w) (Nat.le_refl _) W D _ _ hD2 HK.out rfl rfl)⟩⟩
 case stop =>
  rintro D c pre W _ _ h _
  exact h.elim
theorem collect_t {gf : Nat} {lb : Array Value} (eg : ∀ args w, (callFunc gf args).run Tryz.prog w = .ok (.enter gf args) w) (S : Nat → Prop) (all : List Nat) (hlen : all.length ≤ 900000) (w : World) (hS : ∀ k, S k → k < w.heap.size)
  (hseq : SeqT 9 Tryz.prog gf lb intEnc (KpS S) (fun A B => B = A) (fun pre x => pre ++ [x] <+: all) (fun ys => ys = all) (fun pre => pre <+: all) w) :
  Calls Tryz.prog 76 #[.func (.func gf) #[] lb] w fun e w' => ∃ v, e = .returned v ∧ OpenAt w' w.heap.size v all.reverse ∧ Below w.heap.size w w' := by
 have HC := Lib.hid (appendSeq_t eg S all hlen w hS hseq)
 clear hseq
 go_enter Tryz.func76, Tryz.ntmps76
 go_wp2_with (go_at_call 99; go_must (refine HC.out.mono ?_); rintro e w1 ⟨v, rfl, hO, hB⟩)
 go_ret
 exact ⟨v, rfl, hO, hB⟩
end Go.Proofs.YtfocognhcljhpaaGreatDoor
namespace Go.Proofs
open Go.Shelf
def Tryz.laysSlF6_f78_ren : Go.Shelf.Ren := ⟨fun | 6 => 78 | 15 => 102 | 14 => 101 | 28 => 124 | 29 => 125 | 20 => 116 | 21 => 117 | 22 => 118 | 23 => 119 | 24 => 120 | 25 => 121 | 26 => 122 | 27 => 123 | 46 => 135 | 47 => 136 | 48 => 137 | 49 => 138 | 50 => 139 | 57 => 146 | n => n, fun | 22 => 71 | 24 => 3 | 25 => 119 | 3 => 3 | 39 => 120 | 0 => 0 | 53 => 152 | 55 => 154 | 4 => 4 | 46 => 146 | 45 => 145 | 50 => 68 | 5 => 5 | 9 => 9 | 66 => 159 | 70 => 163 | 76 => 174 | 77 => 175 | n => n, fun | n => n⟩
theorem Tryz.laysSlF6_f78 : Go.Proofs.SlLaysF.n6 Tryz.prog Tryz.laysSlF6_f78_ren := {
 mixed := by kernel_rfl
 f6 := ⟨Tryz.f78.name, by decide, Tryz.func78.trans (congrArg some (by kernel_rfl))⟩
 f14 := ⟨Tryz.f101.name, by decide, Tryz.func101.trans (congrArg some (by kernel_rfl))⟩
 f15 := Tryz.func102.trans (congrArg some (by kernel_rfl))
 f20 := ⟨Tryz.f116.name, by decide, Tryz.func116.trans (congrArg some (by kernel_rfl))⟩
 f21 := ⟨Tryz.f117.name, by decide, Tryz.func117.trans (congrArg some (by kernel_rfl))⟩
 f22 := ⟨Tryz.f118.name, by decide, Tryz.func118.trans (congrArg some (by kernel_rfl))⟩
 f23 := ⟨Tryz.f119.name, by decide, Tryz.func119.trans (congrArg some (by kernel_rfl))⟩
 f24 := ⟨Tryz.f120.name, by decide, Tryz.func120.trans (congrArg some (by kernel_rfl))⟩
 f25 := ⟨Tryz.f121.name, by decide, Tryz.func121.trans (congrArg some (by kernel_rfl))⟩
 f26 := ⟨Tryz.f122.name, by decide, Tryz.func122.trans (congrArg some (by kernel_rfl))⟩
 f27 := ⟨Tryz.f123.name, by decide, Tryz.func123.trans (congrArg some (by kernel_rfl))⟩
 f28 := Tryz.func124.trans (congrArg some (by kernel_rfl))
 f29 := Tryz.func125.trans (congrArg some (by kernel_rfl))
 f46 := ⟨Tryz.f135.name, by decide, Tryz.func135.trans (congrArg some (by kernel_rfl))⟩
 f47 := Tryz.func136.trans (congrArg some (by kernel_rfl))
 f48 := Tryz.func137.trans (congrArg some (by kernel_rfl))
 f49 := ⟨Tryz.f138.name, by decide, Tryz.func138.trans (congrArg some (by kernel_rfl))⟩
 f50 := ⟨Tryz.f139.name, by decide, Tryz.func139.trans (congrArg some (by kernel_rfl))⟩
 f57 := ⟨Tryz.f146.name, by decide, Tryz.func146.trans (congrArg some (by kernel_rfl))⟩
 t0 := Tryz.underlying0
 a0 := Tryz.isAgg0
 z0 := Tryz.sizeOf0
 v0 := Tryz.zeroValue0
 t3 := Tryz.underlying3
 a3 := Tryz.isAgg3
 z3 := Tryz.sizeOf3
 v3 := Tryz.zeroValue3
 t4 := Tryz.underlying4
 a4 := Tryz.isAgg4
 z4 := Tryz.sizeOf4
 v4 := Tryz.zeroValue4
 t5 := Tryz.underlying5
 a5 := Tryz.isAgg5
 z5 := Tryz.sizeOf5
 v5 := Tryz.zeroValue5
 t9 := Tryz.underlying9
 a9 := Tryz.isAgg9
 z9 := Tryz.sizeOf9
 v9 := Tryz.zeroValue9
 t22 := Tryz.underlying71
 a22 := Tryz.isAgg71
 z22 := Tryz.sizeOf71
 v22 := Tryz.zeroValue71
 a24 := Tryz.isAgg3
 z24 := Tryz.sizeOf3
 t25 := Tryz.underlying119
 a25 := Tryz.isAgg119
 z25 := Tryz.sizeOf119
 v25 := Tryz.zeroValue119
 t39 := Tryz.underlying120
 a39 := Tryz.isAgg120
 z39 := Tryz.sizeOf120
 v39 := Tryz.zeroValue120
 t45 := Tryz.underlying145
 a45 := Tryz.isAgg145
 z45 := Tryz.sizeOf145
 v45 := Tryz.zeroValue145
 t46 := Tryz.underlying146
 a46 := Tryz.isAgg146
 z46 := Tryz.sizeOf146
 v46 := Tryz.zeroValue146
 t50 := Tryz.underlying68
 a50 := Tryz.isAgg68
 z50 := Tryz.sizeOf68
 v50 := Tryz.zeroValue68
 t53 := Tryz.underlying152
 a53 := Tryz.isAgg152
 z53 := Tryz.sizeOf152
 v53 := Tryz.zeroValue152
 t55 := Tryz.underlying154
 a55 := Tryz.isAgg154
 z55 := Tryz.sizeOf154
 v55 := Tryz.zeroValue154
 t66 := Tryz.underlying159
 a66 := Tryz.isAgg159
 z66 := Tryz.sizeOf159
 v66 := Tryz.zeroValue159
 t70 := Tryz.underlying163
 a70 := Tryz.isAgg163
 z70 := Tryz.sizeOf163
 v70 := Tryz.zeroValue163
 t76 := Tryz.underlying174
 a76 := Tryz.isAgg174
 z76 := Tryz.sizeOf174
 v76 := Tryz.zeroValue174
 t77 := Tryz.underlying175
 a77 := Tryz.isAgg175
 z77 := Tryz.sizeOf175
 v77 := Tryz.zeroValue175 }
open Go.RowKit Go.Lib Go.Sort in
theorem Tryz.slices_SortFunc {α : Type} [Inhabited α] (enc : α → Value) (h1 : OneCell enc) (cf : α → α → Int) (hO : SWO (ltOf cf)) (g : Nat) (cb : Array Value) (blk off cap : Nat) (d : Array α) (w : World) (eg : ∀ args w, (callFunc g args).run Tryz.prog w = .ok (.enter g args) w) (hcmp : CmpLays1 Tryz.prog g cb enc cf blk off d.size w) (hH : Holds enc w blk off d) (hblk : blk < w.heap.size) (hsz : d.size < 4611686018427387904) :
  Calls Tryz.prog 78 #[.slice (some ⟨blk, off, none⟩) d.size cap, .func (.func g) #[] cb] w fun e w' =>
   e = .returned (.tuple #[]) ∧ ∃ d' n os, PermIn 0 d.size d d' ∧ SortedIn (ltOf cf) 0 d.size d' ∧ w' = sortWorld enc w blk off n d' os := Any.slices_SortFunc Tryz.laysSlF6_f78 enc h1 cf hO g cb blk off cap d w eg hcmp hH hblk hsz
end Go.Proofs
namespace Go.Proofs.YtfocognhcljhpaaGreatDoor
open Go.RowKit
def bl : Bytes → Bytes → Bool
 | _, [] => false
 | [], _ :: _ => true
 | a :: r, b :: s => if a < b then true else if b < a then false else bl r s
theorem bl_eq : ∀ x y : Bytes, Op.bytesLess x y = bl x y
 | [], [] => by simp [Op.bytesLess, bl]
 | _ :: _, [] => by simp [Op.bytesLess, bl]
 | [], _ :: _ => by simp [Op.bytesLess, bl]
 | a :: x, b :: y => by
  rw [Op.bytesLess, bl_eq x y]
  show _ = (if a < b then true else if b < a then false else bl x y)
  by_cases h1 : a < b
  ·simp [h1]
  ·by_cases h2 : b < a
   ·have h3 : a ≠ b := by rintro rfl; exact h1 h2
    simp [h1, h2, h3]
   ·have h3 : a = b := by
     rw [← UInt8.toNat_inj]
     rw [UInt8.lt_iff_toNat_lt] at h1 h2
     omega
    subst h3
    simp [h1]
theorem bl_total : ∀ x y : Bytes, bl x y = false → bl y x = false → x = y := by
 intro x
 induction x with
 | nil => intro y h1 h2; cases y with
  | nil => rfl
  | cons b s => simp [bl] at h1
 | cons a r ih =>
  intro y h1 h2
  cases y with
  | nil => simp [bl] at h2
  | cons b s =>
   unfold bl at h1 h2
   by_cases h : a < b
   ·rw [if_pos h] at h1; cases h1
   ·by_cases h' : b < a
    ·rw [if_pos h'] at h2; cases h2
    ·rw [if_neg h, if_neg h'] at h1
     rw [if_neg h', if_neg h] at h2
     have hab : a = b := by
      rw [← UInt8.toNat_inj]
      rw [UInt8.lt_iff_toNat_lt] at h h'
      omega
     rw [hab, ih s h1 h2]
theorem bl_asymm : ∀ x y : Bytes, bl x y = true → bl y x = false := by
 intro x
 induction x with
 | nil => intro y h; cases y <;> rfl
 | cons a r ih =>
  intro y h1
  cases y with
  | nil => simp [bl] at h1
  | cons b s =>
   unfold bl at h1 ⊢
   by_cases h : a < b
   ·have h' : ¬ b < a := by rw [UInt8.lt_iff_toNat_lt] at h ⊢; omega
    rw [if_neg h', if_pos h]
   ·rw [if_neg h] at h1
    by_cases h' : b < a
    ·rw [if_pos h'] at h1; cases h1
    ·rw [if_neg h'] at h1
     rw [if_neg h', if_neg h]
     exact ih s h1
theorem bl_irrefl : ∀ x : Bytes, bl x x = false := by
 intro x
 induction x with
 | nil => rfl
 | cons a r ih => unfold bl; rw [if_neg (by rw [UInt8.lt_iff_toNat_lt]; omega), if_neg (by rw [UInt8.lt_iff_toNat_lt]; omega)]; exact ih
theorem less_flip {x y : Bytes} (h : Op.bytesLess y x = true) : Op.bytesLess x y = false ∧ (x == y) = false := by
 rw [bl_eq] at h ⊢
 refine ⟨bl_asymm y x h, ?_⟩
 rw [beq_eq_false_iff_ne]
 rintro rfl
 rw [bl_irrefl] at h
 cases h
theorem less_not {x y : Bytes} (h : Op.bytesLess y x = false) : (Op.bytesLess x y = true ∧ (x == y) = false) ∨ (Op.bytesLess x y = false ∧ (x == y) = true) := by
 cases h2 : Op.bytesLess x y with
 | true => exact .inl ⟨rfl, (by
   have := (less_flip (x := y) (y := x) h2).2
   rw [beq_eq_false_iff_ne] at this ⊢
   exact fun e => this e.symm)⟩
 | false =>
  rw [bl_eq] at h h2
  exact .inr ⟨rfl, by rw [bl_total x y h2 h]; exact beq_self_eq_true _⟩
end Go.Proofs.YtfocognhcljhpaaGreatDoor
namespace Go.Proofs.YtfocognhcljhpaaGreatDoor
open Go.RowKit Go.Shelf Go.Proofs.YtfocognhcljhpaaGreatDoorW.PrintWords Go.Proofs.YtfocognhcljhpaaGreatDoorW.PrintMore Go.Proofs.YtfocognhcljhpaaGreatDoor.PPrintRows Go.Proofs.YtfocognhcljhpaaGreatDoor.Tree
def cmpV (x y : ByteArray) : Int := if bl x.data.toList y.data.toList = true then -1 else if bl y.data.toList x.data.toList = true then 1 else 0
theorem isNaN_any (x : ByteArray) (w : World) : Calls Tryz.prog 103 #[.string x] w fun e w' => e = .returned (.bool false) ∧ w = w' := by
 go_enter Tryz.func103, Tryz.ntmps103
 go_wp2
 go_ret
 exact ⟨by simp, rfl⟩
set_option maxHeartbeats 1000000 in
theorem compare_any (x y : ByteArray) (w : World) : Calls Tryz.prog 80 #[.string x, .string y] w fun e w' => e = .returned (.int .i64 (cmpV x y)) ∧ w = w' := by
 unfold cmpV
 rw [← bl_eq, ← bl_eq, ← ByteArray.toList_eq, ← ByteArray.toList_eq]
 cases h1 : Op.bytesLess x.toList y.toList with
 | true =>
  rw [if_pos rfl]
  have h2 := less_flip h1
  go_enter Tryz.func80, Tryz.ntmps80
  go_wp2_with (go_at_call 103; refine (isNaN_any _ _).mono ?_; rintro e w' ⟨rfl, rfl⟩)
  go_ret
  exact ⟨rfl, rfl⟩
 | false =>
  rw [if_neg (by decide)]
  cases h3 : Op.bytesLess y.toList x.toList with
  | true =>
   rw [if_pos rfl]
   obtain ⟨h4, h5⟩ := less_flip h3
   go_enter Tryz.func80, Tryz.ntmps80
   go_wp2_with (go_at_call 103; refine (isNaN_any _ _).mono ?_; rintro e w' ⟨rfl, rfl⟩)
   go_ret
   exact ⟨rfl, rfl⟩
  | false =>
   rw [if_neg (by decide)]
   rcases less_not h3 with ⟨h4, _⟩ | ⟨_, h5⟩
   ·rw [h1] at h4; cases h4
   go_enter Tryz.func80, Tryz.ntmps80
   go_wp2_with (go_at_call 103; refine (isNaN_any _ _).mono ?_; rintro e w' ⟨rfl, rfl⟩)
   go_ret
   exact ⟨rfl, rfl⟩
def keyAt (l : List Node) (j : Nat) : ByteArray := match l[j]? with | some n => n.f1 | none => ⟨#[]⟩
set_option maxRecDepth 100000 in
set_option maxHeartbeats 1000000 in
theorem sorted1_any (Bl : Nat) (A : Option Addr) (cap : Nat) (l : List Node) (i j : Nat) (hi : i < l.length) (hj : j < l.length) (hl : l.length ≤ 900000) (w : World)
  (hBl : w.cell? ⟨Bl, 0, none⟩ = some (.slice A l.length cap)) (hC : Kd.C kN w A l.length l) :
  Calls Tryz.prog 79 #[.int .i64 (i : Int), .int .i64 (j : Int), .pointer (some ⟨Bl, 0, none⟩)] w fun e w' => e = .returned (.int .i64 (cmpV (keyAt l i) (keyAt l j))) ∧ ∃ q, w' = w.drewN q := by
 obtain ⟨ad, rfl, _, d1, _⟩ := node_at hC i hi
 obtain ⟨_, e9, _, d2, _⟩ := node_at hC j hj
 injection e9 with e9
 subst e9
 have e1 : keyAt l i = l[i].f1 := by unfold keyAt; rw [List.getElem?_eq_getElem hi]
 have e2 : keyAt l j = l[j].f1 := by unfold keyAt; rw [List.getElem?_eq_getElem hj]
 rw [e1, e2]
 generalize l[i].f1 = x at *
 generalize l[j].f1 = y at *
 have k1 : decide ((i : Int) < (l.length : Int)) = true := decide_eq_true (by omega)
 have k2 : decide ((j : Int) < (l.length : Int)) = true := decide_eq_true (by omega)
 clear hC e1 e2
 obtain ⟨c, hc⟩ : ∃ c, cmpV x y = c := ⟨_, rfl⟩
 have HC := Lib.hid (fun W => compare_any x y W)
 rw [hc] at HC ⊢
 clear hc
 go_enter Tryz.func79, Tryz.ntmps79
 go_wp2
 go_quiet ((go_at_call 80; exact Calls.quiet_of_same ((HC.out _).mono fun _ _ h => ⟨h.1, h.2.symm⟩)))
 go_wp2
 go_ret
 exact ⟨rfl, _, rfl⟩
end Go.Proofs.YtfocognhcljhpaaGreatDoor
namespace Go.Proofs.YtfocognhcljhpaaGreatDoor.Tree
def Tr.kind : Tr → Int
 | .mk k _ _ _ => k
def Tr.key : Tr → ByteArray
 | .mk _ key _ _ => key
def Tr.text : Tr → ByteArray
 | .mk _ _ t _ => t
def Tr.kids : Tr → List Tr
 | .mk _ _ _ ks => ks
section
variable (Q : Bs → Bs)
def opn (k : Int) : Bs := if k = 7 then [123] else [91]
def cls (k : Int) : Bs := if k = 7 then [125] else [93]
def wordB (k : Int) (t : Bs) : Bs := if k = 1 then [110, 117, 108, 108] else if k = 2 then [102, 97, 108, 115, 101] else if k = 3 then [116, 114, 117, 101] else if k = 5 then Q t else t
mutual
def prT : Tr → Bs
 | .mk k key text kids => if 6 ≤ k then opn k ++ prK (k == 7) true kids ++ cls k else wordB Q k text.data.toList
def prK (named first : Bool) : List Tr → Bs
 | [] => []
 | t :: ts => (if first = true then [] else [44]) ++ (if named = true then Q t.key.data.toList ++ [58] else []) ++ prT t ++ prK named false ts
end
mutual
def Tr.sh : Tr → Bool
 | .mk k _ _ kids => (decide (6 ≤ k) || kids.isEmpty) && shs kids
def shs : List Tr → Bool
 | [] => true
 | t :: ts => t.sh && shs ts
end
mutual
def Tr.cost : Tr → Nat
 | .mk k _ _ kids => 1 + costs kids + (if 6 ≤ k then 1 else 0)
def costs : List Tr → Nat
 | [] => 0
 | t :: ts => t.cost + costs ts
end
mutual
theorem cost_le : ∀ t : Tr, t.cost ≤ 2 * t.size
 | .mk k key text kids => by
  rw [Tr.cost, Tr.size]
  have := costs_le kids
  split <;> omega
theorem costs_le : ∀ ts : List Tr, costs ts ≤ 2 * sizes ts
 | [] => by rw [costs, sizes]; exact Nat.le_refl _
 | t :: ts => by
  rw [costs, sizes]
  have := cost_le t
  have := costs_le ts
  omega
end
def pcsD (l : List Nd) : Nat → Nat → List Nat → Bool → Bs
 | 0, _, _, _ => []
 | f + 1, i, op, first =>
  if op ≠ [] ∧ enAt l (op.headD 0) = (i : Int) then cls (kindAt l (op.headD 0)) ++ pcsD l f i op.tail false
  else match l[i]? with
   | none => []
   | some n => (if first = true then [] else [44]) ++ ((if op ≠ [] ∧ kindAt l (op.headD 0) = 7 then Q n.key.data.toList ++ [58] else []) ++
     (if 6 ≤ n.kind then opn n.kind ++ pcsD l f (i + 1) (i :: op) true else wordB Q n.kind n.text.data.toList ++ pcsD l f (i + 1) op false))
theorem at_drop {l : List Nd} {i : Nat} {n : Nd} {r : List Nd} (h : l.drop i = n :: r) : l[i]? = some n := by
 have := List.getElem?_drop (i := i) (j := 0) (xs := l); rw [h] at this; simpa using this.symm
mutual
theorem pcs_tree : ∀ (t : Tr) (l : List Nd) (i : Nat) (op : List Nat) (first : Bool) (p : Int) (r : List Nd) (f : Nat), t.sh = true → l.drop i = t.flat p i ++ r → ¬ (op ≠ [] ∧ enAt l (op.headD 0) = (i : Int)) →
  pcsD Q l (f + t.cost) i op first = (if first = true then [] else [44]) ++ ((if op ≠ [] ∧ kindAt l (op.headD 0) = 7 then Q t.key.data.toList ++ [58] else []) ++ (prT Q t ++ pcsD Q l f (i + t.size) op false))
 | .mk k key text kids, l, i, op, first, p, r, f, hs, hl, hop => by
  rw [Tr.sh, Bool.and_eq_true, Bool.or_eq_true, decide_eq_true_eq] at hs
  obtain ⟨hk, hks⟩ := hs
  rw [Tr.flat, List.cons_append] at hl
  obtain ⟨he, hkd⟩ := enAt_of hl
  dsimp only at he hkd
  have hat := at_drop hl
  have hl1 : l.drop (i + 1) = flats (i : Int) (i + 1) kids ++ r := by rw [← List.drop_drop, hl]; rfl
  rw [Tr.cost, Tr.size, prT]
  by_cases h6 : 6 ≤ k
  ·rw [if_pos h6, if_pos h6, show f + (1 + costs kids + 1) = (f + 1 + costs kids) + 1 by omega, pcsD, if_neg hop, hat]
   dsimp only
   have e : ∀ b, pcsD Q l (f + 1) (i + 1 + sizes kids) (i :: op) b = cls k ++ pcsD Q l f (i + (1 + sizes kids)) op false := fun b => by
    rw [pcsD, if_pos ⟨by simp, by rw [List.headD_cons, he]⟩, List.headD_cons, hkd, List.tail_cons, show i + 1 + sizes kids = i + (1 + sizes kids) by omega]
   rw [if_pos h6, pcs_trees kids l (i + 1) i op true r (f + 1) hks hl1 (by rw [he]), hkd, e]
   simp only [List.append_assoc, Tr.key]
  ·rw [if_neg h6, if_neg h6]
   rcases hk with hk | hk
   ·omega
   obtain rfl : kids = [] := List.isEmpty_iff.1 hk
   rw [costs, sizes, show f + (1 + 0 + 0) = f + 1 by omega, pcsD, if_neg hop, hat]
   dsimp only
   rw [if_neg h6]
   rfl
theorem pcs_trees : ∀ (ts : List Tr) (l : List Nd) (i j : Nat) (s : List Nat) (first : Bool) (r : List Nd) (f : Nat), shs ts = true → l.drop i = flats (j : Int) i ts ++ r → enAt l j = ((i + sizes ts : Nat) : Int) →
  pcsD Q l (f + costs ts) i (j :: s) first = prK Q (kindAt l j == 7) first ts ++ pcsD Q l f (i + sizes ts) (j :: s) (first && ts.isEmpty)
 | [], l, i, j, s, first, r, f, _, _, _ => by
  rw [costs, sizes, prK]
  simp
 | t :: ts, l, i, j, s, first, r, f, hs, hl, he => by
  rw [shs, Bool.and_eq_true] at hs
  have hpos := t.size_pos
  rw [sizes] at he
  rw [flats, List.append_assoc] at hl
  have hl2 : l.drop (i + t.size) = flats (j : Int) (i + t.size) ts ++ r := by
   rw [← List.drop_drop, hl, List.drop_left' (Tr.flat_len _ _ t)]
  rw [costs, sizes, prK, show f + (t.cost + costs ts) = (f + costs ts) + t.cost by omega,
   pcs_tree t l i (j :: s) first (j : Int) _ (f + costs ts) hs.1 hl (by rw [List.headD_cons, he]; rintro ⟨_, h⟩; omega),
   pcs_trees ts l (i + t.size) j s false r f hs.2 hl2 (by rw [he, Nat.add_assoc]), List.headD_cons]
  simp only [List.append_assoc, Nat.add_assoc, List.isEmpty_cons, Bool.and_false, Bool.false_and]
  congr 2
  by_cases h7 : kindAt l j = 7 <;> simp [h7]
end
theorem pcs_all (t : Tr) (h : t.sh = true) : pcsD Q (t.flat (-1) 0) (2 * (t.flat (-1) 0).length + 1) 0 [] true = prT Q t := by
 have hc := cost_le t
 rw [Tr.flat_len, show 2 * t.size + 1 = (2 * t.size - t.cost + 1) + t.cost by omega, pcs_tree Q t (t.flat (-1) 0) 0 [] true (-1) [] _ h (by simp) (by simp)]
 have e : pcsD Q (t.flat (-1) 0) (2 * t.size - t.cost + 1) (0 + t.size) [] false = [] := by
  rw [pcsD, if_neg (by simp), List.getElem?_eq_none (by rw [Tr.flat_len]; omega)]
 rw [e]
 simp
end
end Go.Proofs.YtfocognhcljhpaaGreatDoor.Tree
namespace Go.Proofs.YtfocognhcljhpaaGreatDoor
theorem bl_ntrans : ∀ x y z : Bytes, bl y x = false → bl z y = false → bl z x = false := by
 intro x
 induction x with
 | nil => intro y z h1 h2; cases z <;> simp_all [bl] <;> cases y <;> simp_all [bl]
 | cons a r ih =>
  intro y z h1 h2
  cases y with
  | nil => simp [bl] at h1
  | cons b s =>
   cases z with
   | nil => simp [bl] at h2
   | cons c t =>
    unfold bl at h1 h2 ⊢
    simp only [UInt8.lt_iff_toNat_lt] at h1 h2 ⊢
    by_cases e1 : b.toNat < a.toNat
    ·rw [if_pos e1] at h1; cases h1
    ·rw [if_neg e1] at h1
     by_cases e2 : c.toNat < b.toNat
     ·rw [if_pos e2] at h2; cases h2
     ·rw [if_neg e2] at h2
      rw [if_neg (by omega)]
      by_cases e3 : a.toNat < c.toNat
      ·rw [if_pos e3]
      ·rw [if_neg e3]
       rw [if_neg (by omega)] at h1 h2
       exact ih s t h1 h2
namespace Tree
abbrev kb (t : Tr) : Bs := t.key.data.toList
def kle (x y : Tr) : Bool := !bl (kb y) (kb x)
theorem kle_trans (a b c : Tr) : kle a b = true → kle b c = true → kle a c = true := by
 unfold kle
 rw [Bool.not_eq_true', Bool.not_eq_true', Bool.not_eq_true']
 exact bl_ntrans _ _ _
theorem kle_total (a b : Tr) : (kle a b || kle b a) = true := by
 unfold kle
 cases h : bl (kb b) (kb a) with
 | false => rfl
 | true => rw [bl_asymm _ _ h]; rfl
theorem kle_anti {a b : Tr} (h1 : kle a b = true) (h2 : kle b a = true) : kb a = kb b := by
 unfold kle at h1 h2
 rw [Bool.not_eq_true'] at h1 h2
 exact bl_total _ _ h2 h1
def ordK (k : Int) (l : List Tr) : List Tr := if k = 7 then l.mergeSort kle else l
theorem ordK_perm (k : Int) (l : List Tr) : (ordK k l).Perm l := by
 unfold ordK
 split
 ·exact List.mergeSort_perm _ _
 ·exact .refl _
mutual
def srt : Tr → Tr
 | .mk k key text kids => .mk k key text (ordK k (srts kids))
def srts : List Tr → List Tr
 | [] => []
 | t :: ts => srt t :: srts ts
end
theorem srts_map : ∀ ts : List Tr, srts ts = ts.map srt
 | [] => by rw [srts]; rfl
 | t :: ts => by rw [srts, srts_map ts]; rfl
theorem srt_key (t : Tr) : (srt t).key = t.key := by cases t; rw [srt]; rfl
theorem sizes_sum : ∀ ts : List Tr, sizes ts = (ts.map Tr.size).sum
 | [] => by rw [sizes]; rfl
 | t :: ts => by rw [sizes, sizes_sum ts]; rfl
theorem sizes_perm {ts us : List Tr} (h : ts.Perm us) : sizes ts = sizes us := by
 rw [sizes_sum, sizes_sum]
 exact (h.map _).sum_nat
mutual
theorem srt_size : ∀ t : Tr, (srt t).size = t.size
 | .mk k key text kids => by rw [srt, Tr.size, Tr.size, sizes_perm (ordK_perm k _), srts_sizes kids]
theorem srts_sizes : ∀ ts : List Tr, sizes (srts ts) = sizes ts
 | [] => by rw [srts]
 | t :: ts => by rw [srts, sizes, sizes, srt_size t, srts_sizes ts]
end
theorem oks_all (isNum : ByteArray → Bool) (nm : Bool) : ∀ ts : List Tr, oks isNum nm ts = ts.all (Tr.ok isNum nm)
 | [] => by rw [oks]; rfl
 | t :: ts => by rw [oks, oks_all isNum nm ts]; rfl
theorem all_perm {α : Type} {l m : List α} (h : l.Perm m) (p : α → Bool) : l.all p = m.all p := by
 rw [Bool.eq_iff_iff, List.all_eq_true, List.all_eq_true]
 exact ⟨fun g x hx => g x (h.mem_iff.2 hx), fun g x hx => g x (h.mem_iff.1 hx)⟩
theorem ordK_isEmpty (k : Int) (l : List Tr) : (ordK k l).isEmpty = l.isEmpty := by
 have := (ordK_perm k l).length_eq
 cases h : ordK k l <;> cases l <;> simp_all
mutual
theorem srt_ok (isNum : ByteArray → Bool) : ∀ (nm : Bool) (t : Tr), (srt t).ok isNum nm = t.ok isNum nm
 | nm, .mk k key text kids => by
  rw [srt, Tr.ok, Tr.ok, ordK_isEmpty, oks_all, all_perm (ordK_perm k _), ← oks_all, srts_ok isNum _ kids]
  cases kids <;> rw [srts] <;> rfl
theorem srts_ok (isNum : ByteArray → Bool) : ∀ (nm : Bool) (ts : List Tr), oks isNum nm (srts ts) = oks isNum nm ts
 | nm, [] => by rw [srts]
 | nm, t :: ts => by rw [srts, oks, oks, srt_ok isNum nm t, srts_ok isNum nm ts]
end
mutual
def Tr.depth : Tr → Nat
 | .mk k _ _ kids => (if 6 ≤ k then 1 else 0) + depths kids
def depths : List Tr → Nat
 | [] => 0
 | t :: ts => max t.depth (depths ts)
end
mutual
def Tr.tx (p : ByteArray → Bool) : Tr → Bool
 | .mk _ key text kids => p key && p text && txs p kids
def txs (p : ByteArray → Bool) : List Tr → Bool
 | [] => true
 | t :: ts => t.tx p && txs p ts
end
mutual
def Tr.uniq : Tr → Bool
 | .mk k _ _ kids => (k != 7 || decide ((kids.map kb).Nodup)) && uniqs kids
def uniqs : List Tr → Bool
 | [] => true
 | t :: ts => t.uniq && uniqs ts
end
theorem txs_all (p : ByteArray → Bool) : ∀ ts : List Tr, txs p ts = ts.all (Tr.tx p)
 | [] => by rw [txs]; rfl
 | t :: ts => by rw [txs, txs_all p ts]; rfl
theorem uniqs_all : ∀ ts : List Tr, uniqs ts = ts.all Tr.uniq
 | [] => by rw [uniqs]; rfl
 | t :: ts => by rw [uniqs, uniqs_all ts]; rfl
theorem depths_le (d : Nat) : ∀ ts : List Tr, depths ts ≤ d ↔ ∀ t ∈ ts, t.depth ≤ d
 | [] => by rw [depths]; simp
 | t :: ts => by rw [depths, Nat.max_le, depths_le d ts]; simp
theorem depths_perm {ts us : List Tr} (h : ts.Perm us) : depths ts = depths us := by
 have h1 := (depths_le (depths us) ts).2 (fun t ht => (depths_le _ us).1 (Nat.le_refl _) t (h.mem_iff.1 ht))
 have h2 := (depths_le (depths ts) us).2 (fun t ht => (depths_le _ ts).1 (Nat.le_refl _) t (h.mem_iff.2 ht))
 omega
mutual
theorem srt_depth : ∀ t : Tr, (srt t).depth = t.depth
 | .mk k key text kids => by rw [srt, Tr.depth, Tr.depth, depths_perm (ordK_perm k _), srts_depths kids]
theorem srts_depths : ∀ ts : List Tr, depths (srts ts) = depths ts
 | [] => by rw [srts]
 | t :: ts => by rw [srts, depths, depths, srt_depth t, srts_depths ts]
end
mutual
theorem srt_tx (p : ByteArray → Bool) : ∀ t : Tr, (srt t).tx p = t.tx p
 | .mk k key text kids => by rw [srt, Tr.tx, Tr.tx, txs_all, all_perm (ordK_perm k _), ← txs_all, srts_tx p kids]
theorem srts_tx (p : ByteArray → Bool) : ∀ ts : List Tr, txs p (srts ts) = txs p ts
 | [] => by rw [srts]
 | t :: ts => by rw [srts, txs, txs, srt_tx p t, srts_tx p ts]
end
theorem srts_keys (ts : List Tr) : (srts ts).map kb = ts.map kb := by
 rw [srts_map, List.map_map]
 congr 1
 funext t
 show kb (srt t) = kb t
 unfold kb
 rw [srt_key]
mutual
theorem srt_uniq : ∀ t : Tr, (srt t).uniq = t.uniq
 | .mk k key text kids => by
  rw [srt, Tr.uniq, Tr.uniq, uniqs_all, all_perm (ordK_perm k _), ← uniqs_all, srts_uniqs kids]
  congr 2
  rw [decide_eq_decide, ← srts_keys kids]
  exact ((ordK_perm k _).map kb).nodup_iff
theorem srts_uniqs : ∀ ts : List Tr, uniqs (srts ts) = uniqs ts
 | [] => by rw [srts]
 | t :: ts => by rw [srts, uniqs, uniqs, srt_uniq t, srts_uniqs ts]
end
theorem sorted_one {l m : List Tr} (hn : (l.map kb).Nodup) (hp : m.Perm l) (hs : m.Pairwise fun a b => kle a b = true) : m = l.mergeSort kle := by
 refine List.Perm.eq_of_pairwise (le := fun a b => kle a b = true) ?_ hs (List.pairwise_mergeSort kle_trans kle_total l) (hp.trans (List.mergeSort_perm l kle).symm)
 intro a b ha hb h1 h2
 have e := kle_anti h1 h2
 have ha' := hp.mem_iff.1 ha
 have hb' := (List.mergeSort_perm l kle).mem_iff.1 hb
 clear ha hb hp hs
 induction l with
 | nil => cases ha'
 | cons x l ih =>
  rw [List.map_cons, List.nodup_cons] at hn
  rcases List.mem_cons.1 ha' with h3 | ha'
  ·rcases List.mem_cons.1 hb' with h4 | hb'
   ·rw [h3, h4]
   ·exact absurd (List.mem_map.2 ⟨b, hb', by rw [← e, h3]⟩) hn.1
  ·rcases List.mem_cons.1 hb' with h4 | hb'
   ·exact absurd (List.mem_map.2 ⟨a, ha', by rw [e, h4]⟩) hn.1
   ·exact ih hn.2 ha' hb'
end Tree
end Go.Proofs.YtfocognhcljhpaaGreatDoor
namespace Go.Proofs.YtfocognhcljhpaaGreatDoor
open Go.RowKit Go.Shelf Go.Sort Go.Proofs.YtfocognhcljhpaaGreatDoorW.PrintWords Go.Proofs.YtfocognhcljhpaaGreatDoorW.PrintMore Go.Proofs.YtfocognhcljhpaaGreatDoor.PPrintRows Go.Proofs.YtfocognhcljhpaaGreatDoor.Tree
theorem bl_trans {x y z : Bytes} (h1 : bl x y = true) (h2 : bl y z = true) : bl x z = true := by
 cases h : bl x z with
 | true => rfl
 | false =>
  have h3 := bl_asymm x y h1
  have h4 := bl_ntrans z x y h h3
  rw [h2] at h4
  cases h4
section
variable {α : Type} [Inhabited α]
theorem sortWorld_heap (enc : α → Value) (W : World) (g n : Nat) (d : Array α) (os : Array Obj) {cur : Array Value} {T : TypeId} {fr : Nat × Nat} (hg : W.heap[g]? = some (.cells cur T fr)) :
  (sortWorld enc W g 0 n d os).heap[g]? = some (.cells (putCells enc 0 d cur) T fr) := by
 unfold sortWorld
 rw [heap_grow_old _ _ (by simpa using blk_lt hg)]
 simp only [putRow, mapBlock, Array.getElem?_modify, if_true]
 rw [show (Sort.ahead W n).heap[g]? = _ from hg]
 rfl
theorem sortWorld_grownBy (enc : α → Value) (W : World) (g n : Nat) (d : Array α) (os : Array Obj) : W.grownBy (sortWorld enc W g 0 n d os) (some g) := by
 refine ⟨rfl, rfl, rfl, by unfold sortWorld; simp, fun k hk hne => ?_⟩
 unfold sortWorld
 rw [heap_grow_old _ _ (by simpa using hk)]
 simp only [putRow, mapBlock, Array.getElem?_modify]
 rw [if_neg (fun e => hne (by rw [e]))]
 rfl
theorem putCells_take (enc : α → Value) (d : Array α) (cur : Array Value) (h : d.size ≤ cur.size) : (putCells enc 0 d cur).toList.take d.size = d.toList.map enc := by
 apply List.ext_getElem?
 intro i
 rw [List.getElem?_take]
 by_cases hi : i < d.size
 ·rw [if_pos hi, Array.getElem?_toList]
  simp only [putCells, Array.getElem?_mapIdx]
  rw [Array.getElem?_eq_getElem (by omega), Option.map_some, if_pos ⟨by omega, by omega⟩, List.getElem?_map, Array.getElem?_toList, Array.getElem?_eq_getElem hi]
  simp [getElem!_pos d i hi]
 ·rw [if_neg hi, List.getElem?_eq_none (by simp; omega)]
end
abbrev Plc (ps : List Nat) := { p : Nat // p ∈ ps }
def plcV {ps : List Nat} (x : Plc ps) : Value := .int .i64 (x.1 : Int)
def plcC (l : List Node) {ps : List Nat} (x y : Plc ps) : Int := cmpV (keyAt l x.1) (keyAt l y.1)
abbrev kbp (l : List Node) (p : Nat) : Bs := (keyAt l p).data.toList
theorem plc_lt (l : List Node) {ps : List Nat} (x y : Plc ps) : ltOf (plcC l) x y = bl (kbp l x.1) (kbp l y.1) := by
 unfold ltOf plcC cmpV kbp
 cases h : bl (keyAt l x.1).data.toList (keyAt l y.1).data.toList with
 | true => simp
 | false =>
  rw [if_neg (by decide)]
  split <;> simp
theorem plc_swo (l : List Node) (ps : List Nat) : SWO (ltOf (plcC l) : Plc ps → Plc ps → Bool) :=
 ⟨fun x => by rw [plc_lt]; exact bl_irrefl _, fun x y z => by rw [plc_lt, plc_lt, plc_lt]; exact bl_trans, fun x y z => by rw [plc_lt, plc_lt, plc_lt]; intro h1 h2; exact bl_ntrans _ _ _ h2 h1⟩
theorem nodup_inj {β γ : Type} {f : β → γ} : ∀ {l : List β}, (l.map f).Nodup → ∀ {a b : β}, a ∈ l → b ∈ l → f a = f b → a = b
 | x :: l, hn, a, b, ha, hb, e => by
  rw [List.map_cons, List.nodup_cons] at hn
  rcases List.mem_cons.1 ha with h3 | ha
  ·rcases List.mem_cons.1 hb with h4 | hb
   ·rw [h3, h4]
   ·exact absurd (List.mem_map.2 ⟨b, hb, by rw [← e, h3]⟩) hn.1
  ·rcases List.mem_cons.1 hb with h4 | hb
   ·exact absurd (List.mem_map.2 ⟨a, ha, by rw [e, h4]⟩) hn.1
   ·exact nodup_inj hn.2 ha hb e
def ordP (l : List Node) (ps : List Nat) : List Nat := ps.mergeSort fun x y => !bl (kbp l y) (kbp l x)
set_option maxRecDepth 100000 in
set_option maxHeartbeats 2000000 in
theorem sortP_any (A : Option Addr) (cap Bl : Nat) (l : List Node) (hl : l.length ≤ 900000) (base : Nat) (v : Value) (ps : List Nat) (W : World) (hO : OpenAt W base v ps.reverse) (hps : ∀ p ∈ ps, p < l.length) (hne : ps ≠ [])
  (hn : (ps.map (kbp l)).Nodup) (hlen : ps.length ≤ 900000) (hBl : W.heap[Bl]? = some (.cells #[.slice A l.length cap] 22 (0, 0))) (hC : Kd.C kN W A l.length l) (hA : ∀ a, A = some a → a.block < base) :
  Calls Tryz.prog 78 #[v, .func (.func 79) #[] #[.pointer (some ⟨Bl, 0, none⟩)]] W fun e w' => e = .returned (.tuple #[]) ∧ OpenAt w' base v (ordP l ps).reverse ∧ W.grownBy w' v.ownBlock := by
 have hown := open_own hO
 rw [List.reverse_reverse, List.length_reverse] at hown
 obtain ⟨hl0, ⟨rfl, h0⟩ | ⟨g, c, cur, rfl, hb, hg, hnc, hcm, hcs, hx⟩⟩ := hown
 ·exact absurd (List.length_eq_zero_iff.1 h0) hne
 obtain ⟨p0, hp0⟩ : ∃ p, p ∈ ps := List.exists_mem_of_ne_nil _ hne
 have : Inhabited (Plc ps) := ⟨⟨p0, hp0⟩⟩
 obtain ⟨d, hd⟩ : ∃ d : Array (Plc ps), d = ps.attach.toArray := ⟨_, rfl⟩
 have hds : d.size = ps.length := by rw [hd]; simp
 have hdl : d.toList = ps.attach := by rw [hd]
 have hdi : ∀ j (h : j < ps.length), d[j]! = ⟨ps[j], List.getElem_mem h⟩ := fun j h => by
  rw [getElem!_pos d j (by omega)]
  subst hd
  simp
 have hH : Holds plcV W g 0 d := fun j hj => by
  rw [hds] at hj
  rw [hdi j hj, Nat.zero_add]
  refine ⟨?_, blk_frozen hg j⟩
  rw [blk_cell hg j]
  have h1 : (cur.toList.take (ps.length * 1))[j]? = (ps.map fun (j : Nat) => Value.int .i64 (j : Int))[j]? := by rw [hx]
  rw [List.getElem?_take_of_lt (by omega), List.getElem?_map, List.getElem?_eq_getElem hj, Array.getElem?_toList] at h1
  exact h1
 have hne2 : Bl ≠ g := fun e => by
  rw [e, hg] at hBl
  injection hBl with h
  injection h with _ h
  cases h
 have hsw : ∀ (m : Nat) (os : Array Obj) (dk : Array (Plc ps)) (k : Nat), k < W.heap.size → k ≠ g → (sortWorld plcV W g 0 m dk os).heap[k]? = W.heap[k]? := fun m os dk k hk hkg =>
  (sortWorld_grownBy plcV W g m dk os).block k hk (fun e => hkg (Option.some.inj e))
 have hcmp : CmpLays1 Tryz.prog 79 #[.pointer (some ⟨Bl, 0, none⟩)] plcV (plcC l) g 0 d.size W :=
  CmpReads.lays fun m os dk hs x y => sorted1_any Bl A cap l x.1 y.1 (hps x.1 x.2) (hps y.1 y.2) hl _ (blkc ((hsw m os dk Bl (blk_lt hBl) hne2).trans hBl) 0 rfl)
   (kdC_keep hC (fun a ha => by
    have h1 := hA a ha
    exact hsw m os dk a.block (by have := blk_lt hg; omega) (by omega)))
 have h := (Tryz.slices_SortFunc plcV (fun _ => rfl) (plcC l) (plc_swo l ps) 79 #[.pointer (some ⟨Bl, 0, none⟩)] g 0 c d W (enters_of Tryz.func79 (by kernel_rfl) rfl) hcmp hH (blk_lt hg) (by omega))
 rw [hds] at h
 refine h.mono ?_
 rintro e w' ⟨rfl, d', n, os, hp, hs, rfl⟩
 have hT : ∀ x y : Plc ps, ltOf (plcC l) x y = false → ltOf (plcC l) y x = false → x = y := fun x y h1 h2 => by
  rw [plc_lt] at h1 h2
  have e := bl_total _ _ h1 h2
  exact Subtype.ext (nodup_inj hn x.2 y.2 e)
 have hd' := sorted_unique_holds (lt := ltOf (plcC l)) (plc_swo l ps) hT d d' (by rw [hds]; exact hp) (by rw [hds]; exact hs)
 have hsz : d'.size = d.size := by
  have := congrArg List.length hd'
  rw [List.length_mergeSort] at this
  simpa using this
 have hmap : d'.toList.map (fun x => x.1) = ordP l ps := by
  rw [hd', hdl]
  unfold ordP
  rw [List.map_mergeSort (r := fun x y => !(ltOf (plcC l)) y x) (s := fun x y => !bl (kbp l y) (kbp l x)) (f := fun x : Plc ps => x.1) (fun a _ b _ => by rw [plc_lt])]
  simp
 refine ⟨rfl, open_of ?_, sortWorld_grownBy _ _ _ _ _ _⟩
 rw [List.reverse_reverse, List.length_reverse]
 have hlo : (ordP l ps).length = ps.length := by unfold ordP; rw [List.length_mergeSort]
 rw [hlo]
 refine ⟨by rw [List.length_map, hlo, Nat.mul_one], .inr ⟨g, c, _, rfl, hb, sortWorld_heap plcV W g n d' os hg, hnc, hcm, ?_, ?_⟩⟩
 ·simp [putCells]; omega
 ·rw [Nat.mul_one, ← hds, ← hsz, putCells_take plcV d' cur (by omega), ← hmap, List.map_map]
  rfl
end Go.Proofs.YtfocognhcljhpaaGreatDoor
namespace Go.Proofs.YtfocognhcljhpaaGreatDoor.Tree
def kindI (l : List Nd) (p : Int) : Int := if p < 0 then 0 else kindAt l p.toNat
def mem (l : List Nd) (r : List Nd) : List (Int × Bs) := r.filterMap fun n => if n.parent < 0 ∨ kindI l n.parent ≠ 7 then none else some (n.parent, n.key.data.toList)
theorem mem_app (l r s : List Nd) : mem l (r ++ s) = mem l r ++ mem l s := by unfold mem; rw [List.filterMap_append]
def memK (k : Int) (j : Nat) (ts : List Tr) : List (Int × Bs) := if k = 7 then ts.map fun t => ((j : Int), kb t) else []
theorem kindI_nat (l : List Nd) (j : Nat) : kindI l (j : Int) = kindAt l j := by unfold kindI; rw [if_neg (by omega)]; rfl
mutual
def memT (i : Nat) : Tr → List (Int × Bs)
 | .mk k key text kids => memK k i kids ++ memTs (i + 1) kids
def memTs (i : Nat) : List Tr → List (Int × Bs)
 | [] => []
 | t :: ts => memT i t ++ memTs (i + t.size) ts
end
mutual
theorem memT_in : ∀ (t : Tr) (i : Nat) (x : Int × Bs), x ∈ memT i t → (i : Int) ≤ x.1 ∧ x.1 < ((i + t.size : Nat) : Int)
 | .mk k key text kids, i, x, h => by
  rw [memT, List.mem_append] at h
  rw [Tr.size]
  rcases h with h | h
  ·unfold memK at h
   split at h
   ·obtain ⟨t, _, rfl⟩ := List.mem_map.1 h
    exact ⟨by dsimp only; omega, by dsimp only; omega⟩
   ·cases h
  ·have := memTs_in kids (i + 1) x h
   omega
theorem memTs_in : ∀ (ts : List Tr) (i : Nat) (x : Int × Bs), x ∈ memTs i ts → (i : Int) ≤ x.1 ∧ x.1 < ((i + sizes ts : Nat) : Int)
 | [], i, x, h => by rw [memTs] at h; cases h
 | t :: ts, i, x, h => by
  rw [memTs, List.mem_append] at h
  rw [sizes]
  rcases h with h | h
  ·have := memT_in t i x h
   omega
  ·have := memTs_in ts (i + t.size) x h
   omega
end
theorem memK_nodup (k : Int) (j : Nat) (ts : List Tr) : (memK k j ts).Nodup ↔ (k != 7 || decide ((ts.map kb).Nodup)) = true := by
 unfold memK
 by_cases h : k = 7
 ·subst h
  rw [if_pos rfl]
  simp only [bne_self_eq_false, Bool.false_or, decide_eq_true_eq]
  constructor
  ·intro g
   have : (ts.map fun t => ((j : Int), kb t)) = (ts.map kb).map fun b => ((j : Int), b) := by rw [List.map_map]; rfl
   rw [this] at g
   exact List.Pairwise.of_map _ (fun a b h e => h (by rw [e])) g
  ·intro g
   have : (ts.map fun t => ((j : Int), kb t)) = (ts.map kb).map fun b => ((j : Int), b) := by rw [List.map_map]; rfl
   rw [this]
   exact List.Pairwise.map _ (fun a b h e => h (by injection e)) g
 ·rw [if_neg h]
  simp [h]
mutual
theorem memT_nodup : ∀ (t : Tr) (i : Nat), (memT i t).Nodup ↔ t.uniq = true
 | .mk k key text kids, i => by
  rw [memT, Tr.uniq, Bool.and_eq_true, ← memTs_nodup kids (i + 1), ← memK_nodup k i kids, List.nodup_append]
  refine ⟨fun h => ⟨h.1, h.2.1⟩, fun h => ⟨h.1, h.2, fun a ha b hb e => ?_⟩⟩
  subst e
  have h2 := (memTs_in kids (i + 1) a hb).1
  unfold memK at ha
  split at ha
  ·obtain ⟨t, _, rfl⟩ := List.mem_map.1 ha
   dsimp only at h2
   omega
  ·cases ha
theorem memTs_nodup : ∀ (ts : List Tr) (i : Nat), (memTs i ts).Nodup ↔ uniqs ts = true
 | [], i => by rw [memTs, uniqs]; simp
 | t :: ts, i => by
  rw [memTs, uniqs, Bool.and_eq_true, ← memT_nodup t i, ← memTs_nodup ts (i + t.size), List.nodup_append]
  refine ⟨fun h => ⟨h.1, h.2.1⟩, fun h => ⟨h.1, h.2, fun a ha b hb e => ?_⟩⟩
  subst e
  have h1 := (memT_in t i a ha).2
  have h2 := (memTs_in ts (i + t.size) a hb).1
  omega
end
mutual
theorem mem_flat : ∀ (t : Tr) (l : List Nd) (i : Nat) (p : Int) (r : List Nd), l.drop i = t.flat p i ++ r →
  (mem l (t.flat p i)).Perm ((if p < 0 ∨ kindI l p ≠ 7 then [] else [(p, kb t)]) ++ memT i t)
 | .mk k key text kids, l, i, p, r, hl => by
  rw [Tr.flat, List.cons_append] at hl
  have hk := (enAt_of hl).2
  dsimp only at hk
  have hl1 : l.drop (i + 1) = flats (i : Int) (i + 1) kids ++ r := by rw [← List.drop_drop, hl]; rfl
  have h := mem_flats kids l (i + 1) (i : Int) r hl1
  rw [kindI_nat, hk] at h
  have e : (if (i : Int) < 0 ∨ k ≠ 7 then [] else kids.map fun t => ((i : Int), kb t)) = memK k i kids := by
   unfold memK
   by_cases h7 : k = 7
   ·rw [if_pos h7, if_neg (by omega)]
   ·rw [if_neg h7, if_pos (.inr h7)]
  rw [e] at h
  rw [Tr.flat, memT]
  unfold mem at h ⊢
  by_cases h1 : p < 0 ∨ kindI l p ≠ 7
  ·rw [List.filterMap_cons_none (by dsimp only; rw [if_pos h1]), if_pos h1]
   exact h
  ·rw [List.filterMap_cons_some (b := (p, key.data.toList)) (by dsimp only; rw [if_neg h1]), if_neg h1]
   exact h.cons _
theorem mem_flats : ∀ (ts : List Tr) (l : List Nd) (i : Nat) (p : Int) (r : List Nd), l.drop i = flats p i ts ++ r →
  (mem l (flats p i ts)).Perm ((if p < 0 ∨ kindI l p ≠ 7 then [] else ts.map fun t => (p, kb t)) ++ memTs i ts)
 | [], l, i, p, r, _ => by
  rw [flats, memTs]
  split <;> exact .refl _
 | t :: ts, l, i, p, r, hl => by
  rw [flats, List.append_assoc] at hl
  have hl2 : l.drop (i + t.size) = flats p (i + t.size) ts ++ r := by rw [← List.drop_drop, hl, List.drop_left' (Tr.flat_len _ _ t)]
  have h1 := mem_flat t l i p _ hl
  have h2 := mem_flats ts l (i + t.size) p r hl2
  rw [flats, mem_app, memTs]
  refine (h1.append h2).trans ?_
  by_cases hp : p < 0 ∨ kindI l p ≠ 7
  ·simp only [if_pos hp, List.nil_append]
   exact .refl _
  ·rw [if_neg hp, if_neg hp, if_neg hp]
   simp only [List.map_cons, List.cons_append, List.nil_append]
   refine List.Perm.cons _ ?_
   rw [← List.append_assoc, ← List.append_assoc]
   exact List.Perm.append_right _ List.perm_append_comm
end
theorem mem_uniq (t : Tr) : (mem (t.flat (-1) 0) (t.flat (-1) 0)).Nodup ↔ t.uniq = true := by
 rw [(mem_flat t (t.flat (-1) 0) 0 (-1) [] (by simp)).nodup_iff, if_pos (.inl (by omega)), List.nil_append]
 exact memT_nodup t 0
def dpt (l : List Nd) : Nat → Int → Nat
 | 0, _ => 0
 | f + 1, k => if k < 0 then 0 else (if 6 ≤ kindAt l k.toNat then 1 else 0) + dpt l f (match l[k.toNat]? with | some n => n.parent | none => -1)
def Ahead (l : List Nd) : Prop := ∀ (i : Nat) n, l[i]? = some n → n.parent < (i : Int)
theorem dpt_more (l : List Nd) (hl : Ahead l) : ∀ (f g : Nat) (k : Int), k < f → k < g → dpt l f k = dpt l g k
 | 0, 0, k, _, _ => rfl
 | 0, g + 1, k, h, _ => by rw [dpt, dpt, if_pos (by omega)]
 | f + 1, 0, k, _, h => by rw [dpt, dpt, if_pos (by omega)]
 | f + 1, g + 1, k, h1, h2 => by
  rw [dpt, dpt]
  split
  ·rfl
  ·congr 1
   cases h : l[k.toNat]? with
   | none => exact dpt_more l hl f g _ (by dsimp only; omega) (by dsimp only; omega)
   | some n =>
    have := hl _ n h
    exact dpt_more l hl f g _ (by dsimp only; omega) (by dsimp only; omega)
mutual
theorem flat_dpt : ∀ (t : Tr) (l : List Nd) (i : Nat) (p : Int) (r : List Nd) (d : Nat), Ahead l → l.drop i = t.flat p i ++ r → (∀ f : Nat, p < f → dpt l f p = d) →
  (∀ j : Nat, i ≤ j → j < i + t.size → ∀ f : Nat, (j : Int) < f → dpt l f (j : Int) ≤ d + t.depth) ∧ (∃ j : Nat, i ≤ j ∧ j < i + t.size ∧ ∀ f : Nat, (j : Int) < f → dpt l f (j : Int) = d + t.depth)
 | .mk k key text kids, l, i, p, r, d, ha, hl, hp => by
  rw [Tr.flat, List.cons_append] at hl
  have hat := at_drop hl
  have hk := (enAt_of hl).2
  dsimp only at hk
  have hl1 : l.drop (i + 1) = flats (i : Int) (i + 1) kids ++ r := by rw [← List.drop_drop, hl]; rfl
  have hi : ∀ f : Nat, (i : Int) < f → dpt l f (i : Int) = d + (if 6 ≤ k then 1 else 0) := by
   intro f hf
   cases f with
   | zero => omega
   | succ f =>
    have := ha i _ hat
    dsimp only at this
    rw [dpt, if_neg (by omega), Int.toNat_natCast, hk, hat]
    dsimp only
    rw [hp f (by omega)]
    omega
  obtain ⟨h1, h2⟩ := flats_dpt kids l (i + 1) (i : Int) r _ ha hl1 hi
  rw [Tr.size, Tr.depth]
  refine ⟨fun j hj1 hj2 f hf => ?_, ?_⟩
  ·by_cases e : j = i
   ·subst e; rw [hi f hf]; omega
   ·have := h1 j (by omega) (by omega) f hf
    omega
  ·cases kids with
   | nil => exact ⟨i, by omega, by omega, fun f hf => by rw [hi f hf, depths]; omega⟩
   | cons t ts =>
    obtain ⟨j, hj1, hj2, hj3⟩ := h2 (by simp)
    exact ⟨j, by omega, by omega, fun f hf => by rw [hj3 f hf]; omega⟩
theorem flats_dpt : ∀ (ts : List Tr) (l : List Nd) (i : Nat) (p : Int) (r : List Nd) (d : Nat), Ahead l → l.drop i = flats p i ts ++ r → (∀ f : Nat, p < f → dpt l f p = d) →
  (∀ j : Nat, i ≤ j → j < i + sizes ts → ∀ f : Nat, (j : Int) < f → dpt l f (j : Int) ≤ d + depths ts) ∧ (ts ≠ [] → ∃ j : Nat, i ≤ j ∧ j < i + sizes ts ∧ ∀ f : Nat, (j : Int) < f → dpt l f (j : Int) = d + depths ts)
 | [], l, i, p, r, d, _, _, _ => ⟨fun j h1 h2 => by rw [sizes] at h2; omega, fun h => absurd rfl h⟩
 | t :: ts, l, i, p, r, d, ha, hl, hp => by
  rw [flats, List.append_assoc] at hl
  have hl2 : l.drop (i + t.size) = flats p (i + t.size) ts ++ r := by rw [← List.drop_drop, hl, List.drop_left' (Tr.flat_len _ _ t)]
  obtain ⟨h1, j1, a1, b1, c1⟩ := flat_dpt t l i p _ d ha hl hp
  obtain ⟨h2, k2⟩ := flats_dpt ts l (i + t.size) p r d ha hl2 hp
  rw [sizes, depths]
  refine ⟨fun j ha hb f hf => ?_, fun _ => ?_⟩
  ·by_cases e : j < i + t.size
   ·have := h1 j ha e f hf; omega
   ·have := h2 j (by omega) (by omega) f hf; omega
  ·by_cases hc : depths ts ≤ t.depth
   ·exact ⟨j1, a1, by omega, fun f hf => by rw [c1 f hf]; omega⟩
   ·have hne : ts ≠ [] := fun e => by rw [e, depths] at hc; omega
    obtain ⟨j2, a2, b2, c2⟩ := k2 hne
    exact ⟨j2, by omega, by omega, fun f hf => by rw [c2 f hf]; omega⟩
end
mutual
theorem flat_ahead : ∀ (t : Tr) (i : Nat) (p : Int), p < (i : Int) → ∀ (j : Nat) n, (t.flat p i)[j]? = some n → n.parent < ((i + j : Nat) : Int)
 | .mk k key text kids, i, p, hp, j, n, h => by
  rw [Tr.flat] at h
  cases j with
  | zero => simp at h; subst h; exact hp
  | succ j => have := flats_ahead kids (i + 1) (i : Int) (by omega) j n (by simpa using h); omega
theorem flats_ahead : ∀ (ts : List Tr) (i : Nat) (p : Int), p < (i : Int) → ∀ (j : Nat) n, (flats p i ts)[j]? = some n → n.parent < ((i + j : Nat) : Int)
 | [], i, p, _, j, n, h => by rw [flats] at h; simp at h
 | t :: ts, i, p, hp, j, n, h => by
  rw [flats] at h
  by_cases hj : j < (t.flat p i).length
  ·rw [List.getElem?_append_left hj] at h
   exact flat_ahead t i p hp j n h
  ·rw [List.getElem?_append_right (by omega), Tr.flat_len] at h
   rw [Tr.flat_len] at hj
   have := flats_ahead ts (i + t.size) p (by omega) _ n h
   omega
end
theorem tree_ahead (t : Tr) : Ahead (t.flat (-1) 0) := fun i n h => by have := flat_ahead t 0 (-1) (by omega) i n h; omega
theorem tree_depth (t : Tr) : (∀ j : Nat, j < t.size → ∀ f : Nat, (j : Int) < f → dpt (t.flat (-1) 0) f (j : Int) ≤ t.depth) ∧ ∃ j : Nat, j < t.size ∧ ∀ f : Nat, (j : Int) < f → dpt (t.flat (-1) 0) f (j : Int) = t.depth := by
 obtain ⟨h1, j, _, h2, h3⟩ := flat_dpt t (t.flat (-1) 0) 0 (-1) [] 0 (tree_ahead t) (by simp) (fun f _ => by cases f <;> simp [dpt])
 exact ⟨fun j hj f hf => by have := h1 j (by omega) (by omega) f hf; omega, j, by omega, fun f hf => by rw [h3 f hf]; omega⟩
mutual
theorem flat_tx (p : ByteArray → Bool) : ∀ (t : Tr) (q : Int) (i : Nat), (t.flat q i).all (fun n => p n.key && p n.text) = t.tx p
 | .mk k key text kids, q, i => by rw [Tr.flat, List.all_cons, flats_tx p kids, Tr.tx]
theorem flats_tx (p : ByteArray → Bool) : ∀ (ts : List Tr) (q : Int) (i : Nat), (flats q i ts).all (fun n => p n.key && p n.text) = txs p ts
 | [], q, i => by rw [flats, txs]; rfl
 | t :: ts, q, i => by rw [flats, List.all_append, flat_tx p t, flats_tx p ts, txs]
end
end Go.Proofs.YtfocognhcljhpaaGreatDoor.Tree
namespace Go.Proofs.YtfocognhcljhpaaGreatDoor
open Go.RowKit
section
variable {F : Fence} {n : Nat} {P : Program} {ops : Array Oper} {Q : Exit → Act → World → Prop} {md : Region.Mode} {Good : World → Prop} {gd : Nat → Bool}
def onlyEnd (K : Act → World → Prop) : Exit → Act → World → Prop
 | .normal, a, w => K a w
 | _, _, _ => False
theorem opIn_end {o : Oper} {a : Act} {w : World} {K K' : Act → World → Prop} {N Q : Exit → Act → World → Prop} (hN : ∀ e a w, e ≠ .normal → ¬ N e a w) (h : ∀ a w, K a w → K' a w) (hh : o.wpIn F n P a w K N) : o.wpIn F n P a w K' Q := by
 have hp : ∀ c a w, ¬ N (.panic c) a w := fun c a w => hN _ a w (by intro e; cases e)
 have ho : ¬ LetsOut N := fun ⟨a, w, e⟩ => hN _ a w (by intro e; cases e) e
 unfold Oper.wpIn at *
 refine ⟨hh.1, ?_⟩
 have hh := hh.2
 generalize (o.semAt F.round a.eval).run P w = r at *
 cases r with
 | ok x w' =>
  cases x <;> simp only [Oper.uponIn] at hh ⊢ <;>
   first
    | exact h _ _ hh
    | exact ⟨hh.1, CallsIn.mono hh.2 (fun e w'' he => by cases e <;> first | exact h _ _ he | exact absurd he (hp _ _ _) | exact absurd he ho)⟩
    | exact ⟨hh.1, RowsIn.mono hh.2 (fun _ _ he => h _ _ he)⟩
    | exact ⟨hh.1, RoundIn.mono hh.2 (fun e w'' he => by cases e <;> first | exact h _ _ he | exact absurd he (hp _ _ _) | exact absurd he ho)⟩
 | halt x w' => cases x <;> simp only [Oper.uponIn] at hh ⊢ <;> first | exact hh | exact absurd hh (hp _ _ _)
def gOp (F : Fence) (n : Nat) (P : Program) (ops : Array Oper) (i : Nat) (K : Act → World → Prop) (a : Act) (w : World) : Prop := wpOpIn F n P ops (onlyEnd fun _ _ => False) i K a w
theorem onlyEnd_no {K : Act → World → Prop} : ∀ e a w, e ≠ .normal → ¬ onlyEnd K e a w := fun e a w h => by cases e <;> first | exact absurd rfl h | exact id
theorem gOp_mono {i : Nat} {K K' : Act → World → Prop} {a : Act} {w : World} (h : ∀ a w, K a w → K' a w) (hh : gOp F n P ops i K a w) : gOp F n P ops i K' a w := wpOpIn_mono h hh
theorem gOp_out {i : Nat} {K K' : Act → World → Prop} {a : Act} {w : World} (h : ∀ a w, K a w → K' a w) (hh : gOp F n P ops i K a w) : wpOpIn F n P ops Q i K' a w := by
 unfold gOp wpOpIn at hh
 unfold wpOpIn
 split
 ·exact h _ _ (by simpa [*] using hh)
 ·rename_i o ho
  simp only [ho] at hh
  split
  ·rename_i hw; simp only [hw, if_true] at hh; exact opIn_end onlyEnd_no h hh
  ·rename_i hw; simp only [hw] at hh; exact ⟨hh.1, h _ _ hh.2⟩
def wpAnyG (F : Fence) (n : Nat) (P : Program) (md : Region.Mode) (ops : Array Oper) (Good : World → Prop) (gd : Nat → Bool) (Q : Exit → Act → World → Prop) : Nat → Array Bool → Act → World → Prop
 | 0, listed, a, w => Region.ready md ops listed = [] ∧ Q .normal a w
 | fuel + 1, listed, a, w => (Region.ready md ops listed = [] → Q .normal a w) ∧
  ∀ i ∈ Region.ready md ops listed, gOp F n P ops i (fun a' w' => (gd i = true → Good w') ∧ wpAnyG F n P md ops Good gd Q fuel (listed.setIfInBounds i true) a' w') a w
theorem wpAnyG.out : ∀ (fuel : Nat) (listed : Array Bool) (a : Act) (w : World), wpAnyG F n P md ops Good gd Q fuel listed a w → wpAnyIn F n P md ops Q fuel listed a w
 | 0, _, _, _, h => h
 | fuel + 1, _, _, _, h => ⟨h.1, fun i hi => gOp_out (fun a' w' h' => wpAnyG.out fuel _ a' w' h'.2) (h.2 i hi)⟩
def YieldsG (P : Program) (ops : Array Oper) (Good : World → Prop) (o : Oper) (v : Value) (a : Act) : Prop :=
 (∀ w, o.about P w a.eval = none) ∧ ((Region.wanted o (yielded ops a.tmps) = true ∧ ∀ w, Good w → (execOp a.eval o).run P w = .ok (.value v) w) ∨ (Region.wanted o (yielded ops a.tmps) = false ∧ v = undef))
theorem YieldsG.gOp {i : Nat} {o : Oper} {v : Value} {a : Act} (hnd : ops.all notDefer = true) (hi : ops[i]? = some o) (hy : YieldsG P ops Good o v a) {K : Act → World → Prop} {w : World} (hg : Good w) (h : K (a.put o.dst v) w) :
  gOp F n P ops i K a w := by
 have hn : notDefer o = true := by
  rw [Array.all_eq_true_iff_forall_mem] at hnd
  exact hnd o (Array.mem_of_getElem? hi)
 unfold Go.Proofs.YtfocognhcljhpaaGreatDoor.gOp wpOpIn
 simp only [hi]
 have hab : ∀ f, o.about P w a.eval = some f → F.fn f := fun f hf => by rw [hy.1 w] at hf; cases hf
 rcases hy.2 with ⟨hw, hv⟩ | ⟨hw, rfl⟩
 ·simp only [hw, if_true]
  unfold Oper.wpIn
  rw [Oper.semAt_eq _ _ _ (notDefer_spec hn), hv w hg]
  exact ⟨hab, h⟩
 ·simp only [hw, Bool.false_eq_true, if_false]
  exact ⟨hab, h⟩
theorem gOp_put {j : Nat} {oi oj : Oper} {v : Value} (hnd : ops.all notDefer = true) (hj : ops[j]? = some oj) (hap : oi.apart ops oj = true) (hsi : ∀ cs b, oi.op ≠ .select cs b) (hsj : ∀ cs b, oj.op ≠ .select cs b)
  {K : Act → World → Prop} {a : Act} {w : World} (hy : YieldsG P ops Good oi v a) (h : gOp F n P ops j K (a.put oi.dst v) w) :
  gOp F n P ops j (fun a' w' => YieldsG P ops Good oi v a' ∧ K (a'.put oi.dst v) w') a w := by
 obtain ⟨h1, h2, h3⟩ := Oper.apart_spec hap
 have hn : notDefer oj = true := by
  rw [Array.all_eq_true_iff_forall_mem] at hnd
  exact hnd oj (Array.mem_of_getElem? hj)
 have keep : ∀ (a : Act), YieldsG P ops Good oi v a → ∀ u, YieldsG P ops Good oi v (a.put oj.dst u) := fun a hy u => by
  have e1 := execOp_put oi hsi a oj.dst u h3
  have e2 := wanted_put oi a oj.dst u h3
  have e3 := fun w => about_put (P := P) oi w a oj.dst u h3
  unfold YieldsG at hy ⊢
  rw [e1, e2]
  exact ⟨fun w => (e3 w).trans (hy.1 w), hy.2⟩
 unfold gOp wpOpIn at *
 simp only [hj] at *
 rw [wanted_put oj a oi.dst v h1, about_put oj w a oi.dst v h1] at h
 split
 ·rename_i hw
  simp only [hw, if_true] at h
  unfold Oper.wpIn at *
  rw [about_put oj w a oi.dst v h1] at h
  refine ⟨h.1, ?_⟩
  have h := h.2
  rw [Oper.semAt_eq _ _ _ (notDefer_spec hn), execOp_put oj hsj a oi.dst v h1] at h
  rw [Oper.semAt_eq _ _ _ (notDefer_spec hn)]
  generalize (execOp a.eval oj).run P w = r at *
  cases r with
  | ok x w' =>
   cases x <;> simp only [Oper.uponIn] at h ⊢
   case value u => exact ⟨keep a hy u, by rw [← Act.put_comm a v u h2]; exact h⟩
   case skip => exact ⟨keep a hy _, by rw [← Act.put_comm a v undef h2]; exact h⟩
   case defer d =>
    refine ⟨?_, ?_⟩
    ·exact keep { a with defers := d :: a.defers } hy _
    ·rw [← Act.put_comm _ v undef h2, ← Act.put_defers]; exact h
   case enter f args =>
    refine ⟨h.1, CallsIn.mono h.2 fun e w'' he => ?_⟩
    cases e with
    | returned u => exact ⟨keep a hy u, by rw [← Act.put_comm a v u h2]; exact he⟩
    | panicked c => exact he
    | outgrown => exact he
   case row row args => exact ⟨h.1, RowsIn.mono h.2 fun u w'' he => ⟨keep a hy u, by rw [← Act.put_comm a v u h2]; exact he⟩⟩
   case round l f tmps assign body =>
    refine ⟨h.1, RoundIn.mono h.2 fun e w'' he => ?_⟩
    cases e with
    | returned u => exact ⟨keep a hy u, by rw [← Act.put_comm a v u h2]; exact he⟩
    | panicked c => exact he
    | outgrown => exact he
  | halt x w' =>
   cases x <;> simp only [Oper.uponIn] at h ⊢
   case panic u => exact h
 ·rename_i hw
  simp only [hw] at h
  exact ⟨h.1, keep a hy _, by rw [← Act.put_comm a v undef h2]; exact h.2⟩
def gdB (md : Region.Mode) (ops : Array Oper) (listed : Array Bool) (gd : Nat → Bool) (i : Nat) : Bool :=
 (List.range ops.size).all fun j => j == i || listed.getD j true || gd j || match ops[j]? with
  | some oj => oj.after.any (fun e => Region.binds md e && e.on == i)
  | none => true
theorem gdB_spec {i : Nat} {listed : Array Bool} (h : gdB md ops listed gd i = true) (j : Nat) (oj : Oper) (hj : ops[j]? = some oj) (hne : j ≠ i) (hun : listed.getD j true = false)
  (hno : ∀ e ∈ oj.after, Region.binds md e = true → e.on ≠ i) : gd j = true := by
 unfold gdB at h
 simp only [List.all_eq_true, List.mem_range] at h
 have h1 := h j (Array.getElem?_eq_some_iff.1 hj).1
 simp only [hj, Bool.or_eq_true, beq_iff_eq, hne, false_or, hun, Bool.false_eq_true] at h1
 rcases h1 with h1 | h1
 ·exact h1
 ·obtain ⟨e, he, hb⟩ := Array.any_eq_true'.1 h1
  simp only [Bool.and_eq_true, beq_iff_eq] at hb
  exact absurd hb.2 (hno e he hb.1)
theorem wpAnyG_first {i : Nat} {oi : Oper} {v : Value} (hnd : ops.all notDefer = true) (hi : ops[i]? = some oi) (hsel : ∀ (j : Nat) (o : Oper) cs b, ops[j]? = some o → o.op ≠ .select cs b) :
  ∀ (fuel : Nat) (listed : Array Bool) (a : Act) (w : World), Good w →
   (∀ j oj, ops[j]? = some oj → j ≠ i → listed.getD j true = false → (∀ e ∈ oj.after, Region.binds md e = true → e.on ≠ i) → oi.apart ops oj = true ∧ gd j = true) →
   i ∈ Region.ready md ops listed → YieldsG P ops Good oi v a →
   wpAnyG F n P md ops Good gd Q fuel (listed.setIfInBounds i true) (a.put oi.dst v) w → wpAnyG F n P md ops Good gd Q (fuel + 1) listed a w := by
 intro fuel
 induction fuel with
 | zero =>
  intro listed a w hg _ hr hy H
  refine ⟨fun h => (by rw [h] at hr; cases hr), fun j hj => ?_⟩
  by_cases hji : j = i
  ·subst hji; exact hy.gOp hnd hi hg ⟨fun _ => hg, H⟩
  ·have := ready_mono hj hji
   rw [H.1] at this
   cases this
 | succ fuel ih =>
  intro listed a w hg hfree hr hy H
  refine ⟨fun h => (by rw [h] at hr; cases hr), fun j hj => ?_⟩
  by_cases hji : j = i
  ·subst hji; exact hy.gOp hnd hi hg ⟨fun _ => hg, H⟩
  ·have h1 := H.2 j (ready_mono hj hji)
   obtain ⟨hjun, oj, hoj, hall⟩ := mem_ready.1 hj
   have hnot : ∀ e ∈ oj.after, Region.binds md e = true → e.on ≠ i := fun e he hb heq => by
    have h1 := hall e he hb
    have h0 := (mem_ready.1 hr).1
    rw [heq] at h1
    rcases Nat.lt_or_ge i listed.size with h' | h'
    ·simp [h'] at h0 h1; rw [h0] at h1; cases h1
    ·simp [Array.getElem?_eq_none h'] at h1
   obtain ⟨hap, hgj⟩ := hfree j oj hoj hji hjun hnot
   have h2 := gOp_put hnd hoj hap (fun cs b => hsel i oi cs b hi) (fun cs b => hsel j oj cs b hoj) hy h1
   refine gOp_mono (fun a' w' h3 => ⟨h3.2.1, ih (listed.setIfInBounds j true) a' w' (h3.2.1 hgj) (fun k ok hk hki hun hno => hfree k ok hk hki ?_ hno) (ready_mono hr (Ne.symm hji)) h3.1 ?_⟩) h2
   ·by_cases hjk : j = k
    ·subst hjk; exact hjun
    ·rw [getD_set_ne true hjk] at hun; exact hun
   ·rw [Array.setIfInBounds_comm _ _ hji]
    exact h3.2.2
theorem takeQ (i : Nat) {oi : Oper} (v : Value) {fuel : Nat} {listed : Array Bool} {a : Act} {w : World} (hg : Good w) (hi : ops[i]? = some oi) (hc : (ops.all notDefer && Region.noSelect ops && Region.free md ops listed i && gdB md ops listed gd i && (Region.ready md ops listed).contains i) = true)
  (hy : YieldsG P ops Good oi v a) (h : wpAnyG F n P md ops Good gd Q fuel (listed.setIfInBounds i true) (a.put oi.dst v) w) : wpAnyG F n P md ops Good gd Q (fuel + 1) listed a w := by
 simp only [Bool.and_eq_true] at hc
 obtain ⟨⟨⟨⟨h1, h2⟩, h3⟩, h4⟩, h5⟩ := hc
 exact wpAnyG_first h1 hi (Region.noSelect_spec h2) fuel listed a w hg (fun j oj a1 a2 a3 a4 => ⟨Region.free_spec hi h3 j oj a1 a2 a3 a4, gdB_spec h4 j oj a1 a2 a3 a4⟩) (by simpa using h5) hy h
theorem takeL (i : Nat) {o : Oper} {fuel : Nat} {listed : Array Bool} {a : Act} {w : World} (ho : ops[i]? = some o) (hr : Region.ready md ops listed = [i])
  (h : wpListIn F n P ops (onlyEnd fun a' w' => (gd i = true → Good w') ∧ wpAnyG F n P md ops Good gd Q fuel (listed.setIfInBounds i true) a' w') [o] a w) : wpAnyG F n P md ops Good gd Q (fuel + 1) listed a w := by
 refine ⟨fun h0 => (by rw [hr] at h0; cases h0), fun j hj => ?_⟩
 rw [hr] at hj
 obtain rfl := List.mem_singleton.1 hj
 unfold gOp wpOpIn
 simp only [ho]
 unfold wpListIn at h
 split
 ·rename_i hw; simp only [hw, if_true] at h; exact opIn_end onlyEnd_no (fun a' w' h' => h') h
 ·rename_i hw; simp only [hw] at h; exact ⟨h.1, h.2⟩
theorem takeW (i : Nat) {o o' : Oper} {fuel : Nat} {listed : Array Bool} {a : Act} {w : World} (ho : ops[i]? = some o) (hr : Region.ready md ops listed = [i]) (hw : Region.wanted o (yielded ops a.tmps) = true) (ho' : { o with guard := none } = o')
  (h : wpListIn F n P ops (onlyEnd fun a' w' => (gd i = true → Good w') ∧ wpAnyG F n P md ops Good gd Q fuel (listed.setIfInBounds i true) a' w') [o'] a w) : wpAnyG F n P md ops Good gd Q (fuel + 1) listed a w := by
 subst ho'
 refine ⟨fun h0 => (by rw [hr] at h0; cases h0), fun j hj => ?_⟩
 rw [hr] at hj
 obtain rfl := List.mem_singleton.1 hj
 unfold gOp wpOpIn
 simp only [ho, hw, if_true]
 unfold wpListIn at h
 have e : Region.wanted { o with guard := none } (yielded ops a.tmps) = true := rfl
 rw [if_pos e] at h
 have h2 : o.wpIn F n P a w (wpListIn F n P ops (onlyEnd fun a' w' => (gd j = true → Good w') ∧ wpAnyG F n P md ops Good gd Q fuel (listed.setIfInBounds j true) a' w') []) (onlyEnd fun a' w' => (gd j = true → Good w') ∧ wpAnyG F n P md ops Good gd Q fuel (listed.setIfInBounds j true) a' w') := by
  cases o
  exact h
 exact opIn_end onlyEnd_no (fun a' w' h' => h') h2
theorem doneG {fuel : Nat} {listed : Array Bool} {a : Act} {w : World} (hr : Region.ready md ops listed = []) (h : Q .normal a w) : wpAnyG F n P md ops Good gd Q fuel listed a w := by
 cases fuel with
 | zero => exact ⟨hr, h⟩
 | succ _ => exact ⟨fun _ => h, by rw [hr]; simp⟩
theorem region_g {id : Nat} {a : Act} {w : World} {l : List Oper} (Good : World → Prop) (gd : Nat → Bool) (hm : P.follows .mixedOrders = true)
  (h : wpAnyG F n P .any l.toArray Good gd Q l.length (Array.replicate l.length false) a w.drew) : (Code.region id l.toArray true).wpIn F n P Q a w :=
 wpIn_region_any hm (wpAnyG.out _ _ _ _ (by simpa using h))
end
end Go.Proofs.YtfocognhcljhpaaGreatDoor
namespace Go.Proofs.YtfocognhcljhpaaGreatDoor
open Go.RowKit Go.Proofs.YtfocognhcljhpaaGreatDoorW.PrintWords Go.Proofs.YtfocognhcljhpaaGreatDoorW.PrintMore Go.Proofs.YtfocognhcljhpaaGreatDoor.PPrintRows Go.Proofs.YtfocognhcljhpaaGreatDoor.Tree
def PCell (w : World) (p : Nat) (s : ByteArray) (at_ : Nat) (lv sv : Value) (lone : Bool) (deep : Nat) : Prop :=
 w.heap[p]? = some (.cells #[.string s, .int .i64 at_, lv, sv, .bool lone, .int .i64 deep] 106 (0, 0))
structure PMv (p : Nat) (w w' : World) : Prop where
 os : w'.os = w.os
 tape : w'.tape = w.tape
 output : w'.output = w.output
 size : w.heap.size ≤ w'.heap.size
 block : ∀ k, k < w.heap.size → k ≠ p → w'.heap[k]? = w.heap[k]?
theorem PMv.refl (p : Nat) (w : World) : PMv p w w := ⟨rfl, rfl, rfl, Nat.le_refl _, fun _ _ _ => rfl⟩
theorem PMv.trans {p : Nat} {a b c : World} (h : PMv p a b) (k : PMv p b c) : PMv p a c :=
 ⟨k.os.trans h.os, k.tape.trans h.tape, k.output.trans h.output, Nat.le_trans h.size k.size, fun j hj hp => (k.block j (Nat.lt_of_lt_of_le hj h.size) hp).trans (h.block j hj hp)⟩
theorem PMv.of_below {p : Nat} {a b : World} (h : Below a.heap.size a b) : PMv p a b := ⟨h.os, h.tape, h.output, h.size, fun j hj _ => h.block j hj⟩
theorem PMv.set {p : Nat} {a b : World} (h : PMv p a b) (j : Nat) (v : Value) : PMv p a (b.setCell ⟨p, j, none⟩ v) :=
 h.trans ⟨rfl, rfl, rfl, by simp [World.setCell], fun k hk hp => Below.heap_setCell _ _ _ _ (fun e => hp (by rw [e]))⟩
theorem PMv.below {p : Nat} {a b : World} (h : PMv p a b) : Below p a b ∨ True := .inr trivial
def isBlank (c : UInt8) : Bool := c == 32 || c == 9 || c == 10 || c == 13
def blanksL : Bs → Nat
 | [] => 0
 | c :: r => if isBlank c then blanksL r + 1 else 0
theorem blanksL_le : ∀ l : Bs, blanksL l ≤ l.length
 | [] => Nat.le_refl _
 | c :: r => by rw [blanksL]; split; (have := blanksL_le r; simp; exact this); simp
def spaceP (s : ByteArray) (a : Nat) : Nat := a + blanksL (s.data.toList.drop a)
theorem drop_at (s : ByteArray) (k : Nat) (h : k < s.size) : s.data.toList.drop k = s[k] :: s.data.toList.drop (k + 1) := by
 rw [List.drop_eq_getElem_cons (by simpa using h)]
 rfl
theorem spaceP_blank {s : ByteArray} {k : Nat} (h : k < s.size) (hb : isBlank s[k] = true) : spaceP s (k + 1) = spaceP s k := by
 unfold spaceP
 rw [drop_at s k h, blanksL, if_pos hb]
 omega
theorem spaceP_none {s : ByteArray} {k : Nat} (h : k < s.size) (hb : isBlank s[k] = false) : spaceP s k = k := by
 unfold spaceP
 rw [drop_at s k h, blanksL, if_neg (by rw [hb]; decide)]
 omega
theorem spaceP_end {s : ByteArray} {k : Nat} (h : s.size ≤ k) : spaceP s k = k := by
 unfold spaceP
 rw [List.drop_of_length_le (by simpa using h)]
 rfl
set_option maxRecDepth 100000 in
theorem blank_index (c : UInt8) : decide (0 ≤ Lib.indexByte [32, 9, 10, 13] ((c.toNat : Int)).toNat.toUInt8) = isBlank c := by
 have h : ∀ y : Fin 256, decide (0 ≤ Lib.indexByte [32, 9, 10, 13] (((UInt8.ofNat y.1).toNat : Int)).toNat.toUInt8) = isBlank (UInt8.ofNat y.1) := by decide
 have := h ⟨c.toNat, c.toNat_lt⟩
 simpa using this
theorem PCell.at_ {w : World} {p : Nat} {s : ByteArray} {a : Nat} {lv sv : Value} {lone : Bool} {deep : Nat} (h : PCell w p s a lv sv lone deep) (b : Nat) {x : Int} (hx : x = (b : Int)) : PCell (w.setCell ⟨p, 1, none⟩ (.int .i64 x)) p s b lv sv lone deep := by
 subst hx
 exact blk_set h 1 _
def pmeas (w : World) (p n : Nat) : Nat := n - (match w.heap[p]? with | some (.cells cs _ _) => (match cs[1]? with | some v => (intOf v).toNat | none => 0) | _ => 0)
theorem pmeas_eq {w : World} {p : Nat} {s : ByteArray} {a : Nat} {lv sv : Value} {lone : Bool} {deep : Nat} (h : PCell w p s a lv sv lone deep) (n : Nat) : pmeas w p n = n - a := by
 unfold pmeas
 rw [h]
 simp [intOf]
set_option maxRecDepth 100000 in
set_option maxHeartbeats 2000000 in
theorem space_any (p : Nat) (s : ByteArray) (a : Nat) (lv sv : Value) (lone : Bool) (deep : Nat) (w : World) (hP : PCell w p s a lv sv lone deep) (ha : a ≤ s.size) (hs : s.size ≤ 1000000) :
  Calls Tryz.prog 90 #[.pointer (some ⟨p, 0, none⟩)] w fun e w' => e = .returned (.tuple #[]) ∧ PCell w' p s (spaceP s a) lv sv lone deep ∧ PMv p w w' := by
 go_enter Tryz.func90, Tryz.ntmps90
 go_wp2
 go_loopw [] (fun wr => ∃ k, k ≤ s.size ∧ spaceP s k = spaceP s a ∧ PCell wr p s k lv sv lone deep ∧ PMv p w wr) (fun wr => pmeas wr p s.size)
 case atStart => exact ⟨a, ha, rfl, hP, PMv.refl _ _⟩
 case round =>
  obtain ⟨k, hk, hsp, hPk, hM⟩ := hrel
  have c0 := blkc hPk 0 rfl
  have c1 := blkc hPk 1 rfl
  have f1 := blk_frozen hPk 1
  have HP := Lib.hid hPk
  have HM := Lib.hid hM
  have HS := Lib.hid hsp
  clear hPk hM hsp hP
  by_cases hlt : k < s.size
  ·have k1 : decide ((k : Int) < (s.size : Int)) = true := decide_eq_true (by omega)
   have k2 : decide (k < s.size) = true := decide_eq_true hlt
   have hbi := blank_index s[k]
   cases hb : isBlank s[k] with
   | true =>
    have HI := Lib.hid (fun W => Tryz.strings_IndexByte ⟨#[32, 9, 10, 13]⟩ (s[k].toNat : Nat) W)
    rw [hb] at hbi
    have hnext := spaceP_blank hlt hb
    have HNX := Lib.hid hnext
    clear hnext hb
    obtain ⟨c, hc⟩ : ∃ c : Int, ((s[k].toNat : Nat) : Int) = c := ⟨_, rfl⟩
    rw [hc] at HI hbi
    have hz : (⟨#[32, 9, 10, 13]⟩ : ByteArray).data.toList = [32, 9, 10, 13] := rfl
    rw [hz] at HI
    generalize Lib.indexByte [32, 9, 10, 13] c.toNat.toUInt8 = ix at HI hbi
    go_wp2_with fail
    go_big_quiet ((go_at_call 109; refine Calls.quiet_of_same (HI.out _)))
    go_wp2_with fail
    go_roundw
    case rel => exact ⟨k + 1, by omega, by rw [HNX.out]; exact HS.out, PCell.at_ (w := wr.drewN nq) HP.out (k + 1) (by omega), (HM.out.trans (PMv.of_below (pw_below_drewN (Below.refl _ _) nq))).set 1 _⟩
    case measure => rw [pmeas_eq (PCell.at_ (w := wr.drewN nq) HP.out (k + 1) (by omega)), pmeas_eq HP.out]; omega
   | false =>
    have HI := Lib.hid (fun W => Tryz.strings_IndexByte ⟨#[32, 9, 10, 13]⟩ (s[k].toNat : Nat) W)
    rw [hb] at hbi
    have HNX := Lib.hid (spaceP_none hlt hb)
    clear hb
    obtain ⟨c, hc⟩ : ∃ c : Int, ((s[k].toNat : Nat) : Int) = c := ⟨_, rfl⟩
    rw [hc] at HI hbi
    have hz : (⟨#[32, 9, 10, 13]⟩ : ByteArray).data.toList = [32, 9, 10, 13] := rfl
    rw [hz] at HI
    generalize Lib.indexByte [32, 9, 10, 13] c.toNat.toUInt8 = ix at HI hbi
    go_wp2_with fail
    go_big_quiet ((go_at_call 109; refine Calls.quiet_of_same (HI.out _)))
    go_wp2_with fail
    go_end0
    exact ⟨rfl, by rw [← HS.out, HNX.out]; exact blk_drewN HP.out nq, HM.out.trans (PMv.of_below (pw_below_drewN (Below.refl _ _) nq))⟩
  ·have k1 : decide ((k : Int) < (s.size : Int)) = false := decide_eq_false (by omega)
   have k2 : decide (k < s.size) = false := decide_eq_false hlt
   go_wp2_with fail
   go_big_quiet (fail)
   go_wp2_with fail
   go_end0
   exact ⟨rfl, by rw [← HS.out, spaceP_end (by omega)]; exact blk_drewN HP.out nq, HM.out.trans (PMv.of_below (pw_below_drewN (Below.refl _ _) nq))⟩
theorem drewN_pmv (p : Nat) (w : World) (n : Nat) : PMv p w (w.drewN n) := PMv.of_below (pw_below_drewN (Below.refl _ _) n)
def takeP (s : ByteArray) (a : Nat) (c : Int) : Bool := match s.data.toList[a]? with | some x => decide ((x.toNat : Int) = c) | none => false
set_option maxRecDepth 100000 in
set_option maxHeartbeats 2000000 in
theorem take_any (p : Nat) (s : ByteArray) (a : Nat) (lv sv : Value) (lone : Bool) (deep : Nat) (c : Int) (w : World) (hP : PCell w p s a lv sv lone deep) (ha : a ≤ s.size) (hs : s.size ≤ 1000000) :
  Calls Tryz.prog 94 #[.pointer (some ⟨p, 0, none⟩), .int .u8 c] w fun e w' => e = .returned (.bool (takeP s a c)) ∧ PCell w' p s (if takeP s a c then a + 1 else a) lv sv lone deep ∧ PMv p w w' := by
 have c0 := blkc hP 0 rfl
 have c1 := blkc hP 1 rfl
 have f1 := blk_frozen hP 1
 have HP := Lib.hid hP
 clear hP
 by_cases hlt : a < s.size
 ·have k1 : decide ((a : Int) < (s.size : Int)) = true := decide_eq_true (by omega)
  have k2 : decide (a < s.size) = true := decide_eq_true hlt
  have hat : s.data.toList[a]? = some s[a] := by rw [List.getElem?_eq_getElem (by simpa using hlt)]; rfl
  by_cases hc : ((s[a].toNat : Nat) : Int) = c
  ·have ht : takeP s a c = true := by unfold takeP; rw [hat]; exact decide_eq_true hc
   rw [ht]
   have k3 : (c == c) = true := by simp
   clear hat ht
   go_enter Tryz.func94, Tryz.ntmps94
   go_wp2_with fail
   go_big_quiet (fail)
   go_wp2_with fail
   go_ret
   exact ⟨rfl, PCell.at_ (w := w.drewN nq) HP.out (a + 1) (by omega), (drewN_pmv p w nq).set 1 _⟩
  ·have ht : takeP s a c = false := by unfold takeP; rw [hat]; exact decide_eq_false hc
   rw [ht]
   obtain ⟨z, hz⟩ : ∃ z : Int, ((s[a].toNat : Nat) : Int) = z := ⟨_, rfl⟩
   have k3 : (z == c) = false := by rw [← hz]; simpa using hc
   clear hat ht hc
   go_enter Tryz.func94, Tryz.ntmps94
   go_wp2_with fail
   go_big_quiet (fail)
   go_wp2_with fail
   go_ret
   exact ⟨rfl, HP.out, drewN_pmv p w nq⟩
 ·have k1 : decide ((a : Int) < (s.size : Int)) = false := decide_eq_false (by omega)
  have k2 : decide (a < s.size) = false := decide_eq_false hlt
  have ht : takeP s a c = false := by unfold takeP; rw [List.getElem?_eq_none (by simpa using hlt)]
  rw [ht]
  clear ht
  go_enter Tryz.func94, Tryz.ntmps94
  go_wp2_with fail
  go_big_quiet (fail)
  go_wp2_with fail
  go_ret
  exact ⟨rfl, HP.out, drewN_pmv p w nq⟩
end Go.Proofs.YtfocognhcljhpaaGreatDoor
namespace Go.Proofs.YtfocognhcljhpaaGreatDoor
open Go.RowKit Go.Proofs.YtfocognhcljhpaaGreatDoorW.PrintWords Go.Proofs.YtfocognhcljhpaaGreatDoorW.PrintMore Go.Proofs.YtfocognhcljhpaaGreatDoor.PPrintRows Go.Proofs.YtfocognhcljhpaaGreatDoor.Tree
def hasPre (s p : ByteArray) : Bool := p.data.toList.isPrefixOf s.data.toList
set_option maxRecDepth 100000 in
set_option maxHeartbeats 2000000 in
theorem word_any (p : Nat) (s : ByteArray) (a : Nat) (lv sv : Value) (lone : Bool) (deep : Nat) (x : ByteArray) (r : Bool) (w : World) (hP : PCell w p s a lv sv lone deep) (ha : a ≤ s.size) (hs : s.size ≤ 1000000) (hx : x.size ≤ 1000)
  (hpre : ∀ W, Calls Tryz.prog 112 #[.string (s.extract a s.size), .string x] W fun e w' => e = .returned (.bool r) ∧ w' = W) :
  Calls Tryz.prog 110 #[.pointer (some ⟨p, 0, none⟩), .string x] w fun e w' => e = .returned (.bool r) ∧ PCell w' p s (if r then a + x.size else a) lv sv lone deep ∧ PMv p w w' := by
 have c0 := blkc hP 0 rfl
 have c1 := blkc hP 1 rfl
 have f1 := blk_frozen hP 1
 have HP := Lib.hid hP
 have HH := Lib.hid hpre
 clear hP hpre
 cases r with
 | true =>
  go_enter Tryz.func110, Tryz.ntmps110
  go_wp2_with fail
  go_big_quiet ((go_at_call 112; refine Calls.quiet_of_same (HH.out _)))
  go_wp2_with fail
  go_ret
  exact ⟨rfl, PCell.at_ (w := w.drewN nq) HP.out (a + x.size) (by omega), (drewN_pmv p w nq).set 1 _⟩
 | false =>
  go_enter Tryz.func110, Tryz.ntmps110
  go_wp2_with fail
  go_big_quiet ((go_at_call 112; refine Calls.quiet_of_same (HH.out _)))
  go_wp2_with fail
  go_ret
  exact ⟨rfl, HP.out, drewN_pmv p w nq⟩
end Go.Proofs.YtfocognhcljhpaaGreatDoor
namespace Go.Proofs.YtfocognhcljhpaaGreatDoor
open Go.RowKit Go.Proofs.YtfocognhcljhpaaGreatDoorW.PrintWords Go.Proofs.YtfocognhcljhpaaGreatDoorW.PrintMore Go.Proofs.YtfocognhcljhpaaGreatDoor.PPrintRows Go.Proofs.YtfocognhcljhpaaGreatDoor.Tree
def PAt (w : World) (p : Nat) (s : ByteArray) (a : Nat) (l : List Node) (st : List Nat) (lone : Bool) (deep : Nat) : Prop :=
 ∃ lv sv, PCell w p s a lv sv lone deep ∧ RowAt w p lv l ∧ OpenAt w p sv st
structure PKeep (p : Nat) (w w' : World) : Prop where
 os : w'.os = w.os
 tape : w'.tape = w.tape
 output : w'.output = w.output
 size : w.heap.size ≤ w'.heap.size
 block : ∀ k o, w.heap[k]? = some o → (k < p ∨ (k ≠ p ∧ (∀ cs fr, o ≠ .cells cs 48 fr) ∧ ∀ cs fr, o ≠ .cells cs 3 fr)) → w'.heap[k]? = some o
theorem PKeep.of_pmv {p : Nat} {a b : World} (h : PMv p a b) : PKeep p a b :=
 ⟨h.os, h.tape, h.output, h.size, fun k o hk hc => (h.block k (blk_lt hk) (by rcases hc with hc | hc; omega; exact hc.1)).trans hk⟩
theorem PKeep.trans {p : Nat} {a b c : World} (h : PKeep p a b) (k : PKeep p b c) : PKeep p a c :=
 ⟨k.os.trans h.os, k.tape.trans h.tape, k.output.trans h.output, Nat.le_trans h.size k.size, fun j o hj hc => k.block j o (h.block j o hj hc) hc⟩
theorem PKeep.refl (p : Nat) (w : World) : PKeep p w w := .of_pmv (PMv.refl p w)
theorem PKeep.of_grown {p : Nat} {A B : World} {v : Value} (h : A.grownBy B v.ownBlock) (hty : ∀ k, v.ownBlock = some k → p ≤ k ∧ ∃ cells T, A.heap[k]? = some (.cells cells T (0, 0)) ∧ (T = 48 ∨ T = 3)) : PKeep p A B :=
 ⟨h.os, h.tape, h.output, h.size, fun j o hj hc => (h.block j (blk_lt hj) (fun e => by
  obtain ⟨h1, cells, T, h2, h3⟩ := hty j e.symm
  rw [hj] at h2
  rcases hc with hc | hc
  ·omega
  ·rcases h3 with rfl | rfl
   ·exact hc.2.1 _ _ (Option.some.inj h2)
   ·exact hc.2.2 _ _ (Option.some.inj h2))).trans hj⟩
theorem row_ne {w : World} {p base : Nat} {s : ByteArray} {a : Nat} {lv sv v : Value} {l : List Node} {lone : Bool} {deep : Nat} (hC : PCell w p s a lv sv lone deep) (hR : RowAt w base v l) : v.ownBlock ≠ some p := fun e => by
 obtain ⟨_, cells, h⟩ := hR.typed p e
 unfold PCell at hC
 rw [hC] at h
 simp at h
theorem open_ne {w : World} {p base : Nat} {s : ByteArray} {a : Nat} {lv sv v : Value} {op : List Nat} {lone : Bool} {deep : Nat} (hC : PCell w p s a lv sv lone deep) (hR : OpenAt w base v op) : v.ownBlock ≠ some p := fun e => by
 obtain ⟨_, cells, h⟩ := own_int (open_own hR) p e
 unfold PCell at hC
 rw [hC] at h
 simp at h
theorem row_open_ne {w : World} {base base' : Nat} {v u : Value} {l : List Node} {op : List Nat} (hR : RowAt w base v l) (hO : OpenAt w base' u op) : ∀ k, v.ownBlock = some k → u.ownBlock ≠ some k := fun k hk e => by
 obtain ⟨_, c1, h1⟩ := hR.typed k hk
 obtain ⟨_, c2, h2⟩ := own_int (open_own hO) k e
 rw [h1] at h2
 simp at h2
def addN (l : List Node) (st : List Nat) (kind : Int) (key text : ByteArray) : Node := ⟨kind, key, text, (match st with | [] => -1 | j :: _ => (j : Int)), (l.length : Int) + 1⟩
theorem keep_set {w : World} {p j : Nat} {v u : Value} (h : v.ownBlock ≠ some p) : ∀ k, v.ownBlock = some k → (w.setCell ⟨p, j, none⟩ u).heap[k]? = w.heap[k]? := fun k hk =>
 Below.heap_setCell w ⟨p, j, none⟩ u k (fun e => h (by rw [hk]; exact congrArg some e))
theorem keep_grown {w w1 : World} {v u : Value} {o : Obj} (hg : (w.alloc o).grownBy w1 u.ownBlock) (hlt : ∀ k, v.ownBlock = some k → k < w.heap.size) (hne : ∀ k, v.ownBlock = some k → u.ownBlock ≠ some k) : ∀ k, v.ownBlock = some k → w1.heap[k]? = w.heap[k]? := fun k hk =>
 (hg.block k (by rw [World.size_alloc]; have := hlt k hk; omega) (fun e => hne k hk e.symm)).trans (Below.heap_alloc _ _ _ (hlt k hk))
theorem open_lt {w : World} {base : Nat} {v : Value} {op : List Nat} (h : OpenAt w base v op) : ∀ k, v.ownBlock = some k → k < w.heap.size := fun k hk => by
 obtain ⟨_, _, h⟩ := own_int (open_own h) k hk
 exact blk_lt h
theorem row_lt {w : World} {base : Nat} {v : Value} {l : List Node} (h : RowAt w base v l) : ∀ k, v.ownBlock = some k → k < w.heap.size := fun k hk => by
 obtain ⟨_, _, h⟩ := h.typed k hk
 exact blk_lt h
theorem add_row {W : World} {p : Nat} {s : ByteArray} {a : Nat} {A : Option Addr} {c : Nat} {sv : Value} {l : List Node} {st : List Nat} {lone : Bool} {deep : Nat} (hC : PCell W p s a (.slice A l.length c) sv lone deep) (hR : RowAt W p (.slice A l.length c) l) (hO : OpenAt W p sv st)
  (n : Node) (hl : l.length ≤ 900000) : ∃ A1 c1 w1, (Builtin.append_ #[22, 22] 22 #[.slice A l.length c, .slice (some ⟨W.heap.size, 0, none⟩) 1 1]).run Tryz.prog (W.alloc (.cells (nodeC n).toArray 48)) = .ok (.slice A1 (l.length + 1) c1) w1 ∧
   PCell w1 p s a (.slice A l.length c) sv lone deep ∧ PCell (w1.setCell ⟨p, 2, none⟩ (.slice A1 (l.length + 1) c1)) p s a (.slice A1 (l.length + 1) c1) sv lone deep ∧ RowAt (w1.setCell ⟨p, 2, none⟩ (.slice A1 (l.length + 1) c1)) p (.slice A1 (l.length + 1) c1) (l ++ [n]) ∧
   OpenAt (w1.setCell ⟨p, 2, none⟩ (.slice A1 (l.length + 1) c1)) p sv st ∧ PKeep p W (w1.setCell ⟨p, 2, none⟩ (.slice A1 (l.length + 1) c1)) := by
 have hp := blk_lt hC
 obtain ⟨v1, w1, h1, h2, h3, h4⟩ := row_append hR n hl (by omega)
 obtain ⟨A1, c1, e1, hlc1⟩ := h2.slice
 rw [List.length_append, List.length_singleton] at e1
 subst e1
 have hP1 : PCell w1 p s a (.slice A l.length c) sv lone deep := (h3.block p (by rw [World.size_alloc]; omega) (fun e => row_ne hC hR e.symm)).trans (blk_alloc hC _)
 have hO1 : OpenAt w1 p sv st := hO.keep (keep_grown h3 (open_lt hO) (fun k hk e => row_open_ne hR hO k e hk))
 refine ⟨A1, c1, w1, h1, hP1, blk_set hP1 2 _, h2.keep (keep_set (row_ne hP1 h2)), hO1.keep (keep_set (open_ne hP1 hO1)), ?_⟩
 refine ((PKeep.of_pmv (PMv.of_below (below_alloc (Below.refl _ _) _))).trans (PKeep.of_grown h3 (fun k hk => ?_))).trans (PKeep.of_pmv ((PMv.refl p w1).set 2 _))
 obtain ⟨q1, cells, q2⟩ := hR.typed k hk
 exact ⟨q1, cells, _, blk_alloc q2 _, .inl rfl⟩
theorem add_open {W : World} {p : Nat} {s : ByteArray} {a : Nat} {A : Option Addr} {c : Nat} {lv : Value} {l : List Node} {st : List Nat} {lone : Bool} {deep : Nat} (hC : PCell W p s a lv (.slice A st.length c) lone deep) (hR : RowAt W p lv l) (hO : OpenAt W p (.slice A st.length c) st)
  (j : Nat) (hl : st.length ≤ 900000) : ∃ A1 c1 w1, (Builtin.append_ #[71, 71] 71 #[.slice A st.length c, .slice (some ⟨W.heap.size, 0, none⟩) 1 1]).run Tryz.prog (W.alloc (.cells #[.int .i64 (j : Int)] 3)) = .ok (.slice A1 (st.length + 1) c1) w1 ∧
   PCell w1 p s a lv (.slice A st.length c) lone deep ∧ PCell (w1.setCell ⟨p, 3, none⟩ (.slice A1 (st.length + 1) c1)) p s a lv (.slice A1 (st.length + 1) c1) lone deep ∧ RowAt (w1.setCell ⟨p, 3, none⟩ (.slice A1 (st.length + 1) c1)) p lv l ∧
   OpenAt (w1.setCell ⟨p, 3, none⟩ (.slice A1 (st.length + 1) c1)) p (.slice A1 (st.length + 1) c1) (j :: st) ∧ PKeep p W (w1.setCell ⟨p, 3, none⟩ (.slice A1 (st.length + 1) c1)) := by
 have hp := blk_lt hC
 obtain ⟨v1, w1, h1, h2, h3, h4⟩ := int_append hO j hl (by omega)
 obtain ⟨A1, c1, e1⟩ := Kd.R_slice h2
 rw [show ((j :: st).reverse.map fun (j : Nat) => (j : Int)).length = st.length + 1 by simp] at e1
 subst e1
 have hP1 : PCell w1 p s a lv (.slice A st.length c) lone deep := (h3.block p (by rw [World.size_alloc]; omega) (fun e => open_ne hC hO e.symm)).trans (blk_alloc hC _)
 have hR1 : RowAt w1 p lv l := hR.keep (keep_grown h3 (row_lt hR) (fun k hk e => row_open_ne hR hO k hk e))
 refine ⟨A1, c1, w1, h1, hP1, blk_set hP1 3 _, hR1.keep (keep_set (row_ne hP1 hR1)), h2.keep (keep_set (open_ne hP1 h2)), ?_⟩
 refine ((PKeep.of_pmv (PMv.of_below (below_alloc (Below.refl _ _) _))).trans (PKeep.of_grown h3 (fun k hk => ?_))).trans (PKeep.of_pmv ((PMv.refl p w1).set 3 _))
 obtain ⟨q1, cells, q2⟩ := own_int (open_own hO) k hk
 exact ⟨q1, cells, _, blk_alloc q2 _, .inr rfl⟩
end Go.Proofs.YtfocognhcljhpaaGreatDoor
namespace Go.Proofs.YtfocognhcljhpaaGreatDoor
open Go.RowKit Go.Proofs.YtfocognhcljhpaaGreatDoorW.PrintWords Go.Proofs.YtfocognhcljhpaaGreatDoorW.PrintMore Go.Proofs.YtfocognhcljhpaaGreatDoor.PPrintRows Go.Proofs.YtfocognhcljhpaaGreatDoor.Tree
set_option maxRecDepth 100000 in
set_option maxHeartbeats 4000000 in
theorem add_any (p : Nat) (s : ByteArray) (a : Nat) (l : List Node) (st : List Nat) (lone : Bool) (deep : Nat) (kind : Int) (key text : ByteArray) (w : World) (hP : PAt w p s a l st lone deep) (hl : l.length ≤ 500000) (hst : st.length ≤ l.length) (hdp : deep ≤ 500000) (hp : p < w.heap.size) :
  Calls Tryz.prog 111 #[.pointer (some ⟨p, 0, none⟩), .int .i64 kind, .string key, .string text] w fun e w' => e = .returned (.tuple #[]) ∧
   PAt w' p s a (l ++ [addN l st kind key text]) (if 6 ≤ kind then l.length :: st else st) lone (if 6 ≤ kind then max deep (st.length + 1) else deep) ∧ PKeep p w w' := by
 obtain ⟨lv, sv, hC, hR, hO⟩ := hP
 have c2 := blkc hC 2 rfl
 have c3 := blkc hC 3 rfl
 have c5 := blkc hC 5 rfl
 obtain ⟨A, c, rfl, hlc⟩ := hR.slice
 obtain ⟨Ao, co, rfl⟩ := Kd.R_slice hO
 have HC := Lib.hid hC
 have HR := Lib.hid hR
 have HO := Lib.hid hO
 have hsn : (st.reverse.map fun (j : Nat) => (j : Int)).length = st.length := by simp
 rw [hsn] at HC HO c3
 clear hC hR hO hsn
 obtain ⟨st2, hst2⟩ : ∃ x, (if 6 ≤ kind then l.length :: st else st) = x := ⟨_, rfl⟩
 obtain ⟨dp2, hdp2⟩ : ∃ x, (if 6 ≤ kind then max deep (st.length + 1) else deep) = x := ⟨_, rfl⟩
 rw [hst2, hdp2]
 have HS2 := Lib.hid hst2
 have HD2 := Lib.hid hdp2
 clear hst2 hdp2
 have hw1 : IntKind.i64.wrap ((l.length : Int) + 1) = (l.length : Int) + 1 := wrap_id _ (by omega) (by omega)
 have hw2 : IntKind.i64.wrap ((l.length : Int) + 1 - 1) = (l.length : Int) := by rw [show (l.length : Int) + 1 - 1 = (l.length : Int) by omega]; exact wrap_id _ (by omega) (by omega)
 have hw3 : IntKind.i64.wrap (l.length : Int) = (l.length : Int) := wrap_id _ (by omega) (by omega)
 obtain rfl | ⟨j, st', hj⟩ : st = [] ∨ ∃ j st', st = j :: st' := by cases st with | nil => exact .inl rfl | cons j s => exact .inr ⟨j, s, rfl⟩
 ·obtain ⟨A1, c1, w1, hr0, hP1, hP2, hR2, hO2, hK2⟩ := add_row (W := w.drew) HC.out HR.out HO.out (addN l [] kind key text) (by omega)
  have hr1 : (Builtin.append_ #[22, 22] 22 #[.slice A l.length c, .slice (some ⟨w.heap.size, 0, none⟩) 1 1]).run Tryz.prog (w.drew.alloc (.cells #[.int .i64 kind, .string key, .string text, .int .i64 (-1), .int .i64 ((l.length : Int) + 1)] 48)) = .ok (.slice A1 (l.length + 1) c1) w1 := hr0
  have q2 := blkc hP1 2 rfl
  have qf := blk_frozen hP1 2
  have qs := blk_lt hP1
  have HP2 := Lib.hid hP2
  have HR2 := Lib.hid hR2
  have HO2 := Lib.hid hO2
  have HK2 := Lib.hid hK2
  clear hr0 hP1 hP2 hR2 hO2 hK2
  go_enter Tryz.func111, Tryz.ntmps111
  go_upto_region 3 with (fail)
  go_cut [] (fun wc => PCell wc p s a (.slice A1 (l.length + 1) c1) (.slice Ao 0 co) lone deep ∧ RowAt wc p (.slice A1 (l.length + 1) c1) (l ++ [addN l [] kind key text]) ∧ OpenAt wc p (.slice Ao 0 co) [] ∧ PKeep p w wc)
  case first =>
   refine (wpIn_wide (n := 5)).1 ?_
   have hmo : Tryz.prog.follows .mixedOrders = true := by kernel_rfl
   refine region_g (fun W => W.cell? ⟨p, 2, none⟩ = some (.slice A l.length c)) (fun j => j != 20) hmo ?_
   have hgood : w.drew.cell? ⟨p, 2, none⟩ = some (.slice A l.length c) := c2
   refine takeQ 0 ?vb0 hgood rfl (by kernel_rfl) ⟨fun _ => rfl, .inl ⟨by kernel_rfl, fun w' hw' => ?yb0⟩⟩ ?rb0
   case' yb0 => ((try obtain ⟨hw1', hw2'⟩ := hw'); go_simp; with_reducible rfl)
   simp only [Act.put, List.setIfInBounds_toArray, List.set_cons_succ, List.set_cons_zero]
   refine takeQ 1 ?vb1 hgood rfl (by kernel_rfl) ⟨fun _ => rfl, .inl ⟨by kernel_rfl, fun w' hw' => ?yb1⟩⟩ ?rb1
   case' yb1 => ((try obtain ⟨hw1', hw2'⟩ := hw'); go_simp; with_reducible rfl)
   simp only [Act.put, List.setIfInBounds_toArray, List.set_cons_succ, List.set_cons_zero]
   refine takeQ 2 ?vb2 hgood rfl (by kernel_rfl) ⟨fun _ => rfl, .inl ⟨by kernel_rfl, fun w' hw' => ?yb2⟩⟩ ?rb2
   case' yb2 => ((try obtain ⟨hw1', hw2'⟩ := hw'); go_simp; with_reducible rfl)
   simp only [Act.put, List.setIfInBounds_toArray, List.set_cons_succ, List.set_cons_zero]
   refine takeQ 3 ?vb3 hgood rfl (by kernel_rfl) ⟨fun _ => rfl, .inl ⟨by kernel_rfl, fun w' hw' => ?yb3⟩⟩ ?rb3
   case' yb3 => ((try obtain ⟨hw1', hw2'⟩ := hw'); go_simp; with_reducible rfl)
   simp only [Act.put, List.setIfInBounds_toArray, List.set_cons_succ, List.set_cons_zero]
   refine takeQ 4 ?vb4 hgood rfl (by kernel_rfl) ⟨fun _ => rfl, .inl ⟨by kernel_rfl, fun w' hw' => ?yb4⟩⟩ ?rb4
   case' yb4 => ((try obtain ⟨hw1', hw2'⟩ := hw'); go_simp; with_reducible rfl)
   simp only [Act.put, List.setIfInBounds_toArray, List.set_cons_succ, List.set_cons_zero]
   refine takeQ 5 ?vb5 hgood rfl (by kernel_rfl) ⟨fun _ => rfl, .inl ⟨by kernel_rfl, fun w' hw' => ?yb5⟩⟩ ?rb5
   case' yb5 => ((try obtain ⟨hw1', hw2'⟩ := hw'); go_simp; with_reducible rfl)
   simp only [Act.put, List.setIfInBounds_toArray, List.set_cons_succ, List.set_cons_zero]
   refine takeQ 6 ?vb6 hgood rfl (by kernel_rfl) ⟨fun _ => rfl, .inl ⟨by kernel_rfl, fun w' hw' => ?yb6⟩⟩ ?rb6
   case' yb6 => ((try obtain ⟨hw1', hw2'⟩ := hw'); go_simp; with_reducible rfl)
   simp only [Act.put, List.setIfInBounds_toArray, List.set_cons_succ, List.set_cons_zero]
   refine takeQ 7 ?vb7 hgood rfl (by kernel_rfl) ⟨fun _ => rfl, .inl ⟨by kernel_rfl, fun w' hw' => ?yb7⟩⟩ ?rb7
   case' yb7 => ((try obtain ⟨hw1', hw2'⟩ := hw'); go_simp; with_reducible rfl)
   simp only [Act.put, List.setIfInBounds_toArray, List.set_cons_succ, List.set_cons_zero]
   refine takeQ 8 ?vb8 hgood rfl (by kernel_rfl) ⟨fun _ => rfl, .inl ⟨by kernel_rfl, fun w' hw' => ?yb8⟩⟩ ?rb8
   case' yb8 => ((try obtain ⟨hw1', hw2'⟩ := hw'); go_simp; with_reducible rfl)
   simp only [Act.put, List.setIfInBounds_toArray, List.set_cons_succ, List.set_cons_zero]
   refine takeQ 9 ?vb9 hgood rfl (by kernel_rfl) ⟨fun _ => rfl, .inl ⟨by kernel_rfl, fun w' hw' => ?yb9⟩⟩ ?rb9
   case' yb9 => ((try obtain ⟨hw1', hw2'⟩ := hw'); go_simp; with_reducible rfl)
   simp only [Act.put, List.setIfInBounds_toArray, List.set_cons_succ, List.set_cons_zero]
   refine takeQ 10 ?vb10 hgood rfl (by kernel_rfl) ⟨fun _ => rfl, .inl ⟨by kernel_rfl, fun w' hw' => ?yb10⟩⟩ ?rb10
   case' yb10 => ((try obtain ⟨hw1', hw2'⟩ := hw'); go_simp; with_reducible rfl)
   simp only [Act.put, List.setIfInBounds_toArray, List.set_cons_succ, List.set_cons_zero]
   refine takeQ 11 ?vb11 hgood rfl (by kernel_rfl) ⟨fun _ => rfl, .inl ⟨by kernel_rfl, fun w' hw' => ?yb11⟩⟩ ?rb11
   case' yb11 => ((try obtain ⟨hw1', hw2'⟩ := hw'); go_simp; with_reducible rfl)
   simp only [Act.put, List.setIfInBounds_toArray, List.set_cons_succ, List.set_cons_zero]
   refine takeQ 12 ?vb12 hgood rfl (by kernel_rfl) ⟨fun _ => rfl, .inl ⟨by kernel_rfl, fun w' hw' => ?yb12⟩⟩ ?rb12
   case' yb12 => ((try obtain ⟨hw1', hw2'⟩ := hw'); go_simp; with_reducible rfl)
   simp only [Act.put, List.setIfInBounds_toArray, List.set_cons_succ, List.set_cons_zero]
   refine takeQ 13 ?vb13 hgood rfl (by kernel_rfl) ⟨fun _ => rfl, .inl ⟨by kernel_rfl, fun w' hw' => ?yb13⟩⟩ ?rb13
   case' yb13 => ((try obtain ⟨hw1', hw2'⟩ := hw'); go_simp; with_reducible rfl)
   simp only [Act.put, List.setIfInBounds_toArray, List.set_cons_succ, List.set_cons_zero]
   refine takeQ 14 ?vb14 hgood rfl (by kernel_rfl) ⟨fun _ => rfl, .inl ⟨by kernel_rfl, fun w' hw' => ?yb14⟩⟩ ?rb14
   case' yb14 => ((try obtain ⟨hw1', hw2'⟩ := hw'); go_simp; with_reducible rfl)
   simp only [Act.put, List.setIfInBounds_toArray, List.set_cons_succ, List.set_cons_zero]
   refine takeQ 15 ?vb15 hgood rfl (by kernel_rfl) ⟨fun _ => rfl, .inl ⟨by kernel_rfl, fun w' hw' => ?yb15⟩⟩ ?rb15
   case' yb15 => ((try obtain ⟨hw1', hw2'⟩ := hw'); go_simp; with_reducible rfl)
   simp only [Act.put, List.setIfInBounds_toArray, List.set_cons_succ, List.set_cons_zero]
   refine takeL 16 rfl (by kernel_rfl) ?_
   gi_wp2
   refine ⟨by first | exact cellBelow (below_alloc (Below.refl _ _) _) c2 | exact fun _ => cellBelow (below_alloc (Below.refl _ _) _) c2, ?_⟩
   refine takeL 17 rfl (by kernel_rfl) ?_
   refine wpListIn_append_runI _ rfl _ _ 22 22 rfl (.slice A l.length c) (.slice (some ⟨w.heap.size, 0, none⟩) 1 1) rfl rfl hr1 ?_
   gi_wp2
   refine ⟨by first | exact q2 | exact fun _ => q2, ?_⟩
   refine takeL 18 rfl (by kernel_rfl) ?_
   gi_wp2
   refine ⟨by first | exact q2 | exact fun _ => q2, ?_⟩
   refine takeL 19 rfl (by kernel_rfl) ?_
   gi_wp2
   refine ⟨by first | exact q2 | exact fun _ => q2, ?_⟩
   refine takeL 20 rfl (by kernel_rfl) ?_
   gi_wp2
   refine ⟨fun h => absurd h (by decide), doneG (by kernel_rfl) ?_⟩
   gi_wp2
   go_meet
   exact ⟨HP2.out, HR2.out, HO2.out, (PKeep.of_pmv (drewN_pmv p w 1)).trans HK2.out⟩
  case rest =>
   obtain ⟨wa, rfl⟩ : ∃ wa : World, wa = wc := ⟨_, rfl⟩
   obtain ⟨hC3, hR3, hO3, hK3⟩ := hcut
   have HC3 := Lib.hid hC3
   have HR3 := Lib.hid hR3
   have HO3 := Lib.hid hO3
   have HK3 := Lib.hid hK3
   have d2 : wa.cell? ⟨p, 2, none⟩ = some (.slice A1 (l.length + 1) c1) := blkc hC3 2 rfl
   have d3 : wa.cell? ⟨p, 3, none⟩ = some (.slice Ao 0 co) := blkc hC3 3 rfl
   have d5 := blkc hC3 5 rfl
   clear hr1 q2 qf qs c2 c3 c5 hC3 hR3 hO3 hK3 HP2 HR2 HO2 HK2
   by_cases h6 : 6 ≤ kind
   ·have k6 : decide (6 ≤ kind) = true := decide_eq_true h6
    obtain rfl : l.length :: [] = st2 := by have := HS2.out; rwa [if_pos h6] at this
    have hM : max deep (1) = dp2 := by have := HD2.out; rwa [if_pos h6] at this
    obtain ⟨A4, c4, w4, hr0, hP1, hP2, hR2, hO2, hK2⟩ := add_open (W := wa.drew) (A := Ao) (c := co) (lv := .slice A1 (l.length + 1) c1) (l := l ++ [addN l [] kind key text]) (st := []) (s := s) (a := a) (lone := lone) (deep := deep) HC3.out HR3.out HO3.out l.length (by simp)
    have hr1 : (Builtin.append_ #[71, 71] 71 #[.slice Ao 0 co, .slice (some ⟨wa.heap.size, 0, none⟩) 1 1]).run Tryz.prog (wa.drew.alloc (.cells #[.int .i64 (l.length : Int)] 3)) = .ok (.slice A4 (1) c4) w4 := hr0
    have hpc : p < wa.heap.size := blk_lt HC3.out
    have q2 := blkc hP1 3 rfl
    have qd2 := blkc hP1 2 rfl
    have qf := blk_frozen hP1 3
    have qs := blk_lt hP1
    have HP2 := Lib.hid hP2
    have HR2 := Lib.hid hR2
    have HO2 := Lib.hid hO2
    have HK2 := Lib.hid hK2
    clear hr0 hP1 hP2 hR2 hO2 hK2
    go_upto_region 5 with (fail)
    go_cut [] (fun wc2 => PCell wc2 p s a (.slice A1 (l.length + 1) c1) (.slice A4 (1) c4) lone deep ∧ RowAt wc2 p (.slice A1 (l.length + 1) c1) (l ++ [addN l [] kind key text]) ∧ OpenAt wc2 p (.slice A4 (1) c4) (l.length :: []) ∧ PKeep p w wc2)
    case first =>
     refine (wpIn_wide (n := 5)).1 ?_
     have hmo : Tryz.prog.follows .mixedOrders = true := by kernel_rfl
     refine region_g (fun W => W.cell? ⟨p, 3, none⟩ = some (.slice Ao 0 co) ∧ W.cell? ⟨p, 2, none⟩ = some (.slice A1 (l.length + 1) c1)) (fun j => j != 15) hmo ?_
     have hgood : wa.drew.cell? ⟨p, 3, none⟩ = some (.slice Ao 0 co) ∧ wa.drew.cell? ⟨p, 2, none⟩ = some (.slice A1 (l.length + 1) c1) := ⟨d3, d2⟩
     refine takeQ 0 ?vc0 hgood rfl (by kernel_rfl) ⟨fun _ => rfl, .inl ⟨by kernel_rfl, fun w' hw' => ?yc0⟩⟩ ?rc0
     case' yc0 => ((try obtain ⟨hw1', hw2'⟩ := hw'); go_simp; with_reducible rfl)
     simp only [Act.put, List.setIfInBounds_toArray, List.set_cons_succ, List.set_cons_zero]
     refine takeQ 1 ?vc1 hgood rfl (by kernel_rfl) ⟨fun _ => rfl, .inl ⟨by kernel_rfl, fun w' hw' => ?yc1⟩⟩ ?rc1
     case' yc1 => ((try obtain ⟨hw1', hw2'⟩ := hw'); go_simp; with_reducible rfl)
     simp only [Act.put, List.setIfInBounds_toArray, List.set_cons_succ, List.set_cons_zero]
     refine takeQ 2 ?vc2 hgood rfl (by kernel_rfl) ⟨fun _ => rfl, .inl ⟨by kernel_rfl, fun w' hw' => ?yc2⟩⟩ ?rc2
     case' yc2 => ((try obtain ⟨hw1', hw2'⟩ := hw'); go_simp; with_reducible rfl)
     simp only [Act.put, List.setIfInBounds_toArray, List.set_cons_succ, List.set_cons_zero]
     refine takeQ 3 ?vc3 hgood rfl (by kernel_rfl) ⟨fun _ => rfl, .inl ⟨by kernel_rfl, fun w' hw' => ?yc3⟩⟩ ?rc3
     case' yc3 => ((try obtain ⟨hw1', hw2'⟩ := hw'); go_simp; with_reducible rfl)
     simp only [Act.put, List.setIfInBounds_toArray, List.set_cons_succ, List.set_cons_zero]
     refine takeQ 4 ?vc4 hgood rfl (by kernel_rfl) ⟨fun _ => rfl, .inl ⟨by kernel_rfl, fun w' hw' => ?yc4⟩⟩ ?rc4
     case' yc4 => ((try obtain ⟨hw1', hw2'⟩ := hw'); go_simp; with_reducible rfl)
     simp only [Act.put, List.setIfInBounds_toArray, List.set_cons_succ, List.set_cons_zero]
     refine takeQ 5 ?vc5 hgood rfl (by kernel_rfl) ⟨fun _ => rfl, .inl ⟨by kernel_rfl, fun w' hw' => ?yc5⟩⟩ ?rc5
     case' yc5 => ((try obtain ⟨hw1', hw2'⟩ := hw'); go_simp; with_reducible rfl)
     simp only [Act.put, List.setIfInBounds_toArray, List.set_cons_succ, List.set_cons_zero]
     refine takeQ 6 ?vc6 hgood rfl (by kernel_rfl) ⟨fun _ => rfl, .inl ⟨by kernel_rfl, fun w' hw' => ?yc6⟩⟩ ?rc6
     case' yc6 => ((try obtain ⟨hw1', hw2'⟩ := hw'); go_simp; with_reducible rfl)
     simp only [Act.put, List.setIfInBounds_toArray, List.set_cons_succ, List.set_cons_zero]
     refine takeQ 7 ?vc7 hgood rfl (by kernel_rfl) ⟨fun _ => rfl, .inl ⟨by kernel_rfl, fun w' hw' => ?yc7⟩⟩ ?rc7
     case' yc7 => ((try obtain ⟨hw1', hw2'⟩ := hw'); go_simp; with_reducible rfl)
     simp only [Act.put, List.setIfInBounds_toArray, List.set_cons_succ, List.set_cons_zero]
     refine takeQ 8 ?vc8 hgood rfl (by kernel_rfl) ⟨fun _ => rfl, .inl ⟨by kernel_rfl, fun w' hw' => ?yc8⟩⟩ ?rc8
     case' yc8 => ((try obtain ⟨hw1', hw2'⟩ := hw'); go_simp; with_reducible rfl)
     simp only [Act.put, List.setIfInBounds_toArray, List.set_cons_succ, List.set_cons_zero]
     refine takeQ 9 ?vc9 hgood rfl (by kernel_rfl) ⟨fun _ => rfl, .inl ⟨by kernel_rfl, fun w' hw' => ?yc9⟩⟩ ?rc9
     case' yc9 => ((try obtain ⟨hw1', hw2'⟩ := hw'); go_simp; with_reducible rfl)
     simp only [Act.put, List.setIfInBounds_toArray, List.set_cons_succ, List.set_cons_zero]
     refine takeQ 10 ?vc10 hgood rfl (by kernel_rfl) ⟨fun _ => rfl, .inl ⟨by kernel_rfl, fun w' hw' => ?yc10⟩⟩ ?rc10
     case' yc10 => ((try obtain ⟨hw1', hw2'⟩ := hw'); go_simp; with_reducible rfl)
     simp only [Act.put, List.setIfInBounds_toArray, List.set_cons_succ, List.set_cons_zero]
     refine takeL 11 rfl (by kernel_rfl) ?_
     gi_wp2
     refine ⟨by first | exact ⟨cellBelow (below_alloc (Below.refl _ _) _) d3, cellBelow (below_alloc (Below.refl _ _) _) d2⟩ | exact fun _ => ⟨cellBelow (below_alloc (Below.refl _ _) _) d3, cellBelow (below_alloc (Below.refl _ _) _) d2⟩, ?_⟩
     refine takeL 12 rfl (by kernel_rfl) ?_
     refine wpListIn_append_runI _ rfl _ _ 71 71 rfl (.slice Ao 0 co) (.slice (some ⟨wa.heap.size, 0, none⟩) 1 1) rfl rfl hr1 ?_
     gi_wp2
     refine ⟨by first | exact ⟨q2, qd2⟩ | exact fun _ => ⟨q2, qd2⟩, ?_⟩
     refine takeL 13 rfl (by kernel_rfl) ?_
     gi_wp2
     refine ⟨by first | exact ⟨q2, qd2⟩ | exact fun _ => ⟨q2, qd2⟩, ?_⟩
     refine takeL 14 rfl (by kernel_rfl) ?_
     gi_wp2
     refine ⟨by first | exact ⟨q2, qd2⟩ | exact fun _ => ⟨q2, qd2⟩, ?_⟩
     refine takeL 15 rfl (by kernel_rfl) ?_
     gi_wp2
     refine ⟨fun h => absurd h (by decide), doneG (by kernel_rfl) ?_⟩
     gi_wp2
     go_meet
     exact ⟨HP2.out, HR2.out, HO2.out, (HK3.out.trans (PKeep.of_pmv (drewN_pmv p wa 1))).trans HK2.out⟩
    case rest =>
     obtain ⟨wb, rfl⟩ : ∃ wb : World, wb = wc := ⟨_, rfl⟩
     obtain ⟨hC5, hR5, hO5, hK5⟩ := hcut
     have HC5 := Lib.hid hC5
     have HR5 := Lib.hid hR5
     have HO5 := Lib.hid hO5
     have HK5 := Lib.hid hK5
     have e3 : wb.cell? ⟨p, 3, none⟩ = some (.slice A4 (1) c4) := blkc hC5 3 rfl
     have e5 : wb.cell? ⟨p, 5, none⟩ = some (.int .i64 deep) := blkc hC5 5 rfl
     have ef := blk_frozen hC5 5
     have es := blk_lt hC5
     clear hr1 q2 qf qs d2 d3 d5 hC5 hR5 hO5 hK5 HP2 HR2 HO2 HK2 HC3 HR3 HO3 HK3
     have hmx : ∀ ats ty, Builtin.max_ ats ty #[.int .i64 (deep : Int), .int .i64 (1)] = pure (.int .i64 ((max deep (1) : Nat) : Int)) := fun ats ty => by
      rw [max_two, max2_int, pure_bind]
      congr 2
      split <;> omega
     rw [hM] at hmx
     clear hM
     have HPF := Lib.hid (show PCell (wb.drew.setCell ⟨p, 5, none⟩ (.int .i64 (dp2 : Int))) p s a (.slice A1 (l.length + 1) c1) (.slice A4 (1) c4) lone dp2 from blk_set (w := wb.drew) HC5.out 5 _)
     go_upto_region 6 with (fail)
     go_region_with (fail)
     all_goals (go_wp2_with fail; go_end0; exact ⟨rfl, ⟨_, _, HPF.out, HR5.out.keep (keep_set (w := wb.drew) (row_ne HC5.out HR5.out)), HO5.out.keep (keep_set (w := wb.drew) (open_ne HC5.out HO5.out))⟩, HK5.out.trans (PKeep.of_pmv ((drewN_pmv p wb 1).set 5 _))⟩)
   ·have k6 : decide (6 ≤ kind) = false := decide_eq_false h6
    obtain rfl : [] = st2 := by have := HS2.out; rwa [if_neg h6] at this
    obtain rfl : deep = dp2 := by have := HD2.out; rwa [if_neg h6] at this
    go_wp2_with fail
    go_end0
    exact ⟨rfl, ⟨_, _, HC3.out, HR3.out, HO3.out⟩, HK3.out⟩
 ·obtain ⟨ao, rfl, htop⟩ := open_top (hj ▸ HO.out)
  have hsl : st.length = st'.length + 1 := by rw [hj]; rfl
  have k0 : decide ((0 : Int) < (st.length : Int)) = true := decide_eq_true (by omega)
  have hwi : IntKind.i64.wrap ((st.length : Int) - 1) = (st'.length : Int) := by rw [show (st.length : Int) - 1 = (st'.length : Int) by omega]; exact wrap_id _ (by omega) (by omega)
  have hb0 : (0 : Int) ≤ (st'.length : Int) := by omega
  have hb1 : (st'.length : Int) < (st.length : Int) := by omega
  have hadd0 : addN l st kind key text = ⟨kind, key, text, (j : Int), (l.length : Int) + 1⟩ := by rw [hj]; rfl
  have HAD := Lib.hid hadd0
  have hsn : st.length ≤ 500000 := Nat.le_trans hst hl
  clear hsl hst hj hadd0
  go_enter Tryz.func111, Tryz.ntmps111
  go_wp2_with fail
  go_big_quiet (fail)
  generalize hwq : w.drewN nq = wq
  have HCq := Lib.hid (show PCell wq p s a (.slice A l.length c) (.slice (some ao) st.length co) lone deep from hwq ▸ HC.out)
  have HRq := Lib.hid (show RowAt wq p (.slice A l.length c) l from hwq ▸ HR.out)
  have HOq := Lib.hid (show OpenAt wq p (.slice (some ao) st.length co) st from hwq ▸ HO.out)
  have HKq := Lib.hid (show PKeep p w wq from hwq ▸ PKeep.of_pmv (drewN_pmv p w nq))
  have c2 : wq.cell? ⟨p, 2, none⟩ = some (.slice A l.length c) := blkc HCq.out 2 rfl
  have hpq : p < wq.heap.size := blk_lt HCq.out
  clear hwq
  obtain ⟨A1, c1, w1, hr0, hP1, hP2, hR2, hO2, hK2⟩ := add_row (W := wq.drew) HCq.out HRq.out HOq.out (addN l st kind key text) (by omega)
  have hr1 : (Builtin.append_ #[22, 22] 22 #[.slice A l.length c, .slice (some ⟨wq.heap.size, 0, none⟩) 1 1]).run Tryz.prog (wq.drew.alloc (.cells #[.int .i64 kind, .string key, .string text, .int .i64 (j : Int), .int .i64 ((l.length : Int) + 1)] 48)) = .ok (.slice A1 (l.length + 1) c1) w1 := by rw [HAD.out] at hr0; exact hr0
  have q2 := blkc hP1 2 rfl
  have qf := blk_frozen hP1 2
  have qs := blk_lt hP1
  have HP2 := Lib.hid hP2
  have HR2 := Lib.hid hR2
  have HO2 := Lib.hid hO2
  have HK2 := Lib.hid hK2
  clear hr0 hP1 hP2 hR2 hO2 hK2
  go_upto_region 3 with (fail)
  go_cut [] (fun wc => PCell wc p s a (.slice A1 (l.length + 1) c1) (.slice (some ao) st.length co) lone deep ∧ RowAt wc p (.slice A1 (l.length + 1) c1) (l ++ [addN l st kind key text]) ∧ OpenAt wc p (.slice (some ao) st.length co) st ∧ PKeep p w wc)
  case first =>
   refine (wpIn_wide (n := 5)).1 ?_
   have hmo : Tryz.prog.follows .mixedOrders = true := by kernel_rfl
   refine region_g (fun W => W.cell? ⟨p, 2, none⟩ = some (.slice A l.length c)) (fun j => j != 20) hmo ?_
   have hgood : wq.drew.cell? ⟨p, 2, none⟩ = some (.slice A l.length c) := c2
   refine takeQ 0 ?vd0 hgood rfl (by kernel_rfl) ⟨fun _ => rfl, .inl ⟨by kernel_rfl, fun w' hw' => ?yd0⟩⟩ ?rd0
   case' yd0 => ((try obtain ⟨hw1', hw2'⟩ := hw'); go_simp; with_reducible rfl)
   simp only [Act.put, List.setIfInBounds_toArray, List.set_cons_succ, List.set_cons_zero]
   refine takeQ 1 ?vd1 hgood rfl (by kernel_rfl) ⟨fun _ => rfl, .inl ⟨by kernel_rfl, fun w' hw' => ?yd1⟩⟩ ?rd1
   case' yd1 => ((try obtain ⟨hw1', hw2'⟩ := hw'); go_simp; with_reducible rfl)
   simp only [Act.put, List.setIfInBounds_toArray, List.set_cons_succ, List.set_cons_zero]
   refine takeQ 2 ?vd2 hgood rfl (by kernel_rfl) ⟨fun _ => rfl, .inl ⟨by kernel_rfl, fun w' hw' => ?yd2⟩⟩ ?rd2
   case' yd2 => ((try obtain ⟨hw1', hw2'⟩ := hw'); go_simp; with_reducible rfl)
   simp only [Act.put, List.setIfInBounds_toArray, List.set_cons_succ, List.set_cons_zero]
   refine takeQ 3 ?vd3 hgood rfl (by kernel_rfl) ⟨fun _ => rfl, .inl ⟨by kernel_rfl, fun w' hw' => ?yd3⟩⟩ ?rd3
   case' yd3 => ((try obtain ⟨hw1', hw2'⟩ := hw'); go_simp; with_reducible rfl)
   simp only [Act.put, List.setIfInBounds_toArray, List.set_cons_succ, List.set_cons_zero]
   refine takeQ 4 ?vd4 hgood rfl (by kernel_rfl) ⟨fun _ => rfl, .inl ⟨by kernel_rfl, fun w' hw' => ?yd4⟩⟩ ?rd4
   case' yd4 => ((try obtain ⟨hw1', hw2'⟩ := hw'); go_simp; with_reducible rfl)
   simp only [Act.put, List.setIfInBounds_toArray, List.set_cons_succ, List.set_cons_zero]
   refine takeQ 5 ?vd5 hgood rfl (by kernel_rfl) ⟨fun _ => rfl, .inl ⟨by kernel_rfl, fun w' hw' => ?yd5⟩⟩ ?rd5
   case' yd5 => ((try obtain ⟨hw1', hw2'⟩ := hw'); go_simp; with_reducible rfl)
   simp only [Act.put, List.setIfInBounds_toArray, List.set_cons_succ, List.set_cons_zero]
   refine takeQ 6 ?vd6 hgood rfl (by kernel_rfl) ⟨fun _ => rfl, .inl ⟨by kernel_rfl, fun w' hw' => ?yd6⟩⟩ ?rd6
   case' yd6 => ((try obtain ⟨hw1', hw2'⟩ := hw'); go_simp; with_reducible rfl)
   simp only [Act.put, List.setIfInBounds_toArray, List.set_cons_succ, List.set_cons_zero]
   refine takeQ 7 ?vd7 hgood rfl (by kernel_rfl) ⟨fun _ => rfl, .inl ⟨by kernel_rfl, fun w' hw' => ?yd7⟩⟩ ?rd7
   case' yd7 => ((try obtain ⟨hw1', hw2'⟩ := hw'); go_simp; with_reducible rfl)
   simp only [Act.put, List.setIfInBounds_toArray, List.set_cons_succ, List.set_cons_zero]
   refine takeQ 8 ?vd8 hgood rfl (by kernel_rfl) ⟨fun _ => rfl, .inl ⟨by kernel_rfl, fun w' hw' => ?yd8⟩⟩ ?rd8
   case' yd8 => ((try obtain ⟨hw1', hw2'⟩ := hw'); go_simp; with_reducible rfl)
   simp only [Act.put, List.setIfInBounds_toArray, List.set_cons_succ, List.set_cons_zero]
   refine takeQ 9 ?vd9 hgood rfl (by kernel_rfl) ⟨fun _ => rfl, .inl ⟨by kernel_rfl, fun w' hw' => ?yd9⟩⟩ ?rd9
   case' yd9 => ((try obtain ⟨hw1', hw2'⟩ := hw'); go_simp; with_reducible rfl)
   simp only [Act.put, List.setIfInBounds_toArray, List.set_cons_succ, List.set_cons_zero]
   refine takeQ 10 ?vd10 hgood rfl (by kernel_rfl) ⟨fun _ => rfl, .inl ⟨by kernel_rfl, fun w' hw' => ?yd10⟩⟩ ?rd10
   case' yd10 => ((try obtain ⟨hw1', hw2'⟩ := hw'); go_simp; with_reducible rfl)
   simp only [Act.put, List.setIfInBounds_toArray, List.set_cons_succ, List.set_cons_zero]
   refine takeQ 11 ?vd11 hgood rfl (by kernel_rfl) ⟨fun _ => rfl, .inl ⟨by kernel_rfl, fun w' hw' => ?yd11⟩⟩ ?rd11
   case' yd11 => ((try obtain ⟨hw1', hw2'⟩ := hw'); go_simp; with_reducible rfl)
   simp only [Act.put, List.setIfInBounds_toArray, List.set_cons_succ, List.set_cons_zero]
   refine takeQ 12 ?vd12 hgood rfl (by kernel_rfl) ⟨fun _ => rfl, .inl ⟨by kernel_rfl, fun w' hw' => ?yd12⟩⟩ ?rd12
   case' yd12 => ((try obtain ⟨hw1', hw2'⟩ := hw'); go_simp; with_reducible rfl)
   simp only [Act.put, List.setIfInBounds_toArray, List.set_cons_succ, List.set_cons_zero]
   refine takeQ 13 ?vd13 hgood rfl (by kernel_rfl) ⟨fun _ => rfl, .inl ⟨by kernel_rfl, fun w' hw' => ?yd13⟩⟩ ?rd13
   case' yd13 => ((try obtain ⟨hw1', hw2'⟩ := hw'); go_simp; with_reducible rfl)
   simp only [Act.put, List.setIfInBounds_toArray, List.set_cons_succ, List.set_cons_zero]
   refine takeQ 14 ?vd14 hgood rfl (by kernel_rfl) ⟨fun _ => rfl, .inl ⟨by kernel_rfl, fun w' hw' => ?yd14⟩⟩ ?rd14
   case' yd14 => ((try obtain ⟨hw1', hw2'⟩ := hw'); go_simp; with_reducible rfl)
   simp only [Act.put, List.setIfInBounds_toArray, List.set_cons_succ, List.set_cons_zero]
   refine takeQ 15 ?vd15 hgood rfl (by kernel_rfl) ⟨fun _ => rfl, .inl ⟨by kernel_rfl, fun w' hw' => ?yd15⟩⟩ ?rd15
   case' yd15 => ((try obtain ⟨hw1', hw2'⟩ := hw'); go_simp; with_reducible rfl)
   simp only [Act.put, List.setIfInBounds_toArray, List.set_cons_succ, List.set_cons_zero]
   refine takeL 16 rfl (by kernel_rfl) ?_
   gi_wp2
   refine ⟨by first | exact cellBelow (below_alloc (Below.refl _ _) _) c2 | exact fun _ => cellBelow (below_alloc (Below.refl _ _) _) c2, ?_⟩
   refine takeL 17 rfl (by kernel_rfl) ?_
   refine wpListIn_append_runI _ rfl _ _ 22 22 rfl (.slice A l.length c) (.slice (some ⟨wq.heap.size, 0, none⟩) 1 1) rfl rfl hr1 ?_
   gi_wp2
   refine ⟨by first | exact q2 | exact fun _ => q2, ?_⟩
   refine takeL 18 rfl (by kernel_rfl) ?_
   gi_wp2
   refine ⟨by first | exact q2 | exact fun _ => q2, ?_⟩
   refine takeL 19 rfl (by kernel_rfl) ?_
   gi_wp2
   refine ⟨by first | exact q2 | exact fun _ => q2, ?_⟩
   refine takeL 20 rfl (by kernel_rfl) ?_
   gi_wp2
   refine ⟨fun h => absurd h (by decide), doneG (by kernel_rfl) ?_⟩
   gi_wp2
   go_meet
   exact ⟨HP2.out, HR2.out, HO2.out, (HKq.out.trans (PKeep.of_pmv (drewN_pmv p wq 1))).trans HK2.out⟩
  case rest =>
   obtain ⟨wa, rfl⟩ : ∃ wa : World, wa = wc := ⟨_, rfl⟩
   obtain ⟨hC3, hR3, hO3, hK3⟩ := hcut
   have HC3 := Lib.hid hC3
   have HR3 := Lib.hid hR3
   have HO3 := Lib.hid hO3
   have HK3 := Lib.hid hK3
   have d2 : wa.cell? ⟨p, 2, none⟩ = some (.slice A1 (l.length + 1) c1) := blkc hC3 2 rfl
   have d3 : wa.cell? ⟨p, 3, none⟩ = some (.slice (some ao) st.length co) := blkc hC3 3 rfl
   have d5 := blkc hC3 5 rfl
   clear hr1 q2 qf qs c2 c3 c5 hC3 hR3 hO3 hK3 HP2 HR2 HO2 HK2
   by_cases h6 : 6 ≤ kind
   ·have k6 : decide (6 ≤ kind) = true := decide_eq_true h6
    obtain rfl : l.length :: st = st2 := by have := HS2.out; rwa [if_pos h6] at this
    have hM : max deep (st.length + 1) = dp2 := by have := HD2.out; rwa [if_pos h6] at this
    obtain ⟨A4, c4, w4, hr0, hP1, hP2, hR2, hO2, hK2⟩ := add_open (W := wa.drew) (A := some ao) (c := co) (lv := .slice A1 (l.length + 1) c1) (l := l ++ [addN l st kind key text]) (st := st) (s := s) (a := a) (lone := lone) (deep := deep) HC3.out HR3.out HO3.out l.length (by omega)
    have hr1 : (Builtin.append_ #[71, 71] 71 #[.slice (some ao) st.length co, .slice (some ⟨wa.heap.size, 0, none⟩) 1 1]).run Tryz.prog (wa.drew.alloc (.cells #[.int .i64 (l.length : Int)] 3)) = .ok (.slice A4 (st.length + 1) c4) w4 := hr0
    have hpc : p < wa.heap.size := blk_lt HC3.out
    have q2 := blkc hP1 3 rfl
    have qd2 := blkc hP1 2 rfl
    have qf := blk_frozen hP1 3
    have qs := blk_lt hP1
    have HP2 := Lib.hid hP2
    have HR2 := Lib.hid hR2
    have HO2 := Lib.hid hO2
    have HK2 := Lib.hid hK2
    clear hr0 hP1 hP2 hR2 hO2 hK2
    go_upto_region 5 with (fail)
    go_cut [] (fun wc2 => PCell wc2 p s a (.slice A1 (l.length + 1) c1) (.slice A4 (st.length + 1) c4) lone deep ∧ RowAt wc2 p (.slice A1 (l.length + 1) c1) (l ++ [addN l st kind key text]) ∧ OpenAt wc2 p (.slice A4 (st.length + 1) c4) (l.length :: st) ∧ PKeep p w wc2)
    case first =>
     refine (wpIn_wide (n := 5)).1 ?_
     have hmo : Tryz.prog.follows .mixedOrders = true := by kernel_rfl
     refine region_g (fun W => W.cell? ⟨p, 3, none⟩ = some (.slice (some ao) st.length co) ∧ W.cell? ⟨p, 2, none⟩ = some (.slice A1 (l.length + 1) c1)) (fun j => j != 15) hmo ?_
     have hgood : wa.drew.cell? ⟨p, 3, none⟩ = some (.slice (some ao) st.length co) ∧ wa.drew.cell? ⟨p, 2, none⟩ = some (.slice A1 (l.length + 1) c1) := ⟨d3, d2⟩
     refine takeQ 0 ?ve0 hgood rfl (by kernel_rfl) ⟨fun _ => rfl, .inl ⟨by kernel_rfl, fun w' hw' => ?ye0⟩⟩ ?re0
     case' ye0 => ((try obtain ⟨hw1', hw2'⟩ := hw'); go_simp; with_reducible rfl)
     simp only [Act.put, List.setIfInBounds_toArray, List.set_cons_succ, List.set_cons_zero]
     refine takeQ 1 ?ve1 hgood rfl (by kernel_rfl) ⟨fun _ => rfl, .inl ⟨by kernel_rfl, fun w' hw' => ?ye1⟩⟩ ?re1
     case' ye1 => ((try obtain ⟨hw1', hw2'⟩ := hw'); go_simp; with_reducible rfl)
     simp only [Act.put, List.setIfInBounds_toArray, List.set_cons_succ, List.set_cons_zero]
     refine takeQ 2 ?ve2 hgood rfl (by kernel_rfl) ⟨fun _ => rfl, .inl ⟨by kernel_rfl, fun w' hw' => ?ye2⟩⟩ ?re2
     case' ye2 => ((try obtain ⟨hw1', hw2'⟩ := hw'); go_simp; with_reducible rfl)
     simp only [Act.put, List.setIfInBounds_toArray, List.set_cons_succ, List.set_cons_zero]
     refine takeQ 3 ?ve3 hgood rfl (by kernel_rfl) ⟨fun _ => rfl, .inl ⟨by kernel_rfl, fun w' hw' => ?ye3⟩⟩ ?re3
     case' ye3 => ((try obtain ⟨hw1', hw2'⟩ := hw'); go_simp; with_reducible rfl)
     simp only [Act.put, List.setIfInBounds_toArray, List.set_cons_succ, List.set_cons_zero]
     refine takeQ 4 ?ve4 hgood rfl (by kernel_rfl) ⟨fun _ => rfl, .inl ⟨by kernel_rfl, fun w' hw' => ?ye4⟩⟩ ?re4
     case' ye4 => ((try obtain ⟨hw1', hw2'⟩ := hw'); go_simp; with_reducible rfl)
     simp only [Act.put, List.setIfInBounds_toArray, List.set_cons_succ, List.set_cons_zero]
     refine takeQ 5 ?ve5 hgood rfl (by kernel_rfl) ⟨fun _ => rfl, .inl ⟨by kernel_rfl, fun w' hw' => ?ye5⟩⟩ ?re5
     case' ye5 => ((try obtain ⟨hw1', hw2'⟩ := hw'); go_simp; with_reducible rfl)
     simp only [Act.put, List.setIfInBounds_toArray, List.set_cons_succ, List.set_cons_zero]
     refine takeQ 6 ?ve6 hgood rfl (by kernel_rfl) ⟨fun _ => rfl, .inl ⟨by kernel_rfl, fun w' hw' => ?ye6⟩⟩ ?re6
     case' ye6 => ((try obtain ⟨hw1', hw2'⟩ := hw'); go_simp; with_reducible rfl)
     simp only [Act.put, List.setIfInBounds_toArray, List.set_cons_succ, List.set_cons_zero]
     refine takeQ 7 ?ve7 hgood rfl (by kernel_rfl) ⟨fun _ => rfl, .inl ⟨by kernel_rfl, fun w' hw' => ?ye7⟩⟩ ?re7
     case' ye7 => ((try obtain ⟨hw1', hw2'⟩ := hw'); go_simp; with_reducible rfl)
     simp only [Act.put, List.setIfInBounds_toArray, List.set_cons_succ, List.set_cons_zero]
     refine takeQ 8 ?ve8 hgood rfl (by kernel_rfl) ⟨fun _ => rfl, .inl ⟨by kernel_rfl, fun w' hw' => ?ye8⟩⟩ ?re8
     case' ye8 => ((try obtain ⟨hw1', hw2'⟩ := hw'); go_simp; with_reducible rfl)
     simp only [Act.put, List.setIfInBounds_toArray, List.set_cons_succ, List.set_cons_zero]
     refine takeQ 9 ?ve9 hgood rfl (by kernel_rfl) ⟨fun _ => rfl, .inl ⟨by kernel_rfl, fun w' hw' => ?ye9⟩⟩ ?re9
     case' ye9 => ((try obtain ⟨hw1', hw2'⟩ := hw'); go_simp; with_reducible rfl)
     simp only [Act.put, List.setIfInBounds_toArray, List.set_cons_succ, List.set_cons_zero]
     refine takeQ 10 ?ve10 hgood rfl (by kernel_rfl) ⟨fun _ => rfl, .inl ⟨by kernel_rfl, fun w' hw' => ?ye10⟩⟩ ?re10
     case' ye10 => ((try obtain ⟨hw1', hw2'⟩ := hw'); go_simp; with_reducible rfl)
     simp only [Act.put, List.setIfInBounds_toArray, List.set_cons_succ, List.set_cons_zero]
     refine takeL 11 rfl (by kernel_rfl) ?_
     gi_wp2
     refine ⟨by first | exact ⟨cellBelow (below_alloc (Below.refl _ _) _) d3, cellBelow (below_alloc (Below.refl _ _) _) d2⟩ | exact fun _ => ⟨cellBelow (below_alloc (Below.refl _ _) _) d3, cellBelow (below_alloc (Below.refl _ _) _) d2⟩, ?_⟩
     refine takeL 12 rfl (by kernel_rfl) ?_
     refine wpListIn_append_runI _ rfl _ _ 71 71 rfl (.slice (some ao) st.length co) (.slice (some ⟨wa.heap.size, 0, none⟩) 1 1) rfl rfl hr1 ?_
     gi_wp2
     refine ⟨by first | exact ⟨q2, qd2⟩ | exact fun _ => ⟨q2, qd2⟩, ?_⟩
     refine takeL 13 rfl (by kernel_rfl) ?_
     gi_wp2
     refine ⟨by first | exact ⟨q2, qd2⟩ | exact fun _ => ⟨q2, qd2⟩, ?_⟩
     refine takeL 14 rfl (by kernel_rfl) ?_
     gi_wp2
     refine ⟨by first | exact ⟨q2, qd2⟩ | exact fun _ => ⟨q2, qd2⟩, ?_⟩
     refine takeL 15 rfl (by kernel_rfl) ?_
     gi_wp2
     refine ⟨fun h => absurd h (by decide), doneG (by kernel_rfl) ?_⟩
     gi_wp2
     go_meet
     exact ⟨HP2.out, HR2.out, HO2.out, (HK3.out.trans (PKeep.of_pmv (drewN_pmv p wa 1))).trans HK2.out⟩
    case rest =>
     obtain ⟨wb, rfl⟩ : ∃ wb : World, wb = wc := ⟨_, rfl⟩
     obtain ⟨hC5, hR5, hO5, hK5⟩ := hcut
     have HC5 := Lib.hid hC5
     have HR5 := Lib.hid hR5
     have HO5 := Lib.hid hO5
     have HK5 := Lib.hid hK5
     have e3 : wb.cell? ⟨p, 3, none⟩ = some (.slice A4 (st.length + 1) c4) := blkc hC5 3 rfl
     have e5 : wb.cell? ⟨p, 5, none⟩ = some (.int .i64 deep) := blkc hC5 5 rfl
     have ef := blk_frozen hC5 5
     have es := blk_lt hC5
     clear hr1 q2 qf qs d2 d3 d5 hC5 hR5 hO5 hK5 HP2 HR2 HO2 HK2 HC3 HR3 HO3 HK3
     have hmx : ∀ ats ty, Builtin.max_ ats ty #[.int .i64 (deep : Int), .int .i64 ((st.length : Int) + 1)] = pure (.int .i64 ((max deep (st.length + 1) : Nat) : Int)) := fun ats ty => by
      rw [max_two, max2_int, pure_bind]
      congr 2
      split <;> omega
     rw [hM] at hmx
     clear hM
     have HPF := Lib.hid (show PCell (wb.drew.setCell ⟨p, 5, none⟩ (.int .i64 (dp2 : Int))) p s a (.slice A1 (l.length + 1) c1) (.slice A4 (st.length + 1) c4) lone dp2 from blk_set (w := wb.drew) HC5.out 5 _)
     go_upto_region 6 with (fail)
     go_region_with (fail)
     all_goals (go_wp2_with fail; go_end0; exact ⟨rfl, ⟨_, _, HPF.out, HR5.out.keep (keep_set (w := wb.drew) (row_ne HC5.out HR5.out)), HO5.out.keep (keep_set (w := wb.drew) (open_ne HC5.out HO5.out))⟩, HK5.out.trans (PKeep.of_pmv ((drewN_pmv p wb 1).set 5 _))⟩)
   ·have k6 : decide (6 ≤ kind) = false := decide_eq_false h6
    obtain rfl : st = st2 := by have := HS2.out; rwa [if_neg h6] at this
    obtain rfl : deep = dp2 := by have := HD2.out; rwa [if_neg h6] at this
    go_wp2_with fail
    go_end0
    exact ⟨rfl, ⟨_, _, HC3.out, HR3.out, HO3.out⟩, HK3.out⟩
end Go.Proofs.YtfocognhcljhpaaGreatDoor
namespace Go.Proofs.YtfocognhcljhpaaGreatDoor
open Go.RowKit Go.Proofs.YtfocognhcljhpaaGreatDoorW.PrintWords Go.Proofs.YtfocognhcljhpaaGreatDoorW.PrintMore Go.Proofs.YtfocognhcljhpaaGreatDoor.PPrintRows Go.Proofs.YtfocognhcljhpaaGreatDoor.Tree
theorem bldU_keep {B b : Nat} {bs : List Value} {w w' : World} (h : BldU B b bs w) (hk : ∀ k, B ≤ k → w'.heap[k]? = w.heap[k]?) : BldU B b bs w' := by
 obtain ⟨hB, v, hb, ⟨hl, ho⟩, hne⟩ := h
 refine ⟨hB, v, (hk b hB).trans hb, ⟨hl, ?_⟩, hne⟩
 rcases ho with h | ⟨g, cap, cur, fz, hv, hg, hh, rest⟩
 ·exact .inl h
 ·exact .inr ⟨g, cap, cur, fz, hv, hg, (hk g hg).trans hh, rest⟩
theorem bldF_keep {B b : Nat} {bs : List Value} {w w' : World} (h : BldF B b bs w) (hk : ∀ k, B ≤ k → w'.heap[k]? = w.heap[k]?) : BldF B b bs w' := by
 rcases h with ⟨hB, v, hb, ⟨hl, ho⟩, hne⟩ | h
 ·refine .inl ⟨hB, v, (hk b hB).trans hb, ⟨hl, ?_⟩, hne⟩
  rcases ho with h | ⟨g, cap, cur, fz, hv, hg, hh, rest⟩
  ·exact .inl h
  ·exact .inr ⟨g, cap, cur, fz, hv, hg, (hk g hg).trans hh, rest⟩
 ·exact .inr (bldU_keep h hk)
theorem bldF_set {B b p j : Nat} {bs : List Value} {w : World} (h : BldF B b bs w) (hp : p < B) (v : Value) : BldF B b bs (w.setCell ⟨p, j, none⟩ v) :=
 bldF_keep h fun k hk => Below.heap_setCell w ⟨p, j, none⟩ v k (by simp; omega)
theorem PMv.then_below {p B : Nat} {a b c : World} (h : PMv p a b) (hB : a.heap.size ≤ B) (k : Below B b c) : PMv p a c :=
 ⟨k.os.trans h.os, k.tape.trans h.tape, k.output.trans h.output, Nat.le_trans h.size k.size, fun j hj hp => (k.block j (Nat.lt_of_lt_of_le hj hB)).trans (h.block j hj hp)⟩
def hexv (c : UInt8) : Option Nat := if 48 ≤ c ∧ c ≤ 57 then some (c.toNat - 48) else if 97 ≤ c ∧ c ≤ 102 then some (c.toNat - 87) else if 65 ≤ c ∧ c ≤ 70 then some (c.toNat - 55) else none
def unitL : Bs → Option Nat
 | a :: b :: c :: d :: _ => match hexv a, hexv b, hexv c, hexv d with
  | some a, some b, some c, some d => some (((a * 16 + b) * 16 + c) * 16 + d)
  | _, _, _, _ => none
 | _ => none
def surL (n : Nat) : Nat := if 55296 ≤ n ∧ n < 56320 then 1 else if 56320 ≤ n ∧ n < 57344 then 2 else 0
def putL (n : Nat) : Bs := (Utf.putI n).map fun x => UInt8.ofNat x.toNat
def escD (r : Bs) : Option (Bs × Nat × Bool) :=
 match unitL r with
 | none => none
 | some n => if surL n = 0 then some (putL n, 4, false) else
  match (if surL n = 1 ∧ (r.drop 4).take 2 = [92, 117] then (match unitL (r.drop 6) with | some m => if surL m = 2 then some (65536 + (n - 55296) * 1024 + (m - 56320)) else none | none => none) else none) with
  | some c => some (putL c, 10, false)
  | none => some ([239, 191, 189], 4, true)
def escS (c : UInt8) : Option UInt8 := if c = 34 ∨ c = 92 ∨ c = 47 then some c else if c = 98 then some 8 else if c = 102 then some 12 else if c = 110 then some 10 else if c = 114 then some 13 else if c = 116 then some 9 else none
def thenT (b : Bs) (k : Nat) (ln : Bool) : Option (Bs × Nat × Bool) → Option (Bs × Nat × Bool)
 | none => none
 | some (t, n, m) => some (b ++ t, k + n, ln || m)
def txtD : Nat → Bs → Option (Bs × Nat × Bool)
 | 0, _ => none
 | n + 1, [] => none
 | n + 1, c :: r => if c = 34 then some ([], 1, false) else if c < 32 then none else if c ≠ 92 then thenT [c] 1 false (txtD n r) else
  match r with
  | [] => none
  | d :: r' => if d = 117 then (match escD r' with | none => none | some (b, k, ln) => thenT b (k + 2) ln (txtD n (r'.drop k))) else
   match escS d with
   | none => none
   | some e => thenT [e] 2 false (txtD n r')
def textP (s : ByteArray) (a : Nat) : Option (Bs × Nat × Bool) :=
 match s.data.toList.drop a with
 | [] => none
 | c :: r => if c = 34 then thenT [] 1 false (txtD (r.length + 1) r) else none
theorem txtD_nil (n : Nat) : txtD (n + 1) [] = none := by unfold txtD; rfl
theorem txtD_end (n : Nat) (r : Bs) : txtD (n + 1) (34 :: r) = some ([], 1, false) := by rw [txtD.eq_def]; rfl
theorem txtD_low {c : UInt8} (n : Nat) (r : Bs) (h : c ≠ 34) (h2 : c < 32) : txtD (n + 1) (c :: r) = none := by rw [txtD.eq_def]; simp only; rw [if_neg h, if_pos h2]
theorem txtD_plain {c : UInt8} (n : Nat) (r : Bs) (h : c ≠ 34) (h2 : ¬ c < 32) (h3 : c ≠ 92) : txtD (n + 1) (c :: r) = thenT [c] 1 false (txtD n r) := by rw [txtD.eq_def]; simp only; rw [if_neg h, if_neg h2, if_pos h3]
theorem thenT_app (b b' : Bs) (k k' : Nat) (l l' : Bool) (x : Option (Bs × Nat × Bool)) : thenT b k l (thenT b' k' l' x) = thenT (b ++ b') (k + k') (l || l') x := by
 cases x with
 | none => rfl
 | some x => simp [thenT, Nat.add_assoc, Bool.or_assoc]
def TextPost (p : Nat) (s : ByteArray) (a : Nat) (lv sv : Value) (lone : Bool) (deep : Nat) (w : World) : Option (Bs × Nat × Bool) → Ending → World → Prop
 | some (t, n, ln), e, w' => e = .returned (.tuple #[.string ⟨t.toArray⟩, .bool true]) ∧ PCell w' p s (a + n) lv sv (lone || ln) deep ∧ PMv p w w'
 | none, e, w' => e = .returned (.tuple #[.string ⟨#[]⟩, .bool false]) ∧ (∃ a' ln', a' ≤ s.size ∧ PCell w' p s a' lv sv ln' deep) ∧ PMv p w w'
set_option maxRecDepth 100000 in
set_option maxHeartbeats 4000000 in
theorem text_any (p : Nat) (s : ByteArray) (a : Nat) (lv sv : Value) (lone : Bool) (deep : Nat) (w : World) (hP : PCell w p s a lv sv lone deep) (ha : a ≤ s.size) (hs : s.size ≤ 1000000) (hbs : ∀ (k : Nat) (h : k < s.size), s[k] ≠ 92) :
  Calls Tryz.prog 113 #[.pointer (some ⟨p, 0, none⟩)] w (TextPost p s a lv sv lone deep w (textP s a)) := by
 have HTK := Lib.hid (take_any p s a lv sv lone deep 34 w hP ha hs)
 have hlt := blk_lt hP
 have HBS := Lib.hid hbs
 clear hP hbs
 by_cases hq : takeP s a 34 = true
 ·have hat : ∃ h : a < s.size, s[a] = 34 := by
   unfold takeP at hq
   by_cases h : a < s.size
   ·refine ⟨h, ?_⟩
    rw [List.getElem?_eq_getElem (by simpa using h)] at hq
    have := of_decide_eq_true hq
    refine UInt8.toNat_inj.1 ?_
    have e : s.data.toList[a]'(by simpa using h) = s[a] := rfl
    rw [e] at this
    show s[a].toNat = 34
    omega
   ·rw [List.getElem?_eq_none (by simpa using h)] at hq
    cases hq
  obtain ⟨hal, ha34⟩ := hat
  obtain ⟨R, hR⟩ : ∃ R, textP s a = R := ⟨_, rfl⟩
  have hR0 : R = thenT [] 1 false (txtD (s.size - (a + 1) + 1) (s.data.toList.drop (a + 1))) := by
   rw [← hR, textP, drop_at s a hal]
   show (if s[a] = 34 then _ else _) = _
   rw [if_pos ha34]
   congr 2
   simp
  rw [hR]
  rw [hq] at HTK
  have HR0 := Lib.hid hR0
  clear hR hR0 ha34 hq
  go_enter Tryz.func113, Tryz.ntmps113
  go_wp2_with (go_at_call 94; go_must (refine HTK.out.mono ?_); rintro e w1 ⟨rfl, hP1, hM1⟩; have HP1 := Lib.hid hP1; have HM1 := Lib.hid hM1; have hlt1 := blk_lt hP1; have HB0 := Lib.hid (Lib.IsBuilderF.of (Lib.fresh_isBuilder 83 5 w1)); clear hP1 hM1)
  go_loopw [5, 6, 7, 8] (fun v5 v6 v7 v8 wr => ∃ (k n : Nat) (b : Bs) (ln : Bool), k ≤ s.size ∧ s.size - k ≤ n ∧ b.length ≤ 4 * k ∧ BldF w1.heap.size w1.heap.size (Lib.byteCells b) wr ∧ PCell wr p s k lv sv (lone || ln) deep ∧ PMv p w wr ∧ w1.heap.size ≤ wr.heap.size ∧ R = thenT b (k - a) ln (txtD (n + 1) (s.data.toList.drop k)) ∧ a < k) (fun v5 v6 v7 v8 wr => pmeas wr p s.size)
  case atStart => exact ⟨a + 1, s.size - (a + 1), [], false, by omega, by omega, by simp, HB0.out, by rw [Bool.or_false]; exact blk_alloc HP1.out _, HM1.out.trans (PMv.of_below (below_alloc (Below.refl _ _) _)), by simp, by rw [HR0.out]; congr 1; omega, by omega⟩
  case round =>
   obtain ⟨k, n, b, ln, hk, hn, hbl, hB, hPk, hM, hsz, hRk, hak⟩ := hrel
   have c0 := blkc hPk 0 rfl
   have c1 := blkc hPk 1 rfl
   have f1 := blk_frozen hPk 1
   have HP := Lib.hid hPk
   have HPm := Lib.hid hPk
   have HM := Lib.hid hM
   have HB := Lib.hid hB
   have HR := Lib.hid hRk
   clear hPk hM hB hRk
   by_cases hkl : k < s.size
   ·have k1 : decide ((k : Int) < (s.size : Int)) = true := decide_eq_true (by omega)
    have k2 : decide (k < s.size) = true := decide_eq_true hkl
    have hc92 := HBS.out k hkl
    have hRk := HR.out
    rw [drop_at s k hkl] at hRk
    obtain ⟨c, hc⟩ : ∃ c, s[k] = c := ⟨_, rfl⟩
    have hcI : ((s[k].toNat : Nat) : Int) = (c.toNat : Int) := by rw [hc]
    rw [hc] at hRk hc92
    obtain ⟨z, hz⟩ : ∃ z : Int, (c.toNat : Int) = z := ⟨_, rfl⟩
    rw [hz] at hcI
    have k92 : (z == 92) = false := by
     rw [beq_eq_false_iff_ne, ← hz]
     intro h
     exact hc92 (UInt8.toNat_inj.1 (by show c.toNat = 92; omega))
    have hbl4 : (Lib.byteCells b).length ≤ 100000000 := by rw [Lib.byteCells_length]; omega
    by_cases h34 : c = 34
    ·rw [h34, txtD_end] at hRk
     have hRv : R = some (b, k + 1 - a, ln) := by rw [hRk, thenT, List.append_nil, Bool.or_false, show k - a + 1 = k + 1 - a by omega]
     have k34 : (z == 34) = true := by rw [← hz, h34]; rfl
     have HRV := Lib.hid hRv
     clear hRk hRv h34 hc92 hbl HBS HR HR0
     go_wp2_with fail
     go_big_quiet (fail)
     go_wp2_with fail
     generalize hwa : wr.drewN nq = wa
     have HPa := Lib.hid (show PCell wa p s k lv sv (lone || ln) deep from hwa ▸ HP.out)
     have HMa := Lib.hid (show PMv p w wa from hwa ▸ HM.out.trans (drewN_pmv p wr nq))
     have HBa := Lib.hid (show BldF w1.heap.size w1.heap.size (Lib.byteCells b) wa from hwa ▸ HB.out)
     have hsza : w1.heap.size ≤ wa.heap.size := hwa ▸ hsz
     clear c0 c1 f1 HP HM HB hsz hwa
     have c0 := blkc HPa.out 0 rfl
     have c1 := blkc HPa.out 1 rfl
     have f1 := blk_frozen HPa.out 1
     go_big_quiet (fail)
     have HPb := Lib.hid (PCell.at_ (w := wa.drewN nq) HPa.out (k + 1) (x := (k : Int) + 1) (by omega))
     have HMb := Lib.hid ((HMa.out.trans (drewN_pmv p wa nq)).set 1 (.int .i64 ((k : Int) + 1)))
     have HBb := Lib.hid (bldF_set (w := wa.drewN nq) (j := 1) HBa.out hlt1 (.int .i64 ((k : Int) + 1)))
     have hszb : w1.heap.size ≤ ((wa.drewN nq).setCell ⟨p, 1, none⟩ (.int .i64 ((k : Int) + 1))).heap.size := by simp [World.setCell]; exact hsza
     go_wp2_with (go_at_call 45; go_must (refine (Tryz.Builder_String_any_k w1.heap.size w1.heap.size b _ HBb.out hszb).mono ?_); rintro e w4 ⟨rfl, _, hb4, _⟩)
     go_ret2
     rw [HRV.out]
     exact ⟨rfl, by rw [show a + (k + 1 - a) = k + 1 by omega]; exact (hb4.block p hlt1).trans HPb.out, HMb.out.then_below HM1.out.size hb4⟩
    ·have k34 : (z == 34) = false := by
      rw [beq_eq_false_iff_ne, ← hz]
      intro h
      exact h34 (UInt8.toNat_inj.1 (by show c.toNat = 34; omega))
     by_cases h32 : c < 32
     ·rw [txtD_low n _ h34 h32] at hRk
      have h3 : c.toNat < 32 := UInt8.lt_iff_toNat_lt.1 h32
      have k32 : decide (z < 32) = true := decide_eq_true (by omega)
      have HRV := Lib.hid hRk
      clear hRk h32 h34 hc92 hbl HBS HR HR0 h3
      go_wp2_with fail
      go_big_quiet (fail)
      go_wp2_with fail
      generalize hwa : wr.drewN nq = wa
      have HPa := Lib.hid (show PCell wa p s k lv sv (lone || ln) deep from hwa ▸ HP.out)
      have HMa := Lib.hid (show PMv p w wa from hwa ▸ HM.out.trans (drewN_pmv p wr nq))
      have HBa := Lib.hid (show BldF w1.heap.size w1.heap.size (Lib.byteCells b) wa from hwa ▸ HB.out)
      have hsza : w1.heap.size ≤ wa.heap.size := hwa ▸ hsz
      clear c0 c1 f1 HP HM HB hsz hwa
      have c0 := blkc HPa.out 0 rfl
      have c1 := blkc HPa.out 1 rfl
      have f1 := blk_frozen HPa.out 1
      go_big_quiet (fail)
      have HPb := Lib.hid (PCell.at_ (w := wa.drewN nq) HPa.out (k + 1) (x := (k : Int) + 1) (by omega))
      have HMb := Lib.hid ((HMa.out.trans (drewN_pmv p wa nq)).set 1 (.int .i64 ((k : Int) + 1)))
      have HBb := Lib.hid (bldF_set (w := wa.drewN nq) (j := 1) HBa.out hlt1 (.int .i64 ((k : Int) + 1)))
      have hszb : w1.heap.size ≤ ((wa.drewN nq).setCell ⟨p, 1, none⟩ (.int .i64 ((k : Int) + 1))).heap.size := by simp [World.setCell]; exact hsza
      go_wp2_with fail
      go_ret2
      rw [HRV.out]
      exact ⟨rfl, ⟨k + 1, _, by omega, HPb.out⟩, HMb.out⟩
     ·rw [txtD_plain n _ h34 h32 hc92, thenT_app, Bool.or_false] at hRk
      have h3 : ¬ c.toNat < 32 := fun h => h32 (UInt8.lt_iff_toNat_lt.2 h)
      have k32 : decide (z < 32) = false := decide_eq_false (by omega)
      obtain ⟨m, rfl⟩ : ∃ m, n = m + 1 := ⟨n - 1, by omega⟩
      have HRV := Lib.hid hRk
      have hbz : Lib.byteCells b ++ [.int .u8 z] = Lib.byteCells (b ++ [c]) := by rw [← hz]; simp [Lib.byteCells]
      have HBZ := Lib.hid hbz
      clear hRk h32 h34 hc92 HBS HR HR0 h3 hbz
      go_wp2_with fail
      go_big_quiet (fail)
      go_wp2_with fail
      generalize hwa : wr.drewN nq = wa
      have HPa := Lib.hid (show PCell wa p s k lv sv (lone || ln) deep from hwa ▸ HP.out)
      have HMa := Lib.hid (show PMv p w wa from hwa ▸ HM.out.trans (drewN_pmv p wr nq))
      have HBa := Lib.hid (show BldF w1.heap.size w1.heap.size (Lib.byteCells b) wa from hwa ▸ HB.out)
      have hsza : w1.heap.size ≤ wa.heap.size := hwa ▸ hsz
      clear c0 c1 f1 HP HM HB hsz hwa
      have c0 := blkc HPa.out 0 rfl
      have c1 := blkc HPa.out 1 rfl
      have f1 := blk_frozen HPa.out 1
      go_big_quiet (fail)
      have HPb := Lib.hid (PCell.at_ (w := wa.drewN nq) HPa.out (k + 1) (x := (k : Int) + 1) (by omega))
      have HMb := Lib.hid ((HMa.out.trans (drewN_pmv p wa nq)).set 1 (.int .i64 ((k : Int) + 1)))
      have HBb := Lib.hid (bldF_set (w := wa.drewN nq) (j := 1) HBa.out hlt1 (.int .i64 ((k : Int) + 1)))
      have hszb : w1.heap.size ≤ ((wa.drewN nq).setCell ⟨p, 1, none⟩ (.int .i64 ((k : Int) + 1))).heap.size := by simp [World.setCell]; exact hsza
      go_wp2_with (go_at_call 47; go_must (refine (writeByte_any w1.heap.size w1.heap.size (Lib.byteCells b) z _ HBb.out hbl4 hszb).mono ?_); rintro e w3 ⟨rfl, hu3, hk3⟩; have U3 := Lib.hid hu3; have K3 := Lib.hid hk3; clear hu3 hk3)
      go_roundw
      case rel =>
       refine ⟨k + 1, m, b ++ [c], ln, by omega, by omega, by simp; omega, ?_, (K3.out.1.block p hlt1).trans HPb.out, HMb.out.then_below HM1.out.size K3.out.1, Nat.le_trans hszb K3.out.1.size, ?_, by omega⟩
       ·have := U3.out
        rw [HBZ.out] at this
        exact .inr this
       ·rw [HRV.out, show k - a + 1 = k + 1 - a by omega]
      case measure => rw [pmeas_eq ((K3.out.1.block p hlt1).trans HPb.out), pmeas_eq HPm.out]; omega
   ·have k1 : decide ((k : Int) < (s.size : Int)) = false := decide_eq_false (by omega)
    have k2 : decide (k < s.size) = false := decide_eq_false hkl
    have hRv : R = none := by
     rw [HR.out, List.drop_of_length_le (by simp; omega), txtD_nil]
     rfl
    go_wp2_with fail
    go_big_quiet (fail)
    go_wp2_with fail
    go_ret2
    rw [hRv]
    exact ⟨rfl, ⟨k, _, by omega, HP.out⟩, HM.out.trans (drewN_pmv p wr nq)⟩
 ·have hq : takeP s a 34 = false := by cases h : takeP s a 34; rfl; exact absurd h hq
  have hR : textP s a = none := by
   unfold takeP at hq
   unfold textP
   by_cases h : a < s.size
   ·rw [List.getElem?_eq_getElem (by simpa using h)] at hq
    rw [drop_at s a h]
    have := of_decide_eq_false hq
    show (if s[a] = 34 then _ else _) = _
    rw [if_neg]
    intro e
    apply this
    show ((s[a].toNat : Nat) : Int) = 34
    rw [e]
    rfl
   ·rw [List.drop_of_length_le (by simp; omega)]
  rw [hR]
  rw [hq] at HTK
  go_enter Tryz.func113, Tryz.ntmps113
  go_wp2_with (go_at_call 94; go_must (refine HTK.out.mono ?_); rintro e w1 ⟨rfl, hP1, hM1⟩)
  go_ret2
  exact ⟨rfl, ⟨a, _, ha, hP1⟩, hM1⟩
end Go.Proofs.YtfocognhcljhpaaGreatDoor
