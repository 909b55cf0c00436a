/- Texts taken together, trimmed. -/
import Derived.Test.YtfocognhcljhpaaGreatDoorL3
import Derived.Test.YtfocognhcljhpaaGreatDoorL4
namespace Go.Proofs.YtfocognhcljhpaaGreatDoor
set_option linter.unusedVariables false
set_option linter.unusedSimpArgs false
open Go.RowKit Go.Proofs.YtfocognhcljhpaaGreatDoorW.PrintWords Go.Proofs.YtfocognhcljhpaaGreatDoorW.PrintMore Go.Proofs.YtfocognhcljhpaaGreatDoor.PPrintRows Go.Proofs.YtfocognhcljhpaaGreatDoor.Tree
theorem wrap64_of (n : Int) (h : -9223372036854775808 ≤ n) (h2 : n < 9223372036854775808) : wrap64 n = n := by
  unfold wrap64
  omega
set_option maxRecDepth 100000 in
theorem or_192 (x : Int) (h : 0 ≤ x ∧ x < 32) : Go.bits .or .u8 (shl .u8 240 2) (x % 256) = 192 + x := by
  have h1 : ∀ y : Fin 32, Go.bits .or .u8 (shl .u8 240 2) ((y.1 : Int) % 256) = 192 + (y.1 : Int) := by decide
  have h2 := h1 ⟨x.toNat, by omega⟩
  dsimp only at h2
  rwa [show ((x.toNat : Nat) : Int) = x by omega] at h2
set_option maxRecDepth 100000 in
theorem or_224 (x : Int) (h : 0 ≤ x ∧ x < 16) : Go.bits .or .u8 (shl .u8 240 1) (x % 256) = 224 + x := by
  have h1 : ∀ y : Fin 16, Go.bits .or .u8 (shl .u8 240 1) ((y.1 : Int) % 256) = 224 + (y.1 : Int) := by decide
  have h2 := h1 ⟨x.toNat, by omega⟩
  dsimp only at h2
  rwa [show ((x.toNat : Nat) : Int) = x by omega] at h2
set_option maxRecDepth 100000 in
theorem or_240 (x : Int) (h : 0 ≤ x ∧ x < 16) : Go.bits .or .u8 (shl .u8 240 0) (x % 256) = 240 + x % 8 + (if x < 8 then 0 else 8) := by
  have h1 : ∀ y : Fin 16, Go.bits .or .u8 (shl .u8 240 0) ((y.1 : Int) % 256) = 240 + (y.1 : Int) % 8 + (if (y.1 : Int) < 8 then 0 else 8) := by decide
  have h2 := h1 ⟨x.toNat, by omega⟩
  dsimp only at h2
  rwa [show ((x.toNat : Nat) : Int) = x by omega] at h2
theorem point_yes (n : Nat) (h : n < 55296 ∨ (57343 < n ∧ n < 1114112)) : PRef.utf_point.f (n : Int) = some true := by
  unfold PRef.utf_point.f
  rw [if_pos (by omega), if_pos (by omega)]
  by_cases h1 : (n : Int) < 55296
  · rw [if_pos h1]
  · rw [if_neg h1, decide_eq_true (by omega)]
theorem put_f (n : Nat) (h : n < 55296 ∨ (57343 < n ∧ n < 1114112)) : PRef.utf_Put.f 10 (n : Int) = some ⟨((Utf.putI n).map fun x => UInt8.ofNat x.toNat).toArray⟩ := by
  unfold PRef.utf_Put.f Utf.putI
  rw [point_yes n h, if_pos (by omega)]
  unfold PRef.utf_size.f
  simp only [Option.bind_some, if_true]
  by_cases h1 : (n : Int) < 128
  · rw [if_pos h1, if_pos h1]
    simp only [Option.bind_some, if_true]
    rw [show (n : Int) % 256 = n by omega]
    rfl
  · rw [if_neg h1, if_neg h1]
    by_cases h2 : (n : Int) < 2048
    · rw [if_pos h2, if_pos h2]
      simp only [Option.bind_some]
      rw [if_neg (by decide), if_pos (by decide), if_pos (by decide), wrap64_of _ (by decide) (by decide)]
      unfold PRef.utf_Put.l0
      rw [if_pos (by decide), if_pos (by decide), if_pos (by decide)]
      unfold PRef.utf_Put.l0
      rw [wrap64_of _ (by decide) (by decide), if_neg (by decide), wrap64_of _ (by decide) (by decide), if_pos (by decide), if_pos (by simp [List.replicate])]
      rw [PRef.put_bits, show ((4 : Int) - 2) = 2 by rfl, or_192 _ (by omega)]
      rfl
    · rw [if_neg h2, if_neg h2]
      by_cases h3 : (n : Int) < 65536
      · rw [if_pos h3, if_pos h3]
        simp only [Option.bind_some]
        rw [if_neg (by decide), if_pos (by decide), if_pos (by decide), wrap64_of _ (by decide) (by decide)]
        unfold PRef.utf_Put.l0
        rw [if_pos (by decide), if_pos (by decide), if_pos (by decide)]
        unfold PRef.utf_Put.l0
        rw [wrap64_of _ (by decide) (by decide), if_pos (by decide), if_pos (by decide), if_pos (by simp [List.replicate])]
        unfold PRef.utf_Put.l0
        rw [wrap64_of _ (by decide) (by decide), if_neg (by decide), wrap64_of _ (by decide) (by decide), if_pos (by decide), if_pos (by simp [List.replicate])]
        rw [PRef.put_bits, PRef.put_bits, show ((4 : Int) - 3) = 1 by rfl, or_224 _ (by omega), show (n : Int) / 64 / 64 = n / 4096 by omega]
        rfl
      · rw [if_neg h3, if_neg h3]
        simp only [Option.bind_some]
        rw [if_neg (by decide), if_pos (by decide), if_pos (by decide), wrap64_of _ (by decide) (by decide)]
        unfold PRef.utf_Put.l0
        rw [if_pos (by decide), if_pos (by decide), if_pos (by decide)]
        unfold PRef.utf_Put.l0
        rw [wrap64_of _ (by decide) (by decide), if_pos (by decide), if_pos (by decide), if_pos (by simp [List.replicate])]
        unfold PRef.utf_Put.l0
        rw [wrap64_of _ (by decide) (by decide), if_pos (by decide), if_pos (by decide), if_pos (by simp [List.replicate])]
        unfold PRef.utf_Put.l0
        rw [wrap64_of _ (by decide) (by decide), if_neg (by decide), wrap64_of _ (by decide) (by decide), if_pos (by decide), if_pos (by simp [List.replicate])]
        rw [PRef.put_bits, PRef.put_bits, PRef.put_bits, show ((4 : Int) - 4) = 0 by rfl, show (n : Int) / 64 / 64 / 64 = n / 262144 by omega, or_240 _ (by omega), if_pos (by omega), show (n : Int) / 64 / 64 = n / 4096 by omega, show (240 : Int) + n / 262144 % 8 + 0 = 240 + n / 262144 by omega]
        rfl
end Go.Proofs.YtfocognhcljhpaaGreatDoor
namespace Go.Proofs.YtfocognhcljhpaaGreatDoor
set_option linter.unusedVariables false
set_option linter.unusedSimpArgs false
open Go.RowKit Go.Proofs.YtfocognhcljhpaaGreatDoorW.PrintWords Go.Proofs.YtfocognhcljhpaaGreatDoorW.PrintMore Go.Proofs.YtfocognhcljhpaaGreatDoor.PPrintRows Go.Proofs.YtfocognhcljhpaaGreatDoor.Tree
def hexI (c : UInt8) : Int := if 48 ≤ c.toNat ∧ c.toNat ≤ 57 then (c.toNat : Int) - 48 else if 97 ≤ c.toNat ∧ c.toNat ≤ 102 then (c.toNat : Int) - 87 else -1
set_option maxRecDepth 100000 in
theorem hex_index (c : UInt8) : Lib.indexByte [48, 49, 50, 51, 52, 53, 54, 55, 56, 57, 97, 98, 99, 100, 101, 102] ((c.toNat : Int)).toNat.toUInt8 = hexI c := by
  have h : ∀ y : Fin 256, Lib.indexByte [48, 49, 50, 51, 52, 53, 54, 55, 56, 57, 97, 98, 99, 100, 101, 102] (((UInt8.ofNat y.1).toNat : Int)).toNat.toUInt8 = hexI (UInt8.ofNat y.1) := by decide
  have := h ⟨c.toNat, c.toNat_lt⟩
  simpa using this
theorem hexI_lt (c : UInt8) : hexI c < 16 ∧ -1 ≤ hexI c := by unfold hexI; split; omega; split <;> omega
def hexL : Int → Bs → Option Int
  | n, [] => some n
  | n, c :: r => if hexI c < 0 then none else hexL (n * 16 + hexI c) r
def hexF : Int → Bs → Prop
  | _, [] => True
  | n, c :: r => hexI c < 0 ∨ n < 4096 ∧ hexF (n * 16 + hexI c) r
/-- A call of ToLower at a text gives one whose digits read as the text's own. -/
def LowOk (t : ByteArray) (w : World) : Prop := Calls Tryz.prog 147 #[.string t] w fun e w' => ∃ u : ByteArray, e = .returned (.string u) ∧ Below w.heap.size w w' ∧ u.size ≤ 1000 ∧ hexF 0 u.data.toList ∧ hexL 0 u.data.toList = (unitL t.data.toList).map fun n : Nat => (n : Int)
def LowAt (s : ByteArray) (p : Nat) (W : World) : Prop := ∀ w, Below p W w → ∀ a, a + 4 ≤ s.size → LowOk (s.extract a (a + 4)) w
theorem LowAt.step {s : ByteArray} {p : Nat} {W w : World} (h : LowAt s p W) (hb : Below p W w) : LowAt s p w := fun w' h' a ha => h w' (hb.trans h') a ha
theorem PMv.to_below {p : Nat} {a b : World} (h : PMv p a b) (hp : p < a.heap.size) : Below p a b :=
  ⟨h.os, h.tape, h.output, h.size, fun j hj => h.block j (by omega) (by omega)⟩
theorem LowAt.keep {s : ByteArray} {p : Nat} {W w : World} (h : LowAt s p W) (hp : p < W.heap.size) (hb : PMv p W w) : LowAt s p w := h.step (hb.to_below hp)
def UnitPost (p : Nat) (s : ByteArray) (a : Nat) (lv sv : Value) (lone : Bool) (deep : Nat) (w : World) : Option Nat → Ending → World → Prop
  | some n, e, w' => e = .returned (.tuple #[.int .u16 n, .bool true]) ∧ PCell w' p s (a + 4) lv sv lone deep ∧ PMv p w w'
  | none, e, w' => e = .returned (.tuple #[.int .u16 0, .bool false]) ∧ PCell w' p s a lv sv lone deep ∧ PMv p w w'
theorem unitL_take (l : Bs) : unitL (l.take 4) = unitL l := by
  match l with
  | [] => rfl
  | [_] => rfl
  | [_, _] => rfl
  | [_, _, _] => rfl
  | _ :: _ :: _ :: _ :: _ => rfl
theorem unitL_few {l : Bs} (h : l.length < 4) : unitL l = none := by
  match l with
  | [] => rfl
  | [_] => rfl
  | [_, _] => rfl
  | [_, _, _] => rfl
  | _ :: _ :: _ :: _ :: _ => simp at h; omega
theorem ext_take (s : ByteArray) (a n : Nat) : (s.extract a (a + n)).data.toList = (s.data.toList.drop a).take n := by
  rw [ByteArray.data_extract, Array.toList_extract, List.extract_eq_take_drop]
  simp
set_option maxRecDepth 100000 in
theorem or_16 (n d : Int) (hn : 0 ≤ n ∧ n < 4096) (hd : 0 ≤ d ∧ d < 16) : Go.bits .or .u16 (n * 16) d = n * 16 + d := by
  obtain ⟨a, rfl⟩ : ∃ a : Nat, n = (a : Int) := ⟨n.toNat, by omega⟩
  obtain ⟨b, rfl⟩ : ∃ b : Nat, d = (b : Int) := ⟨d.toNat, by omega⟩
  have h0 : 2 ^ 4 * a + b = 2 ^ 4 * a ||| b := Nat.two_pow_add_eq_or_of_lt (by omega) a
  have h1 : (BitVec.ofInt 16 ((a : Int) * 16)).toNat = 2 ^ 4 * a := by
    rw [show (a : Int) * 16 = ((2 ^ 4 * a : Nat) : Int) by omega, BitVec.ofInt_natCast, BitVec.toNat_ofNat]; exact Nat.mod_eq_of_lt (by omega)
  have h2 : (BitVec.ofInt 16 (b : Int)).toNat = b := by
    rw [BitVec.ofInt_natCast, BitVec.toNat_ofNat]; exact Nat.mod_eq_of_lt (by omega)
  show IntKind.u16.wrap ((BitVec.ofInt 16 ((a : Int) * 16) ||| BitVec.ofInt 16 (b : Int)).toNat : Int) = _
  rw [BitVec.toNat_or, h1, h2, ← h0, IntWalk.u16_in _ (by omega)]
  omega
theorem idx_hex (c : UInt8) (W : World) : Calls Tryz.prog 109 #[.string ⟨#[48, 49, 50, 51, 52, 53, 54, 55, 56, 57, 97, 98, 99, 100, 101, 102]⟩, .int .u8 (c.toNat : Int)] W fun e w' => e = .returned (.int .i64 (hexI c)) ∧ w' = W := by
  rw [← hex_index]
  exact Tryz.strings_IndexByte ⟨#[48, 49, 50, 51, 52, 53, 54, 55, 56, 57, 97, 98, 99, 100, 101, 102]⟩ (c.toNat : Int) W
set_option maxRecDepth 100000 in
set_option maxHeartbeats 4000000 in
theorem unit_any (p : Nat) (s : ByteArray) (a : Nat) (lv sv : Value) (lone : Bool) (deep : Nat) (w : World) (hP : PCell w p s a lv sv lone deep) (ha : a ≤ s.size) (hs : s.size ≤ 1000000) (hL : LowAt s p w) :
    Calls Tryz.prog 143 #[.pointer (some ⟨p, 0, none⟩)] w (UnitPost p s a lv sv lone deep w (unitL (s.data.toList.drop a))) := by
  have c0 := blkc hP 0 rfl
  have c1 := blkc hP 1 rfl
  have hlt := blk_lt hP
  have HP := Lib.hid hP
  have HL := Lib.hid hL
  obtain ⟨Q, hQ⟩ : ∃ Q, unitL (s.data.toList.drop a) = Q := ⟨_, rfl⟩
  rw [hQ]
  have HQ := Lib.hid hQ
  clear hP hL hQ
  have hw4 : IntKind.i64.wrap ((a : Int) + 4) = (a : Int) + 4 := wrap_id _ (by omega) (by omega)
  by_cases h4 : a + 4 ≤ s.size
  · have k1 : decide ((s.size : Int) < (a : Int) + 4) = false := decide_eq_false (by omega)
    have k2 : decide (s.size < a + 4) = false := decide_eq_false (by omega)
    go_enter Tryz.func143, Tryz.ntmps143
    go_wp2_with fail
    go_big_quiet (fail)
    generalize hwa : w.drewN nq = wa
    have HPa := Lib.hid (show PCell wa p s a lv sv lone deep from hwa ▸ HP.out)
    have HMa := Lib.hid (show PMv p w wa from hwa ▸ drewN_pmv p w nq)
    clear c0 c1 hwa
    have c0 := blkc HPa.out 0 rfl
    have c1 := blkc HPa.out 1 rfl
    go_upto_region 4 with (fail)
    have HLW := Lib.hid (HL.out.keep hlt HMa.out)
    have hlta := blk_lt HPa.out
    have e0 : (0 : Int) ≤ (a : Int) := by omega
    have e1 : (a : Int) ≤ (a : Int) + 4 := by omega
    have e2 : (a : Int) + 4 ≤ (s.size : Int) := by omega
    go_cut [34, 35, 36] (fun v34 v35 v36 wc => ∃ (u : ByteArray) (g cap : Nat), v34 = .slice (some ⟨g, 0, none⟩) u.size cap ∧ v35 = .int .i64 (u.size : Int) ∧ v36 = .int .i64 0 ∧ (∀ j, j < u.size → wc.cell? ⟨g, j, none⟩ = some (.int .u8 (u.data.toList.getD j 0).toNat)) ∧ u.size ≤ 1000 ∧ hexF 0 u.data.toList ∧ hexL 0 u.data.toList = Q.map (fun n : Nat => (n : Int)) ∧ PCell wc p s a lv sv lone deep ∧ PMv p w wc)
    case first =>
      refine (wpIn_wide (n := 5)).1 ?_
      have hmo : Tryz.prog.follows .mixedOrders = true := by kernel_rfl
      refine region_g (fun W => W.cell? ⟨p, 0, none⟩ = some (.string s) ∧ W.cell? ⟨p, 1, none⟩ = some (.int .i64 (a : Int))) (fun _ => true) hmo ?_
      have hgood : wa.drew.cell? ⟨p, 0, none⟩ = some (.string s) ∧ wa.drew.cell? ⟨p, 1, none⟩ = some (.int .i64 (a : Int)) := ⟨c0, c1⟩
      refine takeQ 0 ?va0 hgood rfl (by kernel_rfl) ⟨fun _ => rfl, .inl ⟨by kernel_rfl, fun w' hw' => ?ya0⟩⟩ ?ra0
      case' ya0 => (obtain ⟨hw1', hw2'⟩ := hw'; go_simp; with_reducible rfl)
      simp only [Act.put, List.setIfInBounds_toArray, List.set_cons_succ, List.set_cons_zero]
      refine takeQ 1 ?va1 hgood rfl (by kernel_rfl) ⟨fun _ => rfl, .inl ⟨by kernel_rfl, fun w' hw' => ?ya1⟩⟩ ?ra1
      case' ya1 => (obtain ⟨hw1', hw2'⟩ := hw'; go_simp; with_reducible rfl)
      simp only [Act.put, List.setIfInBounds_toArray, List.set_cons_succ, List.set_cons_zero]
      refine takeQ 2 ?va2 hgood rfl (by kernel_rfl) ⟨fun _ => rfl, .inl ⟨by kernel_rfl, fun w' hw' => ?ya2⟩⟩ ?ra2
      case' ya2 => (obtain ⟨hw1', hw2'⟩ := hw'; go_simp; with_reducible rfl)
      simp only [Act.put, List.setIfInBounds_toArray, List.set_cons_succ, List.set_cons_zero]
      refine takeQ 3 ?va3 hgood rfl (by kernel_rfl) ⟨fun _ => rfl, .inl ⟨by kernel_rfl, fun w' hw' => ?ya3⟩⟩ ?ra3
      case' ya3 => (obtain ⟨hw1', hw2'⟩ := hw'; go_simp; with_reducible rfl)
      simp only [Act.put, List.setIfInBounds_toArray, List.set_cons_succ, List.set_cons_zero]
      refine takeQ 4 ?va4 hgood rfl (by kernel_rfl) ⟨fun _ => rfl, .inl ⟨by kernel_rfl, fun w' hw' => ?ya4⟩⟩ ?ra4
      case' ya4 => (obtain ⟨hw1', hw2'⟩ := hw'; go_simp; with_reducible rfl)
      simp only [Act.put, List.setIfInBounds_toArray, List.set_cons_succ, List.set_cons_zero]
      refine takeQ 5 ?va5 hgood rfl (by kernel_rfl) ⟨fun _ => rfl, .inl ⟨by kernel_rfl, fun w' hw' => ?ya5⟩⟩ ?ra5
      case' ya5 => (obtain ⟨hw1', hw2'⟩ := hw'; go_simp; with_reducible rfl)
      simp only [Act.put, List.setIfInBounds_toArray, List.set_cons_succ, List.set_cons_zero]
      refine takeQ 6 ?va6 hgood rfl (by kernel_rfl) ⟨fun _ => rfl, .inl ⟨by kernel_rfl, fun w' hw' => ?ya6⟩⟩ ?ra6
      case' ya6 => (obtain ⟨hw1', hw2'⟩ := hw'; go_simp; with_reducible rfl)
      simp only [Act.put, List.setIfInBounds_toArray, List.set_cons_succ, List.set_cons_zero]
      refine takeQ 7 ?va7 hgood rfl (by kernel_rfl) ⟨fun _ => rfl, .inl ⟨by kernel_rfl, fun w' hw' => ?ya7⟩⟩ ?ra7
      case' ya7 => (obtain ⟨hw1', hw2'⟩ := hw'; go_simp; with_reducible rfl)
      simp only [Act.put, List.setIfInBounds_toArray, List.set_cons_succ, List.set_cons_zero]
      refine takeQ 8 ?va8 hgood rfl (by kernel_rfl) ⟨fun _ => rfl, .inl ⟨by kernel_rfl, fun w' hw' => ?ya8⟩⟩ ?ra8
      case' ya8 => (obtain ⟨hw1', hw2'⟩ := hw'; go_simp; with_reducible rfl)
      simp only [Act.put, List.setIfInBounds_toArray, List.set_cons_succ, List.set_cons_zero]
      refine takeQ 9 ?va9 hgood rfl (by kernel_rfl) ⟨fun _ => rfl, .inl ⟨by kernel_rfl, fun w' hw' => ?ya9⟩⟩ ?ra9
      case' ya9 => (obtain ⟨hw1', hw2'⟩ := hw'; go_simp; with_reducible rfl)
      simp only [Act.put, List.setIfInBounds_toArray, List.set_cons_succ, List.set_cons_zero]
      refine takeQ 10 ?va10 hgood rfl (by kernel_rfl) ⟨fun _ => rfl, .inl ⟨by kernel_rfl, fun w' hw' => ?ya10⟩⟩ ?ra10
      case' ya10 => (obtain ⟨hw1', hw2'⟩ := hw'; go_simp; with_reducible rfl)
      simp only [Act.put, List.setIfInBounds_toArray, List.set_cons_succ, List.set_cons_zero]
      refine takeQ 11 ?va11 hgood rfl (by kernel_rfl) ⟨fun _ => rfl, .inl ⟨by kernel_rfl, fun w' hw' => ?ya11⟩⟩ ?ra11
      case' ya11 => (obtain ⟨hw1', hw2'⟩ := hw'; go_simp; with_reducible rfl)
      simp only [Act.put, List.setIfInBounds_toArray, List.set_cons_succ, List.set_cons_zero]
      refine takeQ 12 ?va12 hgood rfl (by kernel_rfl) ⟨fun _ => rfl, .inl ⟨by kernel_rfl, fun w' hw' => ?ya12⟩⟩ ?ra12
      case' ya12 => (obtain ⟨hw1', hw2'⟩ := hw'; go_simp; with_reducible rfl)
      simp only [Act.put, List.setIfInBounds_toArray, List.set_cons_succ, List.set_cons_zero]
      refine takeQ 13 ?va13 hgood rfl (by kernel_rfl) ⟨fun _ => rfl, .inl ⟨by kernel_rfl, fun w' hw' => ?ya13⟩⟩ ?ra13
      case' ya13 => (obtain ⟨hw1', hw2'⟩ := hw'; go_simp; with_reducible rfl)
      simp only [Act.put, List.setIfInBounds_toArray, List.set_cons_succ, List.set_cons_zero]
      refine takeQ 17 ?va17 hgood rfl (by kernel_rfl) ⟨fun _ => rfl, .inl ⟨by kernel_rfl, fun w' hw' => ?ya17⟩⟩ ?ra17
      case' ya17 => (obtain ⟨hw1', hw2'⟩ := hw'; go_simp; with_reducible rfl)
      simp only [Act.put, List.setIfInBounds_toArray, List.set_cons_succ, List.set_cons_zero]
      refine takeL 14 rfl (by kernel_rfl) ?_
      gi_wp2_with (refine ⟨trivial, ?_⟩; gi_at_call 147; go_must (refine ((callsIn_wide (n := 4)).2 (HLW.out _ (Below.drew (Below.refl _ _)) a h4)).mono ?_); rintro e w9 ⟨u, rfl, hb, hu1, hu2, hu3⟩; have B9 := Lib.hid hb; have HU := Lib.hid (And.intro hu1 (And.intro hu2 hu3)); clear hb hu1 hu2 hu3)
      refine ⟨fun _ => ⟨(cellBelow B9.out c0 :), (cellBelow B9.out c1 :)⟩, ?_⟩
      refine takeL 15 rfl (by kernel_rfl) ?_
      have hcv := Lib.run_convert_string_bytes (P := Tryz.prog) w9 9 81 5 u (u := .string) Tryz.underlying9 Tryz.underlying81 Tryz.underlying5
      gi_wp2
      have hp9 : p < w9.heap.size := Nat.lt_of_lt_of_le hlta B9.out.size
      have G9 : (Lib.bytesWorld w9 5 u).cell? ⟨p, 0, none⟩ = some (.string s) ∧ (Lib.bytesWorld w9 5 u).cell? ⟨p, 1, none⟩ = some (.int .i64 (a : Int)) := by
        rw [Lib.bytesWorld_old _ _ _ _ hp9, Lib.bytesWorld_old _ _ _ _ hp9]
        exact ⟨(cellBelow B9.out c0 :), (cellBelow B9.out c1 :)⟩
      refine ⟨G9, ?_⟩
      refine takeL 16 rfl (by kernel_rfl) ?_
      gi_wp2
      refine ⟨G9, doneG (by kernel_rfl) ?_⟩
      gi_wp2
      go_meet
      have hbl : ∀ k, k < wa.heap.size → (Lib.bytesWorld w9 5 u).heap[k]? = wa.heap[k]? := fun k hk => by
        rw [Lib.bytesWorld_at_old _ _ _ _ (Nat.lt_of_lt_of_le hk B9.out.size)]
        exact B9.out.block k hk
      obtain ⟨u1, u2, u3⟩ := HU.out
      refine ⟨u, w9.heap.size, _, rfl, rfl, rfl, fun j hj => Lib.bytesWorld_cell w9 _ u j hj, u1, u2, ?_, (hbl p hlta).trans HPa.out, HMa.out.trans ⟨B9.out.os, B9.out.tape, B9.out.output, ?_, fun k hk _ => hbl k hk⟩⟩
      · rw [u3, ext_take, unitL_take, HQ.out]
      · rw [Lib.bytesWorld_size]; exact Nat.le_succ_of_le B9.out.size
    case rest =>
      obtain ⟨u, g, cap, rfl, rfl, rfl, hcu, hu, hF, hLq, hPc, hMc⟩ := hcut
      clear c0 c1 HLW HPa HMa
      have HLC := Lib.hid (And.intro hcu (And.intro hPc hMc))
      go_wp2_with fail
      go_loopw [4, 6, 7, 36] (fun v4 v6 v7 vi wr => ∃ (i : Nat) (n : Int), vi = .int .i64 (i : Int) ∧ i ≤ u.size ∧ v4 = .int .u16 n ∧ 0 ≤ n ∧ n < 65536 ∧ hexF n (u.data.toList.drop i) ∧ hexL n (u.data.toList.drop i) = Q.map (fun n : Nat => (n : Int)) ∧ (∀ j, j < u.size → wr.cell? ⟨g, j, none⟩ = some (.int .u8 (u.data.toList.getD j 0).toNat)) ∧ PCell wr p s a lv sv lone deep ∧ PMv p w wr) (fun _ _ _ vi _ => u.size - (intOf vi).toNat)
      case atStart => exact ⟨0, 0, rfl, Nat.zero_le _, rfl, by decide, by decide, hF, hLq, HLC.out.1, HLC.out.2.1, HLC.out.2.2⟩
      case round =>
        obtain ⟨i, n, rfl, hi, rfl, hn0, hn1, hF, hLq, hcu, hPr, hMr⟩ := hrel
        have HC := Lib.hid (And.intro hcu (And.intro hPr hMr))
        by_cases hlt2 : i < u.size
        · have k3 : decide ((i : Int) < (u.size : Int)) = true := decide_eq_true (by omega)
          have k4 : decide (i < u.size) = true := decide_eq_true hlt2
          have c2 := hcu i hlt2
          rw [drop_at u i hlt2] at hF hLq
          rw [show u.data.toList.getD i 0 = u[i] by rw [List.getD_eq_getElem?_getD, List.getElem?_eq_getElem (by simpa using hlt2)]; rfl] at c2
          obtain ⟨c, hc⟩ : ∃ c, u[i] = c := ⟨_, rfl⟩
          rw [hc] at c2 hF hLq
          have IX := Lib.hid (fun W => idx_hex c W)
          have hxl := hexI_lt c
          unfold hexF at hF
          unfold hexL at hLq
          obtain ⟨d, hd⟩ : ∃ d, hexI c = d := ⟨_, rfl⟩
          rw [hd] at hF hLq IX hxl
          clear hcu hPr hMr
          by_cases hneg : d < 0
          · have k5 : decide (d < 0) = true := decide_eq_true hneg
            rw [if_pos hneg] at hLq
            have hq : Q = none := by cases Q; rfl; cases hLq
            subst hq
            clear hF hLq hd
            go_wp2_with (go_at_call 109; go_must (refine (IX.out _).mono ?_); rintro e w4 ⟨rfl, rfl⟩)
            go_ret2
            exact ⟨rfl, HC.out.2.1, HC.out.2.2⟩
          · have k5 : decide (d < 0) = false := decide_eq_false hneg
            rw [if_neg hneg] at hLq
            obtain ⟨hn2, hF⟩ := hF.resolve_left hneg
            have k6 : IntKind.u16.wrap d = d := IntWalk.u16_in d ⟨by omega, by omega⟩
            have k7 := or_16 n d ⟨hn0, hn2⟩ ⟨by omega, by omega⟩
            have k8 : shl .u16 n 4 = n * 16 := by
              show IntKind.u16.wrap (n * 2 ^ 4) = _
              rw [IntWalk.u16_in _ ⟨by omega, by omega⟩]
              omega
            have HFL := Lib.hid (And.intro hF hLq)
            clear hF hLq hd
            go_wp2_with (go_at_call 109; go_must (refine (IX.out _).mono ?_); rintro e w4 ⟨rfl, rfl⟩)
            go_roundw
            case rel => exact ⟨i + 1, n * 16 + d, rfl, by omega, rfl, by omega, by omega, HFL.out.1, HFL.out.2, HC.out.1, HC.out.2.1, HC.out.2.2⟩
            case measure => simp [intOf]; omega
        · have k3 : decide ((i : Int) < (u.size : Int)) = false := decide_eq_false (by omega)
          have k4 : decide (i < u.size) = false := decide_eq_false hlt2
          rw [List.drop_of_length_le (by simp; omega), hexL] at hLq
          obtain ⟨m, hq, hm⟩ : ∃ m : Nat, Q = some m ∧ n = (m : Int) := by
            cases Q with
            | none => cases hLq
            | some m => exact ⟨m, rfl, Option.some.inj hLq⟩
          subst hq hm
          have c1 := blkc hPr 1 rfl
          have f1 := blk_frozen hPr 1
          clear hF hLq hcu hPr hMr
          go_wp2_with fail
          go_ret2
          exact ⟨rfl, PCell.at_ HC.out.2.1 (a + 4) (by omega), HC.out.2.2.set 1 _⟩
  · have k1 : decide ((s.size : Int) < (a : Int) + 4) = true := decide_eq_true (by omega)
    have k2 : decide (s.size < a + 4) = true := decide_eq_true (by omega)
    have hq : Q = none := by
      rw [← HQ.out]
      exact unitL_few (by simp; omega)
    rw [hq]
    go_enter Tryz.func143, Tryz.ntmps143
    go_wp2_with fail
    go_big_quiet (fail)
    go_wp2_with fail
    go_ret2
    exact ⟨rfl, HP.out, drewN_pmv p w nq⟩
theorem PCell.below {w w' : World} {p : Nat} {s : ByteArray} {a : Nat} {lv sv : Value} {lone : Bool} {deep : Nat} (h : PCell w p s a lv sv lone deep) (hb : Below w.heap.size w w') : PCell w' p s a lv sv lone deep := (hb.block p (blk_lt h)).trans h
theorem PCell.lone {w : World} {p : Nat} {s : ByteArray} {a : Nat} {lv sv : Value} {ln : Bool} {deep : Nat} (h : PCell w p s a lv sv ln deep) (b : Bool) : PCell (w.setCell ⟨p, 4, none⟩ (.bool b)) p s a lv sv b deep := by
  unfold PCell at h ⊢
  have hs := (Array.getElem?_eq_some_iff.1 h).1
  rw [World.setCell, Array.getElem?_modify, if_pos rfl, h]
  rfl
theorem sur_f (n : Nat) : PRef.utf_Surrogate.f 2 (n : Int) = some (surL n : Int) := by
  have e : ∀ b : Bool, PRef.utf_Surrogate.j0 2 (n : Int) b = if b = true then some 1 else if (n : Int) ≥ 56320 then (if (n : Int) ≤ 57343 then some 2 else some 0) else some 0 := fun _ => rfl
  unfold PRef.utf_Surrogate.f surL
  rw [e, e]
  by_cases h1 : 55296 ≤ n
  · rw [if_pos (show (n : Int) ≥ 55296 by omega)]
    by_cases h2 : n < 56320
    · rw [decide_eq_true (by omega), if_pos rfl, if_pos ⟨h1, h2⟩]; rfl
    · rw [decide_eq_false (by omega), if_neg Bool.false_ne_true, if_pos (show (n : Int) ≥ 56320 by omega), if_neg (show ¬ (55296 ≤ n ∧ n < 56320) by omega)]
      by_cases h3 : n < 57344
      · rw [if_pos (show (n : Int) ≤ 57343 by omega), if_pos (show 56320 ≤ n ∧ n < 57344 by omega)]; rfl
      · rw [if_neg (show ¬ (n : Int) ≤ 57343 by omega), if_neg (show ¬ (56320 ≤ n ∧ n < 57344) by omega)]; rfl
  · rw [if_neg (show ¬ (n : Int) ≥ 55296 by omega), if_neg Bool.false_ne_true, if_neg (show ¬ (n : Int) ≥ 56320 by omega), if_neg (show ¬ (55296 ≤ n ∧ n < 56320) by omega), if_neg (show ¬ (56320 ≤ n ∧ n < 57344) by omega)]; rfl
theorem sur_any (n : Nat) (w : World) : Calls Tryz.prog 144 #[.int .u16 n] w fun e w' => e = .returned (.int .i64 (surL n : Int)) ∧ Drawn0 w w' := PRef.utf_Surrogate.calls 2 n _ w (sur_f n)
def pairL (n m : Nat) : Nat := 65536 + (n - 55296) * 1024 + (m - 56320)
theorem surL_1 {n : Nat} (h : surL n = 1) : 55296 ≤ n ∧ n < 56320 := by
  unfold surL at h
  split at h
  · assumption
  · split at h <;> cases h
theorem surL_2 {n : Nat} (h : surL n = 2) : 56320 ≤ n ∧ n < 57344 := by
  unfold surL at h
  split at h
  · cases h
  · split at h
    · assumption
    · cases h
theorem surL_0 {n : Nat} (h : surL n = 0) (hn : n < 65536) : n < 55296 ∨ (57343 < n ∧ n < 1114112) := by
  unfold surL at h
  split at h
  · cases h
  · split at h
    · cases h
    · omega
theorem surL_01 (n : Nat) : surL n = 0 ∨ surL n = 1 ∨ surL n = 2 := by unfold surL; split; simp; split <;> simp
theorem wrap32_of (n : Int) (h : -2147483648 ≤ n) (h2 : n < 2147483648) : wrap32 n = n := by
  unfold wrap32
  omega
theorem pair_f (n m : Nat) (hn : surL n = 1) : PRef.utf_Pair.f 2 (n : Int) (m : Int) = some (if surL m = 2 then (pairL n m : Int) else 0, decide (surL m = 2)) := by
  unfold PRef.utf_Pair.f
  obtain ⟨h1, h2⟩ := surL_1 hn
  rw [sur_f, sur_f]
  simp only [Option.bind_some]
  rw [if_pos (by rw [hn]; rfl)]
  by_cases hm : surL m = 2
  · obtain ⟨h3, h4⟩ := surL_2 hm
    rw [if_pos (by rw [hm]; rfl), if_pos hm, decide_eq_true hm, IntWalk.u16_in _ ⟨by omega, by omega⟩, IntWalk.u16_in _ ⟨by omega, by omega⟩, wrap32_of ((n : Int) - 55296) (by omega) (by omega), wrap32_of ((m : Int) - 56320) (by omega) (by omega), wrap32_of (((n : Int) - 55296) * 1024) (by omega) (by omega), wrap32_of (((n : Int) - 55296) * 1024 + ((m : Int) - 56320)) (by omega) (by omega), wrap32_of _ (by omega) (by omega)]
    unfold pairL
    congr 2
    omega
  · rw [if_neg (by omega), if_neg hm, decide_eq_false hm]
theorem pair_any (n m : Nat) (hn : surL n = 1) (w : World) : Calls Tryz.prog 145 #[.int .u16 n, .int .u16 m] w fun e w' => e = .returned (.tuple #[.int .i32 (if surL m = 2 then (pairL n m : Int) else 0), .bool (decide (surL m = 2))]) ∧ Drawn0 w w' := PRef.utf_Pair.calls 2 n m _ _ w (pair_f n m hn)
theorem put_any (n : Nat) (h : n < 55296 ∨ (57343 < n ∧ n < 1114112)) (w : World) : Calls Tryz.prog 133 #[.int .i32 n] w fun e w' => e = .returned (.string ⟨(putL n).toArray⟩) ∧ Below w.heap.size w w' := PRef.utf_Put.calls 10 n _ w (put_f n h)
theorem unitL_lt {l : Bs} {n : Nat} (h : unitL l = some n) : n < 65536 ∧ 4 ≤ l.length := by
  have hv : ∀ (c : UInt8) (k : Nat), hexv c = some k → k < 16 := by
    intro c k h
    unfold hexv at h
    split at h
    · rename_i h2
      obtain ⟨h2, h3⟩ := h2
      have h2 := UInt8.le_iff_toNat_le.1 h2
      have h3 := UInt8.le_iff_toNat_le.1 h3
      cases h
      simp at h2 h3
      omega
    · split at h
      · rename_i h2
        obtain ⟨h2, h3⟩ := h2
        have h2 := UInt8.le_iff_toNat_le.1 h2
        have h3 := UInt8.le_iff_toNat_le.1 h3
        cases h
        simp at h2 h3
        omega
      · split at h
        · rename_i h2
          obtain ⟨h2, h3⟩ := h2
          have h2 := UInt8.le_iff_toNat_le.1 h2
          have h3 := UInt8.le_iff_toNat_le.1 h3
          cases h
          simp at h2 h3
          omega
        · cases h
  match l with
  | [] => cases h
  | [_] => cases h
  | [_, _] => cases h
  | [_, _, _] => cases h
  | a :: b :: c :: d :: r =>
    cases ha : hexv a with
    | none => simp only [unitL, ha] at h; cases h
    | some a1 => cases hb : hexv b with
      | none => simp only [unitL, ha, hb] at h; cases h
      | some b1 => cases hc : hexv c with
        | none => simp only [unitL, ha, hb, hc] at h; cases h
        | some c1 => cases hd : hexv d with
          | none => simp only [unitL, ha, hb, hc, hd] at h; cases h
          | some d1 =>
            simp only [unitL, ha, hb, hc, hd] at h
            have := hv a a1 ha
            have := hv b b1 hb
            have := hv c c1 hc
            have := hv d d1 hd
            have h := Option.some.inj h
            exact ⟨by omega, by simp⟩
theorem hp_at (s : ByteArray) (a : Nat) (r : Bool) (h : ([92, 117] : Bs).isPrefixOf (s.data.toList.drop a) = r) (W : World) : Calls Tryz.prog 112 #[.string (s.extract a s.size), .string ⟨#[92, 117]⟩] W fun e w' => e = .returned (.bool r) ∧ w' = W := by
  have h2 := Tryz.strings_HasPrefix (s.extract a s.size) ⟨#[92, 117]⟩ W
  have e : (s.extract a s.size).data.toList = s.data.toList.drop a := by
    rw [ByteArray.data_extract, Array.toList_extract, List.extract_eq_take_drop]
    rw [List.take_of_length_le (by simp)]
  rw [e] at h2
  rw [← h]
  exact h2
def EscPost (p : Nat) (s : ByteArray) (a : Nat) (lv sv : Value) (lone : Bool) (deep : Nat) (w : World) : Option (Bs × Nat × Bool) → Ending → World → Prop
  | some (b, k, ln), e, w' => e = .returned (.tuple #[.string ⟨b.toArray⟩, .bool true]) ∧ PCell w' p s (a + k) lv sv (lone || ln) deep ∧ PMv p w w'
  | none, e, w' => e = .returned (.tuple #[.string ⟨#[]⟩, .bool false]) ∧ (∃ a' ln', a' ≤ s.size ∧ PCell w' p s a' lv sv ln' deep) ∧ PMv p w w'
/-- Its pair's second half, where there is one. -/
def pairD (n : Nat) (r : Bs) : Option Nat := if surL n = 1 ∧ (r.drop 4).take 2 = [92, 117] then (match unitL (r.drop 6) with | some m => if surL m = 2 then some m else none | none => none) else none
theorem escD_eq (r : Bs) : escD r = match unitL r with | none => none | some n => if surL n = 0 then some (putL n, 4, false) else match pairD n r with | some m => some (putL (pairL n m), 10, false) | none => some ([239, 191, 189], 4, true) := by
  unfold escD
  cases unitL r with
  | none => rfl
  | some n =>
    show (if surL n = 0 then _ else _) = (if surL n = 0 then _ else _)
    by_cases h0 : surL n = 0
    · rw [if_pos h0, if_pos h0]
    · rw [if_neg h0, if_neg h0]
      unfold pairD
      by_cases h1 : surL n = 1 ∧ (r.drop 4).take 2 = [92, 117]
      · rw [if_pos h1, if_pos h1]
        cases unitL (r.drop 6) with
        | none => rfl
        | some m =>
          by_cases h2 : surL m = 2
          · simp only [if_pos h2]; rfl
          · simp only [if_neg h2]
      · rw [if_neg h1, if_neg h1]
theorem pre_two (l : Bs) : ([92, 117] : Bs).isPrefixOf l = decide (l.take 2 = [92, 117]) := by
  match l with
  | [] => rfl
  | [a] => simp [List.isPrefixOf]
  | a :: b :: r =>
    simp only [List.isPrefixOf, List.take]
    by_cases h1 : a = 92
    · subst h1
      by_cases h2 : b = 117
      · subst h2; simp
      · simp [h2, Ne.symm h2]
    · simp [h1, Ne.symm h1]
set_option maxRecDepth 100000 in
set_option maxHeartbeats 4000000 in
theorem escaped_any (p : Nat) (s : ByteArray) (a : Nat) (lv sv : Value) (lone : Bool) (deep : Nat) (w : World) (hP : PCell w p s a lv sv lone deep) (ha : a ≤ s.size) (hs : s.size ≤ 1000000) (hL : LowAt s p w) :
    Calls Tryz.prog 131 #[.pointer (some ⟨p, 0, none⟩)] w (EscPost p s a lv sv lone deep w (escD (s.data.toList.drop a))) := by
  have hlt := blk_lt hP
  have U1 := Lib.hid (unit_any p s a lv sv lone deep w hP ha hs hL)
  have HL := Lib.hid hL
  rw [escD_eq]
  cases hQ : unitL (s.data.toList.drop a) with
  | none =>
    rw [hQ] at U1
    clear hP hL
    go_enter Tryz.func131, Tryz.ntmps131
    go_wp2_with (go_at_call 143; go_must (refine U1.out.mono ?_); rintro e w1 ⟨rfl, hP1, hM1⟩)
    go_ret2
    exact ⟨rfl, ⟨a, _, ha, hP1⟩, hM1⟩
  | some n =>
    rw [hQ] at U1
    obtain ⟨hn, h4⟩ := unitL_lt hQ
    rw [List.length_drop] at h4
    have h4 : a + 4 ≤ s.size := by simp at h4; omega
    have SU := Lib.hid (fun W => sur_any n W)
    show Calls _ _ _ _ (EscPost p s a lv sv lone deep w (if surL n = 0 then _ else _))
    clear hP hL
    by_cases h0 : surL n = 0
    · rw [if_pos h0]
      rw [h0] at SU
      have PU := Lib.hid (fun W => put_any n (surL_0 h0 hn) W)
      have k1 : IntKind.i32.wrap (n : Int) = n := IntWalk.i32_in _ ⟨by omega, by omega⟩
      clear h0 hQ
      go_enter Tryz.func131, Tryz.ntmps131
      go_wp2_with (first | (go_at_call 143; go_must (refine U1.out.mono ?_); rintro e w1 ⟨rfl, hP1, hM1⟩; have P1 := Lib.hid hP1; have M1 := Lib.hid hM1; clear hP1 hM1) | (go_at_call 144; go_must (refine (SU.out _).mono ?_); rintro e w2 ⟨rfl, hd⟩; have D2 := Lib.hid hd; clear hd) | (go_at_call 133; go_must (refine (PU.out _).mono ?_); rintro e w3 ⟨rfl, hb⟩; have B3 := Lib.hid hb; clear hb))
      go_ret2
      have hb := below_step D2.out.below B3.out
      exact ⟨rfl, by rw [Bool.or_false]; exact (hb.block p (blk_lt P1.out)).trans P1.out, M1.out.trans (PMv.of_below hb)⟩
    · rw [if_neg h0]
      have HDR : ∀ k, (s.data.toList.drop a).drop k = s.data.toList.drop (a + k) := fun k => by rw [List.drop_drop]
      have hpd := pairD.eq_1 n (s.data.toList.drop a)
      rw [HDR, HDR] at hpd
      rcases surL_01 n with h1 | h1 | h1
      · exact absurd h1 h0
      · rw [h1] at SU
        by_cases hpre : (s.data.toList.drop (a + 4)).take 2 = [92, 117]
        · rw [if_pos ⟨h1, hpre⟩] at hpd
          have h6 : a + 6 ≤ s.size := by
            have := congrArg List.length hpre
            rw [List.length_take, List.length_drop] at this
            simp at this
            omega
          have WD := Lib.hid (fun W (hP : PCell W p s (a + 4) lv sv lone deep) => word_any p s (a + 4) lv sv lone deep ⟨#[92, 117]⟩ true W hP h4 hs (by decide) (fun W => hp_at s (a + 4) true (by rw [pre_two, hpre]; rfl) W))
          have U2 := Lib.hid (fun W (hP : PCell W p s (a + 6) lv sv lone deep) (hM : PMv p w W) => unit_any p s (a + 6) lv sv lone deep W hP h6 hs (HL.out.keep hlt hM))
          cases hQ2 : unitL (s.data.toList.drop (a + 6)) with
          | none =>
            rw [hQ2] at U2 hpd
            rw [hpd]
            clear h0 hQ hQ2 hpd HDR hpre h1
            go_enter Tryz.func131, Tryz.ntmps131
            go_wp2_with (first | (go_at_call 143; first | ((with_reducible refine U1.out.mono ?_); rintro e w1 ⟨rfl, hP1, hM1⟩; have P1 := Lib.hid hP1; have c1 := blkc hP1 1 rfl; have c4 := blkc hP1 4 rfl; have f1 := blk_frozen hP1 1; have f4 := blk_frozen hP1 4; have M1 := Lib.hid hM1; clear hP1 hM1) | ((with_reducible refine (U2.out _ P1.out M1.out).mono ?_); rintro e w4 ⟨rfl, hP1, hM1⟩; have P1 := Lib.hid hP1; have c1 := blkc hP1 1 rfl; have c4 := blkc hP1 4 rfl; have f1 := blk_frozen hP1 1; have f4 := blk_frozen hP1 4; have M1 := Lib.hid (M1.out.trans hM1); clear hP1 hM1)) | (go_at_call 144; go_must (refine (SU.out _).mono ?_); rintro e w2 ⟨rfl, hd⟩; have hP1 := P1.out.below hd.below; have P1 := Lib.hid hP1; have c1 := blkc hP1 1 rfl; have c4 := blkc hP1 4 rfl; have f1 := blk_frozen hP1 1; have f4 := blk_frozen hP1 4; have M1 := Lib.hid (M1.out.trans (PMv.of_below hd.below)); clear hP1 hd) | (go_at_call 110; go_must (refine (WD.out _ P1.out).mono ?_); rintro e w3 ⟨rfl, hP3, hM3⟩; have hP1 := (show PCell w3 p s (a + 6) lv sv lone deep from hP3); have P1 := Lib.hid hP1; have c1 := blkc hP1 1 rfl; have c4 := blkc hP1 4 rfl; have f1 := blk_frozen hP1 1; have f4 := blk_frozen hP1 4; have M1 := Lib.hid (M1.out.trans hM3); clear hP1 hM3 hP3))
            go_ret2
            exact ⟨rfl, by rw [Bool.or_true]; exact (PCell.at_ P1.out (a + 4) (by omega)).lone true, (M1.out.set 1 _).set 4 _⟩
          | some m =>
            rw [hQ2] at U2 hpd
            have hm := (unitL_lt hQ2).1
            have PA := Lib.hid (fun W => pair_any n m h1 W)
            by_cases h2 : surL m = 2
            · have hpd : pairD n (s.data.toList.drop a) = some m := by rw [hpd]; exact if_pos h2
              rw [hpd]
              rw [if_pos h2, decide_eq_true h2] at PA
              have h10 : a + 10 ≤ s.size := by have := (unitL_lt hQ2).2; rw [List.length_drop] at this; simp at this; omega
              obtain ⟨s1, s2⟩ := surL_1 h1
              obtain ⟨s3, s4⟩ := surL_2 h2
              have PU := Lib.hid (fun W => put_any (pairL n m) (by unfold pairL; omega) W)
              clear h0 hQ hQ2 hpd HDR hpre h1 h2 s1 s2 s3 s4
              go_enter Tryz.func131, Tryz.ntmps131
              go_wp2_with (first | (go_at_call 143; first | ((with_reducible refine U1.out.mono ?_); rintro e w1 ⟨rfl, hP1, hM1⟩; have P1 := Lib.hid hP1; have c1 := blkc hP1 1 rfl; have c4 := blkc hP1 4 rfl; have f1 := blk_frozen hP1 1; have f4 := blk_frozen hP1 4; have M1 := Lib.hid hM1; clear hP1 hM1) | ((with_reducible refine (U2.out _ P1.out M1.out).mono ?_); rintro e w4 ⟨rfl, hP1, hM1⟩; have P1 := Lib.hid hP1; have c1 := blkc hP1 1 rfl; have c4 := blkc hP1 4 rfl; have f1 := blk_frozen hP1 1; have f4 := blk_frozen hP1 4; have M1 := Lib.hid (M1.out.trans hM1); clear hP1 hM1)) | (go_at_call 144; go_must (refine (SU.out _).mono ?_); rintro e w2 ⟨rfl, hd⟩; have hP1 := P1.out.below hd.below; have P1 := Lib.hid hP1; have c1 := blkc hP1 1 rfl; have c4 := blkc hP1 4 rfl; have f1 := blk_frozen hP1 1; have f4 := blk_frozen hP1 4; have M1 := Lib.hid (M1.out.trans (PMv.of_below hd.below)); clear hP1 hd) | (go_at_call 110; go_must (refine (WD.out _ P1.out).mono ?_); rintro e w3 ⟨rfl, hP3, hM3⟩; have hP1 := (show PCell w3 p s (a + 6) lv sv lone deep from hP3); have P1 := Lib.hid hP1; have c1 := blkc hP1 1 rfl; have c4 := blkc hP1 4 rfl; have f1 := blk_frozen hP1 1; have f4 := blk_frozen hP1 4; have M1 := Lib.hid (M1.out.trans hM3); clear hP1 hM3 hP3) | (go_at_call 145; go_must (refine (PA.out _).mono ?_); rintro e w5 ⟨rfl, hd⟩; have hP1 := P1.out.below hd.below; have P1 := Lib.hid hP1; have c1 := blkc hP1 1 rfl; have c4 := blkc hP1 4 rfl; have f1 := blk_frozen hP1 1; have f4 := blk_frozen hP1 4; have M1 := Lib.hid (M1.out.trans (PMv.of_below hd.below)); clear hP1 hd) | (go_at_call 133; go_must (refine (PU.out _).mono ?_); rintro e w6 ⟨rfl, hb⟩; have hP1 := P1.out.below hb; have P1 := Lib.hid hP1; have c1 := blkc hP1 1 rfl; have c4 := blkc hP1 4 rfl; have f1 := blk_frozen hP1 1; have f4 := blk_frozen hP1 4; have M1 := Lib.hid (M1.out.trans (PMv.of_below hb)); clear hP1 hb))
              go_ret2
              exact ⟨rfl, by rw [Bool.or_false]; exact P1.out, M1.out⟩
            · have hpd : pairD n (s.data.toList.drop a) = none := by rw [hpd]; exact if_neg h2
              rw [hpd]
              rw [if_neg h2, decide_eq_false h2] at PA
              clear h0 hQ hQ2 hpd HDR hpre h1 h2
              go_enter Tryz.func131, Tryz.ntmps131
              go_wp2_with (first | (go_at_call 143; first | ((with_reducible refine U1.out.mono ?_); rintro e w1 ⟨rfl, hP1, hM1⟩; have P1 := Lib.hid hP1; have c1 := blkc hP1 1 rfl; have c4 := blkc hP1 4 rfl; have f1 := blk_frozen hP1 1; have f4 := blk_frozen hP1 4; have M1 := Lib.hid hM1; clear hP1 hM1) | ((with_reducible refine (U2.out _ P1.out M1.out).mono ?_); rintro e w4 ⟨rfl, hP1, hM1⟩; have P1 := Lib.hid hP1; have c1 := blkc hP1 1 rfl; have c4 := blkc hP1 4 rfl; have f1 := blk_frozen hP1 1; have f4 := blk_frozen hP1 4; have M1 := Lib.hid (M1.out.trans hM1); clear hP1 hM1)) | (go_at_call 144; go_must (refine (SU.out _).mono ?_); rintro e w2 ⟨rfl, hd⟩; have hP1 := P1.out.below hd.below; have P1 := Lib.hid hP1; have c1 := blkc hP1 1 rfl; have c4 := blkc hP1 4 rfl; have f1 := blk_frozen hP1 1; have f4 := blk_frozen hP1 4; have M1 := Lib.hid (M1.out.trans (PMv.of_below hd.below)); clear hP1 hd) | (go_at_call 110; go_must (refine (WD.out _ P1.out).mono ?_); rintro e w3 ⟨rfl, hP3, hM3⟩; have hP1 := (show PCell w3 p s (a + 6) lv sv lone deep from hP3); have P1 := Lib.hid hP1; have c1 := blkc hP1 1 rfl; have c4 := blkc hP1 4 rfl; have f1 := blk_frozen hP1 1; have f4 := blk_frozen hP1 4; have M1 := Lib.hid (M1.out.trans hM3); clear hP1 hM3 hP3) | (go_at_call 145; go_must (refine (PA.out _).mono ?_); rintro e w5 ⟨rfl, hd⟩; have hP1 := P1.out.below hd.below; have P1 := Lib.hid hP1; have c1 := blkc hP1 1 rfl; have c4 := blkc hP1 4 rfl; have f1 := blk_frozen hP1 1; have f4 := blk_frozen hP1 4; have M1 := Lib.hid (M1.out.trans (PMv.of_below hd.below)); clear hP1 hd))
              go_ret2
              exact ⟨rfl, by rw [Bool.or_true]; exact (PCell.at_ P1.out (a + 4) (by omega)).lone true, (M1.out.set 1 _).set 4 _⟩
        · rw [if_neg (fun h => hpre h.2)] at hpd
          rw [hpd]
          have WD := Lib.hid (fun W (hP : PCell W p s (a + 4) lv sv lone deep) => word_any p s (a + 4) lv sv lone deep ⟨#[92, 117]⟩ false W hP h4 hs (by decide) (fun W => hp_at s (a + 4) false (by rw [pre_two]; exact decide_eq_false hpre) W))
          clear h0 hQ hpd HDR hpre h1
          go_enter Tryz.func131, Tryz.ntmps131
          go_wp2_with (first | (go_at_call 143; first | ((with_reducible refine U1.out.mono ?_); rintro e w1 ⟨rfl, hP1, hM1⟩; have P1 := Lib.hid hP1; have c1 := blkc hP1 1 rfl; have c4 := blkc hP1 4 rfl; have f1 := blk_frozen hP1 1; have f4 := blk_frozen hP1 4; have M1 := Lib.hid hM1; clear hP1 hM1)) | (go_at_call 144; go_must (refine (SU.out _).mono ?_); rintro e w2 ⟨rfl, hd⟩; have hP1 := P1.out.below hd.below; have P1 := Lib.hid hP1; have c1 := blkc hP1 1 rfl; have c4 := blkc hP1 4 rfl; have f1 := blk_frozen hP1 1; have f4 := blk_frozen hP1 4; have M1 := Lib.hid (M1.out.trans (PMv.of_below hd.below)); clear hP1 hd) | (go_at_call 110; go_must (refine (WD.out _ P1.out).mono ?_); rintro e w3 ⟨rfl, hP3, hM3⟩; have hP1 := (show PCell w3 p s (a + 4) lv sv lone deep from hP3); have P1 := Lib.hid hP1; have c1 := blkc hP1 1 rfl; have c4 := blkc hP1 4 rfl; have f1 := blk_frozen hP1 1; have f4 := blk_frozen hP1 4; have M1 := Lib.hid (M1.out.trans hM3); clear hP1 hM3 hP3))
          go_ret2
          exact ⟨rfl, by rw [Bool.or_true]; exact (PCell.at_ P1.out (a + 4) (by omega)).lone true, (M1.out.set 1 _).set 4 _⟩
      · rw [h1] at SU
        rw [if_neg (fun h => by rw [h1] at h; exact absurd h.1 (by decide))] at hpd
        rw [hpd]
        clear h0 hQ hpd HDR h1
        go_enter Tryz.func131, Tryz.ntmps131
        go_wp2_with (first | (go_at_call 143; first | ((with_reducible refine U1.out.mono ?_); rintro e w1 ⟨rfl, hP1, hM1⟩; have P1 := Lib.hid hP1; have c1 := blkc hP1 1 rfl; have c4 := blkc hP1 4 rfl; have f1 := blk_frozen hP1 1; have f4 := blk_frozen hP1 4; have M1 := Lib.hid hM1; clear hP1 hM1)) | (go_at_call 144; go_must (refine (SU.out _).mono ?_); rintro e w2 ⟨rfl, hd⟩; have hP1 := P1.out.below hd.below; have P1 := Lib.hid hP1; have c1 := blkc hP1 1 rfl; have c4 := blkc hP1 4 rfl; have f1 := blk_frozen hP1 1; have f4 := blk_frozen hP1 4; have M1 := Lib.hid (M1.out.trans (PMv.of_below hd.below)); clear hP1 hd))
        go_ret2
        exact ⟨rfl, by rw [Bool.or_true]; exact (PCell.at_ P1.out (a + 4) (by omega)).lone true, (M1.out.set 1 _).set 4 _⟩
end Go.Proofs.YtfocognhcljhpaaGreatDoor
namespace Go.Proofs.YtfocognhcljhpaaGreatDoor
set_option linter.unusedVariables false
set_option linter.unusedSimpArgs false
open Go.RowKit Go.Proofs.YtfocognhcljhpaaGreatDoorW.PrintWords Go.Proofs.YtfocognhcljhpaaGreatDoorW.PrintMore Go.Proofs.YtfocognhcljhpaaGreatDoor.PPrintRows Go.Proofs.YtfocognhcljhpaaGreatDoor.Tree
theorem txtD_lone (n : Nat) : txtD (n + 1) [92] = none := by rw [txtD.eq_def]; rfl
theorem txtD_u (n : Nat) (r : Bs) : txtD (n + 1) (92 :: 117 :: r) = match escD r with | none => none | some (b, k, ln) => thenT b (k + 2) ln (txtD n (r.drop k)) := by rw [txtD.eq_def]; rfl
theorem txtD_s (n : Nat) (d : UInt8) (r : Bs) (h : d ≠ 117) : txtD (n + 1) (92 :: d :: r) = match escS d with | none => none | some e => thenT [e] 2 false (txtD n r) := by
  rw [txtD.eq_def]
  simp only
  rw [if_neg (by decide), if_neg (by decide), if_neg (by decide), if_neg h]
  rfl
def escI (d : UInt8) : Int := Lib.indexByte [34, 92, 47, 98, 102, 110, 114, 116] d
theorem idx_esc (d : UInt8) (W : World) : Calls Tryz.prog 109 #[.string ⟨#[34, 92, 47, 98, 102, 110, 114, 116]⟩, .int .u8 (d.toNat : Int)] W fun e w' => e = .returned (.int .i64 (escI d)) ∧ w' = W := by
  have h := Tryz.strings_IndexByte ⟨#[34, 92, 47, 98, 102, 110, 114, 116]⟩ (d.toNat : Int) W
  rw [show ((d.toNat : Int)).toNat.toUInt8 = d by simp] at h
  exact h
set_option maxRecDepth 100000 in
theorem escI_all (d : UInt8) : (escS d = none ∧ escI d < 0) ∨ (0 ≤ escI d ∧ escI d < 8 ∧ escS d = some (([34, 92, 47, 8, 12, 10, 13, 9] : Bs).getD (escI d).toNat 0)) := by
  have h : ∀ y : Fin 256, (escS (UInt8.ofNat y.1) = none ∧ escI (UInt8.ofNat y.1) < 0) ∨ (0 ≤ escI (UInt8.ofNat y.1) ∧ escI (UInt8.ofNat y.1) < 8 ∧ escS (UInt8.ofNat y.1) = some (([34, 92, 47, 8, 12, 10, 13, 9] : Bs).getD (escI (UInt8.ofNat y.1)).toNat 0)) := by decide
  have := h ⟨d.toNat, d.toNat_lt⟩
  simpa using this
theorem escI_none {d : UInt8} (h : escS d = none) : escI d < 0 := by
  rcases escI_all d with ⟨_, h1⟩ | ⟨_, _, h1⟩
  · exact h1
  · rw [h] at h1; cases h1
theorem escI_some {d x : UInt8} (h : escS d = some x) : 0 ≤ escI d ∧ escI d < 8 ∧ ([34, 92, 47, 8, 12, 10, 13, 9] : Bs).getD (escI d).toNat 0 = x := by
  rcases escI_all d with ⟨h1, _⟩ | ⟨h1, h2, h3⟩
  · rw [h] at h1; cases h1
  · rw [h] at h3; exact ⟨h1, h2, (Option.some.inj h3).symm⟩
theorem putL_len (n : Nat) : (putL n).length ≤ 4 := by
  unfold putL Utf.putI
  rw [List.length_map]
  repeat' split
  all_goals simp
theorem escD_len {r b : Bs} {k : Nat} {ln : Bool} (h : escD r = some (b, k, ln)) : b.length ≤ 4 ∧ 4 ≤ k ∧ k ≤ r.length := by
  rw [escD_eq] at h
  cases hu : unitL r with
  | none => rw [hu] at h; cases h
  | some n =>
    rw [hu] at h
    have h4 := (unitL_lt hu).2
    dsimp only at h
    split at h
    · cases h; exact ⟨putL_len n, Nat.le_refl _, h4⟩
    · cases hp : pairD n r with
      | none => rw [hp] at h; cases h; exact ⟨by decide, Nat.le_refl _, h4⟩
      | some m =>
        rw [hp] at h
        obtain ⟨h1, h2⟩ := Prod.mk.inj (Option.some.inj h)
        obtain ⟨h2, _⟩ := Prod.mk.inj h2
        rw [← h1, ← h2]
        refine ⟨putL_len _, (by omega), ?_⟩
        unfold pairD at hp
        split at hp
        · cases hu2 : unitL (r.drop 6) with
          | none => rw [hu2] at hp; cases hp
          | some q => have := (unitL_lt hu2).2; rw [List.length_drop] at this; omega
        · cases hp
theorem bldF_keep2 {B b : Nat} {bs : List Value} {w w' : World} (h : BldF B b bs w) (hk : ∀ k, B ≤ k → k < w.heap.size → w'.heap[k]? = w.heap[k]?) : BldF B b bs w' := by
  rcases h with ⟨hB, v, hb, ⟨hl, ho⟩, hne⟩ | ⟨hB, v, hb, ⟨hl, ho⟩, hne⟩
  · refine .inl ⟨hB, v, (hk b hB (blk_lt hb)).trans hb, ⟨hl, ?_⟩, hne⟩
    rcases ho with h | ⟨g, cap, cur, fz, hv, hg, hh, rest⟩
    · exact .inl h
    · exact .inr ⟨g, cap, cur, fz, hv, hg, (hk g hg (blk_lt hh)).trans hh, rest⟩
  · refine .inr ⟨hB, v, (hk b hB (blk_lt hb)).trans hb, ⟨hl, ?_⟩, hne⟩
    rcases ho with h | ⟨g, cap, cur, fz, hv, hg, hh, rest⟩
    · exact .inl h
    · exact .inr ⟨g, cap, cur, fz, hv, hg, (hk g hg (blk_lt hh)).trans hh, rest⟩
set_option maxRecDepth 100000 in
set_option maxHeartbeats 4000000 in
theorem text_all (p : Nat) (s : ByteArray) (a : Nat) (lv sv : Value) (lone : Bool) (deep : Nat) (w : World) (hP : PCell w p s a lv sv lone deep) (ha : a ≤ s.size) (hs : s.size ≤ 1000000) (hL : LowAt s p w) :
    Calls Tryz.prog 113 #[.pointer (some ⟨p, 0, none⟩)] w (TextPost p s a lv sv lone deep w (textP s a)) := by
  have HTK := Lib.hid (take_any p s a lv sv lone deep 34 w hP ha hs)
  have hlt := blk_lt hP
  have HL := Lib.hid hL
  clear hP hL
  by_cases hq : takeP s a 34 = true
  · have hat : ∃ h : a < s.size, s[a] = 34 := by
      unfold takeP at hq
      by_cases h : a < s.size
      · refine ⟨h, ?_⟩
        rw [List.getElem?_eq_getElem (by simpa using h)] at hq
        have := of_decide_eq_true hq
        refine UInt8.toNat_inj.1 ?_
        have e : s.data.toList[a]'(by simpa using h) = s[a] := rfl
        rw [e] at this
        show s[a].toNat = 34
        omega
      · rw [List.getElem?_eq_none (by simpa using h)] at hq
        cases hq
    obtain ⟨hal, ha34⟩ := hat
    obtain ⟨R, hR⟩ : ∃ R, textP s a = R := ⟨_, rfl⟩
    have hR0 : R = thenT [] 1 false (txtD (s.size - (a + 1) + 1) (s.data.toList.drop (a + 1))) := by
      rw [← hR, textP, drop_at s a hal]
      show (if s[a] = 34 then _ else _) = _
      rw [if_pos ha34]
      congr 2
      simp
    rw [hR]
    rw [hq] at HTK
    have HR0 := Lib.hid hR0
    clear hR hR0 ha34 hq
    go_enter Tryz.func113, Tryz.ntmps113
    go_wp2_with (go_at_call 94; go_must (refine HTK.out.mono ?_); rintro e w1 ⟨rfl, hP1, hM1⟩; have HP1 := Lib.hid hP1; have HM1 := Lib.hid hM1; have hlt1 := blk_lt hP1; have HB0 := Lib.hid (Lib.IsBuilderF.of (Lib.fresh_isBuilder 83 5 w1)); clear hP1 hM1)
    go_loopw [5, 6, 7, 8] (fun v5 v6 v7 v8 wr => ∃ (k n : Nat) (b : Bs) (ln : Bool), k ≤ s.size ∧ s.size - k ≤ n ∧ b.length ≤ 4 * k ∧ BldF w1.heap.size w1.heap.size (Lib.byteCells b) wr ∧ PCell wr p s k lv sv (lone || ln) deep ∧ PMv p w wr ∧ w1.heap.size ≤ wr.heap.size ∧ R = thenT b (k - a) ln (txtD (n + 1) (s.data.toList.drop k)) ∧ a < k) (fun v5 v6 v7 v8 wr => pmeas wr p s.size)
    case atStart => exact ⟨a + 1, s.size - (a + 1), [], false, by omega, by omega, by simp, HB0.out, by rw [Bool.or_false]; exact blk_alloc HP1.out _, HM1.out.trans (PMv.of_below (below_alloc (Below.refl _ _) _)), by simp, by rw [HR0.out]; congr 1; omega, by omega⟩
    case round =>
      obtain ⟨k, n, b, ln, hk, hn, hbl, hB, hPk, hM, hsz, hRk, hak⟩ := hrel
      have c0 := blkc hPk 0 rfl
      have c1 := blkc hPk 1 rfl
      have f1 := blk_frozen hPk 1
      have HP := Lib.hid hPk
      have HPm := Lib.hid hPk
      have HM := Lib.hid hM
      have HB := Lib.hid hB
      have HR := Lib.hid hRk
      clear hPk hM hB hRk
      by_cases hkl : k < s.size
      · have k1 : decide ((k : Int) < (s.size : Int)) = true := decide_eq_true (by omega)
        have k2 : decide (k < s.size) = true := decide_eq_true hkl
        have hRk := HR.out
        rw [drop_at s k hkl] at hRk
        obtain ⟨c, hc⟩ : ∃ c, s[k] = c := ⟨_, rfl⟩
        have hcI : ((s[k].toNat : Nat) : Int) = (c.toNat : Int) := by rw [hc]
        rw [hc] at hRk
        obtain ⟨z, hz⟩ : ∃ z : Int, (c.toNat : Int) = z := ⟨_, rfl⟩
        rw [hz] at hcI
        have hbl4 : (Lib.byteCells b).length ≤ 100000000 := by rw [Lib.byteCells_length]; omega
        by_cases h34 : c = 34
        · rw [h34, txtD_end] at hRk
          have hRv : R = some (b, k + 1 - a, ln) := by rw [hRk, thenT, List.append_nil, Bool.or_false, show k - a + 1 = k + 1 - a by omega]
          have k34 : (z == 34) = true := by rw [← hz, h34]; rfl
          have HRV := Lib.hid hRv
          clear hRk hRv h34 hbl HR HR0
          go_wp2_with fail
          go_big_quiet (fail)
          go_wp2_with fail
          generalize hwa : wr.drewN nq = wa
          have HPa := Lib.hid (show PCell wa p s k lv sv (lone || ln) deep from hwa ▸ HP.out)
          have HMa := Lib.hid (show PMv p w wa from hwa ▸ HM.out.trans (drewN_pmv p wr nq))
          have HBa := Lib.hid (show BldF w1.heap.size w1.heap.size (Lib.byteCells b) wa from hwa ▸ HB.out)
          have hsza : w1.heap.size ≤ wa.heap.size := hwa ▸ hsz
          clear c0 c1 f1 HP HM HB hsz hwa
          have c0 := blkc HPa.out 0 rfl
          have c1 := blkc HPa.out 1 rfl
          have f1 := blk_frozen HPa.out 1
          go_big_quiet (fail)
          have HPb := Lib.hid (PCell.at_ (w := wa.drewN nq) HPa.out (k + 1) (x := (k : Int) + 1) (by omega))
          have HMb := Lib.hid ((HMa.out.trans (drewN_pmv p wa nq)).set 1 (.int .i64 ((k : Int) + 1)))
          have HBb := Lib.hid (bldF_set (w := wa.drewN nq) (j := 1) HBa.out hlt1 (.int .i64 ((k : Int) + 1)))
          have hszb : w1.heap.size ≤ ((wa.drewN nq).setCell ⟨p, 1, none⟩ (.int .i64 ((k : Int) + 1))).heap.size := by simp [World.setCell]; exact hsza
          go_wp2_with (go_at_call 45; go_must (refine (Tryz.Builder_String_any_k w1.heap.size w1.heap.size b _ HBb.out hszb).mono ?_); rintro e w4 ⟨rfl, _, hb4, _⟩)
          go_ret2
          rw [HRV.out]
          exact ⟨rfl, by rw [show a + (k + 1 - a) = k + 1 by omega]; exact (hb4.block p hlt1).trans HPb.out, HMb.out.then_below HM1.out.size hb4⟩
        · have k34 : (z == 34) = false := by
            rw [beq_eq_false_iff_ne, ← hz]
            intro h
            exact h34 (UInt8.toNat_inj.1 (by show c.toNat = 34; omega))
          by_cases h32 : c < 32
          · rw [txtD_low n _ h34 h32] at hRk
            have h3 : c.toNat < 32 := UInt8.lt_iff_toNat_lt.1 h32
            have k32 : decide (z < 32) = true := decide_eq_true (by omega)
            have HRV := Lib.hid hRk
            clear hRk h32 h34 hbl HR HR0 h3
            go_wp2_with fail
            go_big_quiet (fail)
            go_wp2_with fail
            generalize hwa : wr.drewN nq = wa
            have HPa := Lib.hid (show PCell wa p s k lv sv (lone || ln) deep from hwa ▸ HP.out)
            have HMa := Lib.hid (show PMv p w wa from hwa ▸ HM.out.trans (drewN_pmv p wr nq))
            have HBa := Lib.hid (show BldF w1.heap.size w1.heap.size (Lib.byteCells b) wa from hwa ▸ HB.out)
            have hsza : w1.heap.size ≤ wa.heap.size := hwa ▸ hsz
            clear c0 c1 f1 HP HM HB hsz hwa
            have c0 := blkc HPa.out 0 rfl
            have c1 := blkc HPa.out 1 rfl
            have f1 := blk_frozen HPa.out 1
            go_big_quiet (fail)
            have HPb := Lib.hid (PCell.at_ (w := wa.drewN nq) HPa.out (k + 1) (x := (k : Int) + 1) (by omega))
            have HMb := Lib.hid ((HMa.out.trans (drewN_pmv p wa nq)).set 1 (.int .i64 ((k : Int) + 1)))
            have HBb := Lib.hid (bldF_set (w := wa.drewN nq) (j := 1) HBa.out hlt1 (.int .i64 ((k : Int) + 1)))
            have hszb : w1.heap.size ≤ ((wa.drewN nq).setCell ⟨p, 1, none⟩ (.int .i64 ((k : Int) + 1))).heap.size := by simp [World.setCell]; exact hsza
            go_wp2_with fail
            go_ret2
            rw [HRV.out]
            exact ⟨rfl, ⟨k + 1, _, by omega, HPb.out⟩, HMb.out⟩
          · have h3 : ¬ c.toNat < 32 := fun h => h32 (UInt8.lt_iff_toNat_lt.2 h)
            have k32 : decide (z < 32) = false := decide_eq_false (by omega)
            by_cases h92 : c = 92
            · subst h92
              have k92 : (z == 92) = true := by rw [← hz]; rfl
              have k1a : IntKind.i64.wrap ((k : Int) + 1) = (k : Int) + 1 := wrap_id _ (by omega) (by omega)
              by_cases hend : k + 1 < s.size
              · have e1 : ((k : Int) + 1 == (s.size : Int)) = false := by rw [beq_eq_false_iff_ne]; omega
                have e2 : decide ((k : Int) + 1 = (s.size : Int)) = false := decide_eq_false (by omega)
                have e3 : decide (k + 1 < s.size) = true := decide_eq_true hend
                have e4 : decide ((k : Int) + 1 < (s.size : Int)) = true := decide_eq_true (by omega)
                have k1b : IntKind.i64.wrap ((k : Int) + 1 + 1) = (k : Int) + 1 + 1 := wrap_id _ (by omega) (by omega)
                have e5 : (0 : Int) ≤ (k : Int) + 1 := by omega
                rw [drop_at s (k + 1) hend] at hRk
                obtain ⟨d, hd⟩ : ∃ d, s[k + 1] = d := ⟨_, rfl⟩
                have hdI : ((s[k + 1].toNat : Nat) : Int) = (d.toNat : Int) := by rw [hd]
                rw [hd] at hRk
                obtain ⟨y, hy⟩ : ∃ y : Int, (d.toNat : Int) = y := ⟨_, rfl⟩
                rw [hy] at hdI
                by_cases h117 : d = 117
                · rw [h117, txtD_u] at hRk
                  have k117 : (y == 117) = true := by rw [← hy, h117]; rfl
                  have ES := Lib.hid (fun W (hP : PCell W p s (k + 2) lv sv (lone || ln) deep) (hM : PMv p w W) => escaped_any p s (k + 2) lv sv (lone || ln) deep W hP (by omega) hs (HL.out.keep hlt hM))
                  cases hE : escD (s.data.toList.drop (k + 2)) with
                  | none =>
                    rw [hE] at ES
                    have hRv : R = none := by
                      rw [hRk, show k + 1 + 1 = k + 2 by omega, hE]
                      rfl
                    have HRV := Lib.hid hRv
                    clear hRk hRv hE h117 hbl HR HR0 h34 h32 hd hc
                    go_wp2_with fail
                    go_big_quiet (fail)
                    go_wp2_with fail
                    generalize hwa : wr.drewN nq = wa
                    have HPa := Lib.hid (show PCell wa p s k lv sv (lone || ln) deep from hwa ▸ HP.out)
                    have HMa := Lib.hid (show PMv p w wa from hwa ▸ HM.out.trans (drewN_pmv p wr nq))
                    have HBa := Lib.hid (show BldF w1.heap.size w1.heap.size (Lib.byteCells b) wa from hwa ▸ HB.out)
                    have hsza : w1.heap.size ≤ wa.heap.size := hwa ▸ hsz
                    clear c0 c1 f1 HP HM HB hsz hwa
                    have c0 := blkc HPa.out 0 rfl
                    have c1 := blkc HPa.out 1 rfl
                    have f1 := blk_frozen HPa.out 1
                    go_big_quiet (fail)
                    generalize hwb : wa.drewN nq = wb
                    have hPb := PCell.at_ (w := wb) (show PCell wb p s k lv sv (lone || ln) deep from hwb ▸ HPa.out) (k + 1) (x := (k : Int) + 1) (by omega)
                    have hMb := (show PMv p w wb from hwb ▸ HMa.out.trans (drewN_pmv p wa nq)).set 1 (.int .i64 ((k : Int) + 1))
                    have hBb := bldF_set (w := wb) (j := 1) (show BldF w1.heap.size w1.heap.size (Lib.byteCells b) wb from hwb ▸ HBa.out) hlt1 (.int .i64 ((k : Int) + 1))
                    have hszb : w1.heap.size ≤ (wb.setCell ⟨p, 1, none⟩ (.int .i64 ((k : Int) + 1))).heap.size := by simp [World.setCell]; rw [← hwb]; exact hsza
                    clear c0 c1 f1
                    have hPk := (show PCell wb p s k lv sv (lone || ln) deep from hwb ▸ HPa.out)
                    have c1 := blkc hPk 1 rfl
                    have f1 := blk_frozen hPk 1
                    clear HPa HMa HBa hsza hPk
                    go_wp2_with fail
                    clear c1 f1
                    generalize hwc : wb.setCell ⟨p, 1, none⟩ (.int .i64 ((k : Int) + 1)) = wc
                    rw [hwc] at hPb hMb hBb hszb
                    have HPb := Lib.hid hPb
                    have HMb := Lib.hid hMb
                    have HBb := Lib.hid hBb
                    have c0 := blkc hPb 0 rfl
                    have c1 := blkc hPb 1 rfl
                    clear hPb hMb hBb hwb hwc
                    go_big_quiet (fail)
                    generalize hwd : wc.drewN nq = wd
                    have HPd := Lib.hid (show PCell wd p s (k + 1) lv sv (lone || ln) deep from hwd ▸ HPb.out)
                    have HMd := Lib.hid (show PMv p w wd from hwd ▸ HMb.out.trans (drewN_pmv p wc nq))
                    have HBd := Lib.hid (show BldF w1.heap.size w1.heap.size (Lib.byteCells b) wd from hwd ▸ HBb.out)
                    have hszd : w1.heap.size ≤ wd.heap.size := hwd ▸ hszb
                    clear c0 c1 HPb HMb HBb hszb hwd
                    have c0 := blkc HPd.out 0 rfl
                    have c1 := blkc HPd.out 1 rfl
                    go_wp2_with fail
                    go_big_quiet (fail)
                    generalize hwe : wd.drewN nq = we
                    have hPe := (show PCell we p s (k + 1) lv sv (lone || ln) deep from hwe ▸ HPd.out)
                    have c1 := blkc hPe 1 rfl
                    have f1 := blk_frozen hPe 1
                    have hPf := PCell.at_ (w := we) hPe (k + 2) (x := (k : Int) + 1 + 1) (by omega)
                    have hMf := (show PMv p w we from hwe ▸ HMd.out.trans (drewN_pmv p wd nq)).set 1 (.int .i64 ((k : Int) + 1 + 1))
                    have hBf := bldF_set (w := we) (j := 1) (show BldF w1.heap.size w1.heap.size (Lib.byteCells b) we from hwe ▸ HBd.out) hlt1 (.int .i64 ((k : Int) + 1 + 1))
                    have hszf : w1.heap.size ≤ (we.setCell ⟨p, 1, none⟩ (.int .i64 ((k : Int) + 1 + 1))).heap.size := by simp [World.setCell]; rw [← hwe]; exact hszd
                    have HPf := Lib.hid hPf
                    have HMf := Lib.hid hMf
                    have HBf := Lib.hid hBf
                    clear hPf hMf hBf HPd HMd HBd hPe hwe
                    go_wp2_with (go_at_call 131; go_must (refine (ES.out _ HPf.out HMf.out).mono ?_); rintro e w4 ⟨rfl, hP4, hM4⟩; have P4 := Lib.hid hP4; have M4 := Lib.hid hM4; clear hP4 hM4)
                    go_ret2
                    rw [HRV.out]
                    exact ⟨rfl, P4.out, HMf.out.trans M4.out⟩
                  | some x =>
                    obtain ⟨b', j, ln'⟩ := x
                    rw [hE] at ES
                    obtain ⟨g1, g2, g3⟩ := escD_len hE
                    rw [List.length_drop] at g3
                    have g3 : k + 2 + j ≤ s.size := by simp at g3; omega
                    obtain ⟨m, rfl⟩ : ∃ m, n = m + 1 := ⟨n - 1, by omega⟩
                    have hRv : R = thenT (b ++ b') (k + 2 + j - a) (ln || ln') (txtD (m + 1) (s.data.toList.drop (k + 2 + j))) := by
                      rw [hRk, show k + 1 + 1 = k + 2 by omega, hE]
                      show thenT b (k - a) ln (thenT b' (j + 2) ln' _) = _
                      rw [thenT_app, List.drop_drop, show k - a + (j + 2) = k + 2 + j - a by omega]
                    have HRV := Lib.hid hRv
                    have hbl5 : (Lib.byteCells b).length + (⟨b'.toArray⟩ : ByteArray).size ≤ 100000000 := by
                      rw [Lib.byteCells_length]
                      show b.length + b'.length ≤ _
                      omega
                    have HBZ := Lib.hid (show Lib.byteCells b ++ Lib.strCells ⟨b'.toArray⟩ = Lib.byteCells (b ++ b') by simp [Lib.byteCells, Lib.strCells])
                    clear hRk hRv hE h117 HR HR0 h34 h32 hd hc
                    go_wp2_with fail
                    go_big_quiet (fail)
                    go_wp2_with fail
                    generalize hwa : wr.drewN nq = wa
                    have HPa := Lib.hid (show PCell wa p s k lv sv (lone || ln) deep from hwa ▸ HP.out)
                    have HMa := Lib.hid (show PMv p w wa from hwa ▸ HM.out.trans (drewN_pmv p wr nq))
                    have HBa := Lib.hid (show BldF w1.heap.size w1.heap.size (Lib.byteCells b) wa from hwa ▸ HB.out)
                    have hsza : w1.heap.size ≤ wa.heap.size := hwa ▸ hsz
                    clear c0 c1 f1 HP HM HB hsz hwa
                    have c0 := blkc HPa.out 0 rfl
                    have c1 := blkc HPa.out 1 rfl
                    have f1 := blk_frozen HPa.out 1
                    go_big_quiet (fail)
                    generalize hwb : wa.drewN nq = wb
                    have hPb := PCell.at_ (w := wb) (show PCell wb p s k lv sv (lone || ln) deep from hwb ▸ HPa.out) (k + 1) (x := (k : Int) + 1) (by omega)
                    have hMb := (show PMv p w wb from hwb ▸ HMa.out.trans (drewN_pmv p wa nq)).set 1 (.int .i64 ((k : Int) + 1))
                    have hBb := bldF_set (w := wb) (j := 1) (show BldF w1.heap.size w1.heap.size (Lib.byteCells b) wb from hwb ▸ HBa.out) hlt1 (.int .i64 ((k : Int) + 1))
                    have hszb : w1.heap.size ≤ (wb.setCell ⟨p, 1, none⟩ (.int .i64 ((k : Int) + 1))).heap.size := by simp [World.setCell]; rw [← hwb]; exact hsza
                    clear c0 c1 f1
                    have hPk := (show PCell wb p s k lv sv (lone || ln) deep from hwb ▸ HPa.out)
                    have c1 := blkc hPk 1 rfl
                    have f1 := blk_frozen hPk 1
                    clear HPa HMa HBa hsza hPk
                    go_wp2_with fail
                    clear c1 f1
                    generalize hwc : wb.setCell ⟨p, 1, none⟩ (.int .i64 ((k : Int) + 1)) = wc
                    rw [hwc] at hPb hMb hBb hszb
                    have HPb := Lib.hid hPb
                    have HMb := Lib.hid hMb
                    have HBb := Lib.hid hBb
                    have c0 := blkc hPb 0 rfl
                    have c1 := blkc hPb 1 rfl
                    clear hPb hMb hBb hwb hwc
                    go_big_quiet (fail)
                    generalize hwd : wc.drewN nq = wd
                    have HPd := Lib.hid (show PCell wd p s (k + 1) lv sv (lone || ln) deep from hwd ▸ HPb.out)
                    have HMd := Lib.hid (show PMv p w wd from hwd ▸ HMb.out.trans (drewN_pmv p wc nq))
                    have HBd := Lib.hid (show BldF w1.heap.size w1.heap.size (Lib.byteCells b) wd from hwd ▸ HBb.out)
                    have hszd : w1.heap.size ≤ wd.heap.size := hwd ▸ hszb
                    clear c0 c1 HPb HMb HBb hszb hwd
                    have c0 := blkc HPd.out 0 rfl
                    have c1 := blkc HPd.out 1 rfl
                    go_wp2_with fail
                    go_big_quiet (fail)
                    generalize hwe : wd.drewN nq = we
                    have hPe := (show PCell we p s (k + 1) lv sv (lone || ln) deep from hwe ▸ HPd.out)
                    have c1 := blkc hPe 1 rfl
                    have f1 := blk_frozen hPe 1
                    have hPf := PCell.at_ (w := we) hPe (k + 2) (x := (k : Int) + 1 + 1) (by omega)
                    have hMf := (show PMv p w we from hwe ▸ HMd.out.trans (drewN_pmv p wd nq)).set 1 (.int .i64 ((k : Int) + 1 + 1))
                    have hBf := bldF_set (w := we) (j := 1) (show BldF w1.heap.size w1.heap.size (Lib.byteCells b) we from hwe ▸ HBd.out) hlt1 (.int .i64 ((k : Int) + 1 + 1))
                    have hszf : w1.heap.size ≤ (we.setCell ⟨p, 1, none⟩ (.int .i64 ((k : Int) + 1 + 1))).heap.size := by simp [World.setCell]; rw [← hwe]; exact hszd
                    have HPf := Lib.hid hPf
                    have HMf := Lib.hid hMf
                    have HBf := Lib.hid hBf
                    clear hPf hMf hBf HPd HMd HBd hPe hwe
                    go_wp2_with (first | (go_at_call 131; go_must (refine (ES.out _ HPf.out HMf.out).mono ?_); rintro e w4 ⟨rfl, hP4, hM4⟩; have P4 := Lib.hid hP4; have M4 := Lib.hid (HMf.out.trans hM4); have B4 := Lib.hid (bldF_keep2 HBf.out (fun q h1 h2 => hM4.block q h2 (by omega))); have hsz4 := Nat.le_trans hszf hM4.size; clear hP4 hM4) | (go_at_call 44; go_must (refine (writeString_any w1.heap.size w1.heap.size (Lib.byteCells b) ⟨b'.toArray⟩ _ B4.out hbl5 hsz4).mono ?_); rintro e w3 ⟨rfl, hu3, hk3⟩; have U3 := Lib.hid hu3; have K3 := Lib.hid hk3; clear hu3 hk3))
                    go_roundw
                    case rel =>
                      refine ⟨k + 2 + j, m, b ++ b', ln || ln', by omega, by omega, by simp; omega, ?_, by rw [← Bool.or_assoc]; exact (K3.out.1.block p hlt1).trans P4.out, M4.out.then_below HM1.out.size K3.out.1, Nat.le_trans hsz4 K3.out.1.size, HRV.out, by omega⟩
                      have := U3.out
                      rw [HBZ.out] at this
                      exact .inr this
                    case measure => rw [pmeas_eq ((K3.out.1.block p hlt1).trans P4.out), pmeas_eq HPm.out]; omega
                · rw [txtD_s _ _ _ h117] at hRk
                  have k117 : (y == 117) = false := by
                    rw [beq_eq_false_iff_ne, ← hy]
                    intro h
                    exact h117 (UInt8.toNat_inj.1 (by show d.toNat = 117; omega))
                  obtain ⟨i, hi⟩ : ∃ i, escI d = i := ⟨_, rfl⟩
                  have IX := Lib.hid (fun W => idx_esc d W)
                  rw [hi] at IX
                  rw [hy] at IX
                  cases hS : escS d with
                  | none =>
                    have hi0 := escI_none hS
                    rw [hi] at hi0
                    have k5 : decide (i < 0) = true := decide_eq_true hi0
                    have hRv : R = none := by
                      rw [hRk, hS]
                      rfl
                    have HRV := Lib.hid hRv
                    clear hRk hRv hS h117 hbl HR HR0 h34 h32 hd hc hi
                    go_wp2_with fail
                    go_big_quiet (fail)
                    go_wp2_with fail
                    generalize hwa : wr.drewN nq = wa
                    have HPa := Lib.hid (show PCell wa p s k lv sv (lone || ln) deep from hwa ▸ HP.out)
                    have HMa := Lib.hid (show PMv p w wa from hwa ▸ HM.out.trans (drewN_pmv p wr nq))
                    have HBa := Lib.hid (show BldF w1.heap.size w1.heap.size (Lib.byteCells b) wa from hwa ▸ HB.out)
                    have hsza : w1.heap.size ≤ wa.heap.size := hwa ▸ hsz
                    clear c0 c1 f1 HP HM HB hsz hwa
                    have c0 := blkc HPa.out 0 rfl
                    have c1 := blkc HPa.out 1 rfl
                    have f1 := blk_frozen HPa.out 1
                    go_big_quiet (fail)
                    generalize hwb : wa.drewN nq = wb
                    have hPb := PCell.at_ (w := wb) (show PCell wb p s k lv sv (lone || ln) deep from hwb ▸ HPa.out) (k + 1) (x := (k : Int) + 1) (by omega)
                    have hMb := (show PMv p w wb from hwb ▸ HMa.out.trans (drewN_pmv p wa nq)).set 1 (.int .i64 ((k : Int) + 1))
                    have hBb := bldF_set (w := wb) (j := 1) (show BldF w1.heap.size w1.heap.size (Lib.byteCells b) wb from hwb ▸ HBa.out) hlt1 (.int .i64 ((k : Int) + 1))
                    have hszb : w1.heap.size ≤ (wb.setCell ⟨p, 1, none⟩ (.int .i64 ((k : Int) + 1))).heap.size := by simp [World.setCell]; rw [← hwb]; exact hsza
                    clear c0 c1 f1
                    have hPk := (show PCell wb p s k lv sv (lone || ln) deep from hwb ▸ HPa.out)
                    have c1 := blkc hPk 1 rfl
                    have f1 := blk_frozen hPk 1
                    clear HPa HMa HBa hsza hPk
                    go_wp2_with fail
                    clear c1 f1
                    generalize hwc : wb.setCell ⟨p, 1, none⟩ (.int .i64 ((k : Int) + 1)) = wc
                    rw [hwc] at hPb hMb hBb hszb
                    have HPb := Lib.hid hPb
                    have HMb := Lib.hid hMb
                    have HBb := Lib.hid hBb
                    have c0 := blkc hPb 0 rfl
                    have c1 := blkc hPb 1 rfl
                    clear hPb hMb hBb hwb hwc
                    go_big_quiet (fail)
                    generalize hwd : wc.drewN nq = wd
                    have HPd := Lib.hid (show PCell wd p s (k + 1) lv sv (lone || ln) deep from hwd ▸ HPb.out)
                    have HMd := Lib.hid (show PMv p w wd from hwd ▸ HMb.out.trans (drewN_pmv p wc nq))
                    have HBd := Lib.hid (show BldF w1.heap.size w1.heap.size (Lib.byteCells b) wd from hwd ▸ HBb.out)
                    have hszd : w1.heap.size ≤ wd.heap.size := hwd ▸ hszb
                    clear c0 c1 HPb HMb HBb hszb hwd
                    have c0 := blkc HPd.out 0 rfl
                    have c1 := blkc HPd.out 1 rfl
                    go_wp2_with fail
                    go_big_quiet (fail)
                    generalize hwe : wd.drewN nq = we
                    have hPe := (show PCell we p s (k + 1) lv sv (lone || ln) deep from hwe ▸ HPd.out)
                    have c1 := blkc hPe 1 rfl
                    have f1 := blk_frozen hPe 1
                    have hPf := PCell.at_ (w := we) hPe (k + 2) (x := (k : Int) + 1 + 1) (by omega)
                    have hMf := (show PMv p w we from hwe ▸ HMd.out.trans (drewN_pmv p wd nq)).set 1 (.int .i64 ((k : Int) + 1 + 1))
                    have hBf := bldF_set (w := we) (j := 1) (show BldF w1.heap.size w1.heap.size (Lib.byteCells b) we from hwe ▸ HBd.out) hlt1 (.int .i64 ((k : Int) + 1 + 1))
                    have hszf : w1.heap.size ≤ (we.setCell ⟨p, 1, none⟩ (.int .i64 ((k : Int) + 1 + 1))).heap.size := by simp [World.setCell]; rw [← hwe]; exact hszd
                    have HPf := Lib.hid hPf
                    have HMf := Lib.hid hMf
                    have HBf := Lib.hid hBf
                    clear hPf hMf hBf HPd HMd HBd hPe hwe
                    go_wp2_with (go_at_call 109; go_must (refine (IX.out _).mono ?_); rintro e w4 ⟨rfl, rfl⟩)
                    go_ret2
                    rw [HRV.out]
                    exact ⟨rfl, ⟨k + 2, _, by omega, HPf.out⟩, HMf.out⟩
                  | some x =>
                    obtain ⟨hi0, hi8, hix⟩ := escI_some hS
                    rw [hi] at hi0 hi8 hix
                    have k5 : decide (i < 0) = false := decide_eq_false (by omega)
                    obtain ⟨m, rfl⟩ : ∃ m, n = m + 1 := ⟨n - 1, by omega⟩
                    have hRv : R = thenT (b ++ [x]) (k + 2 - a) ln (txtD (m + 1) (s.data.toList.drop (k + 2))) := by
                      rw [hRk, hS]
                      show thenT b (k - a) ln (thenT [x] 2 false _) = _
                      rw [thenT_app, Bool.or_false, show k - a + 2 = k + 2 - a by omega]
                    have HRV := Lib.hid hRv
                    have HBZ := Lib.hid (show ∀ h, Lib.byteCells b ++ [.int .u8 (((⟨#[34, 92, 47, 8, 12, 10, 13, 9]⟩ : ByteArray)[i.toNat]'h).toNat : Int)] = Lib.byteCells (b ++ [x]) from fun h => by
                      have e : (⟨#[34, 92, 47, 8, 12, 10, 13, 9]⟩ : ByteArray)[i.toNat]'h = x := by
                        rw [← hix, List.getD_eq_getElem?_getD, List.getElem?_eq_getElem (show (i.toNat : Nat) < 8 by omega)]
                        rfl
                      rw [e]
                      simp [Lib.byteCells])
                    clear hRk hRv hS h117 HR HR0 h34 h32 hd hc hi
                    go_wp2_with fail
                    go_big_quiet (fail)
                    go_wp2_with fail
                    generalize hwa : wr.drewN nq = wa
                    have HPa := Lib.hid (show PCell wa p s k lv sv (lone || ln) deep from hwa ▸ HP.out)
                    have HMa := Lib.hid (show PMv p w wa from hwa ▸ HM.out.trans (drewN_pmv p wr nq))
                    have HBa := Lib.hid (show BldF w1.heap.size w1.heap.size (Lib.byteCells b) wa from hwa ▸ HB.out)
                    have hsza : w1.heap.size ≤ wa.heap.size := hwa ▸ hsz
                    clear c0 c1 f1 HP HM HB hsz hwa
                    have c0 := blkc HPa.out 0 rfl
                    have c1 := blkc HPa.out 1 rfl
                    have f1 := blk_frozen HPa.out 1
                    go_big_quiet (fail)
                    generalize hwb : wa.drewN nq = wb
                    have hPb := PCell.at_ (w := wb) (show PCell wb p s k lv sv (lone || ln) deep from hwb ▸ HPa.out) (k + 1) (x := (k : Int) + 1) (by omega)
                    have hMb := (show PMv p w wb from hwb ▸ HMa.out.trans (drewN_pmv p wa nq)).set 1 (.int .i64 ((k : Int) + 1))
                    have hBb := bldF_set (w := wb) (j := 1) (show BldF w1.heap.size w1.heap.size (Lib.byteCells b) wb from hwb ▸ HBa.out) hlt1 (.int .i64 ((k : Int) + 1))
                    have hszb : w1.heap.size ≤ (wb.setCell ⟨p, 1, none⟩ (.int .i64 ((k : Int) + 1))).heap.size := by simp [World.setCell]; rw [← hwb]; exact hsza
                    clear c0 c1 f1
                    have hPk := (show PCell wb p s k lv sv (lone || ln) deep from hwb ▸ HPa.out)
                    have c1 := blkc hPk 1 rfl
                    have f1 := blk_frozen hPk 1
                    clear HPa HMa HBa hsza hPk
                    go_wp2_with fail
                    clear c1 f1
                    generalize hwc : wb.setCell ⟨p, 1, none⟩ (.int .i64 ((k : Int) + 1)) = wc
                    rw [hwc] at hPb hMb hBb hszb
                    have HPb := Lib.hid hPb
                    have HMb := Lib.hid hMb
                    have HBb := Lib.hid hBb
                    have c0 := blkc hPb 0 rfl
                    have c1 := blkc hPb 1 rfl
                    clear hPb hMb hBb hwb hwc
                    go_big_quiet (fail)
                    generalize hwd : wc.drewN nq = wd
                    have HPd := Lib.hid (show PCell wd p s (k + 1) lv sv (lone || ln) deep from hwd ▸ HPb.out)
                    have HMd := Lib.hid (show PMv p w wd from hwd ▸ HMb.out.trans (drewN_pmv p wc nq))
                    have HBd := Lib.hid (show BldF w1.heap.size w1.heap.size (Lib.byteCells b) wd from hwd ▸ HBb.out)
                    have hszd : w1.heap.size ≤ wd.heap.size := hwd ▸ hszb
                    clear c0 c1 HPb HMb HBb hszb hwd
                    have c0 := blkc HPd.out 0 rfl
                    have c1 := blkc HPd.out 1 rfl
                    go_wp2_with fail
                    go_big_quiet (fail)
                    generalize hwe : wd.drewN nq = we
                    have hPe := (show PCell we p s (k + 1) lv sv (lone || ln) deep from hwe ▸ HPd.out)
                    have c1 := blkc hPe 1 rfl
                    have f1 := blk_frozen hPe 1
                    have hPf := PCell.at_ (w := we) hPe (k + 2) (x := (k : Int) + 1 + 1) (by omega)
                    have hMf := (show PMv p w we from hwe ▸ HMd.out.trans (drewN_pmv p wd nq)).set 1 (.int .i64 ((k : Int) + 1 + 1))
                    have hBf := bldF_set (w := we) (j := 1) (show BldF w1.heap.size w1.heap.size (Lib.byteCells b) we from hwe ▸ HBd.out) hlt1 (.int .i64 ((k : Int) + 1 + 1))
                    have hszf : w1.heap.size ≤ (we.setCell ⟨p, 1, none⟩ (.int .i64 ((k : Int) + 1 + 1))).heap.size := by simp [World.setCell]; rw [← hwe]; exact hszd
                    have HPf := Lib.hid hPf
                    have HMf := Lib.hid hMf
                    have HBf := Lib.hid hBf
                    clear hPf hMf hBf HPd HMd HBd hPe hwe
                    go_wp2_with (first | (go_at_call 109; go_must (refine (IX.out _).mono ?_); rintro e w4 ⟨rfl, rfl⟩) | (go_at_call 47; go_must (refine (writeByte_any w1.heap.size w1.heap.size (Lib.byteCells b) _ _ HBf.out hbl4 hszf).mono ?_); rintro e w3 ⟨rfl, hu3, hk3⟩; have U3 := Lib.hid hu3; have K3 := Lib.hid hk3; clear hu3 hk3))
                    go_roundw
                    case rel =>
                      refine ⟨k + 2, m, b ++ [x], ln, by omega, by omega, by simp; omega, ?_, (K3.out.1.block p hlt1).trans HPf.out, HMf.out.then_below HM1.out.size K3.out.1, Nat.le_trans hszf K3.out.1.size, HRV.out, by omega⟩
                      have := U3.out
                      rw [HBZ.out] at this
                      exact .inr this
                    case measure => rw [pmeas_eq ((K3.out.1.block p hlt1).trans HPf.out), pmeas_eq HPm.out]; omega
              · have e1 : ((k : Int) + 1 == (s.size : Int)) = true := by rw [beq_iff_eq]; omega
                have hRv : R = none := by
                  rw [hRk, List.drop_of_length_le (by simp; omega), txtD_lone]
                  rfl
                have HRV := Lib.hid hRv
                clear hRk hRv hbl HR HR0 h34 h32
                go_wp2_with fail
                go_big_quiet (fail)
                go_wp2_with fail
                generalize hwa : wr.drewN nq = wa
                have HPa := Lib.hid (show PCell wa p s k lv sv (lone || ln) deep from hwa ▸ HP.out)
                have HMa := Lib.hid (show PMv p w wa from hwa ▸ HM.out.trans (drewN_pmv p wr nq))
                have HBa := Lib.hid (show BldF w1.heap.size w1.heap.size (Lib.byteCells b) wa from hwa ▸ HB.out)
                have hsza : w1.heap.size ≤ wa.heap.size := hwa ▸ hsz
                clear c0 c1 f1 HP HM HB hsz hwa
                have c0 := blkc HPa.out 0 rfl
                have c1 := blkc HPa.out 1 rfl
                have f1 := blk_frozen HPa.out 1
                go_big_quiet (fail)
                generalize hwb : wa.drewN nq = wb
                have hPb := PCell.at_ (w := wb) (show PCell wb p s k lv sv (lone || ln) deep from hwb ▸ HPa.out) (k + 1) (x := (k : Int) + 1) (by omega)
                have hMb := (show PMv p w wb from hwb ▸ HMa.out.trans (drewN_pmv p wa nq)).set 1 (.int .i64 ((k : Int) + 1))
                have hBb := bldF_set (w := wb) (j := 1) (show BldF w1.heap.size w1.heap.size (Lib.byteCells b) wb from hwb ▸ HBa.out) hlt1 (.int .i64 ((k : Int) + 1))
                have hszb : w1.heap.size ≤ (wb.setCell ⟨p, 1, none⟩ (.int .i64 ((k : Int) + 1))).heap.size := by simp [World.setCell]; rw [← hwb]; exact hsza
                clear c0 c1 f1
                have hPk := (show PCell wb p s k lv sv (lone || ln) deep from hwb ▸ HPa.out)
                have c1 := blkc hPk 1 rfl
                have f1 := blk_frozen hPk 1
                clear HPa HMa HBa hsza hPk
                go_wp2_with fail
                clear c1 f1
                generalize hwc : wb.setCell ⟨p, 1, none⟩ (.int .i64 ((k : Int) + 1)) = wc
                rw [hwc] at hPb hMb hBb hszb
                have HPb := Lib.hid hPb
                have HMb := Lib.hid hMb
                have HBb := Lib.hid hBb
                have c0 := blkc hPb 0 rfl
                have c1 := blkc hPb 1 rfl
                clear hPb hMb hBb hwb hwc
                go_big_quiet (fail)
                go_wp2_with fail
                go_ret2
                rw [HRV.out]
                exact ⟨rfl, ⟨k + 1, _, by omega, HPb.out⟩, HMb.out.trans (drewN_pmv p wc nq)⟩
            · have hc92 := h92
              have k92 : (z == 92) = false := by
                rw [beq_eq_false_iff_ne, ← hz]
                intro h
                exact hc92 (UInt8.toNat_inj.1 (by show c.toNat = 92; omega))
              rw [txtD_plain n _ h34 h32 hc92, thenT_app, Bool.or_false] at hRk
              obtain ⟨m, rfl⟩ : ∃ m, n = m + 1 := ⟨n - 1, by omega⟩
              have HRV := Lib.hid hRk
              have hbz : Lib.byteCells b ++ [.int .u8 z] = Lib.byteCells (b ++ [c]) := by rw [← hz]; simp [Lib.byteCells]
              have HBZ := Lib.hid hbz
              clear hRk h32 h34 hc92 HR HR0 h3 hbz
              go_wp2_with fail
              go_big_quiet (fail)
              go_wp2_with fail
              generalize hwa : wr.drewN nq = wa
              have HPa := Lib.hid (show PCell wa p s k lv sv (lone || ln) deep from hwa ▸ HP.out)
              have HMa := Lib.hid (show PMv p w wa from hwa ▸ HM.out.trans (drewN_pmv p wr nq))
              have HBa := Lib.hid (show BldF w1.heap.size w1.heap.size (Lib.byteCells b) wa from hwa ▸ HB.out)
              have hsza : w1.heap.size ≤ wa.heap.size := hwa ▸ hsz
              clear c0 c1 f1 HP HM HB hsz hwa
              have c0 := blkc HPa.out 0 rfl
              have c1 := blkc HPa.out 1 rfl
              have f1 := blk_frozen HPa.out 1
              go_big_quiet (fail)
              have HPb := Lib.hid (PCell.at_ (w := wa.drewN nq) HPa.out (k + 1) (x := (k : Int) + 1) (by omega))
              have HMb := Lib.hid ((HMa.out.trans (drewN_pmv p wa nq)).set 1 (.int .i64 ((k : Int) + 1)))
              have HBb := Lib.hid (bldF_set (w := wa.drewN nq) (j := 1) HBa.out hlt1 (.int .i64 ((k : Int) + 1)))
              have hszb : w1.heap.size ≤ ((wa.drewN nq).setCell ⟨p, 1, none⟩ (.int .i64 ((k : Int) + 1))).heap.size := by simp [World.setCell]; exact hsza
              go_wp2_with (go_at_call 47; go_must (refine (writeByte_any w1.heap.size w1.heap.size (Lib.byteCells b) z _ HBb.out hbl4 hszb).mono ?_); rintro e w3 ⟨rfl, hu3, hk3⟩; have U3 := Lib.hid hu3; have K3 := Lib.hid hk3; clear hu3 hk3)
              go_roundw
              case rel =>
                refine ⟨k + 1, m, b ++ [c], ln, by omega, by omega, by simp; omega, ?_, (K3.out.1.block p hlt1).trans HPb.out, HMb.out.then_below HM1.out.size K3.out.1, Nat.le_trans hszb K3.out.1.size, ?_, by omega⟩
                · have := U3.out
                  rw [HBZ.out] at this
                  exact .inr this
                · rw [HRV.out, show k - a + 1 = k + 1 - a by omega]
              case measure => rw [pmeas_eq ((K3.out.1.block p hlt1).trans HPb.out), pmeas_eq HPm.out]; omega
      · have k1 : decide ((k : Int) < (s.size : Int)) = false := decide_eq_false (by omega)
        have k2 : decide (k < s.size) = false := decide_eq_false hkl
        have hRv : R = none := by
          rw [HR.out, List.drop_of_length_le (by simp; omega), txtD_nil]
          rfl
        go_wp2_with fail
        go_big_quiet (fail)
        go_wp2_with fail
        go_ret2
        rw [hRv]
        exact ⟨rfl, ⟨k, _, by omega, HP.out⟩, HM.out.trans (drewN_pmv p wr nq)⟩
  · have hq : takeP s a 34 = false := by cases h : takeP s a 34; rfl; exact absurd h hq
    have hR : textP s a = none := by
      unfold takeP at hq
      unfold textP
      by_cases h : a < s.size
      · rw [List.getElem?_eq_getElem (by simpa using h)] at hq
        rw [drop_at s a h]
        have := of_decide_eq_false hq
        show (if s[a] = 34 then _ else _) = _
        rw [if_neg]
        intro e
        apply this
        show ((s[a].toNat : Nat) : Int) = 34
        rw [e]
        rfl
      · rw [List.drop_of_length_le (by simp; omega)]
    rw [hR]
    rw [hq] at HTK
    go_enter Tryz.func113, Tryz.ntmps113
    go_wp2_with (go_at_call 94; go_must (refine HTK.out.mono ?_); rintro e w1 ⟨rfl, hP1, hM1⟩)
    go_ret2
    exact ⟨rfl, ⟨a, _, ha, hP1⟩, hM1⟩
end Go.Proofs.YtfocognhcljhpaaGreatDoor
