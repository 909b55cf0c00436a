/- Texts taken together, trimmed. -/
import Derived.Test.YtfocognhcljhpaaGreatDoorP5
import Derived.Laws.BytesArg
import Derived.MapKept
namespace Go.Proofs.YtfocognhcljhpaaGreatDoor
set_option linter.unusedVariables false
set_option linter.unusedSimpArgs false
open Go.RowKit Go.Proofs.YtfocognhcljhpaaGreatDoorW.PrintWords Go.Proofs.YtfocognhcljhpaaGreatDoorW.PrintMore Go.Proofs.YtfocognhcljhpaaGreatDoor.PPrintRows Go.Proofs.YtfocognhcljhpaaGreatDoor.Tree
def ptB (n : Int) : Bool := decide (0 ≤ n ∧ n ≤ 1114111 ∧ (n < 55296 ∨ 57343 < n))
theorem point4_any (n : Int) (w : World) : Calls Tryz.prog 104 #[.int .i64 n] w fun e w' => e = .returned (.bool (ptB n)) ∧ w' = w := by
  have e := ptB.eq_1 n
  by_cases h1 : 0 ≤ n
  · have k1 : decide (0 ≤ n) = true := decide_eq_true h1
    by_cases h2 : n ≤ 1114111
    · have k2 : decide (n ≤ 1114111) = true := decide_eq_true h2
      by_cases h3 : n < 55296
      · have k3 : decide (n < 55296) = true := decide_eq_true h3
        rw [decide_eq_true (by omega)] at e
        rw [e]
        clear h1 h2 h3 e
        go_enter Tryz.func104, Tryz.ntmps104
        go_wp2
        go_ret
        exact ⟨rfl, rfl⟩
      · have k3 : decide (n < 55296) = false := decide_eq_false h3
        by_cases h4 : 57343 < n
        · have k4 : decide (57343 < n) = true := decide_eq_true h4
          rw [decide_eq_true (by omega)] at e
          rw [e]
          clear h1 h2 h3 h4 e
          go_enter Tryz.func104, Tryz.ntmps104
          go_wp2
          go_ret
          exact ⟨rfl, rfl⟩
        · have k4 : decide (57343 < n) = false := decide_eq_false h4
          rw [decide_eq_false (by omega)] at e
          rw [e]
          clear h1 h2 h3 h4 e
          go_enter Tryz.func104, Tryz.ntmps104
          go_wp2
          go_ret
          exact ⟨rfl, rfl⟩
    · have k2 : decide (n ≤ 1114111) = false := decide_eq_false h2
      rw [decide_eq_false (by omega)] at e
      rw [e]
      clear h1 h2 e
      go_enter Tryz.func104, Tryz.ntmps104
      go_wp2
      go_ret
      exact ⟨rfl, rfl⟩
  · have k1 : decide (0 ≤ n) = false := decide_eq_false h1
    rw [decide_eq_false (by omega)] at e
    rw [e]
    clear h1 e
    go_enter Tryz.func104, Tryz.ntmps104
    go_wp2
    go_ret
    exact ⟨rfl, rfl⟩
def putB (n : Int) : ByteArray := ⟨((Utf.putI n).map fun x => UInt8.ofNat x.toNat).toArray⟩
theorem putB_no {n : Int} (h : ptB n = false) : putB n = ⟨#[]⟩ := by
  have h := of_decide_eq_false h
  unfold putB Utf.putI
  rw [if_neg h]
  rfl
/-- Bytes that a call has just built, as a text. -/
theorem conv_new (w : World) (xs : List Int) (C : Array Value) (n : Nat) (hn : xs.length = n) (hC : C = (xs.map (Value.int .u8)).toArray) :
    (convert 81 9 (.slice (some ⟨w.heap.size, 0, none⟩) n n)).run Tryz.prog (w.alloc (.cells C 5 (0, 0))) = .ok (.string (strOfNums xs)) (w.alloc (.cells C 5 (0, 0))) :=
  run_convert_bytes_arg (w.alloc (.cells C 5 (0, 0))) 81 5 Tryz.underlying81 Tryz.underlying5 w.heap.size 0 n n xs hn (fun i hi => by
    refine (blkc (blk_new w _) (0 + i) (v := .int .u8 (xs.getD i 0)) ?_)
    rw [Nat.zero_add, hC, List.getElem?_toArray, List.getElem?_map, List.getD_eq_getElem?_getD, List.getElem?_eq_getElem (by omega)]
    rfl) 9 Tryz.underlying9
set_option maxRecDepth 100000 in
set_option maxHeartbeats 2000000 in
theorem put4_any (n : Int) (w : World) : Calls Tryz.prog 82 #[.int .i64 n] w fun e w' => e = .returned (.string (putB n)) ∧ Below w.heap.size w w' := by
  have PT := Lib.hid (fun W => point4_any n W)
  obtain ⟨b, hb⟩ : ∃ b, ptB n = b := ⟨_, rfl⟩
  rw [hb] at PT
  cases b with
  | false =>
    rw [putB_no hb]
    clear hb
    go_enter Tryz.func82, Tryz.ntmps82
    go_wp2_with (go_at_call 104; go_must (refine (PT.out _).mono ?_); rintro e w1 ⟨rfl, rfl⟩)
    go_ret
    exact ⟨rfl, Below.refl _ _⟩
  | true =>
    have hp := of_decide_eq_true hb
    by_cases h1 : n < 128
    · have k1 : decide (n < 128) = true := decide_eq_true h1
      have hpv : putB n = strOfNums [n] := by unfold putB Utf.putI; rw [if_pos hp, if_pos h1]; rfl
      rw [hpv]
      have u1 : IntKind.u8.wrap n = n := IntWalk.u8_in n (by omega)
      have cv := conv_new w [n] #[.int .u8 n] 1 rfl rfl
      clear hb hp h1 hpv
      go_enter Tryz.func82, Tryz.ntmps82
      go_wp2_with (go_at_call 104; go_must (refine (PT.out _).mono ?_); rintro e w1 ⟨rfl, rfl⟩)
      go_ret
      exact ⟨rfl, below_alloc (Below.refl _ _) _⟩
    · have k1 : decide (n < 128) = false := decide_eq_false h1
      have hn0 : 0 ≤ n := hp.1
      by_cases h2 : n < 2048
      · have k2 : decide (n < 2048) = true := decide_eq_true h2
        have hpv : putB n = strOfNums [192 + n / 64, 128 + n % 64] := by unfold putB Utf.putI; rw [if_pos hp, if_neg h1, if_pos h2]; rfl
        rw [hpv]
        have u0 : IntKind.u8.wrap (192 + n / 64) = 192 + n / 64 := IntWalk.u8_in _ (by omega)
        have u1 : IntKind.u8.wrap (128 + n % 64) = 128 + n % 64 := IntWalk.u8_in _ (by omega)
        have cv := conv_new w [192 + n / 64, 128 + n % 64] #[.int .u8 (192 + n / 64), .int .u8 (128 + n % 64)] 2 rfl rfl
        clear hb hp h1 hpv
        go_enter Tryz.func82, Tryz.ntmps82
        go_wp2_with (go_at_call 104; go_must (refine (PT.out _).mono ?_); rintro e w1 ⟨rfl, rfl⟩)
        go_ret
        exact ⟨rfl, below_alloc (Below.refl _ _) _⟩
      · have k2 : decide (n < 2048) = false := decide_eq_false h2
        by_cases h3 : n < 65536
        · have k3 : decide (n < 65536) = true := decide_eq_true h3
          have hpv : putB n = strOfNums [224 + n / 4096, 128 + n / 64 % 64, 128 + n % 64] := by unfold putB Utf.putI; rw [if_pos hp, if_neg h1, if_neg h2, if_pos h3]; rfl
          rw [hpv]
          have u0 : IntKind.u8.wrap (224 + n / 4096) = 224 + n / 4096 := IntWalk.u8_in _ (by omega)
          have u1 : IntKind.u8.wrap (128 + n / 64 % 64) = 128 + n / 64 % 64 := IntWalk.u8_in _ (by omega)
          have u2 : IntKind.u8.wrap (128 + n % 64) = 128 + n % 64 := IntWalk.u8_in _ (by omega)
          have cv := conv_new w [224 + n / 4096, 128 + n / 64 % 64, 128 + n % 64] #[.int .u8 (224 + n / 4096), .int .u8 (128 + n / 64 % 64), .int .u8 (128 + n % 64)] 3 rfl rfl
          clear hb hp h1 h2 hpv
          go_enter Tryz.func82, Tryz.ntmps82
          go_wp2_with (go_at_call 104; go_must (refine (PT.out _).mono ?_); rintro e w1 ⟨rfl, rfl⟩)
          go_ret
          exact ⟨rfl, below_alloc (Below.refl _ _) _⟩
        · have k3 : decide (n < 65536) = false := decide_eq_false h3
          have h5 : n ≤ 1114111 := hp.2.1
          have hpv : putB n = strOfNums [240 + n / 262144, 128 + n / 4096 % 64, 128 + n / 64 % 64, 128 + n % 64] := by unfold putB Utf.putI; rw [if_pos hp, if_neg h1, if_neg h2, if_neg h3]; rfl
          rw [hpv]
          have u0 : IntKind.u8.wrap (240 + n / 262144) = 240 + n / 262144 := IntWalk.u8_in _ (by omega)
          have u1 : IntKind.u8.wrap (128 + n / 4096 % 64) = 128 + n / 4096 % 64 := IntWalk.u8_in _ (by omega)
          have u2 : IntKind.u8.wrap (128 + n / 64 % 64) = 128 + n / 64 % 64 := IntWalk.u8_in _ (by omega)
          have u3 : IntKind.u8.wrap (128 + n % 64) = 128 + n % 64 := IntWalk.u8_in _ (by omega)
          have cv := conv_new w [240 + n / 262144, 128 + n / 4096 % 64, 128 + n / 64 % 64, 128 + n % 64] #[.int .u8 (240 + n / 262144), .int .u8 (128 + n / 4096 % 64), .int .u8 (128 + n / 64 % 64), .int .u8 (128 + n % 64)] 4 rfl rfl
          clear hb hp h1 h2 h3 hpv
          go_enter Tryz.func82, Tryz.ntmps82
          go_wp2_with (go_at_call 104; go_must (refine (PT.out _).mono ?_); rintro e w1 ⟨rfl, rfl⟩)
          go_ret
          exact ⟨rfl, below_alloc (Below.refl _ _) _⟩
end Go.Proofs.YtfocognhcljhpaaGreatDoor
namespace Go.Proofs.YtfocognhcljhpaaGreatDoor.Utf
theorem one_first (s : List Int) (hs : ∀ x ∈ s, 0 ≤ x ∧ x < 256) : oneI s = match firstI s with | none => -1 | some p => p.1 := by
  match s, hs with
  | [], _ => rfl
  | a :: t, hs =>
    have ha := hs a (by simp)
    unfold oneI firstI
    dsimp only
    by_cases h1 : a < 128
    · rw [if_pos ((put1 a ha).2 h1), if_pos h1]
    · rw [if_neg (fun h => h1 ((put1 a ha).1 h)), if_neg h1]
      match t, hs with
      | [], _ =>
        dsimp only
        by_cases g1 : 192 ≤ a ∧ a < 224
        · rw [if_pos g1]
        · rw [if_neg g1]
          by_cases g2 : 224 ≤ a ∧ a < 240
          · rw [if_pos g2]
          · rw [if_neg g2]
            by_cases g3 : 240 ≤ a ∧ a < 248
            · rw [if_pos g3]
            · rw [if_neg g3]
      | b :: t, hs =>
        have hb := hs b (by simp)
        dsimp only
        by_cases h2 : (192 ≤ a ∧ a < 224) ∧ (128 ≤ b ∧ b < 192) ∧ 128 ≤ p2 a b
        · rw [if_pos ((put2 a b ha hb).2 h2), if_pos h2.1, if_pos h2.2]
        · rw [if_neg (fun h => h2 ((put2 a b ha hb).1 h))]
          match t, hs with
          | [], _ =>
            by_cases g1 : 192 ≤ a ∧ a < 224
            · rw [if_pos g1, if_neg (fun h => h2 ⟨g1, h⟩)]
            · rw [if_neg g1]
              by_cases g2 : 224 ≤ a ∧ a < 240
              · rw [if_pos g2]
              · rw [if_neg g2]
                by_cases g3 : 240 ≤ a ∧ a < 248
                · rw [if_pos g3]
                · rw [if_neg g3]
          | c :: t, hs =>
            have hc := hs c (by simp)
            dsimp only
            by_cases h3 : (224 ≤ a ∧ a < 240) ∧ (128 ≤ b ∧ b < 192) ∧ (128 ≤ c ∧ c < 192) ∧ 2048 ≤ p3 a b c ∧ (p3 a b c < 55296 ∨ 57343 < p3 a b c)
            · rw [if_pos ((put3 a b c ha hb hc).2 h3), if_neg (by omega), if_pos h3.1, if_pos h3.2]
            · rw [if_neg (fun h => h3 ((put3 a b c ha hb hc).1 h))]
              by_cases g1 : 192 ≤ a ∧ a < 224
              · rw [if_pos g1, if_neg (fun h => h2 ⟨g1, h⟩)]
                match t, hs with
                | [], _ => rfl
                | d :: t, hs => dsimp only; rw [if_neg (fun h => by have := (put4 a b c d ha hb hc (hs d (by simp))).1 h; omega)]
              · rw [if_neg g1]
                by_cases g2 : 224 ≤ a ∧ a < 240
                · rw [if_pos g2, if_neg (fun h => h3 ⟨g2, h⟩)]
                  match t, hs with
                  | [], _ => rfl
                  | d :: t, hs => dsimp only; rw [if_neg (fun h => by have := (put4 a b c d ha hb hc (hs d (by simp))).1 h; omega)]
                · rw [if_neg g2]
                  match t, hs with
                  | [], _ =>
                    dsimp only
                    by_cases g3 : 240 ≤ a ∧ a < 248
                    · rw [if_pos g3]
                    · rw [if_neg g3]
                  | d :: t, hs =>
                    have hd := hs d (by simp)
                    dsimp only
                    by_cases h4 : (240 ≤ a ∧ a < 248) ∧ (128 ≤ b ∧ b < 192) ∧ (128 ≤ c ∧ c < 192) ∧ (128 ≤ d ∧ d < 192) ∧ 65536 ≤ p4 a b c d ∧ p4 a b c d ≤ 1114111
                    · rw [if_pos ((put4 a b c d ha hb hc hd).2 h4), if_pos h4.1, if_pos h4.2]
                    · rw [if_neg (fun h => h4 ((put4 a b c d ha hb hc hd).1 h))]
                      by_cases g3 : 240 ≤ a ∧ a < 248
                      · rw [if_pos g3, if_neg (fun h => h4 ⟨g3, h⟩)]
                      · rw [if_neg g3]
end Go.Proofs.YtfocognhcljhpaaGreatDoor.Utf
namespace Go.Proofs.YtfocognhcljhpaaGreatDoor
set_option linter.unusedVariables false
set_option linter.unusedSimpArgs false
open Go.RowKit Go.Proofs.YtfocognhcljhpaaGreatDoorW.PrintWords Go.Proofs.YtfocognhcljhpaaGreatDoorW.PrintMore Go.Proofs.YtfocognhcljhpaaGreatDoor.PPrintRows Go.Proofs.YtfocognhcljhpaaGreatDoor.Tree
def nK (l : List Int) : Nat → Int
  | 1 => l.getD 0 0
  | 2 => Utf.p2 (l.getD 0 0) (l.getD 1 0)
  | 3 => Utf.p3 (l.getD 0 0) (l.getD 1 0) (l.getD 2 0)
  | _ => Utf.p4 (l.getD 0 0) (l.getD 1 0) (l.getD 2 0) (l.getD 3 0)
/-- The document's One, from a size on. -/
def oneF (l : List Int) : Nat → Nat → Int
  | 0, _ => -1
  | f + 1, k => if l.length < k then -1 else if Utf.putI (nK l k) = l.take k then nK l k else oneF l f (k + 1)
theorem one_F (l : List Int) : Utf.oneI l = oneF l 4 1 := by
  match l with
  | [] => rfl
  | [a] =>
    simp only [Utf.oneI, oneF, nK, List.length_cons, List.length_nil, List.getD_cons_zero, List.take]
    simp
  | [a, b] =>
    simp only [Utf.oneI, oneF, nK, List.length_cons, List.length_nil, List.getD_cons_zero, List.getD_cons_succ, List.take]
    simp
  | [a, b, c] =>
    simp only [Utf.oneI, oneF, nK, List.length_cons, List.length_nil, List.getD_cons_zero, List.getD_cons_succ, List.take]
    simp
  | a :: b :: c :: d :: r =>
    simp only [Utf.oneI, oneF, nK, List.length_cons, List.getD_cons_zero, List.getD_cons_succ, List.take]
    rw [if_neg (show ¬ r.length + 1 + 1 + 1 + 1 < 1 by omega), if_neg (show ¬ r.length + 1 + 1 + 1 + 1 < 1 + 1 by omega), if_neg (show ¬ r.length + 1 + 1 + 1 + 1 < 1 + 1 + 1 by omega), if_neg (show ¬ r.length + 1 + 1 + 1 + 1 < 1 + 1 + 1 + 1 by omega)]
theorem ofInt_ints {l : List Int} {s : Bs} (h : l.map (fun x => UInt8.ofNat x.toNat) = s) (hl : ∀ x ∈ l, 0 ≤ x ∧ x < 256) : l = ints s := by
  rw [← h]
  unfold ints
  rw [List.map_map]
  conv => lhs; rw [← List.map_id l]
  apply List.map_congr_left
  intro x hx
  have := hl x hx
  show x = ((UInt8.ofNat x.toNat).toNat : Int)
  rw [UInt8.toNat_ofNat']
  omega
theorem putI_range (n : Int) : ∀ x ∈ Utf.putI n, 0 ≤ x ∧ x < 256 := by
  intro x hx
  unfold Utf.putI at hx
  split at hx
  · rename_i h
    split at hx
    · simp at hx; omega
    · split at hx
      · simp at hx; omega
      · split at hx
        · simp at hx; omega
        · simp at hx; omega
  · cases hx
theorem int_take (l : Bs) (k : Nat) : ints (l.take k) = (ints l).take k := by simp [ints]
theorem ba_beq (x y : ByteArray) : (x == y) = true ↔ x = y := Go.MapKept.bytes_beq x y
theorem put_is (n : Int) (s : ByteArray) (k : Nat) : (putB n == s.extract 0 k) = decide (Utf.putI n = (ints s.data.toList).take k) := by
  rw [Bool.eq_iff_iff, ba_beq, decide_eq_true_iff]
  have e : (s.extract 0 k).data.toList = s.data.toList.take k := by
    rw [show s.extract 0 k = s.extract 0 (0 + k) by rw [Nat.zero_add], ext_take, List.drop_zero]
  constructor
  · intro h
    have h2 : (putB n).data.toList = (s.extract 0 k).data.toList := by rw [h]
    rw [e] at h2
    rw [← int_take]
    exact ofInt_ints h2 (putI_range n)
  · intro h
    apply ByteArray.ext
    apply Array.toList_inj.1
    rw [e]
    show (Utf.putI n).map _ = _
    rw [h, ← int_take]
    unfold ints
    rw [List.map_map]
    conv => rhs; rw [← List.map_id (s.data.toList.take k)]
    apply List.map_congr_left
    intro c _
    show UInt8.ofNat ((c.toNat : Int)).toNat = c
    simp
theorem int_at (s : ByteArray) (k : Nat) (h : k < s.size) : (ints s.data.toList).getD k 0 = (s[k].toNat : Int) := by
  unfold ints
  rw [List.getD_eq_getElem?_getD, List.getElem?_map, List.getElem?_eq_getElem (by simpa using h)]
  rfl
set_option maxRecDepth 100000 in
set_option maxHeartbeats 4000000 in
theorem one4_any (s : ByteArray) (hs : s.size ≤ 1000000000) (w : World) : Calls Tryz.prog 81 #[.string s] w fun e w' => e = .returned (.int .i64 (Utf.oneI (ints s.data.toList))) ∧ Below w.heap.size w w' := by
  have PU := Lib.hid (fun n W => put4_any n W)
  obtain ⟨R, hR⟩ : ∃ R, Utf.oneI (ints s.data.toList) = R := ⟨_, rfl⟩
  rw [hR]
  have hlen : (ints s.data.toList).length = s.size := by simp [ints]
  have hR1 : oneF (ints s.data.toList) 4 1 = R := by rw [← one_F]; exact hR
  have IA := Lib.hid (int_at s)
  clear hR
  go_enter Tryz.func81, Tryz.ntmps81
  go_wp2_with fail
  go_loopw [3, 4] (fun v3 v4 wr => ∃ k : Nat, 1 ≤ k ∧ k ≤ 5 ∧ v3 = .int .i64 (k : Int) ∧ oneF (ints s.data.toList) (5 - k) k = R ∧ Below w.heap.size w wr) (fun v3 _ _ => 5 - (intOf v3).toNat)
  case atStart => exact ⟨1, by omega, by omega, rfl, hR1, Below.refl _ _⟩
  case round =>
    obtain ⟨k, hk1, hk5, rfl, hRk, hB⟩ := hrel
    clear hR1
    have HB := Lib.hid hB
    have hkk : k = 1 ∨ k = 2 ∨ k = 3 ∨ k = 4 ∨ k = 5 := by omega
    clear hB hk1 hk5
    rcases hkk with rfl | rfl | rfl | rfl | rfl
    · by_cases h : 1 ≤ s.size
      · have k1 : decide ((1 : Int) ≤ (s.size : Int)) = true := decide_eq_true (by omega)
        have k2 : decide (1 ≤ s.size) = true := decide_eq_true h
        have m0 : decide (0 < s.size) = true := decide_eq_true (by omega)
        have n0 : decide ((0 : Int) < (s.size : Int)) = true := decide_eq_true (by omega)
        have r0 := (s[0]'(by omega)).toNat_lt
        obtain ⟨a, q0⟩ : ∃ z : Int, (((s[0]'(by omega)).toNat : Nat) : Int) = z := ⟨_, rfl⟩
        have i0 := (IA.out 0 (by omega)).trans q0
        have w0 : wrap64 a = a := wrap64_of _ (by omega) (by omega)
        have hnk : nK (ints s.data.toList) 1 = a := by show (ints s.data.toList).getD 0 0 = _; rw [i0]
        rw [show 5 - 1 = 3 + 1 by rfl, oneF, if_neg (by rw [hlen]; omega), hnk] at hRk
        obtain ⟨n, hn⟩ : ∃ n : Int, a = n := ⟨_, rfl⟩
        rw [hn] at hRk hnk
        have wn : wrap64 n = n := by rw [← hn]; exact wrap64_of _ (by omega) (by omega)
        have es : (1 : Int) ≤ (s.size : Int) := by omega
        obtain ⟨b9, hb9⟩ : ∃ b, decide (Utf.putI n = (ints s.data.toList).take 1) = b := ⟨_, rfl⟩
        have heq : (putB n == s.extract 0 1) = b9 := (put_is n s 1).trans hb9
        have HRK := Lib.hid hRk
        have HB9 := Lib.hid hb9
        clear hRk hnk hb9 i0 r0
        go_wp2_with fail
        simp only [wn]
        go_upto_region 13 with (fail)
        go_cut [79] (fun v79 wc => v79 = .bool b9 ∧ Below w.heap.size w wc)
        case first =>
          refine (wpIn_wide (n := 5)).1 ?_
          have hmo : Tryz.prog.follows .mixedOrders = true := by kernel_rfl
          refine region_g (fun _ => True) (fun _ => true) hmo ?_
          refine takeQ 0 ?vaaa0 trivial rfl (by kernel_rfl) ⟨fun _ => rfl, .inl ⟨by kernel_rfl, fun w' hw' => ?yaaa0⟩⟩ ?raaa0
          case' yaaa0 => (go_simp; with_reducible rfl)
          simp only [Act.put, List.setIfInBounds_toArray, List.set_cons_succ, List.set_cons_zero]
          refine takeQ 2 ?vaaa2 trivial rfl (by kernel_rfl) ⟨fun _ => rfl, .inl ⟨by kernel_rfl, fun w' hw' => ?yaaa2⟩⟩ ?raaa2
          case' yaaa2 => (go_simp; with_reducible rfl)
          simp only [Act.put, List.setIfInBounds_toArray, List.set_cons_succ, List.set_cons_zero]
          refine takeQ 3 ?vaaa3 trivial rfl (by kernel_rfl) ⟨fun _ => rfl, .inl ⟨by kernel_rfl, fun w' hw' => ?yaaa3⟩⟩ ?raaa3
          case' yaaa3 => (go_simp; with_reducible rfl)
          simp only [Act.put, List.setIfInBounds_toArray, List.set_cons_succ, List.set_cons_zero]
          refine takeQ 4 ?vaaa4 trivial rfl (by kernel_rfl) ⟨fun _ => rfl, .inl ⟨by kernel_rfl, fun w' hw' => ?yaaa4⟩⟩ ?raaa4
          case' yaaa4 => (go_simp; with_reducible rfl)
          simp only [Act.put, List.setIfInBounds_toArray, List.set_cons_succ, List.set_cons_zero]
          refine takeL 1 rfl (by kernel_rfl) ?_
          gi_wp2_with (refine ⟨trivial, ?_⟩; gi_at_call 82; go_must (refine ((callsIn_wide (n := 4)).2 (PU.out n _)).mono ?_); rintro e w9 ⟨rfl, hb⟩; have B9 := Lib.hid (show Below w.heap.size w w9 from (by first | exact (Below.drew HB.out).trans (hb.mono HB.out.size) | exact (pw_below_drewN HB.out _).trans (hb.mono HB.out.size))); clear hb)
          refine ⟨by first | exact fun _ => trivial | trivial, ?_⟩
          refine takeL 5 rfl (by kernel_rfl) ?_
          gi_wp2
          first | refine ⟨by first | exact fun _ => trivial | trivial, doneG (by kernel_rfl) ?_⟩ | refine doneG (by kernel_rfl) ?_
          gi_wp2
          go_meet
          exact ⟨by first | exact congrArg Value.bool ((beq_toListBytes _ _).symm.trans heq) | rw [heq], B9.out⟩
        case rest =>
          obtain ⟨rfl, hbc⟩ := hcut
          have HBC := Lib.hid hbc
          clear hbc
          cases b9 with
          | true =>
            have hr : n = R := by have := HRK.out; rwa [if_pos (of_decide_eq_true HB9.out)] at this
            subst hr
            go_wp2_with fail
            go_ret
            first | exact ⟨rfl, HBC.out⟩ | exact ⟨congrArg (fun z => Ending.returned (.int .i64 z)) wn, HBC.out⟩
          | false =>
            have hr := HRK.out
            rw [if_neg (of_decide_eq_false HB9.out)] at hr
            have HR2 := Lib.hid hr
            clear hr
            go_wp2_with fail
            go_roundw
            case rel => exact ⟨2, by omega, by omega, rfl, HR2.out, HBC.out⟩
            case measure => simp [intOf]
      · have k1 : decide ((1 : Int) ≤ (s.size : Int)) = false := decide_eq_false (by omega)
        have k2 : decide (1 ≤ s.size) = false := decide_eq_false h
        rw [show 5 - 1 = 3 + 1 by rfl, oneF, if_pos (by rw [hlen]; omega)] at hRk
        subst hRk
        go_wp2_with fail
        go_ret
        exact ⟨rfl, HB.out⟩
    · by_cases h : 2 ≤ s.size
      · have k1 : decide ((2 : Int) ≤ (s.size : Int)) = true := decide_eq_true (by omega)
        have k2 : decide (2 ≤ s.size) = true := decide_eq_true h
        have m0 : decide (0 < s.size) = true := decide_eq_true (by omega)
        have n0 : decide ((0 : Int) < (s.size : Int)) = true := decide_eq_true (by omega)
        have r0 := (s[0]'(by omega)).toNat_lt
        obtain ⟨a, q0⟩ : ∃ z : Int, (((s[0]'(by omega)).toNat : Nat) : Int) = z := ⟨_, rfl⟩
        have i0 := (IA.out 0 (by omega)).trans q0
        have w0 : wrap64 a = a := wrap64_of _ (by omega) (by omega)
        have m1 : decide (1 < s.size) = true := decide_eq_true (by omega)
        have n1 : decide ((1 : Int) < (s.size : Int)) = true := decide_eq_true (by omega)
        have r1 := (s[1]'(by omega)).toNat_lt
        obtain ⟨b, q1⟩ : ∃ z : Int, (((s[1]'(by omega)).toNat : Nat) : Int) = z := ⟨_, rfl⟩
        have i1 := (IA.out 1 (by omega)).trans q1
        have w1 : wrap64 b = b := wrap64_of _ (by omega) (by omega)
        have hnk : nK (ints s.data.toList) 2 = (a - 192) * 64 + b - 128 := by show Utf.p2 ((ints s.data.toList).getD 0 0) ((ints s.data.toList).getD 1 0) = _; rw [i0, i1]; rfl
        rw [show 5 - 2 = 2 + 1 by rfl, oneF, if_neg (by rw [hlen]; omega), hnk] at hRk
        have z0 : IntKind.i64.wrap (a - 192) = a - 192 := IntWalk.i64_in _ ⟨by omega, by omega⟩
        have z1 : IntKind.i64.wrap ((a - 192) * 64) = (a - 192) * 64 := IntWalk.i64_in _ ⟨by omega, by omega⟩
        have z2 : IntKind.i64.wrap ((a - 192) * 64 + b) = (a - 192) * 64 + b := IntWalk.i64_in _ ⟨by omega, by omega⟩
        have z3 : IntKind.i64.wrap ((a - 192) * 64 + b - 128) = (a - 192) * 64 + b - 128 := IntWalk.i64_in _ ⟨by omega, by omega⟩
        obtain ⟨n, hn⟩ : ∃ n : Int, (a - 192) * 64 + b - 128 = n := ⟨_, rfl⟩
        rw [hn] at hRk hnk z3
        have wn : wrap64 n = n := by rw [← hn]; exact wrap64_of _ (by omega) (by omega)
        have es : (2 : Int) ≤ (s.size : Int) := by omega
        obtain ⟨b9, hb9⟩ : ∃ b, decide (Utf.putI n = (ints s.data.toList).take 2) = b := ⟨_, rfl⟩
        have heq : (putB n == s.extract 0 2) = b9 := (put_is n s 2).trans hb9
        have HRK := Lib.hid hRk
        have HB9 := Lib.hid hb9
        clear hRk hnk hb9 i0 r0 i1 r1
        go_wp2_with fail
        go_big_quiet (fail)
        go_wp2_with fail
        go_upto_region 13 with (fail)
        go_cut [79] (fun v79 wc => v79 = .bool b9 ∧ Below w.heap.size w wc)
        case first =>
          refine (wpIn_wide (n := 5)).1 ?_
          have hmo : Tryz.prog.follows .mixedOrders = true := by kernel_rfl
          refine region_g (fun _ => True) (fun _ => true) hmo ?_
          refine takeQ 0 ?vabb0 trivial rfl (by kernel_rfl) ⟨fun _ => rfl, .inl ⟨by kernel_rfl, fun w' hw' => ?yabb0⟩⟩ ?rabb0
          case' yabb0 => (go_simp; with_reducible rfl)
          simp only [Act.put, List.setIfInBounds_toArray, List.set_cons_succ, List.set_cons_zero]
          refine takeQ 2 ?vabb2 trivial rfl (by kernel_rfl) ⟨fun _ => rfl, .inl ⟨by kernel_rfl, fun w' hw' => ?yabb2⟩⟩ ?rabb2
          case' yabb2 => (go_simp; with_reducible rfl)
          simp only [Act.put, List.setIfInBounds_toArray, List.set_cons_succ, List.set_cons_zero]
          refine takeQ 3 ?vabb3 trivial rfl (by kernel_rfl) ⟨fun _ => rfl, .inl ⟨by kernel_rfl, fun w' hw' => ?yabb3⟩⟩ ?rabb3
          case' yabb3 => (go_simp; with_reducible rfl)
          simp only [Act.put, List.setIfInBounds_toArray, List.set_cons_succ, List.set_cons_zero]
          refine takeQ 4 ?vabb4 trivial rfl (by kernel_rfl) ⟨fun _ => rfl, .inl ⟨by kernel_rfl, fun w' hw' => ?yabb4⟩⟩ ?rabb4
          case' yabb4 => (go_simp; with_reducible rfl)
          simp only [Act.put, List.setIfInBounds_toArray, List.set_cons_succ, List.set_cons_zero]
          refine takeL 1 rfl (by kernel_rfl) ?_
          gi_wp2_with (refine ⟨trivial, ?_⟩; gi_at_call 82; go_must (refine ((callsIn_wide (n := 4)).2 (PU.out n _)).mono ?_); rintro e w9 ⟨rfl, hb⟩; have B9 := Lib.hid (show Below w.heap.size w w9 from (by first | exact (Below.drew HB.out).trans (hb.mono HB.out.size) | exact (pw_below_drewN HB.out _).trans (hb.mono HB.out.size))); clear hb)
          refine ⟨by first | exact fun _ => trivial | trivial, ?_⟩
          refine takeL 5 rfl (by kernel_rfl) ?_
          gi_wp2
          first | refine ⟨by first | exact fun _ => trivial | trivial, doneG (by kernel_rfl) ?_⟩ | refine doneG (by kernel_rfl) ?_
          gi_wp2
          go_meet
          exact ⟨by first | exact congrArg Value.bool ((beq_toListBytes _ _).symm.trans heq) | rw [heq], B9.out⟩
        case rest =>
          obtain ⟨rfl, hbc⟩ := hcut
          have HBC := Lib.hid hbc
          clear hbc
          cases b9 with
          | true =>
            have hr : n = R := by have := HRK.out; rwa [if_pos (of_decide_eq_true HB9.out)] at this
            subst hr
            go_wp2_with fail
            go_ret
            first | exact ⟨rfl, HBC.out⟩ | exact ⟨congrArg (fun z => Ending.returned (.int .i64 z)) wn, HBC.out⟩
          | false =>
            have hr := HRK.out
            rw [if_neg (of_decide_eq_false HB9.out)] at hr
            have HR2 := Lib.hid hr
            clear hr
            go_wp2_with fail
            go_roundw
            case rel => exact ⟨3, by omega, by omega, rfl, HR2.out, HBC.out⟩
            case measure => simp [intOf]
      · have k1 : decide ((2 : Int) ≤ (s.size : Int)) = false := decide_eq_false (by omega)
        have k2 : decide (2 ≤ s.size) = false := decide_eq_false h
        rw [show 5 - 2 = 2 + 1 by rfl, oneF, if_pos (by rw [hlen]; omega)] at hRk
        subst hRk
        go_wp2_with fail
        go_ret
        exact ⟨rfl, HB.out⟩
    · by_cases h : 3 ≤ s.size
      · have k1 : decide ((3 : Int) ≤ (s.size : Int)) = true := decide_eq_true (by omega)
        have k2 : decide (3 ≤ s.size) = true := decide_eq_true h
        have m0 : decide (0 < s.size) = true := decide_eq_true (by omega)
        have n0 : decide ((0 : Int) < (s.size : Int)) = true := decide_eq_true (by omega)
        have r0 := (s[0]'(by omega)).toNat_lt
        obtain ⟨a, q0⟩ : ∃ z : Int, (((s[0]'(by omega)).toNat : Nat) : Int) = z := ⟨_, rfl⟩
        have i0 := (IA.out 0 (by omega)).trans q0
        have w0 : wrap64 a = a := wrap64_of _ (by omega) (by omega)
        have m1 : decide (1 < s.size) = true := decide_eq_true (by omega)
        have n1 : decide ((1 : Int) < (s.size : Int)) = true := decide_eq_true (by omega)
        have r1 := (s[1]'(by omega)).toNat_lt
        obtain ⟨b, q1⟩ : ∃ z : Int, (((s[1]'(by omega)).toNat : Nat) : Int) = z := ⟨_, rfl⟩
        have i1 := (IA.out 1 (by omega)).trans q1
        have w1 : wrap64 b = b := wrap64_of _ (by omega) (by omega)
        have m2 : decide (2 < s.size) = true := decide_eq_true (by omega)
        have n2 : decide ((2 : Int) < (s.size : Int)) = true := decide_eq_true (by omega)
        have r2 := (s[2]'(by omega)).toNat_lt
        obtain ⟨c, q2⟩ : ∃ z : Int, (((s[2]'(by omega)).toNat : Nat) : Int) = z := ⟨_, rfl⟩
        have i2 := (IA.out 2 (by omega)).trans q2
        have w2 : wrap64 c = c := wrap64_of _ (by omega) (by omega)
        have hnk : nK (ints s.data.toList) 3 = (a - 224) * 4096 + (b - 128) * 64 + c - 128 := by show Utf.p3 ((ints s.data.toList).getD 0 0) ((ints s.data.toList).getD 1 0) ((ints s.data.toList).getD 2 0) = _; rw [i0, i1, i2]; rfl
        rw [show 5 - 3 = 1 + 1 by rfl, oneF, if_neg (by rw [hlen]; omega), hnk] at hRk
        have z0 : IntKind.i64.wrap (a - 224) = a - 224 := IntWalk.i64_in _ ⟨by omega, by omega⟩
        have z1 : IntKind.i64.wrap ((a - 224) * 4096) = (a - 224) * 4096 := IntWalk.i64_in _ ⟨by omega, by omega⟩
        have z2 : IntKind.i64.wrap (b - 128) = b - 128 := IntWalk.i64_in _ ⟨by omega, by omega⟩
        have z3 : IntKind.i64.wrap ((b - 128) * 64) = (b - 128) * 64 := IntWalk.i64_in _ ⟨by omega, by omega⟩
        have z4 : IntKind.i64.wrap ((a - 224) * 4096 + (b - 128) * 64) = (a - 224) * 4096 + (b - 128) * 64 := IntWalk.i64_in _ ⟨by omega, by omega⟩
        have z5 : IntKind.i64.wrap ((a - 224) * 4096 + (b - 128) * 64 + c) = (a - 224) * 4096 + (b - 128) * 64 + c := IntWalk.i64_in _ ⟨by omega, by omega⟩
        have z6 : IntKind.i64.wrap ((a - 224) * 4096 + (b - 128) * 64 + c - 128) = (a - 224) * 4096 + (b - 128) * 64 + c - 128 := IntWalk.i64_in _ ⟨by omega, by omega⟩
        obtain ⟨n, hn⟩ : ∃ n : Int, (a - 224) * 4096 + (b - 128) * 64 + c - 128 = n := ⟨_, rfl⟩
        rw [hn] at hRk hnk z6
        have wn : wrap64 n = n := by rw [← hn]; exact wrap64_of _ (by omega) (by omega)
        have es : (3 : Int) ≤ (s.size : Int) := by omega
        obtain ⟨b9, hb9⟩ : ∃ b, decide (Utf.putI n = (ints s.data.toList).take 3) = b := ⟨_, rfl⟩
        have heq : (putB n == s.extract 0 3) = b9 := (put_is n s 3).trans hb9
        have HRK := Lib.hid hRk
        have HB9 := Lib.hid hb9
        clear hRk hnk hb9 i0 r0 i1 r1 i2 r2
        go_wp2_with fail
        go_big_quiet (fail)
        go_wp2_with fail
        go_upto_region 13 with (fail)
        go_cut [79] (fun v79 wc => v79 = .bool b9 ∧ Below w.heap.size w wc)
        case first =>
          refine (wpIn_wide (n := 5)).1 ?_
          have hmo : Tryz.prog.follows .mixedOrders = true := by kernel_rfl
          refine region_g (fun _ => True) (fun _ => true) hmo ?_
          refine takeQ 0 ?vacc0 trivial rfl (by kernel_rfl) ⟨fun _ => rfl, .inl ⟨by kernel_rfl, fun w' hw' => ?yacc0⟩⟩ ?racc0
          case' yacc0 => (go_simp; with_reducible rfl)
          simp only [Act.put, List.setIfInBounds_toArray, List.set_cons_succ, List.set_cons_zero]
          refine takeQ 2 ?vacc2 trivial rfl (by kernel_rfl) ⟨fun _ => rfl, .inl ⟨by kernel_rfl, fun w' hw' => ?yacc2⟩⟩ ?racc2
          case' yacc2 => (go_simp; with_reducible rfl)
          simp only [Act.put, List.setIfInBounds_toArray, List.set_cons_succ, List.set_cons_zero]
          refine takeQ 3 ?vacc3 trivial rfl (by kernel_rfl) ⟨fun _ => rfl, .inl ⟨by kernel_rfl, fun w' hw' => ?yacc3⟩⟩ ?racc3
          case' yacc3 => (go_simp; with_reducible rfl)
          simp only [Act.put, List.setIfInBounds_toArray, List.set_cons_succ, List.set_cons_zero]
          refine takeQ 4 ?vacc4 trivial rfl (by kernel_rfl) ⟨fun _ => rfl, .inl ⟨by kernel_rfl, fun w' hw' => ?yacc4⟩⟩ ?racc4
          case' yacc4 => (go_simp; with_reducible rfl)
          simp only [Act.put, List.setIfInBounds_toArray, List.set_cons_succ, List.set_cons_zero]
          refine takeL 1 rfl (by kernel_rfl) ?_
          gi_wp2_with (refine ⟨trivial, ?_⟩; gi_at_call 82; go_must (refine ((callsIn_wide (n := 4)).2 (PU.out n _)).mono ?_); rintro e w9 ⟨rfl, hb⟩; have B9 := Lib.hid (show Below w.heap.size w w9 from (by first | exact (Below.drew HB.out).trans (hb.mono HB.out.size) | exact (pw_below_drewN HB.out _).trans (hb.mono HB.out.size))); clear hb)
          refine ⟨by first | exact fun _ => trivial | trivial, ?_⟩
          refine takeL 5 rfl (by kernel_rfl) ?_
          gi_wp2
          first | refine ⟨by first | exact fun _ => trivial | trivial, doneG (by kernel_rfl) ?_⟩ | refine doneG (by kernel_rfl) ?_
          gi_wp2
          go_meet
          exact ⟨by first | exact congrArg Value.bool ((beq_toListBytes _ _).symm.trans heq) | rw [heq], B9.out⟩
        case rest =>
          obtain ⟨rfl, hbc⟩ := hcut
          have HBC := Lib.hid hbc
          clear hbc
          cases b9 with
          | true =>
            have hr : n = R := by have := HRK.out; rwa [if_pos (of_decide_eq_true HB9.out)] at this
            subst hr
            go_wp2_with fail
            go_ret
            first | exact ⟨rfl, HBC.out⟩ | exact ⟨congrArg (fun z => Ending.returned (.int .i64 z)) wn, HBC.out⟩
          | false =>
            have hr := HRK.out
            rw [if_neg (of_decide_eq_false HB9.out)] at hr
            have HR2 := Lib.hid hr
            clear hr
            go_wp2_with fail
            go_roundw
            case rel => exact ⟨4, by omega, by omega, rfl, HR2.out, HBC.out⟩
            case measure => simp [intOf]
      · have k1 : decide ((3 : Int) ≤ (s.size : Int)) = false := decide_eq_false (by omega)
        have k2 : decide (3 ≤ s.size) = false := decide_eq_false h
        rw [show 5 - 3 = 1 + 1 by rfl, oneF, if_pos (by rw [hlen]; omega)] at hRk
        subst hRk
        go_wp2_with fail
        go_ret
        exact ⟨rfl, HB.out⟩
    · by_cases h : 4 ≤ s.size
      · have k1 : decide ((4 : Int) ≤ (s.size : Int)) = true := decide_eq_true (by omega)
        have k2 : decide (4 ≤ s.size) = true := decide_eq_true h
        have m0 : decide (0 < s.size) = true := decide_eq_true (by omega)
        have n0 : decide ((0 : Int) < (s.size : Int)) = true := decide_eq_true (by omega)
        have r0 := (s[0]'(by omega)).toNat_lt
        obtain ⟨a, q0⟩ : ∃ z : Int, (((s[0]'(by omega)).toNat : Nat) : Int) = z := ⟨_, rfl⟩
        have i0 := (IA.out 0 (by omega)).trans q0
        have w0 : wrap64 a = a := wrap64_of _ (by omega) (by omega)
        have m1 : decide (1 < s.size) = true := decide_eq_true (by omega)
        have n1 : decide ((1 : Int) < (s.size : Int)) = true := decide_eq_true (by omega)
        have r1 := (s[1]'(by omega)).toNat_lt
        obtain ⟨b, q1⟩ : ∃ z : Int, (((s[1]'(by omega)).toNat : Nat) : Int) = z := ⟨_, rfl⟩
        have i1 := (IA.out 1 (by omega)).trans q1
        have w1 : wrap64 b = b := wrap64_of _ (by omega) (by omega)
        have m2 : decide (2 < s.size) = true := decide_eq_true (by omega)
        have n2 : decide ((2 : Int) < (s.size : Int)) = true := decide_eq_true (by omega)
        have r2 := (s[2]'(by omega)).toNat_lt
        obtain ⟨c, q2⟩ : ∃ z : Int, (((s[2]'(by omega)).toNat : Nat) : Int) = z := ⟨_, rfl⟩
        have i2 := (IA.out 2 (by omega)).trans q2
        have w2 : wrap64 c = c := wrap64_of _ (by omega) (by omega)
        have m3 : decide (3 < s.size) = true := decide_eq_true (by omega)
        have n3 : decide ((3 : Int) < (s.size : Int)) = true := decide_eq_true (by omega)
        have r3 := (s[3]'(by omega)).toNat_lt
        obtain ⟨d, q3⟩ : ∃ z : Int, (((s[3]'(by omega)).toNat : Nat) : Int) = z := ⟨_, rfl⟩
        have i3 := (IA.out 3 (by omega)).trans q3
        have w3 : wrap64 d = d := wrap64_of _ (by omega) (by omega)
        have hnk : nK (ints s.data.toList) 4 = (a - 240) * 262144 + (b - 128) * 4096 + (c - 128) * 64 + d - 128 := by show Utf.p4 ((ints s.data.toList).getD 0 0) ((ints s.data.toList).getD 1 0) ((ints s.data.toList).getD 2 0) ((ints s.data.toList).getD 3 0) = _; rw [i0, i1, i2, i3]; rfl
        rw [show 5 - 4 = 0 + 1 by rfl, oneF, if_neg (by rw [hlen]; omega), hnk] at hRk
        have z0 : IntKind.i64.wrap (a - 240) = a - 240 := IntWalk.i64_in _ ⟨by omega, by omega⟩
        have z1 : IntKind.i64.wrap ((a - 240) * 262144) = (a - 240) * 262144 := IntWalk.i64_in _ ⟨by omega, by omega⟩
        have z2 : IntKind.i64.wrap (b - 128) = b - 128 := IntWalk.i64_in _ ⟨by omega, by omega⟩
        have z3 : IntKind.i64.wrap ((b - 128) * 4096) = (b - 128) * 4096 := IntWalk.i64_in _ ⟨by omega, by omega⟩
        have z4 : IntKind.i64.wrap ((a - 240) * 262144 + (b - 128) * 4096) = (a - 240) * 262144 + (b - 128) * 4096 := IntWalk.i64_in _ ⟨by omega, by omega⟩
        have z5 : IntKind.i64.wrap (c - 128) = c - 128 := IntWalk.i64_in _ ⟨by omega, by omega⟩
        have z6 : IntKind.i64.wrap ((c - 128) * 64) = (c - 128) * 64 := IntWalk.i64_in _ ⟨by omega, by omega⟩
        have z7 : IntKind.i64.wrap ((a - 240) * 262144 + (b - 128) * 4096 + (c - 128) * 64) = (a - 240) * 262144 + (b - 128) * 4096 + (c - 128) * 64 := IntWalk.i64_in _ ⟨by omega, by omega⟩
        have z8 : IntKind.i64.wrap ((a - 240) * 262144 + (b - 128) * 4096 + (c - 128) * 64 + d) = (a - 240) * 262144 + (b - 128) * 4096 + (c - 128) * 64 + d := IntWalk.i64_in _ ⟨by omega, by omega⟩
        have z9 : IntKind.i64.wrap ((a - 240) * 262144 + (b - 128) * 4096 + (c - 128) * 64 + d - 128) = (a - 240) * 262144 + (b - 128) * 4096 + (c - 128) * 64 + d - 128 := IntWalk.i64_in _ ⟨by omega, by omega⟩
        obtain ⟨n, hn⟩ : ∃ n : Int, (a - 240) * 262144 + (b - 128) * 4096 + (c - 128) * 64 + d - 128 = n := ⟨_, rfl⟩
        rw [hn] at hRk hnk z9
        have wn : wrap64 n = n := by rw [← hn]; exact wrap64_of _ (by omega) (by omega)
        have es : (4 : Int) ≤ (s.size : Int) := by omega
        obtain ⟨b9, hb9⟩ : ∃ b, decide (Utf.putI n = (ints s.data.toList).take 4) = b := ⟨_, rfl⟩
        have heq : (putB n == s.extract 0 4) = b9 := (put_is n s 4).trans hb9
        have HRK := Lib.hid hRk
        have HB9 := Lib.hid hb9
        clear hRk hnk hb9 i0 r0 i1 r1 i2 r2 i3 r3
        go_wp2_with fail
        go_big_quiet (fail)
        go_wp2_with fail
        go_upto_region 13 with (fail)
        go_cut [79] (fun v79 wc => v79 = .bool b9 ∧ Below w.heap.size w wc)
        case first =>
          refine (wpIn_wide (n := 5)).1 ?_
          have hmo : Tryz.prog.follows .mixedOrders = true := by kernel_rfl
          refine region_g (fun _ => True) (fun _ => true) hmo ?_
          refine takeQ 0 ?vadd0 trivial rfl (by kernel_rfl) ⟨fun _ => rfl, .inl ⟨by kernel_rfl, fun w' hw' => ?yadd0⟩⟩ ?radd0
          case' yadd0 => (go_simp; with_reducible rfl)
          simp only [Act.put, List.setIfInBounds_toArray, List.set_cons_succ, List.set_cons_zero]
          refine takeQ 2 ?vadd2 trivial rfl (by kernel_rfl) ⟨fun _ => rfl, .inl ⟨by kernel_rfl, fun w' hw' => ?yadd2⟩⟩ ?radd2
          case' yadd2 => (go_simp; with_reducible rfl)
          simp only [Act.put, List.setIfInBounds_toArray, List.set_cons_succ, List.set_cons_zero]
          refine takeQ 3 ?vadd3 trivial rfl (by kernel_rfl) ⟨fun _ => rfl, .inl ⟨by kernel_rfl, fun w' hw' => ?yadd3⟩⟩ ?radd3
          case' yadd3 => (go_simp; with_reducible rfl)
          simp only [Act.put, List.setIfInBounds_toArray, List.set_cons_succ, List.set_cons_zero]
          refine takeQ 4 ?vadd4 trivial rfl (by kernel_rfl) ⟨fun _ => rfl, .inl ⟨by kernel_rfl, fun w' hw' => ?yadd4⟩⟩ ?radd4
          case' yadd4 => (go_simp; with_reducible rfl)
          simp only [Act.put, List.setIfInBounds_toArray, List.set_cons_succ, List.set_cons_zero]
          refine takeL 1 rfl (by kernel_rfl) ?_
          gi_wp2_with (refine ⟨trivial, ?_⟩; gi_at_call 82; go_must (refine ((callsIn_wide (n := 4)).2 (PU.out n _)).mono ?_); rintro e w9 ⟨rfl, hb⟩; have B9 := Lib.hid (show Below w.heap.size w w9 from (by first | exact (Below.drew HB.out).trans (hb.mono HB.out.size) | exact (pw_below_drewN HB.out _).trans (hb.mono HB.out.size))); clear hb)
          refine ⟨by first | exact fun _ => trivial | trivial, ?_⟩
          refine takeL 5 rfl (by kernel_rfl) ?_
          gi_wp2
          first | refine ⟨by first | exact fun _ => trivial | trivial, doneG (by kernel_rfl) ?_⟩ | refine doneG (by kernel_rfl) ?_
          gi_wp2
          go_meet
          exact ⟨by first | exact congrArg Value.bool ((beq_toListBytes _ _).symm.trans heq) | rw [heq], B9.out⟩
        case rest =>
          obtain ⟨rfl, hbc⟩ := hcut
          have HBC := Lib.hid hbc
          clear hbc
          cases b9 with
          | true =>
            have hr : n = R := by have := HRK.out; rwa [if_pos (of_decide_eq_true HB9.out)] at this
            subst hr
            go_wp2_with fail
            go_ret
            first | exact ⟨rfl, HBC.out⟩ | exact ⟨congrArg (fun z => Ending.returned (.int .i64 z)) wn, HBC.out⟩
          | false =>
            have hr := HRK.out
            rw [if_neg (of_decide_eq_false HB9.out)] at hr
            have HR2 := Lib.hid hr
            clear hr
            go_wp2_with fail
            go_roundw
            case rel => exact ⟨5, by omega, by omega, rfl, HR2.out, HBC.out⟩
            case measure => simp [intOf]
      · have k1 : decide ((4 : Int) ≤ (s.size : Int)) = false := decide_eq_false (by omega)
        have k2 : decide (4 ≤ s.size) = false := decide_eq_false h
        rw [show 5 - 4 = 0 + 1 by rfl, oneF, if_pos (by rw [hlen]; omega)] at hRk
        subst hRk
        go_wp2_with fail
        go_ret
        exact ⟨rfl, HB.out⟩
    · have hRk : (-1 : Int) = R := hRk
      subst hRk
      go_wp2_with fail
      go_ret
      exact ⟨rfl, HB.out⟩
end Go.Proofs.YtfocognhcljhpaaGreatDoor
namespace Go.Proofs.YtfocognhcljhpaaGreatDoor
set_option linter.unusedVariables false
set_option linter.unusedSimpArgs false
open Go.RowKit Go.Proofs.YtfocognhcljhpaaGreatDoorW.PrintWords Go.Proofs.YtfocognhcljhpaaGreatDoorW.PrintMore Go.Proofs.YtfocognhcljhpaaGreatDoor.PPrintRows Go.Proofs.YtfocognhcljhpaaGreatDoor.Tree
theorem ints_range2 (l : Bs) (k : Nat) : ∀ x ∈ (ints l).drop k, 0 ≤ x ∧ x < 256 := fun x hx => ints_range l x (List.mem_of_mem_drop hx)
theorem putB_size (l : List Int) (hl : ∀ x ∈ l, 0 ≤ x ∧ x < 256) (p : Int × Nat) (h : Utf.firstI l = some p) : (putB p.1).size = p.2 ∧ 1 ≤ p.2 ∧ p.2 ≤ l.length ∧ 0 ≤ p.1 := by
  obtain ⟨h1, h2, h3, h4⟩ := Utf.first_put l hl p h
  refine ⟨?_, h3, h2, h4⟩
  unfold putB
  show ((Utf.putI p.1).map _).toArray.size = _
  rw [List.size_toArray, List.length_map, h1, List.length_take]
  omega
theorem open_len4 {w : World} {base : Nat} {v : Value} {op : List Nat} (h : OpenAt w base v op) : ∃ A c, v = .slice A op.length c := by
  obtain ⟨_, h1 | ⟨g, cap, cur, rfl, _⟩⟩ := open_own h
  · exact ⟨none, 0, by rw [h1.1, h1.2]⟩
  · exact ⟨_, _, rfl⟩
theorem alloc_old (w : World) (o : Obj) {k : Nat} (h : k < w.heap.size) : (w.alloc o).heap[k]? = w.heap[k]? := (below_alloc (Below.refl w.heap.size w) o).block k h
/-- Two appends, one behind the other, each onto a slice of the call's own. -/
theorem two_append {w1 : World} {base : Nat} {v5 v6 : Value} {L5 L6 : List Nat} (hb : base ≤ w1.heap.size) (o5 : OpenAt w1 base v5 L5) (o6 : OpenAt w1 base v6 L6) (dj : ∀ z, v5.ownBlock = some z → v6.ownBlock ≠ some z) (k q : Nat) (h5 : L5.length ≤ 900000) (h6 : L6.length ≤ 900000) :
    ∃ A7 c7 w7 A8 c8 w8, (Builtin.append_ #[71, 71] 71 #[v5, .slice (some ⟨w1.heap.size, 0, none⟩) 1 1]).run Tryz.prog (w1.alloc (.cells #[.int .i64 (k : Int)] 3)) = .ok (.slice A7 (L5.length + 1) c7) w7 ∧
      (Builtin.append_ #[71, 71] 71 #[v6, .slice (some ⟨w7.heap.size, 0, none⟩) 1 1]).run Tryz.prog (w7.alloc (.cells #[.int .i64 (q : Int)] 3)) = .ok (.slice A8 (L6.length + 1) c8) w8 ∧
      Hid (OpenAt w8 base (.slice A7 (L5.length + 1) c7) (k :: L5) ∧ OpenAt w8 base (.slice A8 (L6.length + 1) c8) (q :: L6) ∧ (∀ z, (Value.slice A7 (L5.length + 1) c7).ownBlock = some z → (Value.slice A8 (L6.length + 1) c8).ownBlock ≠ some z) ∧ Below base w1 w8) := by
  obtain ⟨v7, w7, r7, O7, g7, d7⟩ := int_append o5 k h5 hb
  obtain ⟨A7, c7, rfl⟩ := open_len4 O7
  have s7 : w1.heap.size < w7.heap.size := by have := g7.size; simp at this; omega
  have dj2 : ∀ z, (Value.slice A7 (k :: L5).length c7).ownBlock = some z → v6.ownBlock ≠ some z := fun z hz h2 => by
    rcases d7 z hz with h | h
    · exact dj z h h2
    · have := open_lt o6 z h2; omega
  have o6b : OpenAt w7 base v6 L6 := o6.keep fun z hz => by
    have hlt := open_lt o6 z hz
    exact (g7.block z (by simp; omega) (fun e => dj z e.symm hz)).trans (alloc_old w1 _ hlt)
  obtain ⟨v8, w8, r8, O8, g8, d8⟩ := int_append o6b q h6 (by omega)
  obtain ⟨A8, c8, rfl⟩ := open_len4 O8
  refine ⟨A7, c7, w7, A8, c8, w8, r7, r8, Lib.hid ⟨O7.keep fun z hz => ?_, O8, fun z hz h2 => ?_, ?_⟩⟩
  · have hlt := open_lt O7 z hz
    exact (g8.block z (by simp; omega) (fun e => dj2 z hz e.symm)).trans (alloc_old w7 _ hlt)
  · rcases d8 z h2 with h | h
    · exact dj2 z hz h
    · have := open_lt O7 z hz; omega
  · refine ⟨g8.os.trans g7.os, g8.tape.trans g7.tape, g8.output.trans g7.output, ?_, fun z hz => ?_⟩
    · have := g8.size; simp at this; omega
    · have hz1 : z < w1.heap.size := by omega
      have hz7 : z < w7.heap.size := by omega
      have e1 := (g7.block z (by simp; omega) (fun e => by have := (own_int (open_own o5) z e.symm).1; omega)).trans (alloc_old w1 _ hz1)
      have e2 := (g8.block z (by simp; omega) (fun e => by have := (own_int (open_own o6b) z e.symm).1; omega)).trans (alloc_old w7 _ hz7)
      exact e2.trans e1
set_option maxRecDepth 100000 in
set_option maxHeartbeats 4000000 in
theorem runes4_any (s : ByteArray) (hs : s.size ≤ 800000) (w : World) : Calls Tryz.prog 49 #[.string s] w fun e w' => ∃ v1 v2, e = .returned (.tuple #[v1, v2, .int .i64 (badL s.data.toList)]) ∧ Below w.heap.size w w' := by
  have ON := Lib.hid (fun k W => one4_any (s.extract k s.size) (by rw [ByteArray.size_extract]; omega) W)
  have PU := Lib.hid (fun n W => put4_any n W)
  obtain ⟨l, hl⟩ : ∃ l, s.data.toList = l := ⟨_, rfl⟩
  have hlen : l.length = s.size := by rw [← hl]; simp
  have hil : (ints l).length = s.size := by simp [ints, hlen]
  obtain ⟨E, hE⟩ : ∃ E, endI s.size 0 (ints l) = E := ⟨_, rfl⟩
  have hbad : badL l = if E = s.size then -1 else (E : Int) := by unfold badL; rw [hlen, hE]
  have HBAD := Lib.hid hbad
  have EX := Lib.hid (fun k => (congrArg ints (ext_list s k)).trans (by rw [hl, ints_drop] : ints (s.data.toList.drop k) = (ints l).drop k))
  rw [hl]
  clear hl hbad
  go_enter Tryz.func49, Tryz.ntmps49
  go_wp2_with fail
  go_loopw [5, 6, 7, 8] (fun v5 v6 v7 _ wr => ∃ (k f : Nat) (L5 L6 : List Nat) (A5 A6 : Option Addr) (n5 n6 c5 c6 : Nat), v5 = .slice A5 n5 c5 ∧ v6 = .slice A6 n6 c6 ∧ v7 = .int .i64 (k : Int) ∧ n5 = L5.length ∧ n6 = L6.length ∧ k ≤ s.size ∧ L5.length ≤ k ∧ L6.length ≤ k ∧ s.size - k ≤ f ∧ endI f k ((ints l).drop k) = E ∧
      OpenAt wr w.heap.size (.slice A5 n5 c5) L5 ∧ OpenAt wr w.heap.size (.slice A6 n6 c6) L6 ∧ (∀ q, (Value.slice A5 n5 c5).ownBlock = some q → (Value.slice A6 n6 c6).ownBlock ≠ some q) ∧ Below w.heap.size w wr) (fun _ _ v7 _ _ => s.size - (intOf v7).toNat)
  case atStart => exact ⟨0, s.size, [], [], none, none, 0, 0, 0, 0, rfl, rfl, rfl, rfl, rfl, Nat.zero_le _, Nat.zero_le _, Nat.zero_le _, by omega, hE, open_of (World.ownsRow_nil _ _ _ _), open_of (World.ownsRow_nil _ _ _ _), (fun q h => by cases h), Below.refl _ _⟩
  case round =>
    obtain ⟨k, f, L5, L6, A5, A6, n5, n6, c5, c6, rfl, rfl, rfl, rfl, rfl, hk, hl5, hl6, hf, hEk, hO5, hO6, hdj, hB⟩ := hrel
    have HO := Lib.hid (And.intro hO5 (And.intro hO6 hdj))
    have HB := Lib.hid hB
    clear hO5 hO6 hdj hB hE
    by_cases hks : k < s.size
    · have k1 : decide ((k : Int) < (s.size : Int)) = true := decide_eq_true (by omega)
      have k2 : decide (k < s.size) = true := decide_eq_true hks
      have e0 : (0 : Int) ≤ (k : Int) := by omega
      have e1 : (k : Int) ≤ (s.size : Int) := by omega
      obtain ⟨g, rfl⟩ : ∃ g, f = g + 1 := ⟨f - 1, by omega⟩
      have h1 := Utf.one_first ((ints l).drop k) (ints_range2 l k)
      have ON1 := Lib.hid (fun W => ON.out k W)
      rw [EX.out k] at ON1
      unfold endI at hEk
      cases hfi : Utf.firstI ((ints l).drop k) with
      | none =>
        rw [hfi] at h1 hEk
        replace hEk : k = E := hEk
        replace h1 : Utf.oneI ((ints l).drop k) = -1 := h1
        rw [h1] at ON1
        have HEK := Lib.hid hEk
        clear hfi h1 hEk
        go_wp2_with (go_at_call 81; go_must (refine (ON1.out _).mono ?_); rintro e w1 ⟨rfl, hb⟩; have B1 := Lib.hid hb; clear hb)
        go_ret3
        have hv : badL l = (k : Int) := by rw [HBAD.out, ← HEK.out, if_neg (by omega)]
        rw [hv]
        first | exact ⟨_, _, rfl, below_step HB.out B1.out⟩ | exact ⟨⟨_, _, rfl⟩, below_step HB.out B1.out⟩
      | some p =>
        obtain ⟨g1, g2, g3, g4⟩ := putB_size _ (ints_range2 l k) p hfi
        rw [hfi] at h1 hEk
        dsimp only at h1 hEk
        rw [h1] at ON1
        rw [List.length_drop, hil] at g3
        obtain ⟨pn, pk⟩ := p
        obtain ⟨q, rfl⟩ : ∃ q : Nat, pn = (q : Int) := ⟨pn.toNat, by dsimp only at g4; omega⟩
        dsimp only at g1 g2 g3 hEk ON1
        rw [List.drop_drop] at hEk
        have HEK := Lib.hid hEk
        have PU1 := Lib.hid (fun W => PU.out (q : Int) W)
        obtain ⟨pb, hpb⟩ : ∃ pb, putB (q : Int) = pb := ⟨_, rfl⟩
        rw [hpb] at PU1 g1
        have kq : decide ((q : Int) < 0) = false := decide_eq_false (by omega)
        have kz : (pb.size : Int) = (pk : Int) := by omega
        clear hfi h1 hEk hpb g4
        go_wp2_with (first | (go_at_call 81; go_must (refine (ON1.out _).mono ?_); rintro e w1 ⟨rfl, hb⟩; obtain ⟨o5, o6, odj⟩ := HO.out; obtain ⟨A7, c7, w7, A8, c8, w8, hr7, hr8, HF⟩ := two_append (Nat.le_trans HB.out.size hb.size) (o5.keep fun z hz => hb.block z (open_lt o5 z hz)) (o6.keep fun z hz => hb.block z (open_lt o6 z hz)) odj k q (by omega) (by omega); have B1 := Lib.hid (below_step HB.out hb); clear hb o5 o6 odj) | (at_builtin; first | (refine wpList_append_runI _ rfl _ _ 71 71 rfl _ _ rfl rfl hr7 ?_) | (refine wpList_append_runI _ rfl _ _ 71 71 rfl _ _ rfl rfl hr8 ?_)) | (go_at_call 82; go_must (refine (PU1.out _).mono ?_); rintro e w9 ⟨rfl, hb⟩; have B9 := Lib.hid hb; clear hb))
        go_roundw
        case rel =>
          obtain ⟨o5, o6, odj, hb8⟩ := HF.out
          have hb9 := B9.out
          have hs8 := hb8.size
          exact ⟨k + pk, g, k :: L5, q :: L6, A7, A8, _, _, c7, c8, rfl, rfl, by go_num, rfl, rfl, by omega, by simp; omega, by simp; omega, by omega, HEK.out, o5.keep fun z hz => hb9.block z (open_lt o5 z hz), o6.keep fun z hz => hb9.block z (open_lt o6 z hz), odj, (B1.out.trans hb8).trans (hb9.mono (Nat.le_trans B1.out.size hs8))⟩
        case measure => simp [intOf]; omega
    · have k1 : decide ((k : Int) < (s.size : Int)) = false := decide_eq_false (by omega)
      have k2 : decide (k < s.size) = false := decide_eq_false hks
      have hkk : k = s.size := by omega
      have hEk2 : E = s.size := by
        rw [← hEk, List.drop_of_length_le (by rw [hil]; omega)]
        cases f <;> exact hkk
      go_wp2_with fail
      go_ret3
      have hv : badL l = -1 := by rw [HBAD.out, if_pos hEk2]
      rw [hv]
      first | exact ⟨_, _, rfl, HB.out⟩ | exact ⟨⟨_, _, rfl⟩, HB.out⟩
end Go.Proofs.YtfocognhcljhpaaGreatDoor
namespace Go.Proofs.YtfocognhcljhpaaGreatDoor
set_option linter.unusedVariables false
set_option linter.unusedSimpArgs false
open Go.RowKit Go.Proofs.YtfocognhcljhpaaGreatDoorW.PrintWords Go.Proofs.YtfocognhcljhpaaGreatDoorW.PrintMore Go.Proofs.YtfocognhcljhpaaGreatDoor.PPrintRows Go.Proofs.YtfocognhcljhpaaGreatDoor.Tree
/-- A string alone, as a row of the document's. -/
def oneB (W : World) (g : Nat) (s : ByteArray) : Prop := W.heap[g]? = some (.cells #[.int .i64 5, .string ⟨#[]⟩, .string s, .int .i64 (-1), .int .i64 1] 47 (0, 0))
theorem oneB.below {W W' : World} {g : Nat} {s : ByteArray} (h : oneB W g s) (hb : Below W.heap.size W W') : oneB W' g s := (hb.block g (blk_lt h)).trans h
set_option maxRecDepth 100000 in
set_option maxHeartbeats 2000000 in
theorem span_1 (g : Nat) (s : ByteArray) (W : World) (h : oneB W g s) : Calls Tryz.prog 30 #[.slice (some ⟨g, 0, none⟩) 1 1, .int .i64 0, .int .i64 (-1), .bool false] W fun e w' => e = .returned (.int .i64 1) ∧ Below W.heap.size W w' := by
  have d0 := blkc h 0 rfl
  have d1 := blkc h 1 rfl
  have d2 := blkc h 2 rfl
  have d3 := blkc h 3 rfl
  have d4 := blkc h 4 rfl
  have HB := Lib.hid (below_alloc (Below.refl W.heap.size W) (.cells #[.int .i64 5, .string ⟨#[]⟩, .string s, .int .i64 (-1), .int .i64 1] 47))
  clear h
  go_enter Tryz.func30, Tryz.ntmps30
  go_wp2_with fail
  go_quiet (fail)
  go_wp2_with fail
  go_ret
  exact ⟨rfl, below_step HB.out ⟨rfl, rfl, rfl, Nat.le_refl _, fun _ _ => rfl⟩⟩
set_option maxRecDepth 100000 in
set_option maxHeartbeats 2000000 in
theorem deep_1 (g : Nat) (s : ByteArray) (W : World) (h : oneB W g s) : Calls Tryz.prog 50 #[.slice (some ⟨g, 0, none⟩) 1 1] W fun e w' => e = .returned (.int .i64 0) ∧ w' = W := by
  have d0 := blkc h 0 rfl
  have d3 := blkc h 3 rfl
  clear h
  go_enter Tryz.func50, Tryz.ntmps50
  go_wp2_with fail
  go_loopw [3, 4, 5, 6] (fun v3 v4 _ _ wr => v3 = .int .i64 0 ∧ (v4 = .int .i64 0 ∨ v4 = .int .i64 1) ∧ wr = W) (fun _ v4 _ _ _ => 1 - (intOf v4).toNat)
  case atStart => exact ⟨rfl, .inl rfl, rfl⟩
  case round =>
    obtain ⟨rfl, h4, rfl⟩ := hrel
    rcases h4 with rfl | rfl
    · go_wp2_with fail
      go_loopw [5, 6] (fun v5 v6 wr2 => v5 = .int .i64 0 ∧ (v6 = .int .i64 0 ∨ v6 = .int .i64 (-1)) ∧ wr2 = wr) (fun _ v6 _ => (intOf v6 + 1).toNat)
      case atStart => exact ⟨rfl, .inl rfl, rfl⟩
      case round =>
        obtain ⟨rfl, h6, rfl⟩ := hrel
        rcases h6 with rfl | rfl
        · go_wp2_with fail
          go_roundw
          case rel => exact ⟨rfl, .inr rfl, by trivial⟩
          case measure => decide
        · go_wp2_with fail
          go_roundw
          case rel => exact ⟨rfl, .inr rfl, by trivial⟩
          case measure => decide
    · go_wp2_with fail
      go_ret
      exact ⟨rfl, rfl⟩
set_option maxRecDepth 100000 in
set_option maxHeartbeats 2000000 in
theorem twice_1 (g : Nat) (s : ByteArray) (W : World) (h : oneB W g s) : Calls Tryz.prog 51 #[.slice (some ⟨g, 0, none⟩) 1 1] W fun e w' => e = .returned (.bool false) ∧ w' = W := by
  clear h
  go_enter Tryz.func51, Tryz.ntmps51
  go_wp2_with fail
  go_loopw [3, 4] (fun v3 _ wr => (v3 = .int .i64 0 ∨ v3 = .int .i64 1) ∧ wr = W) (fun v3 _ _ => 1 - (intOf v3).toNat)
  case atStart => exact ⟨.inl rfl, rfl⟩
  case round =>
    obtain ⟨h3, rfl⟩ := hrel
    rcases h3 with rfl | rfl
    · go_wp2_with fail
      go_loopw [4] (fun v4 wr2 => v4 = .int .i64 0 ∧ wr2 = wr) (fun _ _ => 0)
      case atStart => exact ⟨rfl, rfl⟩
      case round =>
        obtain ⟨rfl, rfl⟩ := hrel
        go_wp2_with fail
        go_roundw
        case rel => exact ⟨.inr rfl, by trivial⟩
        case measure => decide
    · go_wp2_with fail
      go_ret
      exact ⟨rfl, rfl⟩
theorem bad_nil : badL [] = -1 := by kernel_rfl
theorem bad_valid (l : Bs) : (validL l = true ∧ badL l = -1) ∨ (validL l = false ∧ ∃ k : Nat, badL l = (k : Int)) := by
  unfold validL badL
  by_cases h : endI l.length 0 (ints l) = l.length
  · exact .inl ⟨decide_eq_true h, if_pos h⟩
  · exact .inr ⟨decide_eq_false h, _, if_neg h⟩
set_option maxRecDepth 100000 in
set_option maxHeartbeats 4000000 in
theorem check7_1 (g : Nat) (s : ByteArray) (hs : s.size ≤ 800000) (W : World) (h : oneB W g s) : Calls Tryz.prog 17 #[.slice (some ⟨g, 0, none⟩) 1 1] W fun e w' => e = .returned (.int .i64 (if validL s.data.toList = true then 0 else 9)) ∧ Below W.heap.size W w' := by
  have HO := Lib.hid h
  have R0 := Lib.hid (fun W => runes4_any ⟨#[]⟩ (by decide) W)
  have R1 := Lib.hid (fun W => runes4_any s hs W)
  rw [show (⟨#[]⟩ : ByteArray).data.toList = [] from rfl, bad_nil] at R0
  clear h
  rcases bad_valid s.data.toList with ⟨hv, hb⟩ | ⟨hv, k, hb⟩
  · rw [if_pos hv]
    rw [hb] at R1
    clear hv hb
    go_enter Tryz.func17, Tryz.ntmps17
    go_wp2_with (go_at_call 30; go_must (refine (span_1 g s _ HO.out).mono ?_); rintro e w1 ⟨rfl, hb⟩; have B1 := Lib.hid hb; clear hb)
    go_loopw [4, 5, 6, 7, 8, 9, 10, 23] (fun _ _ _ _ _ _ _ vi wr => (vi = .int .i64 0 ∨ vi = .int .i64 1) ∧ Below W.heap.size W wr) (fun _ _ _ _ _ _ _ vi _ => 1 - (intOf vi).toNat)
    case atStart => exact ⟨.inl rfl, B1.out⟩
    case round =>
      obtain ⟨hi, hB⟩ := hrel
      have HB := Lib.hid hB
      have HOr := Lib.hid (HO.out.below hB)
      clear hB
      rcases hi with rfl | rfl
      · have d0 := blkc HOr.out 0 rfl
        have d1 := blkc HOr.out 1 rfl
        have d2 := blkc HOr.out 2 rfl
        have d3 := blkc HOr.out 3 rfl
        have d4 := blkc HOr.out 4 rfl
        have BA := Lib.hid (below_alloc (Below.refl wr.heap.size wr) (.cells #[.int .i64 5, .string ⟨#[]⟩, .string s, .int .i64 (-1), .int .i64 1] 47))
        go_wp2_with (go_at_call 49; first | ((with_reducible refine (R0.out _).mono ?_); rintro e w2 ⟨va, vb, rfl, hb⟩; have c2 : w2.cell? ⟨wr.heap.size, 2, none⟩ = some (.string s) := cellBelow hb (blkc (blk_new _ _) 2 rfl); have X2 := Lib.hid hb; clear hb) | ((with_reducible refine (R1.out _).mono ?_); rintro e w3 ⟨vc, vd, rfl, hb⟩; have X3 := Lib.hid hb; clear hb))
        go_roundw
        case rel => exact ⟨.inr rfl, HB.out.trans ((below_step BA.out (below_step X2.out X3.out)).mono HB.out.size)⟩
        case measure => decide
      · go_wp2_with (first | (go_at_call 50; go_must (refine (deep_1 g s _ HOr.out).mono ?_); rintro e w1 ⟨rfl, rfl⟩) | (go_at_call 51; go_must (refine (twice_1 g s _ HOr.out).mono ?_); rintro e w1 ⟨rfl, rfl⟩))
        go_ret
        exact ⟨rfl, HB.out⟩
  · rw [if_neg (by rw [hv]; decide)]
    rw [hb] at R1
    have k9 : decide ((0 : Int) ≤ (k : Int)) = true := decide_eq_true (by omega)
    clear hv hb
    go_enter Tryz.func17, Tryz.ntmps17
    go_wp2_with (go_at_call 30; go_must (refine (span_1 g s _ HO.out).mono ?_); rintro e w1 ⟨rfl, hb⟩; have B1 := Lib.hid hb; clear hb)
    go_loopw [4, 5, 6, 7, 8, 9, 10, 23] (fun _ _ _ _ _ _ _ vi wr => vi = .int .i64 0 ∧ Below W.heap.size W wr) (fun _ _ _ _ _ _ _ vi _ => 1 - (intOf vi).toNat)
    case atStart => exact ⟨rfl, B1.out⟩
    case round =>
      obtain ⟨rfl, hB⟩ := hrel
      have HB := Lib.hid hB
      have HOr := Lib.hid (HO.out.below hB)
      clear hB
      have d0 := blkc HOr.out 0 rfl
      have d1 := blkc HOr.out 1 rfl
      have d2 := blkc HOr.out 2 rfl
      have d3 := blkc HOr.out 3 rfl
      have d4 := blkc HOr.out 4 rfl
      have BA := Lib.hid (below_alloc (Below.refl wr.heap.size wr) (.cells #[.int .i64 5, .string ⟨#[]⟩, .string s, .int .i64 (-1), .int .i64 1] 47))
      go_wp2_with (go_at_call 49; first | ((with_reducible refine (R0.out _).mono ?_); rintro e w2 ⟨va, vb, rfl, hb⟩; have c2 : w2.cell? ⟨wr.heap.size, 2, none⟩ = some (.string s) := cellBelow hb (blkc (blk_new _ _) 2 rfl); have X2 := Lib.hid hb; clear hb) | ((with_reducible refine (R1.out _).mono ?_); rintro e w3 ⟨vc, vd, rfl, hb⟩; have X3 := Lib.hid hb; clear hb))
      go_ret
      exact ⟨rfl, HB.out.trans ((below_step BA.out (below_step X2.out X3.out)).mono HB.out.size)⟩
end Go.Proofs.YtfocognhcljhpaaGreatDoor
