/- Texts taken together, trimmed. -/
import Derived.Test.YtfocognhcljhpaaGreatDoorR1
import Derived.Test.YtfocognhcljhpaaGreatDoorR3
import Derived.Test.YtfocognhcljhpaaGreatDoorR8
import Derived.MapKept
set_option linter.unusedVariables false
set_option linter.unusedSimpArgs false
namespace Go.Proofs.YtfocognhcljhpaaGreatDoor
open Go.RowKit Go.Proofs.YtfocognhcljhpaaGreatDoorW.PrintWords Go.Proofs.YtfocognhcljhpaaGreatDoorW.PrintMore Go.Proofs.YtfocognhcljhpaaGreatDoor.PPrintRows Go.Proofs.YtfocognhcljhpaaGreatDoor.Tree
def lightV (l : List Node) : Bool := l.all fun n => decide (l.length ≤ 300 ∧ n.f1.size ≤ 200 ∧ n.f2.size ≤ 200)
set_option maxRecDepth 100000 in
set_option maxHeartbeats 2000000 in
theorem light_any (A : Option Addr) (c : Nat) (l : List Node) (hl : l.length ≤ 9223372036854775807) (hc : l.length ≤ c) (w : World) (hr : Kd.C kN w A l.length l) :
  Calls Tryz.prog 12 #[.slice A l.length c] w fun e w' => e = .returned (.bool (lightV l)) ∧ Below w.heap.size w w' := by
 obtain ⟨res, hres⟩ : ∃ r, lightV l = r := ⟨_, rfl⟩
 rw [hres]
 have HRS := Lib.hid hres
 have HR := Lib.hid hr
 clear hres hr
 go_enter Tryz.func12, Tryz.ntmps12
 go_wp2_with fail
 go_loopw [7] (fun vi wr => ∃ (q : Nat), q ≤ l.length ∧ vi = .int .i64 (q : Int) ∧ ((l.take q).all fun n => decide (l.length ≤ 300 ∧ n.f1.size ≤ 200 ∧ n.f2.size ≤ 200)) = true ∧ Below w.heap.size w wr) (fun vi _ => l.length - (intOf vi).toNat)
 case atStart => exact ⟨0, Nat.zero_le _, rfl, rfl, Below.refl _ _⟩
 case round =>
  obtain ⟨q, hq, rfl, hA, hB⟩ := hrel
  have B := Lib.hid hB
  have HA := Lib.hid hA
  clear hA
  by_cases hlt : q < l.length
  ·have k9 : decide ((q : Int) < (l.length : Int)) = true := decide_eq_true (by omega)
   have k10 : decide (q < l.length) = true := decide_eq_true hlt
   have HLT := Lib.hid hlt
   obtain ⟨ad, rfl, d0, d1, d2, d3, d4⟩ := node_at (Kd.C_below HR.out hB) q hlt
   have htk : l.take (q + 1) = l.take q ++ [l[q]] := List.take_succ_eq_append_getElem hlt
   have hmem : l[q] ∈ l := List.getElem_mem hlt
   generalize l[q] = x at d0 d1 d2 d3 d4 htk hmem
   have HTK := Lib.hid htk
   have HMEM := Lib.hid hmem
   clear htk hmem hB
   have hmx : ∀ ats ty, Builtin.max_ ats ty #[.int .i64 (x.f1.size : Int), .int .i64 (x.f2.size : Int)] = pure (.int .i64 ((max x.f1.size x.f2.size : Nat) : Int)) := fun ats ty => by
    rw [max_two, max2_int, pure_bind]
    congr 2
    split <;> omega
   have hno : ¬ (l.length ≤ 300 ∧ x.f1.size ≤ 200 ∧ x.f2.size ≤ 200) → false = res := fun h => by
    rw [← HRS.out]
    unfold lightV
    rw [eq_comm, List.all_eq_false]
    exact ⟨x, HMEM.out, by simpa using h⟩
   have HNO := Lib.hid hno
   clear hno
   by_cases h3 : 300 < l.length
   ·have k1 : decide ((300 : Int) < (l.length : Int)) = true := decide_eq_true (by omega)
    have k2 : decide (300 < l.length) = true := decide_eq_true h3
    obtain rfl := HNO.out (by omega)
    clear h3
    go_wp2_with fail
    go_ret
    exact ⟨rfl, below_alloc B.out _⟩
   ·have k1 : decide ((300 : Int) < (l.length : Int)) = false := decide_eq_false (by omega)
    have k2 : decide (300 < l.length) = false := decide_eq_false h3
    by_cases h2 : 200 < max x.f1.size x.f2.size
    ·have k3 : decide ((200 : Int) < ((max x.f1.size x.f2.size : Nat) : Int)) = true := decide_eq_true (by omega)
     have k4 : decide (200 < max x.f1.size x.f2.size) = true := decide_eq_true h2
     obtain rfl := HNO.out (by omega)
     generalize max x.f1.size x.f2.size = mx at *
     clear h3 h2
     go_wp2_with fail
     go_ret
     exact ⟨rfl, below_alloc B.out _⟩
    ·have k3 : decide ((200 : Int) < ((max x.f1.size x.f2.size : Nat) : Int)) = false := decide_eq_false (by omega)
     have k4 : decide (200 < max x.f1.size x.f2.size) = false := decide_eq_false h2
     have hn : ((l.take (q + 1)).all fun n => decide (l.length ≤ 300 ∧ n.f1.size ≤ 200 ∧ n.f2.size ≤ 200)) = true := by
      rw [HTK.out, List.all_append, HA.out, Bool.true_and]
      simp only [List.all_cons, List.all_nil, Bool.and_true, decide_eq_true_eq]
      omega
     have HN := Lib.hid hn
     generalize max x.f1.size x.f2.size = mx at *
     clear h3 h2 hn
     go_wp2_with fail
     go_roundw
     case rel => exact ⟨q + 1, HLT.out, by go_num, HN.out, below_alloc B.out _⟩
     case measure => have := HLT.out; simp [intOf]; omega
  ·obtain rfl : q = l.length := by omega
   have k9 : decide ((l.length : Int) < (l.length : Int)) = false := decide_eq_false (by omega)
   have hr2 : true = res := by
    have := HA.out
    rw [List.take_of_length_le (Nat.le_refl _)] at this
    rw [← HRS.out]
    exact this.symm
   subst hr2
   clear hB
   go_wp2_with fail
   go_ret
   exact ⟨rfl, B.out⟩
theorem light_all {l : List Node} (h : lightV l = true) : l.length ≤ 300 ∧ ∀ n ∈ l, n.f1.size ≤ 200 ∧ n.f2.size ≤ 200 := by
 unfold lightV at h
 rw [List.all_eq_true] at h
 simp only [decide_eq_true_eq] at h
 refine ⟨?_, fun n hn => (h n hn).2⟩
 cases l with
 | nil => simp
 | cons a t => exact (h a (by simp)).1
end Go.Proofs.YtfocognhcljhpaaGreatDoor
namespace Go.Proofs.YtfocognhcljhpaaGreatDoor
open Go.RowKit Go.Proofs.YtfocognhcljhpaaGreatDoorW.PrintWords Go.Proofs.YtfocognhcljhpaaGreatDoorW.PrintMore Go.Proofs.YtfocognhcljhpaaGreatDoor.PPrintRows Go.Proofs.YtfocognhcljhpaaGreatDoor.Tree
def aw7 : ByteArray := ⟨#[91, 49, 44, 123, 34, 97, 34, 58, 110, 117, 108, 108, 125, 93]⟩
def aw7l : List Node := [⟨6, ⟨#[]⟩, ⟨#[]⟩, -1, 4⟩, ⟨4, ⟨#[]⟩, ⟨#[49]⟩, 0, 2⟩, ⟨7, ⟨#[]⟩, ⟨#[]⟩, 0, 4⟩, ⟨1, ⟨#[97]⟩, ⟨#[]⟩, 2, 4⟩]
set_option maxRecDepth 100000 in
theorem aw7_row : rowGo aw7 (aw7.size + 1) (some []) ⟨0, [], [], false, 0⟩ = some ⟨14, aw7l, [], false, 2⟩ := by kernel_rfl
set_option maxRecDepth 100000 in
theorem aw7_parse : parseS aw7 = (0, aw7l) := by kernel_rfl
set_option maxRecDepth 100000 in
theorem aw7_bs : ∀ (k : Nat) (h : k < aw7.size), aw7[k] ≠ 92 := by
 have : ∀ k : Fin 14, aw7.data.toList[k.1]? ≠ some 92 := by decide
 intro k h
 have h2 := this ⟨k, h⟩
 intro e
 apply h2
 rw [List.getElem?_eq_getElem (by simpa using h)]
 exact congrArg some e
set_option maxRecDepth 100000 in
theorem aw7_num : NumOk aw7 := by
 intro a ha
 have h14 : a ≤ 14 := ha
 have : a = 0 ∨ a = 1 ∨ a = 2 ∨ a = 3 ∨ a = 4 ∨ a = 5 ∨ a = 6 ∨ a = 7 ∨ a = 8 ∨ a = 9 ∨ a = 10 ∨ a = 11 ∨ a = 12 ∨ a = 13 ∨ a = 14 := by omega
 rcases this with rfl | rfl | rfl | rfl | rfl | rfl | rfl | rfl | rfl | rfl | rfl | rfl | rfl | rfl | rfl
 all_goals exact ⟨20, by kernel_rfl⟩
end Go.Proofs.YtfocognhcljhpaaGreatDoor
namespace Go.Proofs.YtfocognhcljhpaaGreatDoor
open Go.RowKit Go.Proofs.YtfocognhcljhpaaGreatDoorW.PrintWords Go.Proofs.YtfocognhcljhpaaGreatDoorW.PrintMore Go.Proofs.YtfocognhcljhpaaGreatDoor.PPrintRows Go.Proofs.YtfocognhcljhpaaGreatDoor.Tree
theorem put_euro (w : World) : Calls Tryz.prog 133 #[.int .i32 8364] w fun e w' => e = .returned (.string ⟨#[226, 130, 172]⟩) ∧ Below w.heap.size w w' := PRef.utf_Put.calls 20 8364 _ w (by kernel_rfl)
theorem count_euro (w : World) : Calls Tryz.prog 134 #[.string ⟨#[226, 130, 172]⟩] w fun e w' => e = .returned (.int .i64 1) ∧ Below w.heap.size w w' := by
 refine (count_any ⟨#[226, 130, 172]⟩ (by decide) w).mono ?_
 rintro e w' ⟨rfl, hb⟩
 exact ⟨rfl, hb⟩
set_option maxRecDepth 100000 in
set_option maxHeartbeats 2000000 in
theorem awake04_in (w : World) : Calls Tryz.prog 115 #[] w fun e w' => e = .returned (.bool true) ∧ Below w.heap.size w w' := by
 go_enter Tryz.func115, Tryz.ntmps115
 go_wp2_with (first | (go_at_call 133; go_must (refine (put_euro _).mono ?_); rintro e w1 ⟨rfl, hd⟩; have B1 := Lib.hid hd; clear hd) | (go_at_call 134; go_must (refine (count_euro _).mono ?_); rintro e w2 ⟨rfl, hb⟩; have B2 := Lib.hid (below_step B1.out hb); clear hb))
 go_ret
 exact ⟨rfl, B2.out⟩
theorem awake04_any (w : World) : Calls Tryz.prog 97 #[] w fun e w' => e = .returned (.bool true) ∧ Below w.heap.size w w' := by
 go_enter Tryz.func97, Tryz.ntmps97
 go_wp2_with (go_at_call 115; go_must (refine (awake04_in _).mono ?_); rintro e w1 ⟨rfl, hb⟩)
 go_ret
 exact ⟨rfl, hb⟩
theorem aw7_any (w : World) : Calls Tryz.prog 24 #[.string aw7] w fun e w' => ∃ g c, e = .returned (.tuple #[.slice (some ⟨g, 0, none⟩) 4 c, .int .i64 0]) ∧ RowAt w' w.heap.size (.slice (some ⟨g, 0, none⟩) 4 c) aw7l ∧ Below w.heap.size w w' := by
 refine (parse_p aw7_bs aw7_num (by decide) (fun x hx => ?_) w).mono ?_
 ·obtain rfl : _ = x := by injection aw7_row.symm.trans hx
  refine ⟨by decide, fun n hn => ?_⟩
  simp only [aw7l, List.mem_cons, List.not_mem_nil, or_false] at hn
  rcases hn with rfl | rfl | rfl | rfl <;> exact ⟨by decide, by decide, by decide, by decide⟩
 ·rintro e w' ⟨v, rfl, hr, hb⟩
  rw [aw7_parse] at hr ⊢
  obtain ⟨A, c, rfl, _⟩ := hr.slice
  obtain ⟨ad, rfl, _⟩ := node_at (hr.C (by decide)) 0 (by decide)
  obtain ⟨g, _, rfl, _⟩ := row_addr hr
  exact ⟨g, c, rfl, hr, hb⟩
theorem aw7_eq (w : World) : (Op.equalIn 10000 48 (.agg #[.int .i64 1, .string ⟨#[97]⟩, .string ⟨#[]⟩, .int .i64 2, .int .i64 4]) (.agg #[.int .i64 1, .string ⟨#[97]⟩, .string ⟨#[]⟩, .int .i64 2, .int .i64 4])).run Tryz.prog w = .ok true w := by kernel_rfl
set_option maxRecDepth 100000 in
set_option maxHeartbeats 2000000 in
theorem awake07_in (w : World) : Calls Tryz.prog 74 #[] w fun e w' => e = .returned (.bool true) ∧ Below w.heap.size w w' := by
 go_enter Tryz.func74, Tryz.ntmps74
 go_wp2_with (go_at_call 24; go_must (refine (aw7_any _).mono ?_))
 rintro e w1 ⟨g, c, rfl, hr, hb⟩
 have R1 := Lib.hid hr
 have B1 := Lib.hid hb
 clear hr hb
 go_wp2_with (go_at_call 97; go_must (refine (awake04_any _).mono ?_))
 rintro e w2 ⟨rfl, hb⟩
 have B2 := Lib.hid (below_step B1.out hb)
 have R2 := R1.out.keep (w1 := w2) (fun k hk => hb.block k (row_lt R1.out k hk))
 obtain ⟨_, e, d0, d1, d2, d3, d4⟩ := node_at (R2.C (by decide)) 3 (by decide)
 injection e with e
 subst e
 rw [Lib.add_plain] at d0 d1 d2 d3 d4
 have c0 : w2.cell? ⟨g, 15, none⟩ = some (.int .i64 1) := d0
 have c1 : w2.cell? ⟨g, 16, none⟩ = some (.string ⟨#[97]⟩) := d1
 have c2 : w2.cell? ⟨g, 17, none⟩ = some (.string ⟨#[]⟩) := d2
 have c3 : w2.cell? ⟨g, 18, none⟩ = some (.int .i64 2) := d3
 have c4 : w2.cell? ⟨g, 19, none⟩ = some (.int .i64 4) := d4
 have heq := aw7_eq
 clear hb R2 d0 d1 d2 d3 d4
 go_wp2_with fail
 go_ret
 exact ⟨rfl, B2.out⟩
theorem awake07_any (w : World) : Calls Tryz.prog 43 #[] w fun e w' => e = .returned (.bool true) ∧ Below w.heap.size w w' := by
 go_enter Tryz.func43, Tryz.ntmps43
 go_wp2_with (go_at_call 74; go_must (refine (awake07_in _).mono ?_); rintro e w1 ⟨rfl, hb⟩)
 go_ret
 exact ⟨rfl, hb⟩
end Go.Proofs.YtfocognhcljhpaaGreatDoor
namespace Go.Proofs.YtfocognhcljhpaaGreatDoor
open Go.RowKit Go.Proofs.YtfocognhcljhpaaGreatDoorW.PrintWords Go.Proofs.YtfocognhcljhpaaGreatDoorW.PrintMore Go.Proofs.YtfocognhcljhpaaGreatDoor.PPrintRows Go.Proofs.YtfocognhcljhpaaGreatDoor.Tree
theorem numOk_any (s : ByteArray) (hs : s.size ≤ 1000000000000) : NumOk s := fun a ha => by
 have hsz : (s.extract a s.size).size ≤ s.size := by rw [ByteArray.size_extract]; omega
 refine ⟨s.size + 11, ?_⟩
 rw [json_num (s.extract a s.size) (by omega) (s.size + 11) (by omega), ext_list]
def aw8 : ByteArray := ⟨#[123, 32, 34, 98, 34, 32, 58, 32, 49, 44, 32, 34, 97, 34, 32, 58, 32, 50, 32, 125]⟩
def aw8t : Tr := .mk 7 ⟨#[]⟩ ⟨#[]⟩ [.mk 4 ⟨#[98]⟩ ⟨#[49]⟩ [], .mk 4 ⟨#[97]⟩ ⟨#[50]⟩ []]
set_option maxRecDepth 100000 in
theorem aw8_parse : parseS aw8 = (0, rowT aw8t) := by kernel_rfl
set_option maxRecDepth 100000 in
theorem aw8_row : (rowGo aw8 (aw8.size + 1) (some []) ⟨0, [], [], false, 0⟩).map (fun x => x.l) = some (rowT aw8t) := by kernel_rfl
set_option maxRecDepth 100000 in
theorem aw8_bs : ∀ (k : Nat) (h : k < aw8.size), aw8[k] ≠ 92 := by
 have : ∀ k : Fin 20, aw8.data.toList[k.1]? ≠ some 92 := by decide
 intro k h
 have h2 := this ⟨k, h⟩
 intro e
 apply h2
 rw [List.getElem?_eq_getElem (by simpa using h)]
 exact congrArg some e
def aw8s : Tr := .mk 7 ⟨#[]⟩ ⟨#[]⟩ [.mk 4 ⟨#[97]⟩ ⟨#[50]⟩ [], .mk 4 ⟨#[98]⟩ ⟨#[49]⟩ []]
theorem ordK_nil (k : Int) : ordK k [] = [] := List.length_eq_zero_iff.1 (ordK_perm k []).length_eq
theorem aw8_srt : srt aw8t = aw8s := by
 have e : ([.mk 4 ⟨#[97]⟩ ⟨#[50]⟩ [], .mk 4 ⟨#[98]⟩ ⟨#[49]⟩ []] : List Tr) = List.mergeSort [.mk 4 ⟨#[98]⟩ ⟨#[49]⟩ [], .mk 4 ⟨#[97]⟩ ⟨#[50]⟩ []] kle :=
  sorted_one (by decide) (.swap _ _ _) (by simp only [List.pairwise_cons, List.mem_cons, List.not_mem_nil, or_false, forall_eq, List.Pairwise.nil]; refine ⟨by kernel_rfl, ?_, trivial⟩; intro a h; exact h.elim)
 unfold aw8t aw8s
 rw [srt, srts, srts, srts, srt, srt, srts, ordK_nil, e]
 rfl
theorem aw8_ok (l : List Node) (h : l = rowT aw8t ∨ l = rowT aw8s) : ∀ n ∈ l, NodeOk l.length n := by
 have h1 : ∀ n ∈ rowT aw8t, n.f3 < 3 ∧ -1 ≤ n.f3 ∧ n.f1.size ≤ 1 ∧ n.f2.size ≤ 1 := by
  intro n hn
  have e : rowT aw8t = [⟨7, ⟨#[]⟩, ⟨#[]⟩, -1, 3⟩, ⟨4, ⟨#[98]⟩, ⟨#[49]⟩, 0, 2⟩, ⟨4, ⟨#[97]⟩, ⟨#[50]⟩, 0, 3⟩] := by kernel_rfl
  rw [e] at hn
  simp only [List.mem_cons, List.not_mem_nil, or_false] at hn
  rcases hn with rfl | rfl | rfl <;> exact ⟨by decide, by decide, by decide, by decide⟩
 have h2 : ∀ n ∈ rowT aw8s, n.f3 < 3 ∧ -1 ≤ n.f3 ∧ n.f1.size ≤ 1 ∧ n.f2.size ≤ 1 := by
  intro n hn
  have e : rowT aw8s = [⟨7, ⟨#[]⟩, ⟨#[]⟩, -1, 3⟩, ⟨4, ⟨#[97]⟩, ⟨#[50]⟩, 0, 2⟩, ⟨4, ⟨#[98]⟩, ⟨#[49]⟩, 0, 3⟩] := by kernel_rfl
  rw [e] at hn
  simp only [List.mem_cons, List.not_mem_nil, or_false] at hn
  rcases hn with rfl | rfl | rfl <;> exact ⟨by decide, by decide, by decide, by decide⟩
 intro n hn
 have hl : l.length = 3 := by rcases h with rfl | rfl <;> rfl
 have h3 : n.f3 < 3 ∧ -1 ≤ n.f3 ∧ n.f1.size ≤ 1 ∧ n.f2.size ≤ 1 := by
  rcases h with rfl | rfl
  ·exact h1 n hn
  ·exact h2 n hn
 rw [hl]
 exact ⟨by omega, by omega, by omega, by omega⟩
set_option maxRecDepth 100000 in
theorem aw8_chk1 (A : Option Addr) (c : Nat) (hc : (rowT aw8t).length ≤ c) : ChkIs A c (rowT aw8t) 0 := fun W hW =>
 check_any A c (rowT aw8t) true 1 W hW hc (by decide) (fun _ => aw8_ok _ (.inl rfl)) ⟨60, by kernel_rfl⟩ (fun _ => ⟨60, by kernel_rfl⟩)
set_option maxRecDepth 100000 in
theorem aw8_chk2 (A : Option Addr) (c : Nat) (hc : (rowT aw8s).length ≤ c) : ChkIs A c (rowT aw8s) 0 := fun W hW =>
 check_any A c (rowT aw8s) true 1 W hW hc (by decide) (fun _ => aw8_ok _ (.inr rfl)) ⟨60, by kernel_rfl⟩ (fun _ => ⟨60, by kernel_rfl⟩)
set_option maxRecDepth 100000 in
theorem aw8_any (w : World) : Calls Tryz.prog 22 #[.string aw8] w fun e w' => e = .returned (.tuple #[.string ⟨#[123, 34, 97, 34, 58, 50, 44, 34, 98, 34, 58, 49, 125]⟩, .int .i64 0]) ∧ Below w.heap.size w w' := by
 have hq : canonV aw8t = ⟨#[123, 34, 97, 34, 58, 50, 44, 34, 98, 34, 58, 49, 125]⟩ := by unfold canonV; rw [aw8_srt]; kernel_rfl
 rw [← hq]
 refine canon_ok aw8 aw8t (by kernel_rfl) (by rw [aw8_srt]; kernel_rfl) (by kernel_rfl) (by decide) (by kernel_rfl) w (fun W => ?_) aw8_chk1 (by rw [aw8_srt]; exact aw8_chk2) (by rw [aw8_srt]; decide)
 rw [← aw8_parse]
 refine parse_p aw8_bs (numOk_any aw8 (by decide)) (by decide) (fun x hx => ?_) W
 have h1 := aw8_row
 rw [hx] at h1
 have h2 : x.l = rowT aw8t := Option.some.inj h1
 rw [h2]
 exact ⟨by decide, aw8_ok _ (.inl rfl)⟩
set_option maxRecDepth 100000 in
set_option maxHeartbeats 2000000 in
theorem awake08_in (w : World) : Calls Tryz.prog 11 #[] w fun e w' => e = .returned (.bool true) ∧ Below w.heap.size w w' := by
 go_enter Tryz.func11, Tryz.ntmps11
 go_wp2_with (first | (go_at_call 22; go_must (refine (aw8_any _).mono ?_); rintro e w1 ⟨rfl, hb⟩; have B1 := Lib.hid hb; clear hb) | (go_at_call 43; go_must (refine (awake07_any _).mono ?_); rintro e w2 ⟨rfl, hb⟩; have B2 := Lib.hid (below_step B1.out hb); clear hb))
 go_ret
 exact ⟨rfl, B2.out⟩
end Go.Proofs.YtfocognhcljhpaaGreatDoor
namespace Go.Proofs.YtfocognhcljhpaaGreatDoor
open Go.RowKit Go.Proofs.YtfocognhcljhpaaGreatDoorW.PrintWords Go.Proofs.YtfocognhcljhpaaGreatDoorW.PrintMore Go.Proofs.YtfocognhcljhpaaGreatDoor.PPrintRows Go.Proofs.YtfocognhcljhpaaGreatDoor.Tree
theorem qc_len2 (c : UInt8) : 1 ≤ (qc c).length ∧ (qc c).length ≤ 6 := by
 unfold qc
 split
 ·simp
 ·split
  ·unfold escL
   repeat' split
   all_goals simp
  ·simp
theorem flat_qc_len2 : ∀ s : Bs, s.length ≤ (s.flatMap qc).length ∧ (s.flatMap qc).length ≤ 6 * s.length
 | [] => by simp
 | c :: s => by
  have h1 := flat_qc_len2 s
  have h2 := qc_len2 c
  rw [List.flatMap_cons, List.length_append, List.length_cons]
  omega
end Go.Proofs.YtfocognhcljhpaaGreatDoor
namespace Go.Proofs.YtfocognhcljhpaaGreatDoor
open Go.RowKit Go.Shelf Go.Proofs.YtfocognhcljhpaaGreatDoorW.PrintWords Go.Proofs.YtfocognhcljhpaaGreatDoorW.PrintMore Go.Proofs.YtfocognhcljhpaaGreatDoor.PPrintRows Go.Proofs.YtfocognhcljhpaaGreatDoor.Tree
mutual
theorem ok_sh : ∀ (t : Tr) (nm : Bool), t.ok isNumL nm = true → t.sh = true
 | .mk k key text kids, nm, h => by
  rw [Tr.ok, Bool.and_eq_true, Bool.and_eq_true] at h
  rw [Tr.sh, h.1.2, oks_shs kids (k == 7) h.2]
  rfl
theorem oks_shs : ∀ (ts : List Tr) (nm : Bool), oks isNumL nm ts = true → shs ts = true
 | [], _, _ => by rw [shs]
 | t :: ts, nm, h => by
  rw [oks, Bool.and_eq_true] at h
  rw [shs, ok_sh t nm h.1, oks_shs ts nm h.2]
  rfl
end
def wK (nm : Bool) (t : Tr) : Nat := 1 + (if nm = true then (quoteL t.key.data.toList).length + 1 else 0) + (prT quoteL t).length
theorem TreeOk.chk {t : Tr} (h : TreeOk t) : chkP (rowT t) = 0 := by
 rw [chk_tree t h.ok, if_pos h.tx, if_neg (by have := h.depth; omega), if_neg (by have := h.size; omega), if_pos h.uniq]
mutual
theorem prT_le : ∀ t : Tr, t.tx (fun b => decide (b.size ≤ 200)) = true → (prT quoteL t).length + 1300 ≤ 3000 * t.size
 | .mk k key text kids, h => by
  rw [Tr.tx, Bool.and_eq_true, Bool.and_eq_true] at h
  have h1 := of_decide_eq_true h.1.2
  have h2 := prK_le kids (k == 7) true h.2
  have h3 := flat_qc_len2 text.data.toList
  have h4 : text.data.toList.length = text.size := by simp
  rw [prT, Tr.size]
  split
  ·have e1 : (opn k).length = 1 := by unfold opn; split <;> rfl
   have e2 : (cls k).length = 1 := by unfold cls; split <;> rfl
   simp only [List.length_append]
   omega
  ·have e : (wordB quoteL k text.data.toList).length ≤ 1700 := by
    unfold wordB
    split
    ·simp
    ·split
     ·simp
     ·split
      ·simp
      ·split
       ·unfold quoteL
        rw [List.length_cons, List.length_append]
        simp only [List.length_cons, List.length_nil]
        omega
       ·omega
   omega
theorem prK_le : ∀ (ts : List Tr) (nm first : Bool), txs (fun b => decide (b.size ≤ 200)) ts = true → (prK quoteL nm first ts).length ≤ 3000 * sizes ts
 | [], nm, first, _ => by rw [prK]; simp
 | t :: ts, nm, first, h => by
  rw [txs, Bool.and_eq_true] at h
  have h1 := prT_le t h.1
  have h2 := prK_le ts nm false h.2
  have hk : t.key.size ≤ 200 := by
   obtain ⟨k, key, text, kids⟩ := t
   have := h.1
   rw [Tr.tx, Bool.and_eq_true, Bool.and_eq_true] at this
   exact of_decide_eq_true this.1.1
  have h3 := flat_qc_len2 t.key.data.toList
  have h4 : t.key.data.toList.length = t.key.size := by simp
  have h5 : (quoteL t.key.data.toList).length ≤ 1202 := by
   unfold quoteL
   rw [List.length_cons, List.length_append]
   simp only [List.length_cons, List.length_nil]
   omega
  rw [prK, sizes]
  simp only [List.length_append]
  have e1 : (if first = true then ([] : Bs) else [44]).length ≤ 1 := by split <;> simp
  have e2 : (if nm = true then quoteL t.key.data.toList ++ [58] else []).length ≤ 1203 := by
   split
   ·simp; omega
   ·simp
  omega
end
theorem tx_up (t : Tr) (ht : t.tx (fun x => decide (x.size ≤ 200)) = true) : t.tx (fun x => decide (x.size ≤ 100000)) = true := by
 rw [← flat_tx _ t (-1) 0, List.all_eq_true] at ht ⊢
 intro n hn
 have := ht n hn
 rw [Bool.and_eq_true] at this ⊢
 exact ⟨decide_eq_true (Nat.le_trans (of_decide_eq_true this.1) (by omega)), decide_eq_true (Nat.le_trans (of_decide_eq_true this.2) (by omega))⟩
def prB (t : Tr) : ByteArray := ⟨(prT quoteL t).toArray⟩
theorem prB_size (t : Tr) : (prB t).size = (prT quoteL t).length := by show (prT quoteL t).toArray.size = _; simp
set_option maxRecDepth 100000 in
set_option maxHeartbeats 2000000 in
theorem print_bad (A : Option Addr) (c : Nat) (l : List Node) (cv : Int) (w : World) (hr : Kd.C kN w A l.length l) (hcv : ChkIs A c l cv) (h0 : cv ≠ 0) :
  Calls Tryz.prog 13 #[.slice A l.length c] w fun e w' => e = .returned (.tuple #[.string ⟨#[]⟩, .int .i64 cv]) ∧ Below w.heap.size w w' := by
 have HCV := Lib.hid (hcv w hr)
 have k1 : (cv == 0) = false := beq_eq_false_iff_ne.2 h0
 have k2 : (cv != 0) = true := bne_iff_ne.2 h0
 clear hr hcv
 go_enter Tryz.func13, Tryz.ntmps13
 go_wp2_with (go_at_call 21; go_must (refine HCV.out.mono ?_); rintro e w1 ⟨rfl, hb⟩)
 go_ret2
 exact ⟨rfl, hb⟩
theorem print_T (A : Option Addr) (c : Nat) (t : Tr) (hT : TreeOk t) (htx : t.tx (fun b => decide (b.size ≤ 200)) = true) (hc : (rowT t).length ≤ c) (w : World) (hr : Kd.C kN w A (rowT t).length (rowT t)) :
  Calls Tryz.prog 13 #[.slice A (rowT t).length c] w fun e w' => e = .returned (.tuple #[.string (prB t), .int .i64 0]) ∧ Below w.heap.size w w' := by
 have hpos : 0 < (rowT t).length := by rw [rowT_len]; exact t.size_pos
 have hs := hT.size
 have hcat : catL (pcsL (rowT t)) = prT quoteL t := pcsL_tree t (ok_sh t false hT.ok)
 have hle := prT_le t htx
 have hno := rowT_nodeOk t (by omega) (tx_up t htx)
 have hpv : printV (rowT t) 0 = prB t := by unfold printV prB; rw [if_pos rfl, hcat]
 have h := print_any A c (rowT t) 0 w hr hc (fun a ha => by
  obtain ⟨ad, e, d0, _⟩ := node_at hr 0 hpos
  rw [ha] at e
  cases e
  have := World.block_lt_of_cell? _ _ d0
  rwa [show (a.add (0 * 5)).block = a.block by unfold Addr.add; split <;> rfl] at this)
  (by have := chk_any A c (rowT t) hc (by have := hno.len; omega) hno.txt; rw [hT.chk] at this; exact this) (fun _ => hno) (fun _ => by rw [hcat]; omega)
 rw [hpv] at h
 exact h
theorem row_block {w : World} {A : Option Addr} {l : List Node} (hr : Kd.C kN w A l.length l) (hpos : 0 < l.length) : ∀ a, A = some a → a.block < w.heap.size := fun a ha => by
 obtain ⟨ad, e, d0, _⟩ := node_at hr 0 hpos
 rw [ha] at e
 cases e
 have := World.block_lt_of_cell? _ _ d0
 rwa [show (a.add (0 * 5)).block = a.block by unfold Addr.add; split <;> rfl] at this
theorem chk_T (A : Option Addr) (c : Nat) (t : Tr) (hT : TreeOk t) (htx : t.tx (fun b => decide (b.size ≤ 200)) = true) (hc : (rowT t).length ≤ c) : ChkIs A c (rowT t) 0 := by
 have hno := rowT_nodeOk t (by have := hT.size; omega) (tx_up t htx)
 have := chk_any A c (rowT t) hc (by have := hno.len; omega) hno.txt
 rwa [hT.chk] at this
end Go.Proofs.YtfocognhcljhpaaGreatDoor
