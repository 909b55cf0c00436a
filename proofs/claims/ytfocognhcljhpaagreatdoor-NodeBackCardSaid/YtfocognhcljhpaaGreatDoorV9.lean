/- cashier/cashierlaw09.NodeBack returns true at every input, and each argument reads behind the call as it read before. Conditions: those of its given row (the listed package-level variables read, when the call begins, as their own initialisers lay them). -/
import Derived.Test.YtfocognhcljhpaaGreatDoorV1
import Derived.Test.YtfocognhcljhpaaGreatDoorV3
import Derived.Test.YtfocognhcljhpaaGreatDoorV8

namespace Go.Proofs.YtfocognhcljhpaaGreatDoor
set_option linter.unusedVariables false
set_option linter.unusedSimpArgs false
open Go.RowKit Go.Proofs.YtfocognhcljhpaaGreatDoorW.PrintWords Go.Proofs.YtfocognhcljhpaaGreatDoorW.PrintMore Go.Proofs.YtfocognhcljhpaaGreatDoor.PPrintRows Go.Proofs.YtfocognhcljhpaaGreatDoor.Tree

/-- Are nodes gone through here? -/
def lightV (l : List Node) : Bool := l.all fun n => decide (l.length ≤ 300 ∧ n.f1.size ≤ 200 ∧ n.f2.size ≤ 200)

set_option maxRecDepth 100000 in
set_option maxHeartbeats 2000000 in
theorem light_any (A : Option Addr) (c : Nat) (l : List Node) (hl : l.length ≤ 9223372036854775807) (hc : l.length ≤ c) (w : World) (hr : Kd.C kN w A l.length l) :
    Calls Tryz.prog 12 #[.slice A l.length c] w fun e w' => e = .returned (.bool (lightV l)) ∧ Below w.heap.size w w' := by
  obtain ⟨res, hres⟩ : ∃ r, lightV l = r := ⟨_, rfl⟩
  rw [hres]
  have HRS := Lib.hid hres
  have HR := Lib.hid hr
  clear hres hr
  go_enter Tryz.func12, Tryz.ntmps12
  go_wp2_with fail
  go_loopw [7] (fun vi wr => ∃ (q : Nat), q ≤ l.length ∧ vi = .int .i64 (q : Int) ∧ ((l.take q).all fun n => decide (l.length ≤ 300 ∧ n.f1.size ≤ 200 ∧ n.f2.size ≤ 200)) = true ∧ Below w.heap.size w wr) (fun vi _ => l.length - (intOf vi).toNat)
  case atStart => exact ⟨0, Nat.zero_le _, rfl, rfl, Below.refl _ _⟩
  case round =>
    obtain ⟨q, hq, rfl, hA, hB⟩ := hrel
    have B := Lib.hid hB
    have HA := Lib.hid hA
    clear hA
    by_cases hlt : q < l.length
    · have k9 : decide ((q : Int) < (l.length : Int)) = true := decide_eq_true (by omega)
      have k10 : decide (q < l.length) = true := decide_eq_true hlt
      have HLT := Lib.hid hlt
      obtain ⟨ad, rfl, d0, d1, d2, d3, d4⟩ := node_at (Kd.C_below HR.out hB) q hlt
      have htk : l.take (q + 1) = l.take q ++ [l[q]] := List.take_succ_eq_append_getElem hlt
      have hmem : l[q] ∈ l := List.getElem_mem hlt
      generalize l[q] = x at d0 d1 d2 d3 d4 htk hmem
      have HTK := Lib.hid htk
      have HMEM := Lib.hid hmem
      clear htk hmem hB
      have hmx : ∀ ats ty, Builtin.max_ ats ty #[.int .i64 (x.f1.size : Int), .int .i64 (x.f2.size : Int)] = pure (.int .i64 ((max x.f1.size x.f2.size : Nat) : Int)) := fun ats ty => by
        rw [max_two, max2_int, pure_bind]
        congr 2
        split <;> omega
      have hno : ¬ (l.length ≤ 300 ∧ x.f1.size ≤ 200 ∧ x.f2.size ≤ 200) → false = res := fun h => by
        rw [← HRS.out]
        unfold lightV
        rw [eq_comm, List.all_eq_false]
        exact ⟨x, HMEM.out, by simpa using h⟩
      have HNO := Lib.hid hno
      clear hno
      by_cases h3 : 300 < l.length
      · have k1 : decide ((300 : Int) < (l.length : Int)) = true := decide_eq_true (by omega)
        have k2 : decide (300 < l.length) = true := decide_eq_true h3
        obtain rfl := HNO.out (by omega)
        clear h3
        go_wp2_with fail
        go_ret
        exact ⟨rfl, below_alloc B.out _⟩
      · have k1 : decide ((300 : Int) < (l.length : Int)) = false := decide_eq_false (by omega)
        have k2 : decide (300 < l.length) = false := decide_eq_false h3
        by_cases h2 : 200 < max x.f1.size x.f2.size
        · have k3 : decide ((200 : Int) < ((max x.f1.size x.f2.size : Nat) : Int)) = true := decide_eq_true (by omega)
          have k4 : decide (200 < max x.f1.size x.f2.size) = true := decide_eq_true h2
          obtain rfl := HNO.out (by omega)
          generalize max x.f1.size x.f2.size = mx at *
          clear h3 h2
          go_wp2_with fail
          go_ret
          exact ⟨rfl, below_alloc B.out _⟩
        · have k3 : decide ((200 : Int) < ((max x.f1.size x.f2.size : Nat) : Int)) = false := decide_eq_false (by omega)
          have k4 : decide (200 < max x.f1.size x.f2.size) = false := decide_eq_false h2
          have hn : ((l.take (q + 1)).all fun n => decide (l.length ≤ 300 ∧ n.f1.size ≤ 200 ∧ n.f2.size ≤ 200)) = true := by
            rw [HTK.out, List.all_append, HA.out, Bool.true_and]
            simp only [List.all_cons, List.all_nil, Bool.and_true, decide_eq_true_eq]
            omega
          have HN := Lib.hid hn
          generalize max x.f1.size x.f2.size = mx at *
          clear h3 h2 hn
          go_wp2_with fail
          go_roundw
          case rel => exact ⟨q + 1, HLT.out, by go_num, HN.out, below_alloc B.out _⟩
          case measure => have := HLT.out; simp [intOf]; omega
    · obtain rfl : q = l.length := by omega
      have k9 : decide ((l.length : Int) < (l.length : Int)) = false := decide_eq_false (by omega)
      have hr2 : true = res := by
        have := HA.out
        rw [List.take_of_length_le (Nat.le_refl _)] at this
        rw [← HRS.out]
        exact this.symm
      subst hr2
      clear hB
      go_wp2_with fail
      go_ret
      exact ⟨rfl, B.out⟩

theorem light_all {l : List Node} (h : lightV l = true) : l.length ≤ 300 ∧ ∀ n ∈ l, n.f1.size ≤ 200 ∧ n.f2.size ≤ 200 := by
  unfold lightV at h
  rw [List.all_eq_true] at h
  simp only [decide_eq_true_eq] at h
  refine ⟨?_, fun n hn => (h n hn).2⟩
  cases l with
  | nil => simp
  | cons a t => exact (h a (by simp)).1
end Go.Proofs.YtfocognhcljhpaaGreatDoor

namespace Go.Proofs.YtfocognhcljhpaaGreatDoor
set_option linter.unusedVariables false
open Go.RowKit Go.Proofs.YtfocognhcljhpaaGreatDoorW.PrintWords Go.Proofs.YtfocognhcljhpaaGreatDoorW.PrintMore Go.Proofs.YtfocognhcljhpaaGreatDoor.PPrintRows Go.Proofs.YtfocognhcljhpaaGreatDoor.Tree

def aw7 : ByteArray := ⟨#[91, 49, 44, 123, 34, 97, 34, 58, 110, 117, 108, 108, 125, 93]⟩
def aw7l : List Node := [⟨6, ⟨#[]⟩, ⟨#[]⟩, -1, 4⟩, ⟨4, ⟨#[]⟩, ⟨#[49]⟩, 0, 2⟩, ⟨7, ⟨#[]⟩, ⟨#[]⟩, 0, 4⟩, ⟨1, ⟨#[97]⟩, ⟨#[]⟩, 2, 4⟩]
set_option maxRecDepth 100000 in
theorem aw7_row : rowGo aw7 (aw7.size + 1) (some []) ⟨0, [], [], false, 0⟩ = some ⟨14, aw7l, [], false, 2⟩ := by kernel_rfl
set_option maxRecDepth 100000 in
theorem aw7_parse : parseS aw7 = (0, aw7l) := by kernel_rfl
set_option maxRecDepth 100000 in
theorem aw7_bs : ∀ (k : Nat) (h : k < aw7.size), aw7[k] ≠ 92 := by
  have : ∀ k : Fin 14, aw7.data.toList[k.1]? ≠ some 92 := by decide
  intro k h
  have h2 := this ⟨k, h⟩
  intro e
  apply h2
  rw [List.getElem?_eq_getElem (by simpa using h)]
  exact congrArg some e
set_option maxRecDepth 100000 in
theorem aw7_num : NumOk aw7 := by
  intro a ha
  have h14 : a ≤ 14 := ha
  have : a = 0 ∨ a = 1 ∨ a = 2 ∨ a = 3 ∨ a = 4 ∨ a = 5 ∨ a = 6 ∨ a = 7 ∨ a = 8 ∨ a = 9 ∨ a = 10 ∨ a = 11 ∨ a = 12 ∨ a = 13 ∨ a = 14 := by omega
  rcases this with rfl | rfl | rfl | rfl | rfl | rfl | rfl | rfl | rfl | rfl | rfl | rfl | rfl | rfl | rfl
  all_goals exact ⟨20, by kernel_rfl⟩
end Go.Proofs.YtfocognhcljhpaaGreatDoor

namespace Go.Proofs.YtfocognhcljhpaaGreatDoor
set_option linter.unusedVariables false
set_option linter.unusedSimpArgs false
open Go.RowKit Go.Proofs.YtfocognhcljhpaaGreatDoorW.PrintWords Go.Proofs.YtfocognhcljhpaaGreatDoorW.PrintMore Go.Proofs.YtfocognhcljhpaaGreatDoor.PPrintRows Go.Proofs.YtfocognhcljhpaaGreatDoor.Tree

theorem put_euro (w : World) : Calls Tryz.prog 133 #[.int .i32 8364] w fun e w' => e = .returned (.string ⟨#[226, 130, 172]⟩) ∧ Below w.heap.size w w' := PRef.utf_Put.calls 20 8364 _ w (by kernel_rfl)
theorem count_euro (w : World) : Calls Tryz.prog 134 #[.string ⟨#[226, 130, 172]⟩] w fun e w' => e = .returned (.int .i64 1) ∧ Below w.heap.size w w' := by
  refine (count_any ⟨#[226, 130, 172]⟩ (by decide) w).mono ?_
  rintro e w' ⟨rfl, hb⟩
  exact ⟨rfl, hb⟩

set_option maxRecDepth 100000 in
set_option maxHeartbeats 2000000 in
theorem awake04_in (w : World) : Calls Tryz.prog 115 #[] w fun e w' => e = .returned (.bool true) ∧ Below w.heap.size w w' := by
  go_enter Tryz.func115, Tryz.ntmps115
  go_wp2_with (first | (go_at_call 133; go_must (refine (put_euro _).mono ?_); rintro e w1 ⟨rfl, hd⟩; have B1 := Lib.hid hd; clear hd) | (go_at_call 134; go_must (refine (count_euro _).mono ?_); rintro e w2 ⟨rfl, hb⟩; have B2 := Lib.hid (below_step B1.out hb); clear hb))
  go_ret
  exact ⟨rfl, B2.out⟩
theorem awake04_any (w : World) : Calls Tryz.prog 97 #[] w fun e w' => e = .returned (.bool true) ∧ Below w.heap.size w w' := by
  go_enter Tryz.func97, Tryz.ntmps97
  go_wp2_with (go_at_call 115; go_must (refine (awake04_in _).mono ?_); rintro e w1 ⟨rfl, hb⟩)
  go_ret
  exact ⟨rfl, hb⟩

theorem aw7_any (w : World) : Calls Tryz.prog 24 #[.string aw7] w fun e w' => ∃ g c, e = .returned (.tuple #[.slice (some ⟨g, 0, none⟩) 4 c, .int .i64 0]) ∧ RowAt w' w.heap.size (.slice (some ⟨g, 0, none⟩) 4 c) aw7l ∧ Below w.heap.size w w' := by
  refine (parse_p aw7_bs aw7_num (by decide) (fun x hx => ?_) w).mono ?_
  · obtain rfl : _ = x := by injection aw7_row.symm.trans hx
    refine ⟨by decide, fun n hn => ?_⟩
    simp only [aw7l, List.mem_cons, List.not_mem_nil, or_false] at hn
    rcases hn with rfl | rfl | rfl | rfl <;> exact ⟨by decide, by decide, by decide, by decide⟩
  · rintro e w' ⟨v, rfl, hr, hb⟩
    rw [aw7_parse] at hr ⊢
    obtain ⟨A, c, rfl, _⟩ := hr.slice
    obtain ⟨ad, rfl, _⟩ := node_at (hr.C (by decide)) 0 (by decide)
    obtain ⟨g, _, rfl, _⟩ := row_addr hr
    exact ⟨g, c, rfl, hr, hb⟩

theorem aw7_eq (w : World) : (Op.equalIn 10000 48 (.agg #[.int .i64 1, .string ⟨#[97]⟩, .string ⟨#[]⟩, .int .i64 2, .int .i64 4]) (.agg #[.int .i64 1, .string ⟨#[97]⟩, .string ⟨#[]⟩, .int .i64 2, .int .i64 4])).run Tryz.prog w = .ok true w := by kernel_rfl

set_option maxRecDepth 100000 in
set_option maxHeartbeats 2000000 in
theorem awake07_in (w : World) : Calls Tryz.prog 74 #[] w fun e w' => e = .returned (.bool true) ∧ Below w.heap.size w w' := by
  go_enter Tryz.func74, Tryz.ntmps74
  go_wp2_with (go_at_call 24; go_must (refine (aw7_any _).mono ?_))
  rintro e w1 ⟨g, c, rfl, hr, hb⟩
  have R1 := Lib.hid hr
  have B1 := Lib.hid hb
  clear hr hb
  go_wp2_with (go_at_call 97; go_must (refine (awake04_any _).mono ?_))
  rintro e w2 ⟨rfl, hb⟩
  have B2 := Lib.hid (below_step B1.out hb)
  have R2 := R1.out.keep (w1 := w2) (fun k hk => hb.block k (row_lt R1.out k hk))
  obtain ⟨_, e, d0, d1, d2, d3, d4⟩ := node_at (R2.C (by decide)) 3 (by decide)
  injection e with e
  subst e
  rw [Lib.add_plain] at d0 d1 d2 d3 d4
  have c0 : w2.cell? ⟨g, 15, none⟩ = some (.int .i64 1) := d0
  have c1 : w2.cell? ⟨g, 16, none⟩ = some (.string ⟨#[97]⟩) := d1
  have c2 : w2.cell? ⟨g, 17, none⟩ = some (.string ⟨#[]⟩) := d2
  have c3 : w2.cell? ⟨g, 18, none⟩ = some (.int .i64 2) := d3
  have c4 : w2.cell? ⟨g, 19, none⟩ = some (.int .i64 4) := d4
  have heq := aw7_eq
  clear hb R2 d0 d1 d2 d3 d4
  go_wp2_with fail
  go_ret
  exact ⟨rfl, B2.out⟩
theorem awake07_any (w : World) : Calls Tryz.prog 43 #[] w fun e w' => e = .returned (.bool true) ∧ Below w.heap.size w w' := by
  go_enter Tryz.func43, Tryz.ntmps43
  go_wp2_with (go_at_call 74; go_must (refine (awake07_in _).mono ?_); rintro e w1 ⟨rfl, hb⟩)
  go_ret
  exact ⟨rfl, hb⟩
end Go.Proofs.YtfocognhcljhpaaGreatDoor

namespace Go.Proofs.YtfocognhcljhpaaGreatDoor
set_option linter.unusedVariables false
set_option linter.unusedSimpArgs false
open Go.RowKit Go.Proofs.YtfocognhcljhpaaGreatDoorW.PrintWords Go.Proofs.YtfocognhcljhpaaGreatDoorW.PrintMore Go.Proofs.YtfocognhcljhpaaGreatDoor.PPrintRows Go.Proofs.YtfocognhcljhpaaGreatDoor.Tree

theorem numOk_any (s : ByteArray) (hs : s.size ≤ 1000000000000) : NumOk s := fun a ha => by
  have hsz : (s.extract a s.size).size ≤ s.size := by rw [ByteArray.size_extract]; omega
  refine ⟨s.size + 11, ?_⟩
  rw [json_num (s.extract a s.size) (by omega) (s.size + 11) (by omega), ext_list]

def aw8 : ByteArray := ⟨#[123, 32, 34, 98, 34, 32, 58, 32, 49, 44, 32, 34, 97, 34, 32, 58, 32, 50, 32, 125]⟩
def aw8t : Tr := .mk 7 ⟨#[]⟩ ⟨#[]⟩ [.mk 4 ⟨#[98]⟩ ⟨#[49]⟩ [], .mk 4 ⟨#[97]⟩ ⟨#[50]⟩ []]
set_option maxRecDepth 100000 in
theorem aw8_parse : parseS aw8 = (0, rowT aw8t) := by kernel_rfl
set_option maxRecDepth 100000 in
theorem aw8_row : (rowGo aw8 (aw8.size + 1) (some []) ⟨0, [], [], false, 0⟩).map (fun x => x.l) = some (rowT aw8t) := by kernel_rfl
set_option maxRecDepth 100000 in
theorem aw8_bs : ∀ (k : Nat) (h : k < aw8.size), aw8[k] ≠ 92 := by
  have : ∀ k : Fin 20, aw8.data.toList[k.1]? ≠ some 92 := by decide
  intro k h
  have h2 := this ⟨k, h⟩
  intro e
  apply h2
  rw [List.getElem?_eq_getElem (by simpa using h)]
  exact congrArg some e
def aw8s : Tr := .mk 7 ⟨#[]⟩ ⟨#[]⟩ [.mk 4 ⟨#[97]⟩ ⟨#[50]⟩ [], .mk 4 ⟨#[98]⟩ ⟨#[49]⟩ []]
theorem ordK_nil (k : Int) : ordK k [] = [] := List.length_eq_zero_iff.1 (ordK_perm k []).length_eq
theorem aw8_srt : srt aw8t = aw8s := by
  have e : ([.mk 4 ⟨#[97]⟩ ⟨#[50]⟩ [], .mk 4 ⟨#[98]⟩ ⟨#[49]⟩ []] : List Tr) = List.mergeSort [.mk 4 ⟨#[98]⟩ ⟨#[49]⟩ [], .mk 4 ⟨#[97]⟩ ⟨#[50]⟩ []] kle :=
    sorted_one (by decide) (.swap _ _ _) (by simp only [List.pairwise_cons, List.mem_cons, List.not_mem_nil, or_false, forall_eq, List.Pairwise.nil]; refine ⟨by kernel_rfl, ?_, trivial⟩; intro a h; exact h.elim)
  unfold aw8t aw8s
  rw [srt, srts, srts, srts, srt, srt, srts, ordK_nil, e]
  rfl

theorem aw8_ok (l : List Node) (h : l = rowT aw8t ∨ l = rowT aw8s) : ∀ n ∈ l, NodeOk l.length n := by
  have h1 : ∀ n ∈ rowT aw8t, n.f3 < 3 ∧ -1 ≤ n.f3 ∧ n.f1.size ≤ 1 ∧ n.f2.size ≤ 1 := by
    intro n hn
    have e : rowT aw8t = [⟨7, ⟨#[]⟩, ⟨#[]⟩, -1, 3⟩, ⟨4, ⟨#[98]⟩, ⟨#[49]⟩, 0, 2⟩, ⟨4, ⟨#[97]⟩, ⟨#[50]⟩, 0, 3⟩] := by kernel_rfl
    rw [e] at hn
    simp only [List.mem_cons, List.not_mem_nil, or_false] at hn
    rcases hn with rfl | rfl | rfl <;> exact ⟨by decide, by decide, by decide, by decide⟩
  have h2 : ∀ n ∈ rowT aw8s, n.f3 < 3 ∧ -1 ≤ n.f3 ∧ n.f1.size ≤ 1 ∧ n.f2.size ≤ 1 := by
    intro n hn
    have e : rowT aw8s = [⟨7, ⟨#[]⟩, ⟨#[]⟩, -1, 3⟩, ⟨4, ⟨#[97]⟩, ⟨#[50]⟩, 0, 2⟩, ⟨4, ⟨#[98]⟩, ⟨#[49]⟩, 0, 3⟩] := by kernel_rfl
    rw [e] at hn
    simp only [List.mem_cons, List.not_mem_nil, or_false] at hn
    rcases hn with rfl | rfl | rfl <;> exact ⟨by decide, by decide, by decide, by decide⟩
  intro n hn
  have hl : l.length = 3 := by rcases h with rfl | rfl <;> rfl
  have h3 : n.f3 < 3 ∧ -1 ≤ n.f3 ∧ n.f1.size ≤ 1 ∧ n.f2.size ≤ 1 := by
    rcases h with rfl | rfl
    · exact h1 n hn
    · exact h2 n hn
  rw [hl]
  exact ⟨by omega, by omega, by omega, by omega⟩

set_option maxRecDepth 100000 in
theorem aw8_chk1 (A : Option Addr) (c : Nat) (hc : (rowT aw8t).length ≤ c) : ChkIs A c (rowT aw8t) 0 := fun W hW =>
  check_any A c (rowT aw8t) true 1 W hW hc (by decide) (fun _ => aw8_ok _ (.inl rfl)) ⟨60, by kernel_rfl⟩ (fun _ => ⟨60, by kernel_rfl⟩)
set_option maxRecDepth 100000 in
theorem aw8_chk2 (A : Option Addr) (c : Nat) (hc : (rowT aw8s).length ≤ c) : ChkIs A c (rowT aw8s) 0 := fun W hW =>
  check_any A c (rowT aw8s) true 1 W hW hc (by decide) (fun _ => aw8_ok _ (.inr rfl)) ⟨60, by kernel_rfl⟩ (fun _ => ⟨60, by kernel_rfl⟩)

set_option maxRecDepth 100000 in
theorem aw8_any (w : World) : Calls Tryz.prog 22 #[.string aw8] w fun e w' => e = .returned (.tuple #[.string ⟨#[123, 34, 97, 34, 58, 50, 44, 34, 98, 34, 58, 49, 125]⟩, .int .i64 0]) ∧ Below w.heap.size w w' := by
  have hq : canonV aw8t = ⟨#[123, 34, 97, 34, 58, 50, 44, 34, 98, 34, 58, 49, 125]⟩ := by unfold canonV; rw [aw8_srt]; kernel_rfl
  rw [← hq]
  refine canon_ok aw8 aw8t (by kernel_rfl) (by rw [aw8_srt]; kernel_rfl) (by kernel_rfl) (by decide) (by kernel_rfl) w (fun W => ?_) aw8_chk1 (by rw [aw8_srt]; exact aw8_chk2) (by rw [aw8_srt]; decide)
  rw [← aw8_parse]
  refine parse_p aw8_bs (numOk_any aw8 (by decide)) (by decide) (fun x hx => ?_) W
  have h1 := aw8_row
  rw [hx] at h1
  have h2 : x.l = rowT aw8t := Option.some.inj h1
  rw [h2]
  exact ⟨by decide, aw8_ok _ (.inl rfl)⟩

set_option maxRecDepth 100000 in
set_option maxHeartbeats 2000000 in
theorem awake08_in (w : World) : Calls Tryz.prog 11 #[] w fun e w' => e = .returned (.bool true) ∧ Below w.heap.size w w' := by
  go_enter Tryz.func11, Tryz.ntmps11
  go_wp2_with (first | (go_at_call 22; go_must (refine (aw8_any _).mono ?_); rintro e w1 ⟨rfl, hb⟩; have B1 := Lib.hid hb; clear hb) | (go_at_call 43; go_must (refine (awake07_any _).mono ?_); rintro e w2 ⟨rfl, hb⟩; have B2 := Lib.hid (below_step B1.out hb); clear hb))
  go_ret
  exact ⟨rfl, B2.out⟩
theorem awake08_any (w : World) : Calls Tryz.prog 64 #[] w fun e w' => e = .returned (.bool true) ∧ Below w.heap.size w w' := by
  go_enter Tryz.func64, Tryz.ntmps64
  go_wp2_with (go_at_call 11; go_must (refine (awake08_in _).mono ?_); rintro e w1 ⟨rfl, hb⟩)
  go_ret
  exact ⟨rfl, hb⟩
end Go.Proofs.YtfocognhcljhpaaGreatDoor

namespace Go.Proofs.YtfocognhcljhpaaGreatDoor
set_option linter.unusedVariables false
set_option linter.unusedSimpArgs false
open Go.RowKit Go.Proofs.YtfocognhcljhpaaGreatDoorW.PrintWords Go.Proofs.YtfocognhcljhpaaGreatDoorW.PrintMore Go.Proofs.YtfocognhcljhpaaGreatDoor.PPrintRows Go.Proofs.YtfocognhcljhpaaGreatDoor.Tree

theorem array_none (w : World) : Calls Tryz.prog 27 #[.slice none 0 0] w fun e w' => ∃ A c, e = .returned (.slice A 1 c) ∧ RowAt w' w.heap.size (.slice A 1 c) [root 6] ∧ Below w.heap.size w w' := by
  refine (array_any none 0 [] w (fun q m h => by simp at h) (by decide) (by decide) (fun m h => by cases h) (fun a h => by cases h)).mono ?_
  rintro e w' ⟨v, rfl, hR, hB⟩
  have e1 : allV 6 [] = [root 6] := by kernel_rfl
  rw [e1] at hR
  obtain ⟨A, c, rfl, _⟩ := hR.slice
  exact ⟨A, c, rfl, hR, hB⟩

def aw9t : Tr := .mk 7 ⟨#[]⟩ ⟨#[]⟩ [.mk 6 ⟨#[97]⟩ ⟨#[]⟩ []]
theorem aw9_row : allV 7 [(⟨#[97]⟩, (none, 0), [root 6])] = rowT aw9t := by kernel_rfl
theorem aw9_rowA (A : Option Addr) (c : Nat) : allV 7 [(⟨#[97]⟩, (A, c), [root 6])] = rowT aw9t := aw9_row
theorem aw9_ok : ∀ n ∈ rowT aw9t, NodeOk (rowT aw9t).length n := by
  intro n hn
  have e : rowT aw9t = [⟨7, ⟨#[]⟩, ⟨#[]⟩, -1, 2⟩, ⟨6, ⟨#[97]⟩, ⟨#[]⟩, 0, 2⟩] := by kernel_rfl
  have hl : (rowT aw9t).length = 2 := rfl
  rw [hl]
  rw [e] at hn
  simp only [List.mem_cons, List.not_mem_nil, or_false] at hn
  rcases hn with rfl | rfl <;> exact ⟨by decide, by decide, by decide, by decide⟩
set_option maxRecDepth 100000 in
theorem aw9_chk (A : Option Addr) (c : Nat) (hc : (rowT aw9t).length ≤ c) : ChkIs A c (rowT aw9t) 0 := fun W hW =>
  check_any A c (rowT aw9t) true 2 W hW hc (by decide) (fun _ => aw9_ok) ⟨60, by kernel_rfl⟩ (fun _ => ⟨60, by kernel_rfl⟩)

theorem aw9_obj (g c b : Nat) (w : World) (hR : RowAt w b (.slice (some ⟨g, 0, none⟩) 1 c) [root 6]) :
    Calls Tryz.prog 28 #[.slice (some ⟨w.heap.size, 0, none⟩) 1 1] (w.alloc (.cells #[.string ⟨#[97]⟩, .slice (some ⟨g, 0, none⟩) 1 c] 54)) fun e w' => ∃ A' c', e = .returned (.slice A' 2 c') ∧ 2 ≤ c' ∧ Kd.C kN w' A' (rowT aw9t).length (rowT aw9t) ∧ (∀ a, A' = some a → a.block < w'.heap.size) ∧ Below (w.heap.size + 1) (w.alloc (.cells #[.string ⟨#[97]⟩, .slice (some ⟨g, 0, none⟩) 1 c] 54)) w' := by
  obtain ⟨w1, hw1⟩ : ∃ w1, w.alloc (.cells #[.string ⟨#[97]⟩, .slice (some ⟨g, 0, none⟩) 1 c] 54) = w1 := ⟨_, rfl⟩
  have hs : w1.heap.size = w.heap.size + 1 := by rw [← hw1]; simp
  have hblk : w1.heap[w.heap.size]? = some (.cells #[.string ⟨#[97]⟩, .slice (some ⟨g, 0, none⟩) 1 c] 54 (0, 0)) := by rw [← hw1]; exact blk_new _ _
  have hbw : Below w.heap.size w w1 := by rw [← hw1]; exact below_alloc (Below.refl _ _) _
  have hg : g < w.heap.size := row_lt hR g rfl
  rw [hw1, ← hs]
  have hcap : 1 ≤ c := by obtain ⟨_, _, e, h⟩ := hR.slice; injection e with _ _ e; subst e; exact h
  refine (object_any (some ⟨w.heap.size, 0, none⟩) 1 [(⟨#[97]⟩, (some ⟨g, 0, none⟩, c), [root 6])] w1 (fun q m h => ?_) (Nat.le_of_ble_eq_true rfl) (Nat.le_of_ble_eq_true rfl) (fun m h => ?_) (fun a h => by injection h with h; subst h; show w.heap.size < _; omega)).mono ?_
  · cases q with
    | zero =>
      simp at h
      subst h
      exact ⟨_, rfl, by show w.heap.size < _; omega, blkc hblk 0 rfl, blkc hblk 1 rfl⟩
    | succ q => simp at h
  · simp only [List.mem_cons, List.not_mem_nil, or_false] at h
    subst h
    refine ⟨?_, hcap, fun n hn => ?_, fun a ha => ?_⟩
    · exact Kd.C_below (hR.C (by decide)) hbw
    · simp only [List.mem_cons, List.not_mem_nil, or_false] at hn
      subst hn
      exact ⟨by decide, by decide, by decide, by decide⟩
    · injection ha with ha
      subst ha
      show g < _
      omega
  · rintro e w' ⟨v, rfl, hR2, hB2⟩
    rw [aw9_rowA] at hR2
    obtain ⟨A, c2, rfl, hc2⟩ := hR2.slice
    exact ⟨A, c2, rfl, hc2, hR2.C (by decide), fun a ha => by subst ha; exact row_lt hR2 a.block rfl, hB2⟩

set_option maxRecDepth 100000 in
theorem aw9_print (A : Option Addr) (c : Nat) (hc : 2 ≤ c) (w : World) (hr : Kd.C kN w A (rowT aw9t).length (rowT aw9t)) (hA : ∀ a, A = some a → a.block < w.heap.size) :
    Calls Tryz.prog 13 #[.slice A 2 c] w fun e w' => e = .returned (.tuple #[.string ⟨#[123, 34, 97, 34, 58, 91, 93, 125]⟩, .int .i64 0]) ∧ Below w.heap.size w w' := by
  have hcat : catL (pcsL (rowT aw9t)) = [123, 34, 97, 34, 58, 91, 93, 125] := by
    have := pcsL_tree aw9t (by kernel_rfl)
    have e2 : prT quoteL aw9t = [123, 34, 97, 34, 58, 91, 93, 125] := by kernel_rfl
    rw [show rowT aw9t = (aw9t.flat (-1) 0).map toN from rfl, this, e2]
  have h := print_any A c (rowT aw9t) 0 w hr hc hA (aw9_chk A c hc) (fun _ => rowT_nodeOk aw9t (by decide) (by kernel_rfl)) (fun _ => by rw [hcat]; decide)
  have e : printV (rowT aw9t) 0 = ⟨#[123, 34, 97, 34, 58, 91, 93, 125]⟩ := by unfold printV; rw [if_pos rfl, hcat]
  rw [e] at h
  exact h

set_option maxRecDepth 100000 in
set_option maxHeartbeats 2000000 in
theorem awake09_in (w : World) : Calls Tryz.prog 26 #[] w fun e w' => e = .returned (.bool true) ∧ Below w.heap.size w w' := by
  go_enter Tryz.func26, Tryz.ntmps26
  go_wp2_with (go_at_call 27; go_must (refine (array_none _).mono ?_))
  rintro e w1 ⟨A, c, rfl, hR, hB⟩
  obtain ⟨ad, rfl, _⟩ := node_at (hR.C (by decide)) 0 (by decide)
  obtain ⟨g, _, rfl, _⟩ := row_addr hR
  have B1 := Lib.hid hB
  have OB := Lib.hid (aw9_obj g c w.heap.size w1 hR)
  clear hR hB
  go_wp2_with (go_at_call 28; go_must (refine OB.out.mono ?_))
  rintro e w2 ⟨A2, c2, rfl, hc2, hC2, hA2, hB2⟩
  have PR := Lib.hid (aw9_print A2 c2 hc2 w2 hC2 hA2)
  have B2 := Lib.hid ((below_alloc B1.out _).trans (hB2.mono (Nat.le_succ_of_le B1.out.size)))
  clear hc2 hC2 hA2 hB2
  go_wp2_with (first | (go_at_call 13; go_must (refine PR.out.mono ?_); rintro e w3 ⟨rfl, hb⟩; have B3 := Lib.hid (below_step B2.out hb); clear hb) | (go_at_call 64; go_must (refine (awake08_any _).mono ?_); rintro e w4 ⟨rfl, hb⟩; have B4 := Lib.hid (below_step B3.out hb); clear hb))
  go_ret
  exact ⟨rfl, B4.out⟩
end Go.Proofs.YtfocognhcljhpaaGreatDoor

namespace Go.Proofs.YtfocognhcljhpaaGreatDoor
set_option linter.unusedVariables false
set_option linter.unusedSimpArgs false
open Go.RowKit Go.Shelf Go.Proofs.YtfocognhcljhpaaGreatDoorW.PrintWords Go.Proofs.YtfocognhcljhpaaGreatDoorW.PrintLast Go.Proofs.YtfocognhcljhpaaGreatDoorW.PrintMore Go.Proofs.YtfocognhcljhpaaGreatDoor.PPrintRows Go.Proofs.YtfocognhcljhpaaGreatDoor.Tree
attribute [local go_sem] Oper.semAt_some

set_option maxRecDepth 100000 in
set_option maxHeartbeats 4000000 in
theorem nodeBack_not (A : Option Addr) (c : Nat) (l : List Node) (W : World) (hc : l.length ≤ c) (hl : l.length ≤ 9223372036854775807) (hC : Kd.C kN W A l.length l)
    (hno : lightV l = true → chkP l ≠ 0) :
    Calls Tryz.prog 8 #[.slice A l.length c] W fun e w' => e = .returned (.bool true) ∧ Below W.heap.size W w' := by
  have HLI := Lib.hid (fun w (h : Below W.heap.size W w) => light_any A c l hl hc w (Kd.C_below hC h))
  obtain ⟨lv, hlv⟩ : ∃ lv, lightV l = lv := ⟨_, rfl⟩
  rw [hlv] at HLI hno
  cases lv with
  | false =>
    clear hno hlv hC
    go_enter Tryz.func8, Tryz.ntmps8
    go_wp2_with (first | (go_at_call 26; go_must (refine (awake09_in _).mono ?_); rintro e w1 ⟨rfl, hb⟩; have hx : w1.heap[W.heap.size]? = some (.cells #[.slice A l.length c] 22 (0, 0)) := (hb.block _ (by simp)).trans (blk_new _ _); have c1 : w1.cell? ⟨W.heap.size, 0, none⟩ = some (.slice A l.length c) := blkc hx 0 rfl; have HX1 := Lib.hid hx; have B1 := Lib.hid (below_step (below_alloc (Below.refl W.heap.size W) (.cells #[.slice A l.length c] 22)) hb); clear hx hb) | (go_at_call 12; go_must (refine (HLI.out _ B1.out).mono ?_); rintro e w2 ⟨rfl, hb⟩; have hx : w2.heap[W.heap.size]? = some (.cells #[.slice A l.length c] 22 (0, 0)) := (hb.block _ (blk_lt HX1.out)).trans HX1.out; have c2 : w2.cell? ⟨W.heap.size, 0, none⟩ = some (.slice A l.length c) := blkc hx 0 rfl; have HX2 := Lib.hid hx; have B2 := Lib.hid (below_step B1.out hb); clear hx hb))
    go_ret
    exact ⟨rfl, B2.out⟩
  | true =>
    have h1 := hno rfl
    obtain ⟨q1, q2⟩ := light_all hlv
    have HCK := Lib.hid (fun w (h : Below W.heap.size W w) => chk_any A c l hc (by omega) (fun n hn => ⟨by have := (q2 n hn).1; omega, by have := (q2 n hn).2; omega⟩) w (Kd.C_below hC h))
    obtain ⟨cv, hcv⟩ : ∃ cv, chkP l = cv := ⟨_, rfl⟩
    rw [hcv] at HCK h1
    have k0 : (cv != 0) = true := by simpa using h1
    clear hno hlv hC h1 hcv q1 q2
    go_enter Tryz.func8, Tryz.ntmps8
    go_wp2_with (first | (go_at_call 26; go_must (refine (awake09_in _).mono ?_); rintro e w1 ⟨rfl, hb⟩; have hx : w1.heap[W.heap.size]? = some (.cells #[.slice A l.length c] 22 (0, 0)) := (hb.block _ (by simp)).trans (blk_new _ _); have c1 : w1.cell? ⟨W.heap.size, 0, none⟩ = some (.slice A l.length c) := blkc hx 0 rfl; have HX1 := Lib.hid hx; have B1 := Lib.hid (below_step (below_alloc (Below.refl W.heap.size W) (.cells #[.slice A l.length c] 22)) hb); clear hx hb) | (go_at_call 12; go_must (refine (HLI.out _ B1.out).mono ?_); rintro e w2 ⟨rfl, hb⟩; have hx : w2.heap[W.heap.size]? = some (.cells #[.slice A l.length c] 22 (0, 0)) := (hb.block _ (blk_lt HX1.out)).trans HX1.out; have c2 : w2.cell? ⟨W.heap.size, 0, none⟩ = some (.slice A l.length c) := blkc hx 0 rfl; have HX2 := Lib.hid hx; have B2 := Lib.hid (below_step B1.out hb); clear hx hb) | (go_at_call 21; go_must (refine (HCK.out _ B2.out).mono ?_); rintro e w3 ⟨rfl, hb⟩; have B3 := Lib.hid (below_step B2.out hb); clear hb))
    go_ret
    exact ⟨rfl, B3.out⟩

/-- The members that are laid aside. -/
structure MI (W : World) (A : Option Addr) (c : Nat) (l : List Node) (BM BN : Nat) (pre : List (ByteArray × Nat)) (v : Value) (ms : List Mb) (X : World) : Prop where
  box : X.heap[W.heap.size]? = some (.cells #[.slice A l.length c] 22 (0, 0))
  bm : X.heap[BM]? = some (.cells #[v] 52 (0, 0))
  bn : X.heap[BN]? = some (.cells #[.slice none 0 0] 50 (0, 0))
  own : OwnM X W.heap.size v ms
  rows : ms.map prM = pre.map fun p => (p.1, rowV l p.2 (endAt l p.2).toNat)
  ok : ∀ m ∈ ms, MbOk X.heap.size X m ∧ ∀ a, m.2.1.1 = some a → ∃ cs, X.heap[a.block]? = some (.cells cs 48 (0, 0))
  below : Below W.heap.size W X
theorem okRows {X Y : World} {ms : List Mb} (h : ∀ m ∈ ms, MbOk X.heap.size X m ∧ ∀ a, m.2.1.1 = some a → ∃ cs, X.heap[a.block]? = some (.cells cs 48 (0, 0)))
    (hk : ∀ (k : Nat) cs, X.heap[k]? = some (Obj.cells cs 48 (0, 0)) → Y.heap[k]? = some (Obj.cells cs 48 (0, 0))) (hs : X.heap.size ≤ Y.heap.size) :
    ∀ m ∈ ms, MbOk Y.heap.size Y m ∧ ∀ a, m.2.1.1 = some a → ∃ cs, Y.heap[a.block]? = some (.cells cs 48 (0, 0)) := fun m hm => by
  obtain ⟨h1, h2⟩ := h m hm
  exact ⟨⟨kdC_keep h1.C (fun a ha => by obtain ⟨cs, e⟩ := h2 a ha; rw [e]; exact hk _ _ e), h1.cap, h1.small, fun a ha => Nat.lt_of_lt_of_le (h1.lt a ha) hs⟩, fun a ha => by obtain ⟨cs, e⟩ := h2 a ha; exact ⟨cs, hk _ _ e⟩⟩
theorem MI.keep {W : World} {A : Option Addr} {c : Nat} {l : List Node} {BM BN : Nat} {pre : List (ByteArray × Nat)} {v : Value} {ms : List Mb} {X Y : World} (h : MI W A c l BM BN pre v ms X)
    (hk : ∀ (k : Nat) cs T, X.heap[k]? = some (Obj.cells cs T (0, 0)) → Y.heap[k]? = some (Obj.cells cs T (0, 0))) (hs : X.heap.size ≤ Y.heap.size) (hb : Below W.heap.size W Y) : MI W A c l BM BN pre v ms Y :=
  ⟨hk _ _ _ h.box, hk _ _ _ h.bm, hk _ _ _ h.bn, own_keep h.own (fun k e => by obtain ⟨_, cs, e2⟩ := own_typed h.own k e; rw [e2]; exact hk _ _ _ e2), h.rows, okRows h.ok (fun k cs => hk k cs _) hs, hb⟩
theorem MI.mv {W : World} {A : Option Addr} {c : Nat} {l : List Node} {BM BN N : Nat} {pre : List (ByteArray × Nat)} {v : Value} {ms : List Mb} {X Y : World} (h : MI W A c l BM BN pre v ms X) (k : MvM N X Y) (hN : W.heap.size ≤ N) : MI W A c l BM BN pre v ms Y :=
  h.keep (fun j cs T hj => k.block j _ hj (.inr rfl)) k.size (h.below.trans (k.to_below hN h.below.size))

/-- The items that are laid aside, behind a world Y0. -/
structure NI (Y0 : World) (l : List Node) (BN : Nat) (pre : List Nat) (v : Value) (rs : List Mb) (X : World) : Prop where
  chg : Chg (fun k => k = BN) Y0 X
  bn : X.heap[BN]? = some (.cells #[v] 50 (0, 0))
  own : OwnR X Y0.heap.size v rs
  rows : rs.map prM = pre.map fun k => ((⟨#[]⟩ : ByteArray), rowV l k (endAt l k).toNat)
  ok : ∀ m ∈ rs, MbOk X.heap.size X m ∧ ∀ a, m.2.1.1 = some a → ∃ cs, X.heap[a.block]? = some (.cells cs 48 (0, 0))
theorem NI.grown {Y0 : World} {l : List Node} {BN : Nat} {pre : List Nat} {v : Value} {rs : List Mb} {X Y : World} {row : Option Nat} (h : NI Y0 l BN pre v rs X) (hg : X.grownBy Y row) (hr : ∀ r, row = some r → Y0.heap.size ≤ r ∧ ∃ o : Obj, X.heap[r]? = some o ∧ o.isCells = false) : NI Y0 l BN pre v rs Y := by
  have hk : ∀ (k : Nat) cs T, X.heap[k]? = some (Obj.cells cs T (0, 0)) → Y.heap[k]? = some (Obj.cells cs T (0, 0)) := fun k cs T hk => (hg.block k (blk_lt hk) (fun e => by
    obtain ⟨_, o, ho, hc⟩ := hr k e.symm
    rw [hk] at ho; cases ho; cases hc)).trans hk
  refine ⟨⟨hg.os.trans h.chg.os, hg.tape.trans h.chg.tape, hg.output.trans h.chg.output, Nat.le_trans h.chg.size hg.size, fun k hl hs => ?_⟩, hk _ _ _ h.bn, own_keep h.own (fun k e => by obtain ⟨_, cs, e2⟩ := own_typed h.own k e; rw [e2]; exact hk _ _ _ e2), h.rows, okRows h.ok (fun k cs => hk k cs _) hg.size⟩
  exact (hg.block k (Nat.lt_of_lt_of_le hl h.chg.size) (fun e => by have := (hr k e.symm).1; omega)).trans (h.chg.block k hl hs)

theorem small_row {l : List Node} (h : ∀ n ∈ l, -1 ≤ n.f3 ∧ n.f3 ≤ 1000000 ∧ 0 ≤ n.f4 ∧ n.f4 ≤ 1000000) (i e : Nat) (hi : i ≤ 1000000) : Small (rowV l i e) := by
  intro n hn
  unfold rowV outV at hn
  obtain ⟨q, hq, rfl⟩ := List.mem_mapIdx.1 hn
  have hm : ((l.take e).drop i)[q] ∈ l := List.mem_of_mem_take (List.mem_of_mem_drop (List.getElem_mem hq))
  obtain ⟨h1, h2, h3, h4⟩ := h _ hm
  unfold outN
  split <;> dsimp only <;> omega

set_option maxRecDepth 100000 in
set_option maxHeartbeats 8000000 in
theorem nodeBack_ok (A : Option Addr) (c : Nat) (t : Tr) (ht : TreeOk t) (l : List Node) (hlt : l = rowT t) (W : World) (hc : l.length ≤ c) (hl : l.length ≤ 300) (htx : ∀ n ∈ l, n.f1.size ≤ 200 ∧ n.f2.size ≤ 200) (hC : Kd.C kN W A l.length l) (hA : ∀ a, A = some a → a.block < W.heap.size)
    (hlv : lightV l = true) (hcv : chkP l = 0) :
    Calls Tryz.prog 8 #[.slice A l.length c] W fun e w' => e = .returned (.bool true) ∧ Below W.heap.size W w' := by
  have HLI := Lib.hid (fun w (h : Below W.heap.size W w) => light_any A c l (by omega) hc w (Kd.C_below hC h))
  have HCK := Lib.hid (fun w (h : Below W.heap.size W w) => chk_any A c l hc (by omega) (fun n hn => ⟨by have := (htx n hn).1; omega, by have := (htx n hn).2; omega⟩) w (Kd.C_below hC h))
  rw [hlv] at HLI
  rw [hcv] at HCK
  have hpos : 0 < l.length := by rw [hlt, rowT_len]; exact t.size_pos
  have hmono : ∀ (k : Nat) (h : k < l.length), (k : Int) < l[k].f4 ∧ l[k].f4 ≤ l.length := by subst hlt; exact fun k h => ⟨(rowT_at t k h).1, (rowT_at t k h).2.1⟩
  have hsm : ∀ n ∈ l, -1 ≤ n.f3 ∧ n.f3 ≤ 1000000 ∧ 0 ≤ n.f4 ∧ n.f4 ≤ 1000000 := by
    subst hlt
    intro n hn
    obtain ⟨j, hj, rfl⟩ := List.getElem_of_mem hn
    have := rowT_at t j hj
    omega
  have HM := Lib.hid hmono
  have HSM := Lib.hid hsm
  have HC := Lib.hid hC
  have HA := Lib.hid hA
  have HT := Lib.hid ht
  have HLT := Lib.hid hlt
  clear hlv hcv hC htx hmono hsm ht hlt
  refine (callsIn_wide (n := 10)).1 ?_
  refine callsIn_of_wp_marks Tryz.func8 rfl trivial ?_ rfl
  simp only [Tryz.ntmps8, List.size_toArray, List.length_cons, List.length_nil, Nat.reduceAdd, Nat.reduceSub, Array.replicate_succ, Array.replicate_zero, List.push_toArray, List.append_toArray, List.nil_append, List.cons_append]
  gi_wp2_with (first | (refine ⟨trivial, ?_⟩; gi_at_call 26; go_must (refine ((callsIn_wide (n := 9)).2 (awake09_in _)).mono ?_); rintro e w1 ⟨rfl, hb⟩; have hx : w1.heap[W.heap.size]? = some (.cells #[.slice A l.length c] 22 (0, 0)) := (hb.block _ (by simp)).trans (blk_new _ _); have c1 : w1.cell? ⟨W.heap.size, 0, none⟩ = some (.slice A l.length c) := blkc hx 0 rfl; have HX1 := Lib.hid hx; have B1 := Lib.hid (below_step (below_alloc (Below.refl W.heap.size W) (.cells #[.slice A l.length c] 22)) hb); clear hx hb) | (refine ⟨trivial, ?_⟩; gi_at_call 12; go_must (refine ((callsIn_wide (n := 9)).2 (HLI.out _ B1.out)).mono ?_); rintro e w2 ⟨rfl, hb⟩; have hx : w2.heap[W.heap.size]? = some (.cells #[.slice A l.length c] 22 (0, 0)) := (hb.block _ (blk_lt HX1.out)).trans HX1.out; have c2 : w2.cell? ⟨W.heap.size, 0, none⟩ = some (.slice A l.length c) := blkc hx 0 rfl; have HX2 := Lib.hid hx; have B2 := Lib.hid (below_step B1.out hb); clear hx hb) | (refine ⟨trivial, ?_⟩; gi_at_call 21; go_must (refine ((callsIn_wide (n := 9)).2 (HCK.out _ B2.out)).mono ?_); rintro e w3 ⟨rfl, hb⟩; have hx : w3.heap[W.heap.size]? = some (.cells #[.slice A l.length c] 22 (0, 0)) := (hb.block _ (blk_lt HX2.out)).trans HX2.out; have c3 : w3.cell? ⟨W.heap.size, 0, none⟩ = some (.slice A l.length c) := blkc hx 0 rfl; have HX3 := Lib.hid hx; have B3 := Lib.hid (below_step B2.out hb); have c4 : ((w3.alloc (.cells #[.slice none 0 0] 52)).alloc (.cells #[.slice none 0 0] 50)).cell? ⟨W.heap.size, 0, none⟩ = some (.slice A l.length c) := cellBelow (below_alloc (below_alloc (Below.refl _ _) _) _) c3; clear hx hb) | (refine ⟨trivial, ?_⟩; gi_at_call 34; go_must (refine ((callsIn_wide (n := 9)).2 (members_any _ _ _ _ _)).mono ?_); rintro e' w4 ⟨rfl, hw4⟩; have HW4 := Lib.hid hw4; clear hw4))
  have hw4 := HW4.out
  obtain ⟨L4, hL4⟩ : ∃ L4 : List Obj, L4 = [.cells #[.slice none 0 0] 52, .cells #[.slice none 0 0] 50, .cells #[.slice A l.length c] 22, .cells #[.int .i64 0] 3] := ⟨_, rfl⟩
  have g0 : w4.heap[w3.heap.size]? = some (.cells #[.slice none 0 0] 52 (0, 0)) := by rw [hw4]; exact allocs_get w3 [.cells #[.slice none 0 0] 52, .cells #[.slice none 0 0] 50, .cells #[.slice A l.length c] 22, .cells #[.int .i64 0] 3] 0 _ rfl
  have g1 : w4.heap[w3.heap.size + 1]? = some (.cells #[.slice none 0 0] 50 (0, 0)) := by rw [hw4]; exact allocs_get w3 [.cells #[.slice none 0 0] 52, .cells #[.slice none 0 0] 50, .cells #[.slice A l.length c] 22, .cells #[.int .i64 0] 3] 1 _ rfl
  have g2 : w4.heap[w3.heap.size + 1 + 1]? = some (.cells #[.slice A l.length c] 22 (0, 0)) := by rw [hw4]; exact allocs_get w3 [.cells #[.slice none 0 0] 52, .cells #[.slice none 0 0] 50, .cells #[.slice A l.length c] 22, .cells #[.int .i64 0] 3] 2 _ rfl
  have g3 : w4.heap[w3.heap.size + 1 + 1 + 1]? = some (.cells #[.int .i64 0] 3 (0, 0)) := by rw [hw4]; exact allocs_get w3 [.cells #[.slice none 0 0] 52, .cells #[.slice none 0 0] 50, .cells #[.slice A l.length c] 22, .cells #[.int .i64 0] 3] 3 _ rfl
  have hb4 : Below w3.heap.size w3 w4 := by rw [hw4]; exact allocs_below w3 [.cells #[.slice none 0 0] 52, .cells #[.slice none 0 0] 50, .cells #[.slice A l.length c] 22, .cells #[.int .i64 0] 3]
  have hsz4 : w4.heap.size = w3.heap.size + 4 := by rw [hw4]; simp
  have hbox4 := blk_below HX3.out hb4
  have hbw4 := below_step B3.out hb4
  have hC4 := Kd.C_below HC.out hbw4
  have hW3 := B3.out.size
  have hWW : W.heap.size < w3.heap.size := blk_lt HX3.out
  have hI0 : MI W A c l w3.heap.size (w3.heap.size + 1) [] (.slice none 0 0) [] w4 := ⟨hbox4, g0, g1, World.ownsRow_nil _ _ _ _, rfl, (fun _ h => by cases h), hbw4⟩
  have hmo : Tryz.prog.follows .mixedOrders = true := by kernel_rfl
  have HSQ := Lib.hid (seq_members (w3.heap.size + 1 + 1 + 1) (w3.heap.size + 1 + 1) A c l 0 hpos (by omega) hc HM.out w4 g3 g2 hC4 (fun a ha => by have := HA.out a ha; omega))
  have HI0 := Lib.hid hI0
  have G4 := Lib.hid g0
  clear hw4 HW4 L4 hL4 c1 c2 c3 c4 g1 g2 g3 hbox4 hI0 g0 HX1 HX2 HX3 B1 B2 B3 hb4
  refine range_b (by omega) (gf := 71) (lb := #[.pointer (some ⟨w3.heap.size + 1 + 1, 0, none⟩), .pointer (some ⟨w3.heap.size + 1 + 1 + 1, 0, none⟩)]) rfl (enters_of Tryz.func71 (by kernel_rfl) rfl)
    HSQ.out (Below.refl _ _) (fun h k => h.trans k) (fun X l' o o' h1 h2 ho hc' => KpM.putObj h2 (fun a ha => by have := HA.out a ha; omega) ho hc') (fun X Y (h : MvM _ X Y) k o h1 h2 ho => h.block k o ho (.inl h2)) (fun _ => rfl)
    (fun pre X => ∃ v ms, MI W A c l w3.heap.size (w3.heap.size + 1) pre v ms X) (fun _ _ _ => False)
    (fun s X Y row hs hg hr => by obtain ⟨v, ms, h⟩ := hs; exact ⟨v, ms, h.mv (MvM.of_grown hg (Nat.le_refl _) hr) (by omega)⟩)
    (fun _ _ _ _ _ hs _ _ => hs) (fun s X Y h (k : MvM _ X Y) => by obtain ⟨v, ms, h⟩ := h; exact ⟨v, ms, h.mv k (by omega)⟩) (fun _ _ _ _ h _ => h) ⟨_, _, HI0.out⟩
    (fun x a' X => a' = { tmps := #[.slice A l.length c, .pointer (some ⟨W.heap.size, 0, none⟩), .bool false, .pointer (some ⟨w3.heap.size, 0, none⟩), .pointer (some ⟨w3.heap.size + 1, 0, none⟩), .string x.1, .int .i64 (x.2 : Int), undef, .bool true, .bool false, .slice A l.length c, .bool true, .bool false, .bool false, .slice A l.length c, .int .i64 0, .bool false, .bool false, .slice A l.length c, .func (.func 71) #[] #[.pointer (some ⟨w3.heap.size + 1 + 1, 0, none⟩), .pointer (some ⟨w3.heap.size + 1 + 1 + 1, 0, none⟩)], .string x.1, .int .i64 (x.2 : Int), undef, undef, undef, undef, undef, undef, undef, undef, undef, undef, undef, undef, undef, undef, undef, undef, undef, undef, undef, undef, undef, undef, undef, undef, undef, undef, undef, undef, undef, undef, undef, undef, undef, undef, undef, undef, undef, undef, undef, undef, undef, undef, undef, undef, undef, undef, undef, undef], defers := [] })
    (fun x a' s X Y row hs hg hr => hs) ?assign ?body ?done ?stop
  case assign =>
    rintro lq pre x X K hI hK
    have e1 : (mEnc x) = #[.string x.1, .int .i64 (x.2 : Int)] := rfl
    rw [e1]
    have HI := Lib.hid hI
    clear e1 hI hC4 hbw4
    gi_wp2
    exact hK _ _ (KeepsFrom.refl _ _) (KpM.refl _ _ _) HI.out rfl
  case body =>
    rintro lq pre x a' X hlq ⟨r, hr⟩ ⟨v, ms, hI⟩ rfl hT
    have hxm : x ∈ membersL l 0 := by obtain ⟨t', ht'⟩ := hT; rw [← ht']; simp
    have hlen : pre.length ≤ 300 := by
      have h1 := hT.length_le
      have h2 : (membersL l 0).length ≤ l.length := by unfold membersL; split <;> simp [itemsL_len]
      rw [List.length_append] at h1
      simp at h1
      omega
    obtain ⟨key, k⟩ := x
    have hk0 : k ∈ itemsL l 0 := by
      unfold membersL at hxm
      split at hxm
      · obtain ⟨k', h1, h2⟩ := List.mem_map.1 hxm
        unfold mPr at h2
        injection h2 with h3 h4
        rw [← h4]; exact h1
      · cases hxm
    have hk : k < l.length := itemsL_lt hpos (HM.out 0 hpos).2 k hk0
    obtain ⟨hm1, hm2⟩ := HM.out k hk
    obtain ⟨e, he⟩ : ∃ e : Nat, l[k].f4 = (e : Int) := ⟨l[k].f4.toNat, by omega⟩
    rw [he] at hm1 hm2
    have hen : (endAt l k).toNat = e := by unfold endAt; rw [List.getElem?_eq_getElem hk]; dsimp only; rw [he]; rfl
    have hCX := Kd.C_below HC.out hI.below
    have HROW := Lib.hid (row_any A c l (by omega) hc (fun n hn => by have := HSM.out n hn; omega) k e hk he (by omega) (by omega) X.drew hCX)
    have hms : ms.length = pre.length := by have := congrArg List.length hI.rows; simpa using this
    have c0 : X.cell? ⟨w3.heap.size, 0, none⟩ = some v := blkc hI.bm 0 rfl
    have c1 : X.cell? ⟨W.heap.size, 0, none⟩ = some (.slice A l.length c) := blkc hI.box 0 rfl
    have HI := Lib.hid hI
    have hgood : X.drew.cell? ⟨w3.heap.size, 0, none⟩ = some v ∧ X.drew.cell? ⟨W.heap.size, 0, none⟩ = some (.slice A l.length c) := ⟨c0, c1⟩
    clear hI hC4 hbw4 hr hT hxm hk0 hCX
    dsimp only
    gi_wp2
    refine region_g (fun w => w.cell? ⟨w3.heap.size, 0, none⟩ = some v ∧ w.cell? ⟨W.heap.size, 0, none⟩ = some (.slice A l.length c)) (fun j => j != 8) hmo ?_
    refine takeQ 0 (v) hgood rfl (by kernel_rfl) ⟨fun _ => rfl, .inl ⟨by rfl, fun w' hw' => by obtain ⟨z0, z1⟩ := hw'; go_simp⟩⟩ ?_
    simp only [Act.put, List.setIfInBounds_toArray, List.set_cons_succ, List.set_cons_zero]
    refine takeQ 1 (.string key) hgood rfl (by kernel_rfl) ⟨fun _ => rfl, .inl ⟨by rfl, fun w' hw' => by obtain ⟨z0, z1⟩ := hw'; go_simp⟩⟩ ?_
    simp only [Act.put, List.setIfInBounds_toArray, List.set_cons_succ, List.set_cons_zero]
    refine takeQ 2 (.slice A l.length c) hgood rfl (by kernel_rfl) ⟨fun _ => rfl, .inl ⟨by rfl, fun w' hw' => by obtain ⟨z0, z1⟩ := hw'; go_simp⟩⟩ ?_
    simp only [Act.put, List.setIfInBounds_toArray, List.set_cons_succ, List.set_cons_zero]
    refine takeQ 3 (.int .i64 (k : Int)) hgood rfl (by kernel_rfl) ⟨fun _ => rfl, .inl ⟨by rfl, fun w' hw' => by obtain ⟨z0, z1⟩ := hw'; go_simp⟩⟩ ?_
    simp only [Act.put, List.setIfInBounds_toArray, List.set_cons_succ, List.set_cons_zero]
    refine takeL 4 rfl (by kernel_rfl) ?_
    gi_wp2_with (refine ⟨trivial, ?_⟩; gi_at_call 29; go_must (refine (CallsIn.inRound lq ((callsIn_wide (n := 7)).2 HROW.out)).mono ?_); rintro e' w5 ⟨v5, rfl, hR5, hB5⟩)
    have hB : Below X.heap.size X w5 := ⟨hB5.os, hB5.tape, hB5.output, hB5.size, hB5.block⟩
    obtain ⟨row, hrow⟩ : ∃ row, rowV l k e = row := ⟨_, rfl⟩
    rw [hrow] at hR5
    obtain ⟨A5, c5, rfl, hc5⟩ := hR5.slice
    have hrl : row.length ≤ 900000 := by rw [← hrow]; unfold rowV; rw [outV_len, List.length_drop, List.length_take]; omega
    have hsmr : Small row := by rw [← hrow]; exact small_row HSM.out k e (by omega)
    have hown5 : OwnM w5 W.heap.size v ms := own_keep HI.out.own (fun j hj => hB.block j (by obtain ⟨_, cs, h⟩ := own_typed HI.out.own j hj; exact blk_lt h))
    obtain ⟨v7, w7, hrun, hown7, hg7⟩ := ownM_append hown5 (key, (A5, c5), row) (by omega) (Nat.le_trans HI.out.below.size hB.size)
    obtain ⟨A7, c7, rfl, hc7⟩ := own_slice hown7
    obtain ⟨w6, hw6⟩ : ∃ w6, w5.alloc (.cells #[.string key, .slice A5 row.length c5] 54) = w6 := ⟨_, rfl⟩
    have hb56 : Below w5.heap.size w5 w6 := by rw [← hw6]; exact below_alloc (Below.refl _ _) _
    have em : (memC (key, (A5, c5), row)).toArray = #[.string key, .slice A5 row.length c5] := rfl
    rw [em, hw6] at hg7
    rw [em] at hrun
    have hbm5 := (hB.block _ (blk_lt HI.out.bm)).trans HI.out.bm
    have hbx5 := (hB.block _ (blk_lt HI.out.box)).trans HI.out.box
    have hnS : ∀ (k : Nat) cs T, w5.heap[k]? = some (.cells cs T (0, 0)) → T ≠ 52 → T ≠ 54 → ¬ (k = w3.heap.size ∨ v.ownBlock = some k) := fun k cs T hk h1 h2 hS => by
      rcases hS with rfl | hS
      · rw [hbm5] at hk; cases hk; exact h1 rfl
      · obtain ⟨_, cs', h⟩ := own_typed hown5 k hS
        rw [h] at hk; cases hk; exact h2 rfl
    have hch7 : Chg (fun k => k = w3.heap.size ∨ v.ownBlock = some k) w5 w7 := (Chg.below hb56).trans (Chg.grown hg7 (fun k e => .inr e))
    have hbm7 : w7.heap[w3.heap.size]? = some (.cells #[v] 52 (0, 0)) := (hg7.block _ (Nat.lt_of_lt_of_le (blk_lt hbm5) hb56.size) (fun e => by obtain ⟨_, cs', h⟩ := own_typed hown5 _ e.symm; rw [hbm5] at h; cases h)).trans ((hb56.block _ (blk_lt hbm5)).trans hbm5)
    have hbx7 := (hch7.block _ (blk_lt hbx5) (hnS _ _ _ hbx5 (by decide) (by decide))).trans hbx5
    have hbx6 := (hb56.block _ (blk_lt hbx5)).trans hbx5
    have hbm6 := (hb56.block _ (blk_lt hbm5)).trans hbm5
    have G5 := Lib.hid (show w5.cell? ⟨w3.heap.size, 0, none⟩ = some v ∧ w5.cell? ⟨W.heap.size, 0, none⟩ = some (.slice A l.length c) from ⟨blkc hbm5 0 rfl, blkc hbx5 0 rfl⟩)
    have G6 := Lib.hid (show w6.cell? ⟨w3.heap.size, 0, none⟩ = some v ∧ w6.cell? ⟨W.heap.size, 0, none⟩ = some (.slice A l.length c) from ⟨blkc hbm6 0 rfl, blkc hbx6 0 rfl⟩)
    have G7 := Lib.hid (show w7.cell? ⟨w3.heap.size, 0, none⟩ = some v ∧ w7.cell? ⟨W.heap.size, 0, none⟩ = some (.slice A l.length c) from ⟨blkc hbm7 0 rfl, blkc hbx7 0 rfl⟩)
    have FIN := Lib.hid (show KeepsFrom w4.heap.size X (w7.setCell ⟨w3.heap.size, 0, none⟩ (.slice A7 (ms ++ [(key, (A5, c5), row)]).length c7)) ∧ KpM A (w4.heap.size + 2) X (w7.setCell ⟨w3.heap.size, 0, none⟩ (.slice A7 (ms ++ [(key, (A5, c5), row)]).length c7)) ∧
      ∃ v ms', MI W A c l w3.heap.size (w3.heap.size + 1) (pre ++ [(key, k)]) v ms' (w7.setCell ⟨w3.heap.size, 0, none⟩ (.slice A7 (ms ++ [(key, (A5, c5), row)]).length c7)) by
        have hnSX : ∀ (k : Nat) cs T, X.heap[k]? = some (.cells cs T (0, 0)) → T ≠ 52 → T ≠ 54 → ¬ (k = w3.heap.size ∨ v.ownBlock = some k) := fun k cs T hk h1 h2 hS => by
          rcases hS with rfl | hS
          · rw [HI.out.bm] at hk; cases hk; exact h1 rfl
          · obtain ⟨_, cs', h⟩ := own_typed HI.out.own k hS
            rw [h] at hk; cases hk; exact h2 rfl
        have hch58 : Chg (fun k => k = w3.heap.size ∨ v.ownBlock = some k) w5 (w7.setCell ⟨w3.heap.size, 0, none⟩ (.slice A7 (ms ++ [(key, (A5, c5), row)]).length c7)) := hch7.trans (Chg.setCell (.inl rfl))
        have hch : Chg (fun k => k = w3.heap.size ∨ v.ownBlock = some k) X (w7.setCell ⟨w3.heap.size, 0, none⟩ (.slice A7 (ms ++ [(key, (A5, c5), row)]).length c7)) := (Chg.below hB).trans hch58
        have hS : ∀ j, (j = w3.heap.size ∨ v.ownBlock = some j) → j < X.heap.size → ∃ cs T, X.heap[j]? = some (.cells cs T (0, 0)) ∧ T ≠ 22 ∧ T ≠ 3 ∧ T ≠ tFn := by
          rintro j (rfl | hj) _
          · exact ⟨_, _, HI.out.bm, by decide, by decide, by decide⟩
          · obtain ⟨_, cs, h⟩ := own_typed HI.out.own j hj
            exact ⟨_, _, h, by decide, by decide, by decide⟩
        have hge : ∀ j, (j = w3.heap.size ∨ v.ownBlock = some j) → W.heap.size ≤ j := by
          rintro j (rfl | hj)
          · omega
          · exact (own_typed HI.out.own j hj).1
        have hk8 : ∀ (k : Nat) cs T, X.heap[k]? = some (.cells cs T (0, 0)) → T ≠ 52 → T ≠ 54 → (w7.setCell ⟨w3.heap.size, 0, none⟩ (.slice A7 (ms ++ [(key, (A5, c5), row)]).length c7)).heap[k]? = some (.cells cs T (0, 0)) := fun k cs T hk h1 h2 => (hch.block k (blk_lt hk) (hnSX k cs T hk h1 h2)).trans hk
        have hty5 : ∀ a, A5 = some a → ∃ cs, w5.heap[a.block]? = some (.cells cs 48 (0, 0)) := fun a ha => by subst ha; exact (hR5.typed a.block rfl).2
        have hk58 : ∀ (k : Nat) cs, w5.heap[k]? = some (.cells cs 48 (0, 0)) → (w7.setCell ⟨w3.heap.size, 0, none⟩ (.slice A7 (ms ++ [(key, (A5, c5), row)]).length c7)).heap[k]? = some (.cells cs 48 (0, 0)) := fun k cs hk => (hch58.block k (blk_lt hk) (hnS k cs _ hk (by decide) (by decide))).trans hk
        have hXW := HI.out.below.size
        refine ⟨hch.keepsFrom (fun j h1 h2 => by obtain ⟨cs, T, e, _⟩ := hS j h1 h2; exact ⟨cs, T, e⟩), hch.kpM hS (fun a ha => by have := HA.out a ha; exact ⟨by omega, fun hs => by have := hge _ hs; omega⟩), _, _, ⟨hk8 _ _ _ HI.out.box (by decide) (by decide), ?_, hk8 _ _ _ HI.out.bn (by decide) (by decide), own_keep hown7 (fun j hj => Below.heap_setCell _ _ _ _ (fun e => ?_)), ?_, ?_, HI.out.below.trans (hch.to_below hXW hge)⟩⟩
        · simp [World.setCell, Array.getElem?_modify, hbm7]
        · obtain ⟨_, cs, h⟩ := own_typed hown7 j hj
          rw [e, hbm7] at h
          cases h
        · rw [List.map_append, List.map_append, HI.out.rows]
          simp [prM, hen, hrow]
        · intro m hm
          rcases List.mem_append.1 hm with hm | hm
          · exact okRows HI.out.ok (fun j cs hj => hk8 j cs _ hj (by decide) (by decide)) hch.size m hm
          · rw [List.mem_singleton] at hm
            subst hm
            refine ⟨⟨kdC_keep (hR5.C hrl) (fun a ha => ?_), hc5, hsmr, fun a ha => ?_⟩, fun a ha => ?_⟩
            · obtain ⟨cs, e5⟩ := hty5 a ha
              rw [e5]; exact hk58 _ _ e5
            · obtain ⟨cs, e5⟩ := hty5 a ha
              exact Nat.lt_of_lt_of_le (blk_lt e5) hch58.size
            · obtain ⟨cs, e5⟩ := hty5 a ha
              exact ⟨cs, hk58 _ _ e5⟩)
    have q0 : w7.cell? ⟨w3.heap.size, 0, none⟩ = some v := G7.out.1
    have qf := blk_frozen hbm7 0
    generalize (ms ++ [((key, (A5, c5), row) : Mb)]).length = n7 at FIN hrun
    clear hnS hch7 hbm7 hbx7 hbx6 hbm6 hbm5 hbx5 hg7 hb56 hown7 hown5 hsmr hrl hc5 hc7 hB5 hR5 hB hgood c0 c1 HROW em
    refine ⟨fun _ => G5.out, ?_⟩
    refine takeL 5 rfl (by kernel_rfl) ?_
    gi_wp2
    refine ⟨by first | exact G5.out | exact fun _ => G5.out, ?_⟩
    refine takeL 6 rfl (by kernel_rfl) ?_
    gi_wp2
    rw [hw6] at hrun
    refine ⟨by first | exact G6.out | exact fun _ => G6.out, ?_⟩
    refine takeL 7 rfl (by kernel_rfl) ?_
    refine wpListIn_append_runI _ rfl _ _ 52 52 rfl _ _ rfl rfl hrun ?_
    gi_wp2
    refine ⟨by first | exact G7.out | exact fun _ => G7.out, ?_⟩
    refine takeL 8 rfl (by kernel_rfl) ?_
    gi_wp2
    refine ⟨fun h => absurd h (by decide), doneG (by kernel_rfl) ?_⟩
    gi_wp2
    first | exact FIN.out | (rw [hsz4] at FIN; exact FIN.out)
  case done =>
    rintro D ys X hD rfl ⟨v, ms, hI⟩ hK
    have HI := Lib.hid hI
    have HK := Lib.hid hK
    have c1 : X.cell? ⟨W.heap.size, 0, none⟩ = some (.slice A l.length c) := blkc hI.box 0 rfl
    clear hI hK hC4 hbw4
    gi_wp2_with (refine ⟨trivial, ?_⟩; gi_at_call 35; go_must (refine ((callsIn_wide (n := 9)).2 (items_any _ _ _ _ _)).mono ?_); rintro e' w8 ⟨rfl, hw8⟩; have HW8 := Lib.hid hw8; clear hw8)
    have hw8 := HW8.out
    have g0 : w8.heap[X.heap.size]? = some (.cells #[.slice A l.length c] 22 (0, 0)) := by rw [hw8]; exact allocs_get X [.cells #[.slice A l.length c] 22, .cells #[.int .i64 0] 3] 0 _ rfl
    have g1 : w8.heap[X.heap.size + 1]? = some (.cells #[.int .i64 0] 3 (0, 0)) := by rw [hw8]; exact allocs_get X [.cells #[.slice A l.length c] 22, .cells #[.int .i64 0] 3] 1 _ rfl
    have hb8 : Below X.heap.size X w8 := by rw [hw8]; exact allocs_below X [.cells #[.slice A l.length c] 22, .cells #[.int .i64 0] 3]
    have hsz8 : w8.heap.size = X.heap.size + 2 := by rw [hw8]; simp
    have hI8 : MI W A c l w3.heap.size (w3.heap.size + 1) (membersL l 0) v ms w8 := HI.out.keep (fun j cs T hj => (hb8.block j (blk_lt hj)).trans hj) hb8.size (below_step HI.out.below hb8)
    have hk8 : w8.heap[D]? = some (.deferred (some [])) := (hb8.block D (blk_lt HK.out)).trans HK.out
    have hC8 := Kd.C_below HC.out hI8.below
    have hN0 : NI w8 l (w3.heap.size + 1) [] (.slice none 0 0) [] w8 := ⟨Chg.refl _ _, hI8.bn, World.ownsRow_nil _ _ _ _, rfl, fun _ h => by cases h⟩
    have hBX : w3.heap.size + 1 < X.heap.size := blk_lt HI.out.bn
    have hXW := HI.out.below.size
    have HSQ2 := Lib.hid (seq_items 8 (X.heap.size + 1) X.heap.size A c l 0 hpos (by omega) hc HM.out w8 g1 g0 hC8)
    have HI8 := Lib.hid hI8
    have HK8 := Lib.hid hk8
    have HN0 := Lib.hid hN0
    have HC8 := Lib.hid hC8
    clear hw8 HW8 g0 g1 hb8 hI8 hk8 hN0 hC8 HI HK c1 HI0 HSQ G4
    refine range_b (by omega) (gf := 72) (lb := #[.pointer (some ⟨X.heap.size, 0, none⟩), .pointer (some ⟨X.heap.size + 1, 0, none⟩)]) rfl (enters_of Tryz.func72 (by kernel_rfl) rfl)
      HSQ2.out (Below.refl _ _) (fun h k => h.trans k) (fun Z l' o o' h1 h2 ho hc' => KpS.putObj (fun hS => by
        rcases hS with h | h | ⟨a, e, h⟩
        · omega
        · omega
        · have := HA.out a e; omega)) (fun Z Y (h : Y = Z) k o _ _ ho => by rw [h]; exact ho) (fun _ => rfl)
      (fun pre Z => ∃ v rs, NI w8 l (w3.heap.size + 1) pre v rs Z) (fun _ _ _ => False)
      (fun s Z Y row hs hg hr => by obtain ⟨v, rs, h⟩ := hs; exact ⟨v, rs, h.grown hg hr⟩)
      (fun _ _ _ _ _ hs _ _ => hs) (fun s Z Y h (k : Y = Z) => k ▸ h) (fun _ _ _ _ h _ => h) ⟨_, _, HN0.out⟩
      (fun x a' Z => a' = { tmps := #[.slice A l.length c, .pointer (some ⟨W.heap.size, 0, none⟩), .bool false, .pointer (some ⟨w3.heap.size, 0, none⟩), .pointer (some ⟨w3.heap.size + 1, 0, none⟩), undef, undef, .int .i64 (x : Int), .bool true, .bool false, .slice A l.length c, .bool true, .bool false, .bool false, .slice A l.length c, .int .i64 0, .bool false, .bool false, .slice A l.length c, .func (.func 71) #[] #[.pointer (some ⟨w3.heap.size + 1 + 1, 0, none⟩), .pointer (some ⟨w3.heap.size + 1 + 1 + 1, 0, none⟩)], undef, undef, undef, undef, undef, undef, undef, undef, undef, undef, .slice A l.length c, .func (.func 72) #[] #[.pointer (some ⟨X.heap.size, 0, none⟩), .pointer (some ⟨X.heap.size + 1, 0, none⟩)], .int .i64 (x : Int), undef, undef, undef, undef, undef, undef, undef, undef, undef, undef, undef, undef, undef, undef, undef, undef, undef, undef, undef, undef, undef, undef, undef, undef, undef, undef, undef, undef, undef, undef, undef, undef, undef, undef, undef, undef, undef], defers := [] })
      (fun x a' s Z Y row hs hg hr => hs) ?assign2 ?body2 ?done2 ?stop2
    case assign2 =>
      rintro lq pre x Z K hI hK
      have e1 : (intEnc x) = #[.int .i64 (x : Int)] := rfl
      rw [e1]
      have HI := Lib.hid hI
      clear e1 hI
      gi_wp2
      exact hK _ _ (KeepsFrom.refl _ _) (KpS.refl _ _) HI.out rfl
    case body2 =>
      rintro lq pre k a' Z hlq ⟨r, hr⟩ ⟨v2, rs, hN⟩ rfl hT
      have hk0 : k ∈ itemsL l 0 := by obtain ⟨t', ht'⟩ := hT; rw [← ht']; simp
      have hlen : pre.length ≤ 300 := by
        have h1 := hT.length_le
        have h2 := itemsL_len l 0
        rw [List.length_append] at h1
        simp at h1
        omega
      have hk : k < l.length := itemsL_lt hpos (HM.out 0 hpos).2 k hk0
      obtain ⟨hm1, hm2⟩ := HM.out k hk
      obtain ⟨e, he⟩ : ∃ e : Nat, l[k].f4 = (e : Int) := ⟨l[k].f4.toNat, by omega⟩
      rw [he] at hm1 hm2
      have hen : (endAt l k).toNat = e := by unfold endAt; rw [List.getElem?_eq_getElem hk]; dsimp only; rw [he]; rfl
      have hCZ := kdC_keep HC8.out (fun a ha => hN.chg.block a.block (by have := HA.out a ha; omega) (by have := HA.out a ha; omega))
      have HROW := Lib.hid (row_any A c l (by omega) hc (fun n hn => by have := HSM.out n hn; omega) k e hk he (by omega) (by omega) Z.drew hCZ)
      have hms : rs.length = pre.length := by have := congrArg List.length hN.rows; simpa using this
      have hbxZ : Z.heap[W.heap.size]? = some (.cells #[.slice A l.length c] 22 (0, 0)) := (hN.chg.block _ (by omega) (by omega)).trans HI8.out.box
      have c0 : Z.cell? ⟨w3.heap.size + 1, 0, none⟩ = some v2 := blkc hN.bn 0 rfl
      have c1 : Z.cell? ⟨W.heap.size, 0, none⟩ = some (.slice A l.length c) := blkc hbxZ 0 rfl
      have HN := Lib.hid hN
      have HBX := Lib.hid hbxZ
      have hgood : Z.drew.cell? ⟨w3.heap.size + 1, 0, none⟩ = some v2 ∧ Z.drew.cell? ⟨W.heap.size, 0, none⟩ = some (.slice A l.length c) := ⟨c0, c1⟩
      clear hN hbxZ hr hT hk0 hCZ
      dsimp only
      gi_wp2
      refine region_g (fun w => w.cell? ⟨w3.heap.size + 1, 0, none⟩ = some v2 ∧ w.cell? ⟨W.heap.size, 0, none⟩ = some (.slice A l.length c)) (fun j => j != 6) hmo ?_
      refine takeQ 0 (v2) hgood rfl (by kernel_rfl) ⟨fun _ => rfl, .inl ⟨by rfl, fun w' hw' => by obtain ⟨z0, z1⟩ := hw'; go_simp⟩⟩ ?_
      simp only [Act.put, List.setIfInBounds_toArray, List.set_cons_succ, List.set_cons_zero]
      refine takeQ 1 (.slice A l.length c) hgood rfl (by kernel_rfl) ⟨fun _ => rfl, .inl ⟨by rfl, fun w' hw' => by obtain ⟨z0, z1⟩ := hw'; go_simp⟩⟩ ?_
      simp only [Act.put, List.setIfInBounds_toArray, List.set_cons_succ, List.set_cons_zero]
      refine takeQ 2 (.int .i64 (k : Int)) hgood rfl (by kernel_rfl) ⟨fun _ => rfl, .inl ⟨by rfl, fun w' hw' => by obtain ⟨z0, z1⟩ := hw'; go_simp⟩⟩ ?_
      simp only [Act.put, List.setIfInBounds_toArray, List.set_cons_succ, List.set_cons_zero]
      refine takeL 3 rfl (by kernel_rfl) ?_
      gi_wp2_with (refine ⟨trivial, ?_⟩; gi_at_call 29; go_must (refine (CallsIn.inRound lq ((callsIn_wide (n := 7)).2 HROW.out)).mono ?_); rintro e' w5 ⟨v5, rfl, hR5, hB5⟩)
      have hB : Below Z.heap.size Z w5 := ⟨hB5.os, hB5.tape, hB5.output, hB5.size, hB5.block⟩
      obtain ⟨row, hrow⟩ : ∃ row, rowV l k e = row := ⟨_, rfl⟩
      rw [hrow] at hR5
      obtain ⟨A5, c5, rfl, hc5⟩ := hR5.slice
      have hrl : row.length ≤ 900000 := by rw [← hrow]; unfold rowV; rw [outV_len, List.length_drop, List.length_take]; omega
      have hsmr : Small row := by rw [← hrow]; exact small_row HSM.out k e (by omega)
      have hown5 : OwnR w5 w8.heap.size v2 rs := own_keep HN.out.own (fun j hj => hB.block j (by obtain ⟨_, cs, h⟩ := own_typed HN.out.own j hj; exact blk_lt h))
      obtain ⟨v7, w7, hrun, hown7, hg7⟩ := ownR_append hown5 (⟨#[]⟩, (A5, c5), row) (by omega) (Nat.le_trans HN.out.chg.size hB.size)
      obtain ⟨A7, c7, rfl, hc7⟩ := own_slice hown7
      obtain ⟨w6, hw6⟩ : ∃ w6, w5.alloc (.cells #[.slice A5 row.length c5] 22) = w6 := ⟨_, rfl⟩
      have hb56 : Below w5.heap.size w5 w6 := by rw [← hw6]; exact below_alloc (Below.refl _ _) _
      have em : mbSl (⟨#[]⟩, (A5, c5), row) = .slice A5 row.length c5 := rfl
      rw [em, hw6] at hg7
      rw [em] at hrun
      have hbm5 := (hB.block _ (blk_lt HN.out.bn)).trans HN.out.bn
      have hbx5 := (hB.block _ (blk_lt HBX.out)).trans HBX.out
      have hge : ∀ j, v2.ownBlock = some j → w8.heap.size ≤ j := fun j hj => (own_typed hown5 j hj).1
      have hch7 : Chg (fun k => k = w3.heap.size + 1 ∨ v2.ownBlock = some k) w5 w7 := (Chg.below hb56).trans (Chg.grown hg7 (fun k e => .inr e))
      have hbm7 : w7.heap[w3.heap.size + 1]? = some (.cells #[v2] 50 (0, 0)) := (hg7.block _ (Nat.lt_of_lt_of_le (blk_lt hbm5) hb56.size) (fun e => by have := hge _ e.symm; omega)).trans ((hb56.block _ (blk_lt hbm5)).trans hbm5)
      have hbx7 := (hch7.block _ (blk_lt hbx5) (fun h => by rcases h with h | h <;> first | omega | (have := hge _ h; omega))).trans hbx5
      have hbx6 := (hb56.block _ (blk_lt hbx5)).trans hbx5
      have hbm6 := (hb56.block _ (blk_lt hbm5)).trans hbm5
      have G5 := Lib.hid (show w5.cell? ⟨w3.heap.size + 1, 0, none⟩ = some v2 ∧ w5.cell? ⟨W.heap.size, 0, none⟩ = some (.slice A l.length c) from ⟨blkc hbm5 0 rfl, blkc hbx5 0 rfl⟩)
      have G6 := Lib.hid (show w6.cell? ⟨w3.heap.size + 1, 0, none⟩ = some v2 ∧ w6.cell? ⟨W.heap.size, 0, none⟩ = some (.slice A l.length c) from ⟨blkc hbm6 0 rfl, blkc hbx6 0 rfl⟩)
      have G7 := Lib.hid (show w7.cell? ⟨w3.heap.size + 1, 0, none⟩ = some v2 ∧ w7.cell? ⟨W.heap.size, 0, none⟩ = some (.slice A l.length c) from ⟨blkc hbm7 0 rfl, blkc hbx7 0 rfl⟩)
      have FIN := Lib.hid (show KeepsFrom w8.heap.size Z (w7.setCell ⟨w3.heap.size + 1, 0, none⟩ (.slice A7 (rs ++ [((⟨#[]⟩, (A5, c5), row) : Mb)]).length c7)) ∧ KpS (WS (X.heap.size + 1) X.heap.size A) Z (w7.setCell ⟨w3.heap.size + 1, 0, none⟩ (.slice A7 (rs ++ [((⟨#[]⟩, (A5, c5), row) : Mb)]).length c7)) ∧
        ∃ v rs', NI w8 l (w3.heap.size + 1) (pre ++ [k]) v rs' (w7.setCell ⟨w3.heap.size + 1, 0, none⟩ (.slice A7 (rs ++ [((⟨#[]⟩, (A5, c5), row) : Mb)]).length c7)) by
          have hch58 : Chg (fun k => k = w3.heap.size + 1 ∨ v2.ownBlock = some k) w5 (w7.setCell ⟨w3.heap.size + 1, 0, none⟩ (.slice A7 (rs ++ [((⟨#[]⟩, (A5, c5), row) : Mb)]).length c7)) := hch7.trans (Chg.setCell (.inl rfl))
          have hch : Chg (fun k => k = w3.heap.size + 1 ∨ v2.ownBlock = some k) Z (w7.setCell ⟨w3.heap.size + 1, 0, none⟩ (.slice A7 (rs ++ [((⟨#[]⟩, (A5, c5), row) : Mb)]).length c7)) := (Chg.below hB).trans hch58
          have hZ := HN.out.chg.size
          have hS : ∀ j, (j = w3.heap.size + 1 ∨ v2.ownBlock = some j) → j < Z.heap.size → ∃ cs T, Z.heap[j]? = some (.cells cs T (0, 0)) := by
            rintro j (rfl | hj) _
            · exact ⟨_, _, HN.out.bn⟩
            · obtain ⟨_, cs, h⟩ := own_typed HN.out.own j hj
              exact ⟨_, _, h⟩
          have hlow : ∀ j, j < w8.heap.size → j ≠ w3.heap.size + 1 → ¬ (j = w3.heap.size + 1 ∨ v2.ownBlock = some j) := fun j h1 h2 hs => by
            rcases hs with h | h
            · exact h2 h
            · have := hge _ h; omega
          have hnn : ∀ (k : Nat) cs, w5.heap[k]? = some (.cells cs 48 (0, 0)) → ¬ (k = w3.heap.size + 1 ∨ v2.ownBlock = some k) := fun k cs hk hs => by
            rcases hs with rfl | h
            · rw [hbm5] at hk; cases hk
            · obtain ⟨_, cs', h⟩ := own_typed hown5 k h
              rw [h] at hk; cases hk
          have hnnZ : ∀ (k : Nat) cs, Z.heap[k]? = some (.cells cs 48 (0, 0)) → ¬ (k = w3.heap.size + 1 ∨ v2.ownBlock = some k) := fun k cs hk => hnn k cs ((hB.block k (blk_lt hk)).trans hk)
          have hty5 : ∀ a, A5 = some a → ∃ cs, w5.heap[a.block]? = some (.cells cs 48 (0, 0)) := fun a ha => by subst ha; exact (hR5.typed a.block rfl).2
          have hk58 : ∀ (k : Nat) cs, w5.heap[k]? = some (.cells cs 48 (0, 0)) → (w7.setCell ⟨w3.heap.size + 1, 0, none⟩ (.slice A7 (rs ++ [((⟨#[]⟩, (A5, c5), row) : Mb)]).length c7)).heap[k]? = some (.cells cs 48 (0, 0)) := fun k cs hk => (hch58.block k (blk_lt hk) (hnn k cs hk)).trans hk
          refine ⟨hch.keepsFrom hS, ⟨hch.size, fun j hj => ?_⟩, _, _, ⟨⟨hch.os.trans HN.out.chg.os, hch.tape.trans HN.out.chg.tape, hch.output.trans HN.out.chg.output, Nat.le_trans hZ hch.size, fun j hj hs => (hch.block j (by omega) (hlow j hj hs)).trans (HN.out.chg.block j hj hs)⟩, ?_, own_keep hown7 (fun j hj => Below.heap_setCell _ _ _ _ (fun e => ?_)), ?_, ?_⟩⟩
          · have hj8 : j < w8.heap.size ∧ j ≠ w3.heap.size + 1 := by
              rcases hj with h | h | ⟨a, ha, h⟩
              · omega
              · omega
              · have := HA.out a ha; omega
            exact hch.block j (by omega) (hlow j hj8.1 hj8.2)
          · simp [World.setCell, Array.getElem?_modify, hbm7]
          · obtain ⟨h0, cs, h⟩ := own_typed hown7 j hj
            dsimp only at e
            omega
          · rw [List.map_append, List.map_append, HN.out.rows]
            simp [prM, hen, hrow]
          · intro m hm
            rcases List.mem_append.1 hm with hm | hm
            · exact okRows HN.out.ok (fun j cs hj => (hch.block j (blk_lt hj) (hnnZ j cs hj)).trans hj) hch.size m hm
            · rw [List.mem_singleton] at hm
              subst hm
              refine ⟨⟨kdC_keep (hR5.C hrl) (fun a ha => ?_), hc5, hsmr, fun a ha => ?_⟩, fun a ha => ?_⟩
              · obtain ⟨cs, e5⟩ := hty5 a ha
                rw [e5]; exact hk58 _ _ e5
              · obtain ⟨cs, e5⟩ := hty5 a ha
                exact Nat.lt_of_lt_of_le (blk_lt e5) hch58.size
              · obtain ⟨cs, e5⟩ := hty5 a ha
                exact ⟨cs, hk58 _ _ e5⟩)
      have q0 : w7.cell? ⟨w3.heap.size + 1, 0, none⟩ = some v2 := G7.out.1
      have qf := blk_frozen hbm7 0
      generalize (rs ++ [((⟨#[]⟩, (A5, c5), row) : Mb)]).length = n7 at FIN hrun
      clear hge hch7 hbm7 hbx7 hbx6 hbm6 hbm5 hbx5 hg7 hb56 hown7 hown5 hsmr hrl hc5 hc7 hB5 hR5 hB hgood c0 c1 HROW em
      refine ⟨fun _ => G5.out, ?_⟩
      refine takeL 4 rfl (by kernel_rfl) ?_
      gi_wp2
      rw [hw6] at hrun
      refine ⟨by first | exact G6.out | exact fun _ => G6.out, ?_⟩
      refine takeL 5 rfl (by kernel_rfl) ?_
      refine wpListIn_append_runI _ rfl _ _ 50 50 rfl _ _ rfl rfl hrun ?_
      gi_wp2
      refine ⟨by first | exact G7.out | exact fun _ => G7.out, ?_⟩
      refine takeL 6 rfl (by kernel_rfl) ?_
      gi_wp2
      refine ⟨fun h => absurd h (by decide), doneG (by kernel_rfl) ?_⟩
      gi_wp2
      first | exact FIN.out | (rw [hsz8] at FIN; exact FIN.out)
    case done2 =>
      rintro D2 zs Z hD2 rfl ⟨v2, rs, hN⟩ hK2
      have hlow : ∀ j, j < w8.heap.size → j ≠ w3.heap.size + 1 → Z.heap[j]? = w8.heap[j]? := fun j h1 h2 => hN.chg.block j h1 h2
      have hbm : Z.heap[w3.heap.size]? = some (.cells #[v] 52 (0, 0)) := (hlow _ (by omega) (by omega)).trans HI8.out.bm
      have hbx : Z.heap[W.heap.size]? = some (.cells #[.slice A l.length c] 22 (0, 0)) := (hlow _ (by omega) (by omega)).trans HI8.out.box
      have hbn := hN.bn
      have hCZ := kdC_keep HC8.out (fun a ha => hlow a.block (by have := HA.out a ha; omega) (by have := HA.out a ha; omega))
      have hDZ : Z.heap[D]? = some (.deferred (some [])) := (hlow D (blk_lt HK8.out) (fun e => by rw [e, HI8.out.bn] at HK8; cases HK8.out)).trans HK8.out
      have hDD : D ≠ D2 := by have := blk_lt HK8.out; omega
      have hownm : OwnM Z W.heap.size v ms := own_keep HI8.out.own (fun j hj => by
        obtain ⟨_, cs, h⟩ := own_typed HI8.out.own j hj
        exact hlow j (blk_lt h) (fun e => by rw [e, HI8.out.bn] at h; cases h))
      have hokm := okRows HI8.out.ok (Y := Z) (fun j cs h => (hlow j (blk_lt h) (fun e => by rw [e, HI8.out.bn] at h; cases h)).trans h) hN.chg.size
      have hZW : Below W.heap.size W Z := HI8.out.below.trans (hN.chg.to_below HI8.out.below.size (fun k h => by omega))
      obtain ⟨ad, rfl, d0, _⟩ := node_at hCZ 0 hpos
      rw [show ad.add (0 * 5) = ad by rw [Nat.zero_mul]; rfl] at d0
      have c0 : Z.cell? ⟨W.heap.size, 0, none⟩ = some (.slice (some ad) l.length c) := blkc hbx 0 rfl
      have k1 : decide ((0 : Int) < (l.length : Int)) = true := decide_eq_true (by omega)
      have k2 : decide (0 < l.length) = true := decide_eq_true hpos
      have END : Hid (∀ X', Below Z.heap.size Z X' → X'.heap[D2]? = some (.deferred (some [])) ∧ (X'.putObj D2 (.deferred none)).heap[D]? = some (.deferred (some [])) ∧ Below W.heap.size W ((X'.putObj D2 (.deferred none)).putObj D (.deferred none))) := Lib.hid (fun X' h => by
        have e2 := (h.block D2 (blk_lt hK2)).trans hK2
        have e1 := (h.block D (blk_lt hDZ)).trans hDZ
        have hD2s := blk_lt e2
        refine ⟨e2, (World.putObj_heap_other hDD).trans e1, ?_⟩
        have b1 := below_step hZW h
        exact ⟨b1.os, b1.tape, b1.output, by simpa [World.putObj] using b1.size, fun k hk => (World.putObj_heap_other (by omega)).trans ((World.putObj_heap_other (by omega)).trans (b1.block k hk))⟩)
      have ZF := Lib.hid (And.intro hbm (And.intro hbx (And.intro hbn (And.intro hCZ (And.intro hownm (And.intro hokm (And.intro hN.own (And.intro hN.ok (And.intro hN.rows HI8.out.rows)))))))))
      obtain ⟨knd, hknd⟩ : ∃ knd, l[0].f0 = knd := ⟨_, rfl⟩
      rw [hknd] at d0
      have HKN := Lib.hid hknd
      clear hlow hbm hbx hbn hCZ hDZ hDD hownm hokm hZW hK2 hN HI8 HK8 HN0 HC8 HSQ2 hknd
      by_cases h7 : knd = 7
      · subst h7
        have hV : allV 7 ms = l := by
          have e := HLT.out
          have hk := HKN.out
          have ok := HT.out.ok
          have hk2 : kndAt l 0 = 7 := by unfold kndAt; rw [List.getElem?_eq_getElem hpos]; exact hk
          rw [e, kind_root] at hk2
          have hrows := ZF.out.2.2.2.2.2.2.2.2.2
          cases t with
          | mk k key text kids =>
            obtain rfl : k = 7 := hk2
            rw [e] at hrows ⊢
            exact all_tree 7 (by decide) key text kids ok ms (hrows.trans (members_pl key text kids))
        have hown := ZF.out.2.2.2.2.1
        obtain ⟨A9, c9, rfl, hc9⟩ := own_slice hown
        have hsum : sumL ms ≤ 300 := by have := congrArg List.length hV; rw [all_len] at this; omega
        have hml : ms.length ≤ 300 := by
          have := congrArg List.length ZF.out.2.2.2.2.2.2.2.2.2
          rw [List.length_map, List.length_map] at this
          have h2 : (membersL l 0).length ≤ l.length := by unfold membersL; split <;> simp [itemsL_len]
          omega
        have hcm : Z.cell? ⟨w3.heap.size, 0, none⟩ = some (.slice A9 ms.length c9) := blkc ZF.out.1 0 rfl
        have OBJ := Lib.hid (object_any A9 c9 ms Z.drew hown.at (by omega) (by omega) (fun m hm => (ZF.out.2.2.2.2.2.1 m hm).1.keep (w1 := Z.drew) (fun _ _ => rfl)) (fun a ha => by subst ha; obtain ⟨_, cs, h⟩ := own_typed hown a.block rfl; exact blk_lt h))
        rw [hV] at OBJ
        have hgood : Z.drew.cell? ⟨w3.heap.size, 0, none⟩ = some (.slice A9 ms.length c9) ∧ Z.drew.cell? ⟨W.heap.size, 0, none⟩ = some (.slice (some ad) l.length c) := ⟨hcm, c0⟩
        clear hown hc9 hsum hV hcm
        gi_wp2
        refine region_g (fun w => w.cell? ⟨w3.heap.size, 0, none⟩ = some (.slice A9 ms.length c9) ∧ w.cell? ⟨W.heap.size, 0, none⟩ = some (.slice (some ad) l.length c)) (fun _ => true) hmo ?_
        refine takeQ 0 (.slice A9 ms.length c9) hgood rfl (by kernel_rfl) ⟨fun _ => rfl, .inl ⟨by rfl, fun w' hw' => by obtain ⟨z0, z1⟩ := hw'; go_simp⟩⟩ ?_
        simp only [Act.put, List.setIfInBounds_toArray, List.set_cons_succ, List.set_cons_zero]
        refine takeQ 2 (.slice (some ad) l.length c) hgood rfl (by kernel_rfl) ⟨fun _ => rfl, .inl ⟨by rfl, fun w' hw' => by obtain ⟨z0, z1⟩ := hw'; go_simp⟩⟩ ?_
        simp only [Act.put, List.setIfInBounds_toArray, List.set_cons_succ, List.set_cons_zero]
        refine takeL 1 rfl (by kernel_rfl) ?_
        gi_wp2_with (refine ⟨trivial, ?_⟩; gi_at_call 28; go_must (refine ((callsIn_wide (n := 9)).2 OBJ.out).mono ?_); rintro e' w5 ⟨vo, rfl, hRo, hBo⟩)
        have hB5 : Below Z.heap.size Z w5 := ⟨hBo.os, hBo.tape, hBo.output, hBo.size, hBo.block⟩
        obtain ⟨Ao, co, rfl, hco⟩ := hRo.slice
        have hCo := hRo.C (by omega)
        have hlto : ∀ a, Ao = some a → a.block < w5.heap.size := fun a ha => by subst ha; exact row_lt hRo a.block rfl
        have hC5 := Kd.C_below ZF.out.2.2.2.1 hB5
        have g5a : w5.cell? ⟨w3.heap.size, 0, none⟩ = some (.slice A9 ms.length c9) := blkc ((hB5.block _ (blk_lt ZF.out.1)).trans ZF.out.1) 0 rfl
        have g5b : w5.cell? ⟨W.heap.size, 0, none⟩ = some (.slice (some ad) l.length c) := blkc ((hB5.block _ (blk_lt ZF.out.2.1)).trans ZF.out.2.1) 0 rfl
        have G5 := Lib.hid (And.intro g5a g5b)
        have TO := Lib.hid (to_any (some ad) c l (by omega) w5 hC5)
        have B5 := Lib.hid hB5
        have CO := Lib.hid hCo
        have LO := Lib.hid hlto
        clear hBo hRo hco hCo hlto hC5 g5a g5b hB5 hgood
        refine ⟨fun _ => G5.out, ?_⟩
        refine takeL 3 rfl (by kernel_rfl) ?_
        gi_wp2_with (refine ⟨trivial, ?_⟩; gi_at_call 18; go_must (refine ((callsIn_wide (n := 9)).2 TO.out).mono ?_); rintro e' w6 ⟨v6, rfl, hR6, hB6⟩)
        obtain ⟨A6, c6, rfl, _⟩ := hR6.slice
        have hz6 := B5.out.size
        have G6 := Lib.hid (show w6.cell? ⟨w3.heap.size, 0, none⟩ = some (.slice A9 ms.length c9) ∧ w6.cell? ⟨W.heap.size, 0, none⟩ = some (.slice (some ad) l.length c) from ⟨cellBelow hB6 G5.out.1, cellBelow hB6 G5.out.2⟩)
        have hB6' := below_step B5.out hB6
        have SAME := Lib.hid (same_true Ao A6 l.length co c6 w5.heap.size l rfl (by omega) w6 (kdC_keep CO.out (fun a ha => hB6.block _ (LO.out a ha))) hR6)
        have B6 := Lib.hid hB6'
        clear hR6 hB6 hB6'
        refine ⟨by first | exact G6.out | exact fun _ => G6.out, ?_⟩
        refine takeL 4 rfl (by kernel_rfl) ?_
        gi_wp2_with (refine ⟨trivial, ?_⟩; gi_at_call 25; go_must (refine ((callsIn_wide (n := 9)).2 SAME.out).mono ?_); rintro e' w7 ⟨rfl, hB7⟩)
        have G7 := Lib.hid (show w7.cell? ⟨w3.heap.size, 0, none⟩ = some (.slice A9 ms.length c9) ∧ w7.cell? ⟨W.heap.size, 0, none⟩ = some (.slice (some ad) l.length c) from ⟨cellBelow hB7 G6.out.1, cellBelow hB7 G6.out.2⟩)
        obtain ⟨e1, e2, e3⟩ := END.out w7 (below_step B6.out hB7)
        have E1 := Lib.hid e1
        have E2 := Lib.hid e2
        have E3 := Lib.hid e3
        clear e1 e2 e3 hB7
        refine ⟨by first | exact G7.out | exact fun _ => G7.out, ?_⟩
        refine takeL 5 rfl (by kernel_rfl) ?_
        gi_wp2
        refine ⟨by first | exact G7.out | exact fun _ => G7.out, doneG (by kernel_rfl) ?_⟩
        gi_wp2
        refine ⟨by simp, .inl ⟨_, _, rfl, run_takeDeferred E1.out, ?_⟩⟩
        refine ⟨by simp, .inl ⟨_, _, rfl, run_takeDeferred E2.out, ?_⟩⟩
        exact ⟨_, results_tmp rfl _ _ _, rfl, E3.out⟩
      · by_cases h6 : knd = 6
        · subst h6
          have hnk : ∀ m ∈ rs, m.1 = ⟨#[]⟩ := fun m hm => by
            have := List.mem_map_of_mem (f := prM) hm
            rw [ZF.out.2.2.2.2.2.2.2.2.1] at this
            obtain ⟨k, _, e⟩ := List.mem_map.1 this
            exact (congrArg Prod.fst e).symm
          have hV : allV 6 rs = l := by
            have e := HLT.out
            have hk := HKN.out
            have ok := HT.out.ok
            have hk2 : kndAt l 0 = 6 := by unfold kndAt; rw [List.getElem?_eq_getElem hpos]; exact hk
            rw [e, kind_root] at hk2
            have hrows := ZF.out.2.2.2.2.2.2.2.2.1
            cases t with
            | mk k key text kids =>
              obtain rfl : k = 6 := hk2
              rw [e] at hrows ⊢
              exact all_tree 6 (by decide) key text kids ok rs (hrows.trans (items_pl key text kids ok))
          have hown := ZF.out.2.2.2.2.2.2.1
          obtain ⟨A9, c9, rfl, hc9⟩ := own_slice hown
          have hsum : sumL rs ≤ 300 := by have := congrArg List.length hV; rw [all_len] at this; omega
          have hml : rs.length ≤ 300 := by
            have := congrArg List.length ZF.out.2.2.2.2.2.2.2.2.1
            rw [List.length_map, List.length_map] at this
            have h2 : (itemsL l 0).length ≤ l.length := itemsL_len l 0
            omega
          have hcm : Z.cell? ⟨w3.heap.size + 1, 0, none⟩ = some (.slice A9 rs.length c9) := blkc ZF.out.2.2.1 0 rfl
          have OBJ := Lib.hid (array_any A9 c9 rs Z.drew (hown.at hnk) (by omega) (by omega) (fun m hm => (ZF.out.2.2.2.2.2.2.2.1 m hm).1.keep (w1 := Z.drew) (fun _ _ => rfl)) (fun a ha => by subst ha; obtain ⟨_, cs, h⟩ := own_typed hown a.block rfl; exact blk_lt h))
          rw [hV] at OBJ
          have hgood : Z.drew.cell? ⟨w3.heap.size + 1, 0, none⟩ = some (.slice A9 rs.length c9) ∧ Z.drew.cell? ⟨W.heap.size, 0, none⟩ = some (.slice (some ad) l.length c) := ⟨hcm, c0⟩
          clear hown hc9 hsum hV hcm
          gi_wp2
          refine region_g (fun w => w.cell? ⟨w3.heap.size + 1, 0, none⟩ = some (.slice A9 rs.length c9) ∧ w.cell? ⟨W.heap.size, 0, none⟩ = some (.slice (some ad) l.length c)) (fun _ => true) hmo ?_
          refine takeQ 0 (.slice A9 rs.length c9) hgood rfl (by kernel_rfl) ⟨fun _ => rfl, .inl ⟨by rfl, fun w' hw' => by obtain ⟨z0, z1⟩ := hw'; go_simp⟩⟩ ?_
          simp only [Act.put, List.setIfInBounds_toArray, List.set_cons_succ, List.set_cons_zero]
          refine takeQ 2 (.slice (some ad) l.length c) hgood rfl (by kernel_rfl) ⟨fun _ => rfl, .inl ⟨by rfl, fun w' hw' => by obtain ⟨z0, z1⟩ := hw'; go_simp⟩⟩ ?_
          simp only [Act.put, List.setIfInBounds_toArray, List.set_cons_succ, List.set_cons_zero]
          refine takeL 1 rfl (by kernel_rfl) ?_
          gi_wp2_with (refine ⟨trivial, ?_⟩; gi_at_call 27; go_must (refine ((callsIn_wide (n := 9)).2 OBJ.out).mono ?_); rintro e' w5 ⟨vo, rfl, hRo, hBo⟩)
          have hB5 : Below Z.heap.size Z w5 := ⟨hBo.os, hBo.tape, hBo.output, hBo.size, hBo.block⟩
          obtain ⟨Ao, co, rfl, hco⟩ := hRo.slice
          have hCo := hRo.C (by omega)
          have hlto : ∀ a, Ao = some a → a.block < w5.heap.size := fun a ha => by subst ha; exact row_lt hRo a.block rfl
          have hC5 := Kd.C_below ZF.out.2.2.2.1 hB5
          have g5a : w5.cell? ⟨w3.heap.size + 1, 0, none⟩ = some (.slice A9 rs.length c9) := blkc ((hB5.block _ (blk_lt ZF.out.2.2.1)).trans ZF.out.2.2.1) 0 rfl
          have g5b : w5.cell? ⟨W.heap.size, 0, none⟩ = some (.slice (some ad) l.length c) := blkc ((hB5.block _ (blk_lt ZF.out.2.1)).trans ZF.out.2.1) 0 rfl
          have G5 := Lib.hid (And.intro g5a g5b)
          have TO := Lib.hid (to_any (some ad) c l (by omega) w5 hC5)
          have B5 := Lib.hid hB5
          have CO := Lib.hid hCo
          have LO := Lib.hid hlto
          clear hBo hRo hco hCo hlto hC5 g5a g5b hB5 hgood
          refine ⟨fun _ => G5.out, ?_⟩
          refine takeL 3 rfl (by kernel_rfl) ?_
          gi_wp2_with (refine ⟨trivial, ?_⟩; gi_at_call 18; go_must (refine ((callsIn_wide (n := 9)).2 TO.out).mono ?_); rintro e' w6 ⟨v6, rfl, hR6, hB6⟩)
          obtain ⟨A6, c6, rfl, _⟩ := hR6.slice
          have hz6 := B5.out.size
          have G6 := Lib.hid (show w6.cell? ⟨w3.heap.size + 1, 0, none⟩ = some (.slice A9 rs.length c9) ∧ w6.cell? ⟨W.heap.size, 0, none⟩ = some (.slice (some ad) l.length c) from ⟨cellBelow hB6 G5.out.1, cellBelow hB6 G5.out.2⟩)
          have hB6' := below_step B5.out hB6
          have SAME := Lib.hid (same_true Ao A6 l.length co c6 w5.heap.size l rfl (by omega) w6 (kdC_keep CO.out (fun a ha => hB6.block _ (LO.out a ha))) hR6)
          have B6 := Lib.hid hB6'
          clear hR6 hB6 hB6'
          refine ⟨by first | exact G6.out | exact fun _ => G6.out, ?_⟩
          refine takeL 4 rfl (by kernel_rfl) ?_
          gi_wp2_with (refine ⟨trivial, ?_⟩; gi_at_call 25; go_must (refine ((callsIn_wide (n := 9)).2 SAME.out).mono ?_); rintro e' w7 ⟨rfl, hB7⟩)
          have G7 := Lib.hid (show w7.cell? ⟨w3.heap.size + 1, 0, none⟩ = some (.slice A9 rs.length c9) ∧ w7.cell? ⟨W.heap.size, 0, none⟩ = some (.slice (some ad) l.length c) from ⟨cellBelow hB7 G6.out.1, cellBelow hB7 G6.out.2⟩)
          obtain ⟨e1, e2, e3⟩ := END.out w7 (below_step B6.out hB7)
          have E1 := Lib.hid e1
          have E2 := Lib.hid e2
          have E3 := Lib.hid e3
          clear e1 e2 e3 hB7
          refine ⟨by first | exact G7.out | exact fun _ => G7.out, ?_⟩
          refine takeL 5 rfl (by kernel_rfl) ?_
          gi_wp2
          refine ⟨by first | exact G7.out | exact fun _ => G7.out, doneG (by kernel_rfl) ?_⟩
          gi_wp2
          refine ⟨by simp, .inl ⟨_, _, rfl, run_takeDeferred E1.out, ?_⟩⟩
          refine ⟨by simp, .inl ⟨_, _, rfl, run_takeDeferred E2.out, ?_⟩⟩
          exact ⟨_, results_tmp rfl _ _ _, rfl, E3.out⟩
        · have hleaf : knd < 6 ∧ membersL l 0 = [] ∧ itemsL l 0 = [] ∧ rowV l 0 l.length = l ∧ l[0].f4 = (l.length : Int) := by
            have e := HLT.out
            have hk2 : kndAt l 0 = knd := by unfold kndAt; rw [List.getElem?_eq_getElem hpos]; exact HKN.out
            have hen : endAt l 0 = l[0].f4 := by unfold endAt; rw [List.getElem?_eq_getElem hpos]
            have ok := HT.out.ok
            have hk3 := hk2
            rw [e, kind_root] at hk3
            have he := (end_of (l := rowT t) (r := []) (i := 0) (p := -1) t (by unfold rowT; simp)).1
            rw [← e, hen, show ((0 + t.size : Nat) : Int) = (l.length : Int) by rw [e, rowT_len]; simp] at he
            have hlt : knd < 6 := by
              cases t with
              | mk k key text kids =>
                obtain rfl : k = knd := hk3
                rw [Tr.ok] at ok
                simp only [Bool.and_eq_true, okN] at ok
                have := of_decide_eq_true ok.1.1.1.1
                omega
            refine ⟨hlt, by unfold membersL; rw [hk2, if_neg h7], by unfold itemsL; rw [hk2, if_neg (by omega)], ?_, he⟩
            rw [e]
            cases t with
            | mk k key text kids =>
              obtain rfl : k = knd := hk3
              exact row_leaf k hlt key text kids ok
          obtain ⟨hlt, hml, hil, hrow, hfe⟩ := hleaf
          obtain rfl : ms = [] := by have := ZF.out.2.2.2.2.2.2.2.2.2; rw [hml] at this; simpa using this
          obtain rfl : rs = [] := by have := ZF.out.2.2.2.2.2.2.2.2.1; rw [hil] at this; simpa using this
          obtain ⟨A9, c9, rfl, _⟩ := own_slice ZF.out.2.2.2.2.1
          obtain ⟨A8, c8, rfl, _⟩ := own_slice ZF.out.2.2.2.2.2.2.1
          have cm : Z.cell? ⟨w3.heap.size, 0, none⟩ = some (.slice A9 0 c9) := blkc ZF.out.1 0 rfl
          have cn : Z.cell? ⟨w3.heap.size + 1, 0, none⟩ = some (.slice A8 0 c8) := blkc ZF.out.2.2.1 0 rfl
          have k7 : (knd == 7) = false := by simpa using h7
          have k6 : (knd == 6) = false := by simpa using h6
          have ROW := Lib.hid (row_any (some ad) c l (by omega) hc (fun n hn => by have := HSM.out n hn; omega) 0 l.length hpos hfe hpos (Nat.le_refl _) Z.drew ZF.out.2.2.2.1)
          rw [hrow] at ROW
          have hgood : Z.drew.cell? ⟨w3.heap.size, 0, none⟩ = some (.slice A9 0 c9) ∧ Z.drew.cell? ⟨w3.heap.size + 1, 0, none⟩ = some (.slice A8 0 c8) ∧ Z.drew.cell? ⟨W.heap.size, 0, none⟩ = some (.slice (some ad) l.length c) := ⟨cm, cn, c0⟩
          clear h7 h6 hlt hml hil hrow hfe cm cn
          gi_wp2
          refine region_g (fun w => w.cell? ⟨w3.heap.size, 0, none⟩ = some (.slice A9 0 c9) ∧ w.cell? ⟨w3.heap.size + 1, 0, none⟩ = some (.slice A8 0 c8) ∧ w.cell? ⟨W.heap.size, 0, none⟩ = some (.slice (some ad) l.length c)) (fun _ => true) hmo ?_
          refine takeQ 0 (.slice A9 0 c9) hgood rfl (by kernel_rfl) ⟨fun _ => by first | rfl | (go_simp; done), .inl ⟨by kernel_rfl, fun w' hw' => by obtain ⟨z0, z1, z2⟩ := hw'; go_simp⟩⟩ ?_
          simp only [Act.put, List.setIfInBounds_toArray, List.set_cons_succ, List.set_cons_zero]
          refine takeQ 2 (.slice A8 0 c8) hgood rfl (by kernel_rfl) ⟨fun _ => by first | rfl | (go_simp; done), .inl ⟨by kernel_rfl, fun w' hw' => by obtain ⟨z0, z1, z2⟩ := hw'; go_simp⟩⟩ ?_
          simp only [Act.put, List.setIfInBounds_toArray, List.set_cons_succ, List.set_cons_zero]
          refine takeQ 1 (.int .i64 0) hgood rfl (by kernel_rfl) ⟨fun _ => by first | rfl | (go_simp; done), .inl ⟨by kernel_rfl, fun w' hw' => by obtain ⟨z0, z1, z2⟩ := hw'; go_simp⟩⟩ ?_
          simp only [Act.put, List.setIfInBounds_toArray, List.set_cons_succ, List.set_cons_zero]
          refine takeQ 3 (.int .i64 0) hgood rfl (by kernel_rfl) ⟨fun _ => by first | rfl | (go_simp; done), .inl ⟨by kernel_rfl, fun w' hw' => by obtain ⟨z0, z1, z2⟩ := hw'; go_simp⟩⟩ ?_
          simp only [Act.put, List.setIfInBounds_toArray, List.set_cons_succ, List.set_cons_zero]
          refine takeQ 4 (.int .i64 0) hgood rfl (by kernel_rfl) ⟨fun _ => by first | rfl | (go_simp; done), .inl ⟨by kernel_rfl, fun w' hw' => by obtain ⟨z0, z1, z2⟩ := hw'; go_simp; rfl⟩⟩ ?_
          simp only [Act.put, List.setIfInBounds_toArray, List.set_cons_succ, List.set_cons_zero]
          refine takeQ 5 (.bool true) hgood rfl (by kernel_rfl) ⟨fun _ => by first | rfl | (go_simp; done), .inl ⟨by kernel_rfl, fun w' hw' => by obtain ⟨z0, z1, z2⟩ := hw'; go_simp⟩⟩ ?_
          simp only [Act.put, List.setIfInBounds_toArray, List.set_cons_succ, List.set_cons_zero]
          refine takeQ 6 (.bool true) hgood rfl (by kernel_rfl) ⟨fun _ => by first | rfl | (go_simp; done), .inl ⟨by kernel_rfl, fun w' hw' => by obtain ⟨z0, z1, z2⟩ := hw'; go_simp⟩⟩ ?_
          simp only [Act.put, List.setIfInBounds_toArray, List.set_cons_succ, List.set_cons_zero]
          refine takeQ 7 (.slice (some ad) l.length c) hgood rfl (by kernel_rfl) ⟨fun _ => by first | rfl | (go_simp; done), .inl ⟨by kernel_rfl, fun w' hw' => by obtain ⟨z0, z1, z2⟩ := hw'; go_simp⟩⟩ ?_
          simp only [Act.put, List.setIfInBounds_toArray, List.set_cons_succ, List.set_cons_zero]
          refine takeQ 9 (.slice (some ad) l.length c) hgood rfl (by kernel_rfl) ⟨fun _ => by first | rfl | (go_simp; done), .inl ⟨by kernel_rfl, fun w' hw' => by obtain ⟨z0, z1, z2⟩ := hw'; go_simp⟩⟩ ?_
          simp only [Act.put, List.setIfInBounds_toArray, List.set_cons_succ, List.set_cons_zero]
          refine takeW 8 rfl (by kernel_rfl) (by kernel_rfl) rfl ?_
          gi_wp2_with (refine ⟨trivial, ?_⟩; gi_at_call 29; go_must (refine ((callsIn_wide (n := 9)).2 ROW.out).mono ?_); rintro e' w5 ⟨vo, rfl, hRo, hBo⟩)
          have hB5 : Below Z.heap.size Z w5 := ⟨hBo.os, hBo.tape, hBo.output, hBo.size, hBo.block⟩
          obtain ⟨Ao, co, rfl, hco⟩ := hRo.slice
          have hCo := hRo.C (by omega)
          have hlto : ∀ a, Ao = some a → a.block < w5.heap.size := fun a ha => by subst ha; exact row_lt hRo a.block rfl
          have hC5 := Kd.C_below ZF.out.2.2.2.1 hB5
          have G5 := Lib.hid (show w5.cell? ⟨w3.heap.size, 0, none⟩ = some (.slice A9 0 c9) ∧ w5.cell? ⟨w3.heap.size + 1, 0, none⟩ = some (.slice A8 0 c8) ∧ w5.cell? ⟨W.heap.size, 0, none⟩ = some (.slice (some ad) l.length c) from ⟨cellBelow hB5 hgood.1, cellBelow hB5 hgood.2.1, cellBelow hB5 hgood.2.2⟩)
          have TO := Lib.hid (to_any (some ad) c l (by omega) w5 hC5)
          have B5 := Lib.hid hB5
          have CO := Lib.hid hCo
          have LO := Lib.hid hlto
          clear hBo hRo hco hCo hlto hC5 hB5 hgood
          refine ⟨fun _ => G5.out, ?_⟩
          refine takeW 10 rfl (by kernel_rfl) (by kernel_rfl) rfl ?_
          gi_wp2_with (refine ⟨trivial, ?_⟩; gi_at_call 18; go_must (refine ((callsIn_wide (n := 9)).2 TO.out).mono ?_); rintro e' w6 ⟨v6, rfl, hR6, hB6⟩)
          obtain ⟨A6, c6, rfl, _⟩ := hR6.slice
          have G6 := Lib.hid (show w6.cell? ⟨w3.heap.size, 0, none⟩ = some (.slice A9 0 c9) ∧ w6.cell? ⟨w3.heap.size + 1, 0, none⟩ = some (.slice A8 0 c8) ∧ w6.cell? ⟨W.heap.size, 0, none⟩ = some (.slice (some ad) l.length c) from ⟨cellBelow hB6 G5.out.1, cellBelow hB6 G5.out.2.1, cellBelow hB6 G5.out.2.2⟩)
          have hB6' := below_step B5.out hB6
          have SAME := Lib.hid (same_true Ao A6 l.length co c6 w5.heap.size l rfl (by omega) w6 (kdC_keep CO.out (fun a ha => hB6.block _ (LO.out a ha))) hR6)
          have B6 := Lib.hid hB6'
          clear hR6 hB6 hB6'
          refine ⟨by first | exact G6.out | exact fun _ => G6.out, ?_⟩
          refine takeW 11 rfl (by kernel_rfl) (by kernel_rfl) rfl ?_
          gi_wp2_with (refine ⟨trivial, ?_⟩; gi_at_call 25; go_must (refine ((callsIn_wide (n := 9)).2 SAME.out).mono ?_); rintro e' w7 ⟨rfl, hB7⟩)
          have G7 := Lib.hid (show w7.cell? ⟨w3.heap.size, 0, none⟩ = some (.slice A9 0 c9) ∧ w7.cell? ⟨w3.heap.size + 1, 0, none⟩ = some (.slice A8 0 c8) ∧ w7.cell? ⟨W.heap.size, 0, none⟩ = some (.slice (some ad) l.length c) from ⟨cellBelow hB7 G6.out.1, cellBelow hB7 G6.out.2.1, cellBelow hB7 G6.out.2.2⟩)
          obtain ⟨e1, e2, e3⟩ := END.out w7 (below_step B6.out hB7)
          have E1 := Lib.hid e1
          have E2 := Lib.hid e2
          have E3 := Lib.hid e3
          clear e1 e2 e3 hB7
          refine ⟨by first | exact G7.out | exact fun _ => G7.out, ?_⟩
          refine takeL 12 rfl (by kernel_rfl) ?_
          gi_wp2
          refine ⟨by first | exact G7.out | exact fun _ => G7.out, ?_⟩
          refine takeL 13 rfl (by kernel_rfl) ?_
          gi_wp2
          refine ⟨by first | exact G7.out | exact fun _ => G7.out, doneG (by kernel_rfl) ?_⟩
          gi_wp2
          refine ⟨by simp, .inl ⟨_, _, rfl, run_takeDeferred E1.out, ?_⟩⟩
          refine ⟨by simp, .inl ⟨_, _, rfl, run_takeDeferred E2.out, ?_⟩⟩
          exact ⟨_, results_tmp rfl _ _ _, rfl, E3.out⟩
    case stop2 =>
      rintro D c pre X _ _ h _
      exact h.elim
  case stop =>
    rintro D c pre X _ _ h _
    exact h.elim

/-- NodeBack answers true at every row in memory. -/
theorem nodeBack_any (A : Option Addr) (c : Nat) (l : List Node) (W : World) (h : Kd.C kN W A l.length l ∧ l.length ≤ c) :
    Calls Tryz.prog 8 #[.slice A l.length c] W fun e w' => e = .returned (.bool true) ∧ Below W.heap.size W w' := by
  obtain ⟨hC, hc⟩ := h
  by_cases h : lightV l = true ∧ chkP l = 0
  · obtain ⟨h1, h2⟩ := h
    obtain ⟨t, ht, e⟩ := chk_zero h2
    obtain ⟨q1, q2⟩ := light_all h1
    have hpos : 0 < l.length := by rw [e, rowT_len]; exact t.size_pos
    refine nodeBack_ok A c t ht l e W hc q1 q2 hC (fun a ha => ?_) h1 h2
    obtain ⟨ad, e2, d0, _⟩ := node_at hC 0 hpos
    rw [ha] at e2
    cases e2
    have := World.block_lt_of_cell? _ _ d0
    rwa [show (a.add (0 * 5)).block = a.block by unfold Addr.add; split <;> rfl] at this
  · exact nodeBack_not A c l W hc hC.2.1 hC (fun h1 h2 => h ⟨h1, h2⟩)
end Go.Proofs.YtfocognhcljhpaaGreatDoor

namespace Go.Proofs.YtfocognhcljhpaaGreatDoor.nodeBack
set_option linter.unusedVariables false
set_option linter.unusedSimpArgs false
open Go.ChangeShapes Go.WideShapes Go.ChangeAt Go.RowKit

theorem reads (os : Os) {H : Type} (enc : TypeId × Value → H) : ∃ ds places, DataW.whole enc Tryz.prog ((rowWorld os).forCall (fun _ _ => 0) ⟨#[], #[.slice none 0 0], []⟩).memory Tryz.f8.params.toList Rows.nodeBackSpec.vars false (#[.slice none 0 0] : Array Value).toList 8 = some (ds, [], places) :=
  ⟨[.nil], [], by kernel_rfl⟩

set_option maxRecDepth 100000 in
theorem contract (H : Type) (enc : TypeId × Value → H) (W : World) (base : Nat) (args : Array Value) (ds gs : List (DataW H)) (before : List MemPlace)
    (hval0 : ∀ (j : Nat) t v, Tryz.f8.params[j]? = some t → args[j]? = some v → Value.okWide Tryz.prog W .any base t v)
    (hW : DataW.Whole enc Tryz.prog Tryz.f8.params.toList Rows.nodeBackSpec.vars false W args.toList ds gs before)
    (hsz0 : (DataW.weightsEach Tryz.prog (Tryz.f8.params.toList ++ Rows.nodeBackSpec.plain.varTypes Tryz.prog) (ds ++ gs)).all (· ≤ reachBytes) = true)
    (hL : laidMetH Tryz.prog laidL W) (hs : W.ShapedOpen Tryz.prog) :
    Calls Tryz.prog 8 args W fun e W' => ∃ v, e = .returned v ∧ Rows.nodeBackSpec.post enc Tryz.prog Tryz.f8 false true false false W args v W' := by
  have hval := hval0
  have hsz := hsz0
  have hW' := hW
  obtain ⟨p, q, hA0, hV, rfl, hfz, hnd⟩ := hW
  have hA : DataW.TrodAll enc Tryz.prog W 0 (fun _ => true) true Tryz.f8.params.toList args.toList ds p := hA0
  rw [Tryz.params8] at hA hval hsz
  obtain ⟨v0, vs0, d0, ds0, p0, q0, hargs, rfl, rfl, h0, r0⟩ := trodAll_cons hA
  obtain ⟨rfl, rfl, rfl⟩ := trodAll_nil r0
  obtain rfl : args = #[v0] := by cases args; simp_all
  obtain ⟨rfl, rfl⟩ := trodVars_none hV
  obtain ⟨A0, c0, l0, rfl, hl0⟩ := open_nodes (hval 0 22 v0 rfl rfl) h0
  have k0 := h0
  have lt0 : ∀ x ∈ p0, x.block < W.heap.size := by obtain ⟨m, hm⟩ := k0; exact DataW.trod_lt m _ _ _ hm
  clear hA0 hval0 hsz0 hsz
  refine (nodeBack_any A0 c0 l0  W hl0).mono fun e W' ⟨he, bel⟩ => ?_
  subst he
  exact ⟨_, rfl, _, _, _, [], _, [], hW', trodAll_mk1 (shut_bool Tryz.underlying4 _), (trodAll_cons_mk (Below.trod laidOut (by kernel_rfl) (of_decide_eq_true (by kernel_rfl)) k0 bel lt0) trodAll_mk0), rfl, bel.frame _, fun h => by cases h⟩

set_option maxRecDepth 100000 in
theorem lifted (os : Os) (started : os.Started) (H : Type) (enc : TypeId × Value → H) (F : Stop.Interp) :
    ReturnsInHanded {} Tryz.checked os 8 .any ((OpenSpec.ofChange Rows.nodeBackSpec).preRow enc Tryz.prog Tryz.f8 Rows.nodeBackRow.domain false Rows.nodeBackRow.laid) (((OpenSpec.ofChange Rows.nodeBackSpec).at F).post enc Tryz.prog Tryz.f8 false true false false) := by
  obtain ⟨dsw, places, hx⟩ := reads os enc
  refine returnsInHanded_of_row (C := Tryz.checked) (s := OpenSpec.ofChange Rows.nodeBackSpec) own started (by kernel_rfl) Tryz.func8
    (witness_row_atRef (enc := enc) (C := Tryz.checked) false (rowWorld os) #[.slice none 0 0] (World.laidAll_os _ _ _) (by kernel_rfl) (by kernel_rfl) (by kernel_rfl)
      (OpenSpec.preRow_of_cond 8 hx (by kernel_rfl) (fun k hk => by cases hk) (by kernel_rfl) (row_met os _))) ?_
  intro W base args ds gs before hval hW _ _ hsz hL hs _
  exact contract H enc W base args ds gs before hval hW hsz hL hs

theorem said : Rows.NodeBackSaid :=
  OpenClaim.holds_of_cond 8 Tryz.f8 rfl rfl rfl rfl rfl rfl rfl ⟨rfl, rfl, rfl, rfl, rfl⟩ rfl rfl rfl rfl rfl (by kernel_rfl) Tryz.func8 (by kernel_rfl)
    (of_decide_eq_true (by kernel_rfl)) (by unfold Func.isWrapper; first | (rw [if_pos (by decide +kernel)]; kernel_rfl) | (rw [if_neg (by decide +kernel)]; exact ⟨rfl, rfl⟩))
    (fun os started H enc _ F => by rw [OpenClaim.pre_eq_preRow]; exact lifted os started H enc F)

theorem plain (f : FuncId) (fn : Func) (hf : Tryz.pinned.checked.prog.funcNamed "cashier/cashierlaw09.NodeBack" = some f) (hfn : Tryz.pinned.checked.prog.funcs[f]? = some fn) :
    Rows.nodeBackCard.stood.looks = Tryz.pinned.checked.prog.looks [] ∧ ∀ (j : Nat) t, fn.params[j]? = some t → Tryz.pinned.checked.prog.wantsStandIn t = false := by
  obtain rfl : f = 8 := Option.some.inj ((show Tryz.prog.funcNamed "cashier/cashierlaw09.NodeBack" = some 8 by kernel_rfl).symm.trans hf) |>.symm
  obtain rfl : fn = Tryz.f8 := (Option.some.inj (Tryz.func8.symm.trans hfn)).symm
  refine ⟨by kernel_rfl, fun j t ht => ?_⟩
  rw [Tryz.params8] at ht
  have hm := Array.mem_of_getElem? ht
  have hm2 : t = 22 := by simpa using hm
  rcases hm2 with rfl
  · exact (show Tryz.prog.wantsStandIn 22 = false by kernel_rfl)

/-- The card. -/
theorem card : Rows.NodeBackCardSaid :=
  Claim7.holds_tied_plain_at .later [] _ _ _ _ said (fun _ h => by cases h) (by kernel_rfl) (fun _ h => by cases h) nodeBack_row_tie rfl ⟨rfl, rfl⟩ (by kernel_rfl) rfl plain (by kernel_rfl)

#print axioms card
end Go.Proofs.YtfocognhcljhpaaGreatDoor.nodeBack
