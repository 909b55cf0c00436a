/- cashierlaw08.PrintRows returns true at every input, and each argument reads behind the call as it read before. Conditions: those of its given row (the listed package-level variables read, when the call begins, as their own initialisers lay them). -/
import Derived.Test.YtfocognhcljhpaaGreatDoorR9
import Derived.Test.YtfocognhcljhpaaGreatDoorR11
import Derived.Test.YtfocognhcljhpaaGreatDoorR12
import Derived.Test.YtfocognhcljhpaaGreatDoorR8
set_option linter.unusedVariables false
set_option linter.unusedSimpArgs false
namespace Go.Proofs.YtfocognhcljhpaaGreatDoor
open Go.RowKit Go.Shelf Go.Proofs.YtfocognhcljhpaaGreatDoorW.PrintWords Go.Proofs.YtfocognhcljhpaaGreatDoorW.PrintMore Go.Proofs.YtfocognhcljhpaaGreatDoor.PPrintRows Go.Proofs.YtfocognhcljhpaaGreatDoor.Tree
theorem chkP_range (l : List Node) : 0 ≤ chkP l ∧ chkP l ≤ 100 := by
 unfold chkP limitsV
 split <;> (try split) <;> (try split) <;> (try split) <;> (try split) <;> omega
theorem sort_bad (A : Option Addr) (c : Nat) (l : List Node) (cv : Int) (h0 : cv ≠ 0) (w : World) (hr : Kd.C kN w A l.length l) (hcv : ChkIs A c l cv) :
  Calls Tryz.prog 14 #[.slice A l.length c] w fun e w' => e = .returned (.tuple #[.slice none 0 0, .int .i64 cv]) ∧ Below w.heap.size w w' := by
 have HCV := Lib.hid (hcv w hr)
 have k0 : (cv != 0) = true := by simpa using h0
 clear hcv hr
 go_enter Tryz.func14, Tryz.ntmps14
 go_wp2_with (go_at_call 21; go_must (refine HCV.out.mono ?_); rintro e w1 ⟨rfl, hb⟩)
 go_ret2
 exact ⟨rfl, hb⟩
theorem pcsL_ne {l : List Node} (h : l ≠ []) : pcsL l ≠ [] := by
 obtain ⟨n, r, rfl⟩ := List.exists_cons_of_ne_nil h
 unfold pcsL
 rw [pcs]
 split
 ·simp
 ·simp only [List.getElem?_cons_zero]
  intro e
  simp only [List.append_eq_nil_iff] at e
  have e := e.2.2
  revert e
  split <;> simp
set_option maxRecDepth 100000 in
set_option maxHeartbeats 2000000 in
theorem printRows_far (A : Option Addr) (c : Nat) (l : List Node) (hl : l.length ≤ 9223372036854775807) (hc : l.length ≤ c) (s : ByteArray) (st : Int) (W : World) (hC : Kd.C kN W A l.length l) (hf : lightV l = false ∨ 300 < s.size) :
  Calls Tryz.prog 3 #[.slice A l.length c, .string s, .int .u8 st] W fun e w' => e = .returned (.bool true) ∧ Below W.heap.size W w' := by
 have LI := Lib.hid (fun w (h : Below W.heap.size W w) => light_any A c l hl hc w (Kd.C_below hC h))
 obtain ⟨lv, hlv⟩ : ∃ lv, lightV l = lv := ⟨_, rfl⟩
 rw [hlv] at LI hf
 clear hC hlv
 cases lv with
 | false =>
  clear hf
  go_enter Tryz.func3, Tryz.ntmps3
  go_wp2_with (first | (go_at_call 11; go_must (refine (awake08_in _).mono ?_); rintro e w0 ⟨rfl, hb⟩; have BB := Lib.hid (below_step (below_alloc (Below.refl W.heap.size W) (.cells #[.int .u8 st] 5)) hb); clear hb) | (go_at_call 12; go_must (refine (LI.out _ BB.out).mono ?_); rintro e w1 ⟨rfl, hb⟩; have BB := Lib.hid (below_step BB.out hb); clear hb))
  go_ret
  exact ⟨rfl, BB.out⟩
 | true =>
  have hf : 300 < s.size := by rcases hf with h | h; cases h; exact h
  have k1 : decide ((300 : Int) < (s.size : Int)) = true := decide_eq_true (by omega)
  have k2 : decide (300 < s.size) = true := decide_eq_true hf
  go_enter Tryz.func3, Tryz.ntmps3
  go_wp2_with (first | (go_at_call 11; go_must (refine (awake08_in _).mono ?_); rintro e w0 ⟨rfl, hb⟩; have BB := Lib.hid (below_step (below_alloc (Below.refl W.heap.size W) (.cells #[.int .u8 st] 5)) hb); clear hb) | (go_at_call 12; go_must (refine (LI.out _ BB.out).mono ?_); rintro e w1 ⟨rfl, hb⟩; have BB := Lib.hid (below_step BB.out hb); clear hb))
  go_ret
  exact ⟨rfl, BB.out⟩
set_option maxRecDepth 100000 in
set_option maxHeartbeats 4000000 in
theorem printRows_bad (A : Option Addr) (c : Nat) (l : List Node) (hc : l.length ≤ c) (s : ByteArray) (hs : s.size ≤ 300) (st : Int) (W : World) (hC : Kd.C kN W A l.length l) (h1 : lightV l = true) (h0 : chkP l ≠ 0) :
  Calls Tryz.prog 3 #[.slice A l.length c, .string s, .int .u8 st] W fun e w' => e = .returned (.bool true) ∧ Below W.heap.size W w' := by
 obtain ⟨q1, q2⟩ := light_all h1
 have htx : ∀ n ∈ l, n.f1.size ≤ 100000 ∧ n.f2.size ≤ 100000 := fun n hn => ⟨by have := (q2 n hn).1; omega, by have := (q2 n hn).2; omega⟩
 have LI := Lib.hid (fun w (h : Below W.heap.size W w) => light_any A c l (by omega) hc w (Kd.C_below hC h))
 rw [h1] at LI
 obtain ⟨b1, b2⟩ := chkP_range l
 have CI : ChkIs A c l (chkP l) := chk_any A c l hc (by omega) htx
 have CK := Lib.hid (fun A8 c8 w hc8 (hN : N7 w A8 l l.length) => check7_any A8 c8 l (by omega) hc8 htx w hN)
 obtain ⟨cv, hcv⟩ : ∃ cv, chkP l = cv := ⟨_, rfl⟩
 rw [hcv] at CI h0 b1 b2 CK
 have PB := Lib.hid (fun w (h : Below W.heap.size W w) => print_bad A c l cv w (Kd.C_below hC h) CI h0)
 have SB := Lib.hid (fun w (h : Below W.heap.size W w) => sort_bad A c l cv h0 w (Kd.C_below hC h) CI)
 have QU := Lib.hid (fun w => quote_any s (by omega) w)
 have Q8 := Lib.hid (fun w => quote8_any s (by omega) w)
 have TO := Lib.hid (fun w (h : Below W.heap.size W w) => to_any A c l (by omega) w (Kd.C_below hC h))
 obtain ⟨q, hq⟩ : ∃ q : ByteArray, (⟨(quoteL s.data.toList).toArray⟩ : ByteArray) = q := ⟨_, rfl⟩
 rw [hq] at QU Q8
 have k0 : (cv == 0) = false := beq_eq_false_iff_ne.2 h0
 have k2 : (cv != 0) = true := bne_iff_ne.2 h0
 have k3 : decide ((300 : Int) < (s.size : Int)) = false := decide_eq_false (by omega)
 have k4 : decide (300 < s.size) = false := decide_eq_false (by omega)
 have k5 : IntKind.i64.wrap cv = cv := wrap_id cv b1 (by omega)
 clear hC q1 q2 htx h1 hcv CI h0 hq hs
 go_enter Tryz.func3, Tryz.ntmps3
 go_wp2_with (first | (go_at_call 11; go_must (refine (awake08_in _).mono ?_); rintro e w0 ⟨rfl, hb⟩; have BB := Lib.hid (below_step (below_alloc (Below.refl W.heap.size W) (.cells #[.int .u8 st] 5)) hb); clear hb) | (go_at_call 12; go_must (refine (LI.out _ BB.out).mono ?_); rintro e w1 ⟨rfl, hb⟩; have BB := Lib.hid (below_step BB.out hb); clear hb) | (go_at_call 13; go_must (refine (PB.out _ BB.out).mono ?_); rintro e w2 ⟨rfl, hb⟩; have BB := Lib.hid (below_step BB.out hb); clear hb) | (go_at_call 14; go_must (refine (SB.out _ BB.out).mono ?_); rintro e w3 ⟨rfl, hb⟩; have BB := Lib.hid (below_step BB.out hb); clear hb) | (go_at_call 15; go_must (refine (QU.out _).mono ?_); rintro e w4 ⟨rfl, hb⟩; have BB := Lib.hid (below_step BB.out hb); clear hb) | (go_at_call 16; go_must (refine (Q8.out _).mono ?_); rintro e w5 ⟨rfl, hb⟩; have BB := Lib.hid (below_step BB.out hb); clear hb) | (go_at_call 18; go_must (refine (TO.out _ BB.out).mono ?_); rintro e w8 ⟨v8, rfl, hR, hb⟩; obtain ⟨A8, c8, rfl, hc8⟩ := hR.slice; have R8 := Lib.hid hR; have BB := Lib.hid (below_step BB.out hb); clear hb hR) | (go_at_call 17; go_must (refine (CK.out A8 c8 _ hc8 (N7.of R8.out _)).mono ?_); rintro e w9 ⟨rfl, hb⟩; have BB := Lib.hid (below_step BB.out hb); clear hb))
 go_ret
 exact ⟨rfl, BB.out⟩
attribute [local go_sem] Oper.semAt_some
structure KE (k0 : Nat) (T : TypeId) (B : World) (v : Value) (X : World) : Prop where
 os : X.os = B.os
 tape : X.tape = B.tape
 output : X.output = B.output
 size : B.heap.size ≤ X.heap.size
 block : ∀ k, k < B.heap.size → k ≠ k0 → X.heap[k]? = B.heap[k]?
 cell : X.heap[k0]? = some (.cells #[v] T (0, 0))
theorem KE.grown {k0 N : Nat} {T : TypeId} {B X Y : World} {v : Value} {row : Option Nat} (h : KE k0 T B v X) (hg : X.grownBy Y row) (hN : B.heap.size ≤ N) (hk : k0 < N) (hr : ∀ r, row = some r → N ≤ r) : KE k0 T B v Y :=
 ⟨hg.os.trans h.os, hg.tape.trans h.tape, hg.output.trans h.output, Nat.le_trans h.size hg.size, fun k hk hs => (hg.block k (Nat.lt_of_lt_of_le hk h.size) (fun e => by have := hr k e.symm; omega)).trans (h.block k hk hs),
  (hg.block k0 (blk_lt h.cell) (fun e => by have := hr k0 e.symm; omega)).trans h.cell⟩
theorem KE.mv {k0 N : Nat} {T : TypeId} {B X Y : World} {v : Value} (h : KE k0 T B v X) (k : NMv N X Y) (hN : B.heap.size ≤ N) (hk : k0 < N) : KE k0 T B v Y :=
 ⟨k.os.trans h.os, k.tape.trans h.tape, k.output.trans h.output, Nat.le_trans h.size k.size, fun j hj hs => by
  have e := Array.getElem?_eq_getElem (Nat.lt_of_lt_of_le hj h.size)
  exact ((k.block j _ e (.inl (by omega))).trans e.symm).trans (h.block j hj hs), k.block k0 _ h.cell (.inl hk)⟩
theorem KE.set {k0 : Nat} {T : TypeId} {B X : World} {v : Value} (h : KE k0 T B v X) (v' : Value) : KE k0 T B v' (X.setCell ⟨k0, 0, none⟩ v') :=
 ⟨h.os, h.tape, h.output, by simpa [World.setCell] using h.size, fun k hk hs => (Below.heap_setCell _ _ _ _ (fun e => hs e)).trans (h.block k hk hs), blk_set h.cell 0 _⟩
theorem KE.start {k0 : Nat} {T : TypeId} {B : World} {v : Value} (h : B.heap[k0]? = some (.cells #[v] T (0, 0))) : KE k0 T B v B := ⟨rfl, rfl, rfl, Nat.le_refl _, fun _ _ _ => rfl, h⟩
theorem KE.below {k0 : Nat} {T : TypeId} {B X : World} {v : Value} (h : KE k0 T B v X) {W : World} (hb : Below W.heap.size W B) (hk : W.heap.size ≤ k0) : Below W.heap.size W X :=
 hb.trans ⟨h.os, h.tape, h.output, h.size, fun k hk' => h.block k (Nat.lt_of_lt_of_le hk' hb.size) (by omega)⟩
theorem nkp_set {base k0 : Nat} {A : Option Addr} {X : World} {v v' : Value} {T : TypeId} (h : X.heap[k0]? = some (.cells #[v] T (0, 0))) (hT : T ≠ 22 ∧ T ≠ 48 ∧ (T = 3 → k0 < base)) (hA : ∀ a, A = some a → a.block ≠ k0) : NKp base A X (X.setCell ⟨k0, 0, none⟩ v') := by
 refine ⟨by simp [World.setCell], fun k cs T' fr hk hT' => (Below.heap_setCell _ _ _ _ (fun e => ?_)).trans hk, fun a ha => Below.heap_setCell _ _ _ _ (fun e => hA a ha e)⟩
 obtain rfl : k0 = k := e.symm
 rw [h] at hk
 injection hk with hk
 injection hk with e1 e2 e3
 rcases hT' with h | h | ⟨h, hb⟩
 ·exact hT.1 (e2.trans h)
 ·exact hT.2.1 (e2.trans h)
 ·have := hT.2.2 (e2.trans h); omega
set_option maxRecDepth 100000 in
set_option maxHeartbeats 8000000 in
theorem printRows_T (A : Option Addr) (c : Nat) (t : Tr) (hT : TreeOk t) (hc : (rowT t).length ≤ c) (h1 : lightV (rowT t) = true) (s : ByteArray) (hs : s.size ≤ 300) (st : Nat) (hst : st < 256) (W : World) (hC : Kd.C kN W A (rowT t).length (rowT t)) :
  Calls Tryz.prog 3 #[.slice A (rowT t).length c, .string s, .int .u8 (st : Int)] W fun e w' => e = .returned (.bool true) ∧ Below W.heap.size W w' := by
 obtain ⟨q1, q2⟩ := light_all h1
 have htx : t.tx (fun b => decide (b.size ≤ 200)) = true := by
  rw [← flat_tx _ t (-1) 0, List.all_eq_true]
  intro n hn
  have hm : toN n ∈ rowT t := List.mem_map_of_mem hn
  obtain ⟨a1, a2⟩ := q2 _ hm
  rw [Bool.and_eq_true]
  exact ⟨decide_eq_true a1, decide_eq_true a2⟩
 have htx5 := tx_up t htx
 have hpos : 0 < (rowT t).length := by rw [rowT_len]; exact t.size_pos
 have htx2 : (srt t).tx (fun b => decide (b.size ≤ 200)) = true := by rw [srt_tx]; exact htx
 have hlen := rowT_len t
 have hlen2 := rowT_len (srt t)
 rw [srt_size] at hlen2
 have hsz := hT.size
 have hM9 : (rowT (srt t)).length ≤ 900000 := by omega
 have hno := rowT_nodeOk t (by omega) htx5
 have hcat : catL (pcsL (rowT t)) = prT quoteL t := pcsL_tree t (ok_sh t false hT.ok)
 have hple := prT_le t htx
 have hpz : (prB t).size ≤ 100000000 := by rw [prB_size]; omega
 have hqd : (prB t).data.toList = catL (pcsL (rowT t)) := by rw [hcat]; rfl
 have hpne : 0 < (pcsL (rowT t)).length := List.length_pos_iff.2 (pcsL_ne (fun e => by rw [e] at hpos; exact Nat.lt_irrefl 0 hpos))
 have hAW := row_block hC hpos
 obtain ⟨W1, hW1⟩ : ∃ W1, W.alloc (.cells #[.int .u8 (st : Int)] 5) = W1 := ⟨_, rfl⟩
 have hb1 : Below W.heap.size W W1 := by rw [← hW1]; exact below_alloc (Below.refl _ _) _
 have hx1 : W1.heap[W.heap.size]? = some (.cells #[.int .u8 (st : Int)] 5 (0, 0)) := by rw [← hW1]; exact blk_new _ _
 have hC1 := Kd.C_below hC hb1
 have hA1 : ∀ a, A = some a → a.block < W1.heap.size := fun a ha => Nat.lt_of_lt_of_le (hAW a ha) hb1.size
 have LI := Lib.hid (fun w (h : Below W1.heap.size W1 w) => light_any A c (rowT t) (by omega) hc w (Kd.C_below hC1 h))
 rw [h1] at LI
 have PR := Lib.hid (fun w (h : Below W1.heap.size W1 w) => print_T A c t hT htx hc w (Kd.C_below hC1 h))
 have SO := Lib.hid (fun w (h : Below W1.heap.size W1 w) => sort_ok A c t (ok_sh t false hT.ok) hT.uniq (by omega) hc w (Kd.C_below hC1 h) (row_block (Kd.C_below hC1 h) hpos) (chk_T A c t hT htx hc))
 have QU := Lib.hid (fun w => quote_any s (by omega) w)
 have Q8 := Lib.hid (fun w => quote8_any s (by omega) w)
 have TO := Lib.hid (fun w (h : Below W1.heap.size W1 w) => to_any A c (rowT t) (by omega) w (Kd.C_below hC1 h))
 have CK := Lib.hid (fun A8 c8 w hc8 (hN : N7 w A8 (rowT t) (rowT t).length) => check7_any A8 c8 (rowT t) (by omega) hc8 (fun n hn => ⟨by have := (q2 n hn).1; omega, by have := (q2 n hn).2; omega⟩) w hN)
 rw [hT.chk] at CK
 have PR2 := Lib.hid (fun A2 c2 w (h : (rowT (srt t)).length ≤ c2) hr => print_T A2 c2 (srt t) hT.srt htx2 h w hr)
 have CKM := Lib.hid (fun A2 c2 w (h : (rowT (srt t)).length ≤ c2) hr => chk_T A2 c2 (srt t) hT.srt htx2 h w hr)
 have P8 := Lib.hid (fun A8 c8 base w (hR : Row7 w base (.slice A8 (rowT t).length c8) (rowT t)) => print8_at A8 c8 base (rowT t) (by omega) t.size t false 0 (-1) [] (Nat.le_refl _) hT.ok (tx_up t htx) (by decide) (rowT_drop t) w hR)
 have P8S := Lib.hid (fun A8 c8 base w (hR : Row7 w base (.slice A8 (rowT t).length c8) (rowT t)) => print8s_at A8 c8 base (rowT t) (by omega) t.size t false 0 (-1) [] (Nat.le_refl _) hT.ok hT.uniq (tx_up t htx) (by decide) (rowT_drop t) w hR)
 have SEQ := Lib.hid (fun Bs base w0 hBs hC hbase hAb => seq_pieces Bs base A c (rowT t) hno hc w0 hBs hC hbase hAb)
 change Hid (∀ A8 c8 base w, Row7 w base (.slice A8 (rowT t).length c8) (rowT t) → Calls Tryz.prog 20 #[.slice A8 (rowT t).length c8, .int .i64 0, .bool false] w fun e w' => e = .returned (.string (prB t)) ∧ Below w.heap.size w w') at P8
 change Hid (∀ A8 c8 base w, Row7 w base (.slice A8 (rowT t).length c8) (rowT t) → Calls Tryz.prog 20 #[.slice A8 (rowT t).length c8, .int .i64 0, .bool true] w fun e w' => e = .returned (.string (prB (srt t))) ∧ Below w.heap.size w w') at P8S
 obtain ⟨q, hq⟩ : ∃ q, prB t = q := ⟨_, rfl⟩
 obtain ⟨u, hu⟩ : ∃ u, prB (srt t) = u := ⟨_, rfl⟩
 obtain ⟨L, hL⟩ : ∃ L, rowT t = L := ⟨_, rfl⟩
 obtain ⟨M, hM⟩ : ∃ M, rowT (srt t) = M := ⟨_, rfl⟩
 obtain ⟨qs, hqs⟩ : ∃ q : ByteArray, (⟨(quoteL s.data.toList).toArray⟩ : ByteArray) = q := ⟨_, rfl⟩
 rw [hqs] at QU Q8
 rw [hq] at PR P8 hpz hqd
 rw [hu] at PR2 P8S
 rw [hL] at LI PR SO TO CK P8 P8S SEQ hqd hpne hC1 ⊢
 rw [hM] at SO PR2 CKM hM9
 obtain ⟨ps, hps⟩ : ∃ ps, pcsL L = ps := ⟨_, rfl⟩
 rw [hps] at hqd hpne
 have HPS := Lib.hid hps
 have HC1 := Lib.hid hC1
 have HA1 := Lib.hid hA1
 have HAW := Lib.hid hAW
 have HB1 := Lib.hid hb1
 have HX1 := Lib.hid hx1
 have HW1 := Lib.hid hW1
 have HQD := Lib.hid hqd
 have k3 : decide ((300 : Int) < (s.size : Int)) = false := decide_eq_false (by omega)
 have k4 : decide (300 < s.size) = false := decide_eq_false (by omega)
 clear hC hc hpos htx htx2 htx5 q1 q2 h1 hT hlen hlen2 hsz hno hcat hple hqd hAW hb1 hx1 hC1 hA1 hW1 hq hu hL hM hqs hps hs
 refine (callsIn_wide (n := 10)).1 ?_
 refine callsIn_of_wp_marks Tryz.func3 rfl trivial ?_ rfl
 simp only [Tryz.ntmps3, List.size_toArray, List.length_cons, List.length_nil, Nat.reduceAdd, Nat.reduceSub, Array.replicate_succ, Array.replicate_zero, List.push_toArray, List.append_toArray, List.nil_append, List.cons_append]
 gi_wp2_with (first | (refine ⟨trivial, ?_⟩; gi_at_call 11; go_must (refine ((callsIn_wide (n := 9)).2 (awake08_in _)).mono ?_); rintro e w2 ⟨rfl, hb⟩; rw [HW1.out] at hb; have BB := Lib.hid hb; clear hb) | (refine ⟨trivial, ?_⟩; gi_at_call 12; go_must (refine ((callsIn_wide (n := 9)).2 (LI.out _ BB.out)).mono ?_); rintro e w3 ⟨rfl, hb⟩; have BB := Lib.hid (below_step BB.out hb); clear hb) | (refine ⟨trivial, ?_⟩; gi_at_call 13; first | ((refine ((callsIn_wide (n := 9)).2 (PR.out _ BB.out)).mono ?_); rintro e w4 ⟨rfl, hb⟩; have BB := Lib.hid (below_step BB.out hb); clear hb PR) | ((refine ((callsIn_wide (n := 9)).2 (PR2.out A2 c2 _ hc2 C2.out)).mono ?_); rintro e w9 ⟨rfl, hb⟩; have BB := Lib.hid (below_step BB.out hb); have C2 := Lib.hid (Kd.C_below C2.out hb); clear hb)) | (refine ⟨trivial, ?_⟩; gi_at_call 14; go_must (refine ((callsIn_wide (n := 9)).2 (SO.out _ BB.out)).mono ?_); rintro e w5 ⟨v2, rfl, hR, hb⟩; obtain ⟨A2, c2, rfl, hc2⟩ := hR.slice; have C2 := Lib.hid (hR.C hM9); have BB := Lib.hid (below_step BB.out hb); clear hb hR) | (refine ⟨trivial, ?_⟩; gi_at_call 15; go_must (refine ((callsIn_wide (n := 9)).2 (QU.out _)).mono ?_); rintro e w6 ⟨rfl, hb⟩; have C2 := Lib.hid (Kd.C_below C2.out hb); have BB := Lib.hid (below_step BB.out hb); clear hb) | (refine ⟨trivial, ?_⟩; gi_at_call 16; go_must (refine ((callsIn_wide (n := 9)).2 (Q8.out _)).mono ?_); rintro e w7 ⟨rfl, hb⟩; have C2 := Lib.hid (Kd.C_below C2.out hb); have BB := Lib.hid (below_step BB.out hb); clear hb) | (refine ⟨trivial, ?_⟩; gi_at_call 18; go_must (refine ((callsIn_wide (n := 9)).2 (TO.out _ BB.out)).mono ?_); rintro e w8 ⟨v8, rfl, hR, hb⟩; obtain ⟨A8, c8, rfl, hc8⟩ := hR.slice; have R8 := Lib.hid hR; have C2 := Lib.hid (Kd.C_below C2.out hb); have BB := Lib.hid (below_step BB.out hb); clear hb hR) | (refine ⟨trivial, ?_⟩; gi_at_call 17; go_must (refine ((callsIn_wide (n := 9)).2 (CK.out A8 c8 _ hc8 (N7.of R8.out _))).mono ?_); rintro e w10 ⟨rfl, hb⟩; have C2 := Lib.hid (Kd.C_below C2.out hb); have BB := Lib.hid (below_step BB.out hb); clear hb) | (refine ⟨trivial, ?_⟩; gi_at_call 19; go_must (refine ((callsIn_wide (n := 9)).2 (pieces_any _ _ _ _)).mono ?_); rintro e w11 ⟨rfl, hw⟩; have HW := Lib.hid hw; clear hw))
 have hBB := BB.out
 obtain ⟨wY, hwY⟩ : ∃ wY, (w9.alloc (.cells #[.string ⟨#[]⟩] 9)).alloc (.cells #[.int .i64 0] 3) = wY := ⟨_, rfl⟩
 rw [hwY] at HW
 have y0 : wY.heap[w9.heap.size]? = some (.cells #[.string ⟨#[]⟩] 9 (0, 0)) := by rw [← hwY]; exact (Below.heap_alloc _ _ _ (by simp)).trans (blk_new _ _)
 have y1 : wY.heap[w9.heap.size + 1]? = some (.cells #[.int .i64 0] 3 (0, 0)) := by rw [← hwY]; exact (show (w9.alloc (.cells #[.string ⟨#[]⟩] 9)).heap.size = w9.heap.size + 1 by simp) ▸ blk_new (w9.alloc (.cells #[.string ⟨#[]⟩] 9)) (.cells #[.int .i64 0] 3)
 have hbY : Below w9.heap.size w9 wY := by rw [← hwY]; exact below_alloc (below_alloc (Below.refl _ _) _) _
 have hsY : wY.heap.size = w9.heap.size + 2 := by rw [← hwY]; simp [World.setCell]
 have hw11 := HW.out
 have hbY1 : Below wY.heap.size wY w11 := by rw [hw11]; exact below_alloc (Below.refl _ _) _
 have hs11 : w11.heap.size = w9.heap.size + 3 := by rw [hw11]; simp [hsY]
 have hBs : w11.heap[wY.heap.size]? = some (.cells #[.slice A L.length c] 22 (0, 0)) := by rw [hw11]; exact blk_new _ _
 rw [show wY.heap.size = w9.heap.size + 1 + 1 from hsY] at hBs
 have g0 := blk_below y0 hbY1
 have g1 := blk_below y1 hbY1
 have hb9 : Below w9.heap.size w9 w11 := hbY.trans (hbY1.mono hbY.size)
 have hb11 : Below W1.heap.size W1 w11 := below_step hBB hb9
 have hz1 := hBB.size
 have hz0 : W.heap.size < W1.heap.size := blk_lt HX1.out
 have hA11 : ∀ a, A = some a → a.block < w11.heap.size := fun a ha => by have := HA1.out a ha; omega
 have hseq := SEQ.out (w9.heap.size + 1 + 1) w11.heap.size w11 hBs (Kd.C_below HC1.out hb11) (Nat.le_refl _) hA11
 have HB9 := Lib.hid hb9
 have HB11 := Lib.hid hb11
 have G1 := Lib.hid g1
 clear hwY y0 y1 hbY hw11 hbY1 HW hb9 hb11 hBs g1 hBB
 refine range_t (by omega) (gf := 52) (lb := #[.pointer (some ⟨w9.heap.size + 1 + 1, 0, none⟩)]) rfl (enters_of Tryz.func52 (by kernel_rfl) rfl)
  hseq (Below.refl _ _) (fun h k => h.trans k) (fun W l o o' hl ho hc _ => NKp.putObj hl hA11 ho hc) (fun X Y (h : NMv w11.heap.size X Y) k o _ ho hc _ => h.block k o ho (.inr (fun cs fr e => by rw [e] at hc; cases hc))) (fun _ => rfl)
  (fun pre X => ∃ o : ByteArray, o.data.toList = catL pre ∧ KE w9.heap.size 9 w11 (.string o) X)
  (fun _ _ _ => False)
  (fun s X Y row hs hg hr => by obtain ⟨o, ho, h⟩ := hs; exact ⟨o, ho, h.grown hg (Nat.le_refl _) (by omega) (fun r e => (hr r e).1)⟩)
  (fun _ _ _ _ _ hs _ _ => hs)
  (fun s X Y h (k : NMv w11.heap.size X Y) => by obtain ⟨o, ho, h⟩ := h; exact ⟨o, ho, h.mv k (Nat.le_refl _) (by omega)⟩)
  (fun _ _ _ _ h _ => h)
  ⟨⟨#[]⟩, rfl, KE.start g0⟩
  (fun x a' X => a' = { tmps := #[.slice A L.length c, .string s, .int .u8 (st : Int), undef, undef, .pointer (some ⟨W.heap.size, 0, none⟩), .bool false, .string q, .int .i64 0, .slice A2 M.length c2, .int .i64 0, .int .i64 0, .string u, .int .i64 0, .pointer (some ⟨w9.heap.size, 0, none⟩), .pointer (some ⟨w9.heap.size + 1, 0, none⟩), .string x, .bool true, .bool false, .slice A L.length c, .bool true, .bool false, .bool false, .string s, .int .i64 (s.size : Int), .bool false, .bool false, .tuple #[.string q, .int .i64 0], .slice A L.length c, .tuple #[.string q, .int .i64 0], .string q, .int .i64 0, .tuple #[.slice A2 M.length c2, .int .i64 0], .slice A L.length c, .tuple #[.slice A2 M.length c2, .int .i64 0], .slice A2 M.length c2, .int .i64 0, .string s, .string qs, .string s, .string qs, .bool false, .slice A L.length c, .slice A8 L.length c8, .int .i64 0, .int .i64 0, .bool false, undef, undef, undef, undef, undef, undef, undef, undef, undef, undef, undef, undef, undef, undef, undef, undef, undef, .tuple #[.string u, .int .i64 0], .slice A2 M.length c2, .tuple #[.string u, .int .i64 0], .string u, .int .i64 0, .slice A L.length c, .func (.func 52) #[] #[.pointer (some ⟨w9.heap.size + 1 + 1, 0, none⟩)], .string x, undef, undef, undef, undef, undef, undef, undef, undef, undef, undef, undef, undef, undef, undef, undef, undef, undef, undef, undef, undef, undef, undef, undef, undef, undef, undef, undef, undef, undef, undef, undef, undef, undef, undef, undef, undef, undef, undef, undef, undef, undef, undef, undef, undef, undef, undef, undef, undef, undef, undef, undef, undef, undef, undef, undef, undef, undef], defers := [] })
  (fun x a' s X Y row hs hg hr => hs)
  ?assign ?body ?done ?stop
 case assign =>
  rintro lp pre x X K hI hK
  have e1 : (strEnc x) = #[.string x] := rfl
  rw [e1]
  have HI := Lib.hid hI
  clear e1 hI hseq
  gi_wp2
  exact hK _ _ (keepsFrom_below (Below.refl _ _)) (NKp.refl _ _ _) HI.out rfl
 case body =>
  rintro lp pre x a' X hl ⟨r, hr⟩ ⟨o, ho, hI⟩ rfl hT
  have hlen : o.size + x.size ≤ 100000000 := by
   have h1 := catL_pre hT
   rw [catL_snoc, List.length_append, ← ho, HPS.out, ← HQD.out] at h1
   have h3 : o.data.toList.length = o.size := by simp
   have h4 : x.data.toList.length = x.size := by simp
   have h5 : q.data.toList.length = q.size := by simp
   omega
  have c0 := blkc hI.cell 0 rfl
  have cf := blk_frozen hI.cell 0
  have HI := Lib.hid hI
  have HO := Lib.hid ho
  have HAN := Lib.hid (show ∀ a, A = some a → a.block ≠ w9.heap.size from fun a ha => by have := HA1.out a ha; omega)
  clear hI ho hr hT hseq g0
  gi_wp2
  all_goals first | (exfalso; omega) | skip
  refine ⟨(KeepsOthers.setCell _ _ _).from _, nkp_set HI.out.cell ⟨by decide, by decide, fun h => absurd h (by decide)⟩ HAN.out, _, ?_, HI.out.set _⟩
  rw [catL_snoc, ← HO.out]
  simp [ByteArray.data_append]
 case stop =>
  rintro D c pre W _ _ h _
  exact h.elim
 case done =>
  rintro D1 ys X hD1 rfl ⟨o, ho, hI⟩ hK1
  obtain rfl : q = o := by
   apply ByteArray.ext
   apply Array.toList_inj.1
   show q.data.toList = o.data.toList
   rw [ho, HPS.out]
   exact HQD.out
  have HI := Lib.hid hI
  have HK1 := Lib.hid hK1
  clear ho hI hK1 hseq g0
  gi_wp2_with (refine ⟨trivial, ?_⟩; gi_at_call 19; go_must (refine ((callsIn_wide (n := 9)).2 (pieces_any _ _ _ _)).mono ?_); rintro e w21 ⟨rfl, hw⟩; have HW2 := Lib.hid hw; clear hw)
  have hw21 := HW2.out
  have hXs := HI.out.size
  have hbX : Below X.heap.size X w21 := by rw [hw21]; exact below_alloc (Below.refl _ _) _
  have hBs2 : w21.heap[X.heap.size]? = some (.cells #[.slice A L.length c] 22 (0, 0)) := by rw [hw21]; exact blk_new _ _
  have hs21 : w21.heap.size = X.heap.size + 1 := by rw [hw21]; simp
  have g0 : w21.heap[w9.heap.size]? = some (.cells #[.string q] 9 (0, 0)) := blk_below HI.out.cell hbX
  have g1 : w21.heap[w9.heap.size + 1]? = some (.cells #[.int .i64 0] 3 (0, 0)) := (hbX.block _ (by omega)).trans ((HI.out.block _ (by omega) (by omega)).trans G1.out)
  have hb21a : Below w9.heap.size w9 w21 := below_step (HI.out.below HB9.out (Nat.le_refl _)) hbX
  have hb21 : Below W1.heap.size W1 w21 := below_step (HI.out.below HB11.out hz1) hbX
  have g2 : w21.heap[W.heap.size]? = some (.cells #[.int .u8 (st : Int)] 5 (0, 0)) := (hb21.block _ hz0).trans HX1.out
  have gk : w21.heap[D1]? = some (.deferred (some [])) := (hbX.block _ (blk_lt HK1.out)).trans HK1.out
  have hA21 : ∀ a, A = some a → a.block < w21.heap.size := fun a ha => by have := hA11 a ha; omega
  have hseq2 := SEQ.out X.heap.size w21.heap.size w21 hBs2 (Kd.C_below HC1.out hb21) (Nat.le_refl _) hA21
  have G0 := Lib.hid g0
  have G2 := Lib.hid g2
  have GK := Lib.hid gk
  have HB21 := Lib.hid hb21
  have HB21A := Lib.hid hb21a
  have hDl := blk_lt gk
  clear hw21 HW2 hbX hBs2 g0 hb21a hb21 g2 gk HK1 HI
  refine range_t (by omega) (gf := 52) (lb := #[.pointer (some ⟨X.heap.size, 0, none⟩)]) rfl (enters_of Tryz.func52 (by kernel_rfl) rfl)
   hseq2 (Below.refl _ _) (fun h k => h.trans k) (fun W l o o' hl ho hc _ => NKp.putObj hl hA21 ho hc) (fun X Y (h : NMv w21.heap.size X Y) k o _ ho hc _ => h.block k o ho (.inr (fun cs fr e => by rw [e] at hc; cases hc))) (fun _ => rfl)
   (fun pre Z => KE (w9.heap.size + 1) 3 w21 (.int .i64 (pre.length : Int)) Z ∧ pre.length ≤ st)
   (fun cd pre Z => cd = .exit 2 ∧ KE (w9.heap.size + 1) 3 w21 (.int .i64 (pre.length : Int)) Z ∧ pre.length = st + 1)
   (fun s Z Y row hs hg hr => ⟨hs.1.grown hg (Nat.le_refl _) (by omega) (fun r e => (hr r e).1), hs.2⟩)
   (fun _ s Z Y row hs hg hr => ⟨hs.1, hs.2.1.grown hg (Nat.le_refl _) (by omega) (fun r e => (hr r e).1), hs.2.2⟩)
   (fun s Z Y h (k : NMv w21.heap.size Z Y) => ⟨h.1.mv k (Nat.le_refl _) (by omega), h.2⟩)
   (fun _ s Z Y h (k : NMv w21.heap.size Z Y) => ⟨h.1, h.2.1.mv k (Nat.le_refl _) (by omega), h.2.2⟩)
   ⟨KE.start g1, Nat.zero_le _⟩
   (fun x a' Z => a' = { tmps := #[.slice A L.length c, .string s, .int .u8 (st : Int), undef, undef, .pointer (some ⟨W.heap.size, 0, none⟩), .bool false, .string q, .int .i64 0, .slice A2 M.length c2, .int .i64 0, .int .i64 0, .string u, .int .i64 0, .pointer (some ⟨w9.heap.size, 0, none⟩), .pointer (some ⟨w9.heap.size + 1, 0, none⟩), undef, .bool true, .bool false, .slice A L.length c, .bool true, .bool false, .bool false, .string s, .int .i64 (s.size : Int), .bool false, .bool false, .tuple #[.string q, .int .i64 0], .slice A L.length c, .tuple #[.string q, .int .i64 0], .string q, .int .i64 0, .tuple #[.slice A2 M.length c2, .int .i64 0], .slice A L.length c, .tuple #[.slice A2 M.length c2, .int .i64 0], .slice A2 M.length c2, .int .i64 0, .string s, .string qs, .string s, .string qs, .bool false, .slice A L.length c, .slice A8 L.length c8, .int .i64 0, .int .i64 0, .bool false, undef, undef, undef, undef, undef, undef, undef, undef, undef, undef, undef, undef, undef, undef, undef, undef, undef, .tuple #[.string u, .int .i64 0], .slice A2 M.length c2, .tuple #[.string u, .int .i64 0], .string u, .int .i64 0, .slice A L.length c, .func (.func 52) #[] #[.pointer (some ⟨w9.heap.size + 1 + 1, 0, none⟩)], undef, undef, undef, undef, .slice A L.length c, .func (.func 52) #[] #[.pointer (some ⟨X.heap.size, 0, none⟩)], .string x, undef, undef, undef, undef, undef, undef, undef, undef, undef, undef, undef, undef, undef, undef, undef, undef, undef, undef, undef, undef, undef, undef, undef, undef, undef, undef, undef, undef, undef, undef, undef, undef, undef, undef, undef, undef, undef, undef, undef, undef, undef, undef, undef, undef, undef, undef, undef, undef, undef, undef, undef], defers := [] })
   (fun x a' s Z Y row hs hg hr => hs)
   ?assign2 ?body2 ?done2 ?stop2
  case assign2 =>
   rintro lp pre x Z K hI hK
   have e1 : (strEnc x) = #[.string x] := rfl
   rw [e1]
   have HI := Lib.hid hI
   clear e1 hI hseq2
   gi_wp2
   exact hK _ _ (keepsFrom_below (Below.refl _ _)) (NKp.refl _ _ _) HI.out rfl
  case body2 =>
   rintro lp pre x a' Z hl ⟨r, hr⟩ ⟨hI2, hle⟩ rfl hT
   obtain ⟨m, hm⟩ : ∃ m, pre.length = m := ⟨_, rfl⟩
   rw [hm] at hI2 hle
   have c1 := blkc hI2.cell 0 rfl
   have cf := blk_frozen hI2.cell 0
   have cs : Z.cell? ⟨W.heap.size, 0, none⟩ = some (.int .u8 (st : Int)) := blkc ((hI2.block _ (by omega) (by omega)).trans G2.out) 0 rfl
   have HI2 := Lib.hid hI2
   have HAN := Lib.hid (show ∀ a, A = some a → a.block ≠ w9.heap.size + 1 from fun a ha => by have := HA1.out a ha; omega)
   have k5 : IntKind.i64.wrap ((m : Int) + 1) = ((m + 1 : Nat) : Int) := by rw [wrap_id _ (by omega) (by omega)]; omega
   have k6 : IntKind.i64.wrap (st : Int) = (st : Int) := wrap_id _ (by omega) (by omega)
   have hpl : (pre ++ [x]).length = m + 1 := by simp [hm]
   have HPL := Lib.hid hpl
   have hne : ¬ W.heap.size = w9.heap.size + 1 := by omega
   have hne2 : ¬ w9.heap.size + 1 = W.heap.size := by omega
   clear hI2 hr hT hseq2 hpl hm
   by_cases hgt : m = st
   ·have k7 : decide ((st : Int) < ((m + 1 : Nat) : Int)) = true := decide_eq_true (by omega)
    have k8 : decide ((st : Int) < (m : Int) + 1) = true := decide_eq_true (by omega)
    have k9 : decide (st < m + 1) = true := decide_eq_true (by omega)
    have HGT := Lib.hid hgt
    clear hgt
    gi_wp2
    exact ⟨(KeepsOthers.setCell _ _ _).from _, rfl, by rw [HPL.out]; exact HI2.out.set _, by rw [HPL.out, HGT.out]⟩
   ·have k7 : decide ((st : Int) < ((m + 1 : Nat) : Int)) = false := decide_eq_false (by omega)
    have k8 : decide ((st : Int) < (m : Int) + 1) = false := decide_eq_false (by omega)
    have k9 : decide (st < m + 1) = false := decide_eq_false (by omega)
    have HLE := Lib.hid (show m + 1 ≤ st by omega)
    clear hgt
    gi_wp2
    exact ⟨(KeepsOthers.setCell _ _ _).from _, nkp_set HI2.out.cell ⟨by decide, by decide, fun _ => by omega⟩ HAN.out, by rw [HPL.out]; exact HI2.out.set _, by rw [HPL.out]; exact HLE.out⟩
  case done2 =>
   rintro D2 ys Z hD2 rfl ⟨hI2, hle⟩ hK2
   rw [HPS.out] at hI2 hle
   obtain ⟨nn, hnn⟩ : ∃ nn, ps.length = nn := ⟨_, rfl⟩
   rw [hnn] at hI2 hle hpne
   have hn1 : nn ≤ st + 1 := by omega
   clear hle hnn
   have hbZ : Below W1.heap.size W1 Z := hI2.below HB21.out (by omega)
   have hbZ9 : Below w9.heap.size w9 Z := hI2.below HB21A.out (by omega)
   have z0 : Z.cell? ⟨w9.heap.size, 0, none⟩ = some (.string q) := blkc ((hI2.block _ (by omega) (by omega)).trans G0.out) 0 rfl
   have z1 : Z.cell? ⟨w9.heap.size + 1, 0, none⟩ = some (.int .i64 (nn : Int)) := blkc hI2.cell 0 rfl
   have z2 : Z.cell? ⟨W.heap.size, 0, none⟩ = some (.int .u8 (st : Int)) := blkc ((hI2.block _ (by omega) (by omega)).trans G2.out) 0 rfl
   have hDZ : Z.heap[D1]? = some (.deferred (some [])) := (hI2.block _ hDl (by omega)).trans GK.out
   have hDD : D1 ≠ D2 := by omega
   have END : Hid (∀ X', Below Z.heap.size Z X' → X'.heap[D2]? = some (.deferred (some [])) ∧ (X'.putObj D2 (.deferred none)).heap[D1]? = some (.deferred (some [])) ∧ Below W.heap.size W ((X'.putObj D2 (.deferred none)).putObj D1 (.deferred none))) := Lib.hid (fun X' h => by
    have e2 := (h.block D2 (blk_lt hK2)).trans hK2
    have e1 := (h.block D1 (blk_lt hDZ)).trans hDZ
    refine ⟨e2, (World.putObj_heap_other hDD).trans e1, ?_⟩
    have b1 := below_step (HB1.out.trans (hbZ.mono HB1.out.size)) h
    exact ⟨b1.os, b1.tape, b1.output, by simpa [World.putObj] using b1.size, fun k hk => (World.putObj_heap_other (by omega)).trans ((World.putObj_heap_other (by omega)).trans (b1.block k hk))⟩)
   have CM := Lib.hid (Kd.C_below C2.out hbZ9)
   have BB := Lib.hid hbZ
   have BX := Lib.hid (Below.refl Z.heap.size Z)
   have ZZ := Lib.hid (And.intro z0 (And.intro z1 z2))
   have k5 : IntKind.i64.wrap ((st : Int) + 1) = (st : Int) + 1 := wrap_id _ (by omega) (by omega)
   have k6 : IntKind.i64.wrap (st : Int) = (st : Int) := wrap_id _ (by omega) (by omega)
   have k7 : decide ((nn : Int) ≤ (st : Int) + 1) = true := decide_eq_true (by omega)
   have k8 : decide ((0 : Int) < (nn : Int)) = true := decide_eq_true (by omega)
   have k9 : decide (0 < nn) = true := decide_eq_true hpne
   have k10 : decide (nn ≤ st + 1) = true := decide_eq_true hn1
   clear hbZ hbZ9 z0 z1 z2 hDZ hDD hI2 hK2 hseq2 LI SO PR2 QU Q8 CK SEQ
   gi_wp2_with (first | (refine ⟨trivial, ?_⟩; gi_at_call 18; go_must (refine ((callsIn_wide (n := 9)).2 (TO.out _ BB.out)).mono ?_); rintro e w31 ⟨v8, rfl, hR, hb⟩; obtain ⟨A9, c9, rfl, hc9⟩ := hR.slice; have R9 := Lib.hid hR; have BB := Lib.hid (below_step BB.out hb); have BX := Lib.hid (below_step BX.out hb); clear hb hR) | (refine ⟨trivial, ?_⟩; gi_at_call 20; first | ((refine ((callsIn_wide (n := 9)).2 (P8.out A9 c9 _ _ R9.out)).mono ?_); rintro e w32 ⟨rfl, hb⟩; have BB := Lib.hid (below_step BB.out hb); have BX := Lib.hid (below_step BX.out hb); clear hb P8) | ((refine ((callsIn_wide (n := 9)).2 (P8S.out A9 c9 _ _ R9.out)).mono ?_); rintro e w33 ⟨rfl, hb⟩; have BB := Lib.hid (below_step BB.out hb); have BX := Lib.hid (below_step BX.out hb); have y0 := cellBelow BX.out ZZ.out.1; have y1 := cellBelow BX.out ZZ.out.2.1; have y2 := cellBelow BX.out ZZ.out.2.2; clear hb P8S)) | (refine ⟨trivial, ?_⟩; gi_at_call 21; go_must (refine ((callsIn_wide (n := 9)).2 (CKM.out A2 c2 _ hc2 (Kd.C_below CM.out BX.out))).mono ?_); rintro e w34 ⟨rfl, hb⟩; have BX := Lib.hid (below_step BX.out hb); clear hb))
   obtain ⟨e1, e2, e3⟩ := END.out _ BX.out
   refine ⟨by simp, .inl ⟨_, _, rfl, run_takeDeferred e1, ?_⟩⟩
   refine ⟨by simp, .inl ⟨_, _, rfl, run_takeDeferred e2, ?_⟩⟩
   exact ⟨_, results_tmp rfl _ _ _, rfl, e3⟩
  case stop2 =>
   rintro D2 cd pre Z hD2 hsp ⟨rfl, hI2, hn⟩ hK2
   obtain ⟨nn, hnn⟩ : ∃ nn, pre.length = nn := ⟨_, rfl⟩
   rw [hnn] at hI2 hn
   have hn1 : nn ≤ st + 1 := by omega
   have hpne : 0 < nn := by omega
   clear hn hnn hsp
   have hbZ : Below W1.heap.size W1 Z := hI2.below HB21.out (by omega)
   have hbZ9 : Below w9.heap.size w9 Z := hI2.below HB21A.out (by omega)
   have z0 : Z.cell? ⟨w9.heap.size, 0, none⟩ = some (.string q) := blkc ((hI2.block _ (by omega) (by omega)).trans G0.out) 0 rfl
   have z1 : Z.cell? ⟨w9.heap.size + 1, 0, none⟩ = some (.int .i64 (nn : Int)) := blkc hI2.cell 0 rfl
   have z2 : Z.cell? ⟨W.heap.size, 0, none⟩ = some (.int .u8 (st : Int)) := blkc ((hI2.block _ (by omega) (by omega)).trans G2.out) 0 rfl
   have hDZ : Z.heap[D1]? = some (.deferred (some [])) := (hI2.block _ hDl (by omega)).trans GK.out
   have hDD : D1 ≠ D2 := by omega
   have END : Hid (∀ X', Below Z.heap.size Z X' → X'.heap[D2]? = some (.deferred (some [])) ∧ (X'.putObj D2 (.deferred none)).heap[D1]? = some (.deferred (some [])) ∧ Below W.heap.size W ((X'.putObj D2 (.deferred none)).putObj D1 (.deferred none))) := Lib.hid (fun X' h => by
    have e2 := (h.block D2 (blk_lt hK2)).trans hK2
    have e1 := (h.block D1 (blk_lt hDZ)).trans hDZ
    refine ⟨e2, (World.putObj_heap_other hDD).trans e1, ?_⟩
    have b1 := below_step (HB1.out.trans (hbZ.mono HB1.out.size)) h
    exact ⟨b1.os, b1.tape, b1.output, by simpa [World.putObj] using b1.size, fun k hk => (World.putObj_heap_other (by omega)).trans ((World.putObj_heap_other (by omega)).trans (b1.block k hk))⟩)
   have CM := Lib.hid (Kd.C_below C2.out hbZ9)
   have BB := Lib.hid hbZ
   have BX := Lib.hid (Below.refl Z.heap.size Z)
   have ZZ := Lib.hid (And.intro z0 (And.intro z1 z2))
   have k5 : IntKind.i64.wrap ((st : Int) + 1) = (st : Int) + 1 := wrap_id _ (by omega) (by omega)
   have k6 : IntKind.i64.wrap (st : Int) = (st : Int) := wrap_id _ (by omega) (by omega)
   have k7 : decide ((nn : Int) ≤ (st : Int) + 1) = true := decide_eq_true (by omega)
   have k8 : decide ((0 : Int) < (nn : Int)) = true := decide_eq_true (by omega)
   have k9 : decide (0 < nn) = true := decide_eq_true hpne
   have k10 : decide (nn ≤ st + 1) = true := decide_eq_true hn1
   clear hbZ hbZ9 z0 z1 z2 hDZ hDD hI2 hK2 hseq2 LI SO PR2 QU Q8 CK SEQ
   gi_wp2_with (first | (refine ⟨trivial, ?_⟩; gi_at_call 18; go_must (refine ((callsIn_wide (n := 9)).2 (TO.out _ BB.out)).mono ?_); rintro e w31 ⟨v8, rfl, hR, hb⟩; obtain ⟨A9, c9, rfl, hc9⟩ := hR.slice; have R9 := Lib.hid hR; have BB := Lib.hid (below_step BB.out hb); have BX := Lib.hid (below_step BX.out hb); clear hb hR) | (refine ⟨trivial, ?_⟩; gi_at_call 20; first | ((refine ((callsIn_wide (n := 9)).2 (P8.out A9 c9 _ _ R9.out)).mono ?_); rintro e w32 ⟨rfl, hb⟩; have BB := Lib.hid (below_step BB.out hb); have BX := Lib.hid (below_step BX.out hb); clear hb P8) | ((refine ((callsIn_wide (n := 9)).2 (P8S.out A9 c9 _ _ R9.out)).mono ?_); rintro e w33 ⟨rfl, hb⟩; have BB := Lib.hid (below_step BB.out hb); have BX := Lib.hid (below_step BX.out hb); have y0 := cellBelow BX.out ZZ.out.1; have y1 := cellBelow BX.out ZZ.out.2.1; have y2 := cellBelow BX.out ZZ.out.2.2; clear hb P8S)) | (refine ⟨trivial, ?_⟩; gi_at_call 21; go_must (refine ((callsIn_wide (n := 9)).2 (CKM.out A2 c2 _ hc2 (Kd.C_below CM.out BX.out))).mono ?_); rintro e w34 ⟨rfl, hb⟩; have BX := Lib.hid (below_step BX.out hb); clear hb))
   obtain ⟨e1, e2, e3⟩ := END.out _ BX.out
   refine ⟨by simp, .inl ⟨_, _, rfl, run_takeDeferred e1, ?_⟩⟩
   refine ⟨by simp, .inl ⟨_, _, rfl, run_takeDeferred e2, ?_⟩⟩
   exact ⟨_, results_tmp rfl _ _ _, rfl, e3⟩
theorem u8_of {n : Int} (h : (Lit.int .u8 n).wf = true) : 0 ≤ n ∧ n ≤ 255 := by
 simp only [Lit.wf, Bool.and_eq_true, decide_eq_true_eq] at h
 exact h
theorem printRows_row (A : Option Addr) (c : Nat) (l : List Node) (s : ByteArray) (st : Int) (hsz : s.size ≤ 140737488351232) (W : World) (h : Kd.C kN W A l.length l ∧ l.length ≤ c) (hst : 0 ≤ st ∧ st ≤ 255) :
  Calls Tryz.prog 3 #[.slice A l.length c, .string s, .int .u8 st] W fun e w' => e = .returned (.bool true) ∧ Below W.heap.size W w' := by
 obtain ⟨hC, hc⟩ := h
 have hlm : l.length ≤ 9223372036854775807 := hC.2.1
 by_cases h0 : lightV l = true
 ·by_cases hs : s.size ≤ 300
  ·by_cases h1 : chkP l = 0
   ·obtain ⟨t, hT, e⟩ := chk_zero h1
    subst e
    obtain ⟨n, rfl⟩ : ∃ n : Nat, st = (n : Int) := ⟨st.toNat, by omega⟩
    exact printRows_T A c t hT hc h0 s hs n (by omega) W hC
   ·exact printRows_bad A c l hc s hs st W hC h0 h1
  ·exact printRows_far A c l hlm hc s st W hC (.inr (by omega))
 ·exact printRows_far A c l hlm hc s st W hC (.inl (by cases hh : lightV l; rfl; exact absurd hh h0))
end Go.Proofs.YtfocognhcljhpaaGreatDoor
namespace Go.Proofs.YtfocognhcljhpaaGreatDoor.printRows
open Go.ChangeShapes Go.WideShapes Go.ChangeAt Go.RowKit
open Go.ChangeMaps (open_string shut_string)
theorem reads (os : Os) {H : Type} (enc : TypeId × Value → H) : ∃ ds places, DataW.whole enc Tryz.prog ((rowWorld os).forCall (fun _ _ => 0) ⟨#[], #[.slice none 0 0, .string ByteArray.empty, .int .u8 0], []⟩).memory Tryz.f3.params.toList Rows.printRowsSpec.vars false (#[.slice none 0 0, .string ByteArray.empty, .int .u8 0] : Array Value).toList 8 = some (ds, [], places) :=
 ⟨[.nil, .lit (.string []), .lit (.int .u8 0)], [], by kernel_rfl⟩
set_option maxRecDepth 100000 in
theorem contract (H : Type) (enc : TypeId × Value → H) (W : World) (base : Nat) (args : Array Value) (ds gs : List (DataW H)) (before : List MemPlace)
  (hval0 : ∀ (j : Nat) t v, Tryz.f3.params[j]? = some t → args[j]? = some v → Value.okWide Tryz.prog W .any base t v)
  (hW : DataW.Whole enc Tryz.prog Tryz.f3.params.toList Rows.printRowsSpec.vars false W args.toList ds gs before)
  (hsz0 : (DataW.weightsEach Tryz.prog (Tryz.f3.params.toList ++ Rows.printRowsSpec.plain.varTypes Tryz.prog) (ds ++ gs)).all (· ≤ reachBytes) = true)
  (hL : laidMetH Tryz.prog laidL W) (hs : W.ShapedOpen Tryz.prog) :
  Calls Tryz.prog 3 args W fun e W' => ∃ v, e = .returned v ∧ Rows.printRowsSpec.post enc Tryz.prog Tryz.f3 false true false false W args v W' := by
 have hval := hval0
 have hsz := hsz0
 have hW' := hW
 obtain ⟨p, q, hA0, hV, rfl, hfz, hnd⟩ := hW
 have hA : DataW.TrodAll enc Tryz.prog W 0 (fun _ => true) true Tryz.f3.params.toList args.toList ds p := hA0
 rw [Tryz.params3] at hA hval hsz
 obtain ⟨v0, vs0, d0, ds0, p0, q0, hargs, rfl, rfl, h0, r0⟩ := trodAll_cons hA
 obtain ⟨v1, vs1, d1, ds1, p1, q1, rfl, rfl, rfl, h1, r1⟩ := trodAll_cons r0
 obtain ⟨v2, vs2, d2, ds2, p2, q2, rfl, rfl, rfl, h2, r2⟩ := trodAll_cons r1
 obtain ⟨rfl, rfl, rfl⟩ := trodAll_nil r2
 obtain rfl : args = #[v0, v1, v2] := by cases args; simp_all
 obtain ⟨rfl, rfl⟩ := trodVars_none hV
 obtain ⟨A0, c0, l0, rfl, hl0⟩ := open_nodes (hval 0 22 v0 rfl rfl) h0
 have k0 := h0
 have lt0 : ∀ x ∈ p0, x.block < W.heap.size := by obtain ⟨m, hm⟩ := k0; exact DataW.trod_lt m _ _ _ hm
 obtain ⟨a1, rfl, rfl, rfl, y1⟩ := open_string Tryz.underlying9 (hval 1 9 v1 rfl rfl) h1
 have w1 : a1.size ≤ 140737488351232 := by
  have z := sized_string hsz (j := 1) (t := 9) rfl rfl
  rw [Array.length_toList] at z
  exact z
 obtain ⟨a2, rfl, rfl, rfl, y2⟩ := open_int Tryz.underlying5 (hval 2 5 v2 rfl rfl) h2
 have w2 : 0 ≤ a2 ∧ a2 ≤ 255 := u8_of y2
 clear hA0 hval0 hsz0 hsz
 refine (printRows_row A0 c0 l0 a1 a2 w1 W hl0 w2).mono fun e W' ⟨he, bel⟩ => ?_
 subst he
 exact ⟨_, rfl, _, _, _, [], _, [], hW', trodAll_mk1 (shut_bool Tryz.underlying4 _), (trodAll_cons_mk (Below.trod laidOut (by kernel_rfl) (of_decide_eq_true (by kernel_rfl)) k0 bel lt0) (trodAll_cons_mk (shut_string Tryz.underlying9 y1) (trodAll_cons_mk (shut_int Tryz.underlying5 y2) trodAll_mk0))), rfl, bel.frame _, fun h => by cases h⟩
set_option maxRecDepth 100000 in
theorem lifted (os : Os) (started : os.Started) (H : Type) (enc : TypeId × Value → H) (F : Stop.Interp) :
  ReturnsInHanded {} Tryz.checked os 3 .any ((OpenSpec.ofChange Rows.printRowsSpec).preRow enc Tryz.prog Tryz.f3 Rows.printRowsRow.domain false Rows.printRowsRow.laid) (((OpenSpec.ofChange Rows.printRowsSpec).at F).post enc Tryz.prog Tryz.f3 false true false false) := by
 obtain ⟨dsw, places, hx⟩ := reads os enc
 refine returnsInHanded_of_row (C := Tryz.checked) (s := OpenSpec.ofChange Rows.printRowsSpec) own started (by kernel_rfl) Tryz.func3
  (witness_row_atRef (enc := enc) (C := Tryz.checked) false (rowWorld os) #[.slice none 0 0, .string ByteArray.empty, .int .u8 0] (World.laidAll_os _ _ _) (by kernel_rfl) (by kernel_rfl) (by kernel_rfl)
   (OpenSpec.preRow_of_cond 8 hx (by kernel_rfl) (fun k hk => by cases hk) (by kernel_rfl) (row_met os _))) ?_
 intro W base args ds gs before hval hW _ _ hsz hL hs _
 exact contract H enc W base args ds gs before hval hW hsz hL hs
theorem said : Rows.PrintRowsSaid :=
 OpenClaim.holds_of_cond 3 Tryz.f3 rfl rfl rfl rfl rfl rfl rfl ⟨rfl, rfl, rfl, rfl, rfl⟩ rfl rfl rfl rfl rfl (by kernel_rfl) Tryz.func3 (by kernel_rfl)
  (of_decide_eq_true (by kernel_rfl)) (by unfold Func.isWrapper; first | (rw [if_pos (by decide +kernel)]; kernel_rfl) | (rw [if_neg (by decide +kernel)]; exact ⟨rfl, rfl⟩))
  (fun os started H enc _ F => by rw [OpenClaim.pre_eq_preRow]; exact lifted os started H enc F)
theorem plain (f : FuncId) (fn : Func) (hf : Tryz.pinned.checked.prog.funcNamed "cashier/cashierlaw08.PrintRows" = some f) (hfn : Tryz.pinned.checked.prog.funcs[f]? = some fn) :
  Rows.printRowsCard.stood.looks = Tryz.pinned.checked.prog.looks [] ∧ ∀ (j : Nat) t, fn.params[j]? = some t → Tryz.pinned.checked.prog.wantsStandIn t = false := by
 obtain rfl : f = 3 := Option.some.inj ((show Tryz.prog.funcNamed "cashier/cashierlaw08.PrintRows" = some 3 by kernel_rfl).symm.trans hf) |>.symm
 obtain rfl : fn = Tryz.f3 := (Option.some.inj (Tryz.func3.symm.trans hfn)).symm
 refine ⟨by kernel_rfl, fun j t ht => ?_⟩
 rw [Tryz.params3] at ht
 have hm := Array.mem_of_getElem? ht
 have hm2 : t = 22 ∨ t = 9 ∨ t = 5 := by simpa using hm
 rcases hm2 with rfl | rfl | rfl
 ·exact (show Tryz.prog.wantsStandIn 22 = false by kernel_rfl)
 ·exact (show Tryz.prog.wantsStandIn 9 = false by kernel_rfl)
 ·exact (show Tryz.prog.wantsStandIn 5 = false by kernel_rfl)
theorem card : Rows.PrintRowsCardSaid :=
 Claim7.holds_tied_plain_at .later [] _ _ _ _ said (fun _ h => by cases h) (by kernel_rfl) (fun _ h => by cases h) printRows_row_tie rfl ⟨rfl, rfl⟩ (by kernel_rfl) rfl plain (by kernel_rfl)
#print axioms card
end Go.Proofs.YtfocognhcljhpaaGreatDoor.printRows
