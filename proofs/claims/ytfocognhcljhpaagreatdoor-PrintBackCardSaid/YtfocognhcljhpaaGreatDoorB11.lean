/- cashier/cashierlaw08.PrintBack returns true at every input, and each argument reads behind the call as it read before. Conditions: those of its given row (the listed package-level variables read, when the call begins, as their own initialisers lay them). -/
import Derived.Deep.Slices
import Derived.ProofKit
import Derived.Test.YtfocognhcljhpaaGreatDoorB9
import Derived.Test.YtfocognhcljhpaaGreatDoorB10
import Derived.MapKept
namespace Go.Proofs.YtfocognhcljhpaaGreatDoor
set_option linter.unusedVariables false
set_option linter.unusedSimpArgs false
open Go.RowKit Go.Shelf Go.Proofs.YtfocognhcljhpaaGreatDoorW.PrintWords Go.Proofs.YtfocognhcljhpaaGreatDoorW.PrintMore Go.Proofs.YtfocognhcljhpaaGreatDoor.PPrintRows Go.Proofs.YtfocognhcljhpaaGreatDoor.Tree
theorem tx_up (t : Tr) (ht : t.tx (fun x => decide (x.size ≤ 200)) = true) : t.tx (fun x => decide (x.size ≤ 100000)) = true := by
  rw [← flat_tx _ t (-1) 0, List.all_eq_true] at ht ⊢
  intro n hn
  have := ht n hn
  rw [Bool.and_eq_true] at this ⊢
  exact ⟨decide_eq_true (Nat.le_trans (of_decide_eq_true this.1) (by omega)), decide_eq_true (Nat.le_trans (of_decide_eq_true this.2) (by omega))⟩
def prB (t : Tr) : ByteArray := ⟨(prT quoteL t).toArray⟩
theorem prB_size (t : Tr) : (prB t).size = (prT quoteL t).length := by show (prT quoteL t).toArray.size = _; simp
/-- Parse of a tree's text. -/
theorem parse_T (t : Tr) (hT : TreeOk t) (htx : t.tx (fun b => decide (b.size ≤ 200)) = true) (hl : (prB t).size ≤ 4096) (w : World) (hg : Glob w) : Calls Tryz.prog 24 #[.string (prB t)] w (ParsePost w (0, rowT t)) := by
  have h := parse_p (s := prB t) (numOk_any (prB t) (by omega)) (by omega) (fun x hx => by
    rw [row_print t hT.ok (prB t) rfl] at hx
    have hx := Option.some.inj hx
    rw [← hx, aft_row, rowT_len]
    have h1 := rowT_nodeOk t (by have := hT.size; omega) (tx_up t htx)
    have h2 := hT.size
    refine ⟨by omega, fun n hn => ?_⟩
    have := h1.ok n hn
    rw [rowT_len] at this
    exact this) w (low_at _ w hg)
  rw [parse_print t hT (prB t) rfl hl] at h
  exact h
set_option maxRecDepth 100000 in
set_option maxHeartbeats 2000000 in
theorem print_bad (A : Option Addr) (c : Nat) (l : List Node) (cv : Int) (w : World) (hr : Kd.C kN w A l.length l) (hcv : ChkIs A c l cv) (h0 : cv ≠ 0) :
    Calls Tryz.prog 13 #[.slice A l.length c] w fun e w' => e = .returned (.tuple #[.string ⟨#[]⟩, .int .i64 cv]) ∧ Below w.heap.size w w' := by
  have HCV := Lib.hid (hcv w hr)
  have k1 : (cv == 0) = false := beq_eq_false_iff_ne.2 h0
  have k2 : (cv != 0) = true := bne_iff_ne.2 h0
  clear hr hcv
  go_enter Tryz.func13, Tryz.ntmps13
  go_wp2_with (go_at_call 21; go_must (refine HCV.out.mono ?_); rintro e w1 ⟨rfl, hb⟩)
  go_ret2
  exact ⟨rfl, hb⟩
/-- Print of a tree's row. -/
theorem print_T (A : Option Addr) (c : Nat) (t : Tr) (hT : TreeOk t) (htx : t.tx (fun b => decide (b.size ≤ 200)) = true) (hc : (rowT t).length ≤ c) (w : World) (hr : Kd.C kN w A (rowT t).length (rowT t)) :
    Calls Tryz.prog 13 #[.slice A (rowT t).length c] w fun e w' => e = .returned (.tuple #[.string (prB t), .int .i64 0]) ∧ Below w.heap.size w w' := by
  have hpos : 0 < (rowT t).length := by rw [rowT_len]; exact t.size_pos
  have hs := hT.size
  have hcat : catL (pcsL (rowT t)) = prT quoteL t := pcsL_tree t (ok_sh t false hT.ok)
  have hle := prT_le t htx
  have hno := rowT_nodeOk t (by omega) (tx_up t htx)
  have hpv : printV (rowT t) 0 = prB t := by unfold printV prB; rw [if_pos rfl, hcat]
  have h := print_any A c (rowT t) 0 w hr hc (fun a ha => by
    obtain ⟨ad, e, d0, _⟩ := node_at hr 0 hpos
    rw [ha] at e
    cases e
    have := World.block_lt_of_cell? _ _ d0
    rwa [show (a.add (0 * 5)).block = a.block by unfold Addr.add; split <;> rfl] at this)
    (by have := chk_any A c (rowT t) hc (by have := hno.len; omega) hno.txt; rw [hT.chk] at this; exact this) (fun _ => hno) (fun _ => by rw [hcat]; omega)
  rw [hpv] at h
  exact h
theorem row_block {w : World} {A : Option Addr} {l : List Node} (hr : Kd.C kN w A l.length l) (hpos : 0 < l.length) : ∀ a, A = some a → a.block < w.heap.size := fun a ha => by
  obtain ⟨ad, e, d0, _⟩ := node_at hr 0 hpos
  rw [ha] at e
  cases e
  have := World.block_lt_of_cell? _ _ d0
  rwa [show (a.add (0 * 5)).block = a.block by unfold Addr.add; split <;> rfl] at this
theorem chk_T (A : Option Addr) (c : Nat) (t : Tr) (hT : TreeOk t) (htx : t.tx (fun b => decide (b.size ≤ 200)) = true) (hc : (rowT t).length ≤ c) : ChkIs A c (rowT t) 0 := by
  have hno := rowT_nodeOk t (by have := hT.size; omega) (tx_up t htx)
  have := chk_any A c (rowT t) hc (by have := hno.len; omega) hno.txt
  rwa [hT.chk] at this
/-- Canon of a tree's text. -/
theorem canon_T (t : Tr) (hT : TreeOk t) (htx : t.tx (fun b => decide (b.size ≤ 200)) = true) (hl : (prB t).size ≤ 4096) (w : World) (hg : Glob w) : Calls Tryz.prog 22 #[.string (prB t)] w fun e w' => e = .returned (.tuple #[.string (prB (srt t)), .int .i64 0]) ∧ Below w.heap.size w w' := by
  have htx2 : (srt t).tx (fun b => decide (b.size ≤ 200)) = true := by rw [srt_tx]; exact htx
  exact canon_ok (prB t) t (ok_sh t false hT.ok) (ok_sh _ false hT.srt.ok) hT.uniq (by have := hT.size; omega) (tx_up t htx) w (parse_T t hT htx hl w hg) (fun A c hc => chk_T A c t hT htx hc) (fun A c hc => chk_T A c (srt t) hT.srt htx2 hc) (by rw [srt_len, ← prB_size]; exact hl)
set_option maxRecDepth 100000 in
set_option maxHeartbeats 4000000 in
/-- A row that is a tree's. -/
theorem printBack_T (A : Option Addr) (c : Nat) (t : Tr) (hT : TreeOk t) (hc : (rowT t).length ≤ c) (h1 : lightV (rowT t) = true) (W : World) (hg : Glob W) (hC : Kd.C kN W A (rowT t).length (rowT t)) :
    Calls Tryz.prog 5 #[.slice A (rowT t).length c] W fun e w' => e = .returned (.bool true) ∧ Below W.heap.size W w' := by
  obtain ⟨q1, q2⟩ := light_all h1
  have htx : t.tx (fun b => decide (b.size ≤ 200)) = true := by
    rw [← flat_tx _ t (-1) 0, List.all_eq_true]
    intro n hn
    have hm : toN n ∈ rowT t := List.mem_map_of_mem hn
    obtain ⟨a1, a2⟩ := q2 _ hm
    rw [Bool.and_eq_true]
    exact ⟨decide_eq_true a1, decide_eq_true a2⟩
  have hpos : 0 < (rowT t).length := by rw [rowT_len]; exact t.size_pos
  have htx2 : (srt t).tx (fun b => decide (b.size ≤ 200)) = true := by rw [srt_tx]; exact htx
  have LI := Lib.hid (fun w (h : Below W.heap.size W w) => light_any A c (rowT t) (by omega) hc w (Kd.C_below hC h))
  rw [h1] at LI
  have PR := Lib.hid (fun w (h : Below W.heap.size W w) => print_T A c t hT htx hc w (Kd.C_below hC h))
  have HG := Lib.hid hg
  by_cases hlong : 4096 < (prB t).size
  · obtain ⟨q, hq⟩ : ∃ q, prB t = q := ⟨_, rfl⟩
    rw [hq] at PR hlong
    have k1 : decide ((4096 : Int) < (q.size : Int)) = true := decide_eq_true (by omega)
    have k2 : decide (4096 < q.size) = true := decide_eq_true hlong
    obtain ⟨n, hn⟩ : ∃ n, (rowT t).length = n := ⟨_, rfl⟩
    rw [hn] at LI PR ⊢
    clear hC hc hpos htx htx2 q1 q2 h1 hT hg hq hn
    go_enter Tryz.func5, Tryz.ntmps5
    go_wp2_with (first | (go_at_call 11; go_must (refine (awake08_in _).mono ?_); rintro e w0 ⟨rfl, hb⟩; have BB := Lib.hid hb; clear hb) | (go_at_call 12; go_must (refine (LI.out _ BB.out).mono ?_); rintro e w1 ⟨rfl, hb⟩; have BB := Lib.hid (below_step BB.out hb); clear hb) | (go_at_call 13; go_must (refine (PR.out _ BB.out).mono ?_); rintro e w2 ⟨rfl, hb⟩; have BB := Lib.hid (below_step BB.out hb); clear hb))
    go_ret
    exact ⟨rfl, BB.out⟩
  · have hl : (prB t).size ≤ 4096 := by omega
    have hl2 : (prB (srt t)).size = (prB t).size := by rw [prB_size, prB_size, srt_len]
    have hlen := rowT_len t
    have hlen2 := rowT_len (srt t)
    rw [srt_size] at hlen2
    have hs := hT.size
    have hL9 : (rowT t).length ≤ 900000 := by omega
    have hM9 : (rowT (srt t)).length ≤ 900000 := by omega
    have PA := Lib.hid (fun w h => parse_T t hT htx hl w h)
    have SO := Lib.hid (fun w (h : Below W.heap.size W w) => sort_ok A c t (ok_sh t false hT.ok) hT.uniq (by omega) hc w (Kd.C_below hC h) (row_block (Kd.C_below hC h) hpos) (chk_T A c t hT htx hc))
    have PR2 := Lib.hid (fun A2 c2 w (h : (rowT (srt t)).length ≤ c2) hr => print_T A2 c2 (srt t) hT.srt htx2 h w hr)
    have CA1 := Lib.hid (fun w h => canon_T t hT htx hl w h)
    have CA2 := Lib.hid (fun w h => canon_T (srt t) hT.srt htx2 (by omega) w h)
    rw [srt_idem] at CA2
    have TO := Lib.hid (fun w (h : Below W.heap.size W w) => to_any A c (rowT t) (by omega) w (Kd.C_below hC h))
    have SAME := Lib.hid (fun A1 B c1 c2 base w hC hR => same_true A1 B (rowT t).length c1 c2 base (rowT t) rfl (by omega) w hC hR)
    obtain ⟨q, hq⟩ : ∃ q, prB t = q := ⟨_, rfl⟩
    obtain ⟨u, hu⟩ : ∃ u, prB (srt t) = u := ⟨_, rfl⟩
    obtain ⟨L, hL⟩ : ∃ L, rowT t = L := ⟨_, rfl⟩
    obtain ⟨M, hM⟩ : ∃ M, rowT (srt t) = M := ⟨_, rfl⟩
    rw [hq] at PR PA CA1 hl hl2
    rw [hu] at PR2 CA1 CA2 hl2
    rw [hL] at LI PR PA SO TO SAME hL9 ⊢
    rw [hM] at SO PR2 hM9
    have k1 : decide ((4096 : Int) < (q.size : Int)) = false := decide_eq_false (by omega)
    have k2 : decide (4096 < q.size) = false := decide_eq_false (by omega)
    have kz : (u.size : Int) = (q.size : Int) := by omega
    clear hC hc hpos htx htx2 q1 q2 h1 hT hg hlong hl hl2 hlen hlen2 hs hq hu hL hM
    go_enter Tryz.func5, Tryz.ntmps5
    go_wp2_with (first | (go_at_call 11; go_must (refine (awake08_in _).mono ?_); rintro e w0 ⟨rfl, hb⟩; have BB := Lib.hid hb; clear hb) | (go_at_call 12; go_must (refine (LI.out _ BB.out).mono ?_); rintro e w1 ⟨rfl, hb⟩; have BB := Lib.hid (below_step BB.out hb); clear hb) | (go_at_call 13; first | ((with_reducible refine (PR.out _ BB.out).mono ?_); rintro e w2 ⟨rfl, hb⟩; have BB := Lib.hid (below_step BB.out hb); clear hb) | ((with_reducible refine (PR2.out A2 c2 _ hc2 C2.out).mono ?_); rintro e w5 ⟨rfl, hb⟩; have BB := Lib.hid (below_step BB.out hb); have C1 := Lib.hid (Kd.C_below C1.out hb); clear hb)) | (go_at_call 24; go_must (refine (PA.out _ (HG.out.below BB.out)).mono ?_); rintro e w3 ⟨v3, rfl, hR, hb⟩; obtain ⟨A1, c1, rfl, hc1⟩ := hR.slice; have C1 := Lib.hid (hR.C hL9); have BB := Lib.hid (below_step BB.out hb); clear hb hR) | (go_at_call 14; go_must (refine (SO.out _ BB.out).mono ?_); rintro e w4 ⟨v4, rfl, hR, hb⟩; obtain ⟨A2, c2, rfl, hc2⟩ := hR.slice; have C2 := Lib.hid (hR.C hM9); have BB := Lib.hid (below_step BB.out hb); have C1 := Lib.hid (Kd.C_below C1.out hb); clear hb hR) | (go_at_call 22; first | ((with_reducible refine (CA1.out _ (HG.out.below BB.out)).mono ?_); rintro e w6 ⟨rfl, hb⟩; have BB := Lib.hid (below_step BB.out hb); have C1 := Lib.hid (Kd.C_below C1.out hb); clear hb) | ((with_reducible refine (CA2.out _ (HG.out.below BB.out)).mono ?_); rintro e w6 ⟨rfl, hb⟩; have BB := Lib.hid (below_step BB.out hb); have C1 := Lib.hid (Kd.C_below C1.out hb); clear hb)) | (go_at_call 18; go_must (refine (TO.out _ BB.out).mono ?_); rintro e w8 ⟨v8, rfl, hR, hb⟩; obtain ⟨A8, c8, rfl, hc8⟩ := hR.slice; have R8 := Lib.hid hR; have BB := Lib.hid (below_step BB.out hb); have C1 := Lib.hid (Kd.C_below C1.out hb); clear hb hR) | (go_at_call 25; go_must (refine (SAME.out A1 A8 c1 c8 _ _ C1.out R8.out).mono ?_); rintro e w9 ⟨rfl, hb⟩; have BB := Lib.hid (below_step BB.out hb); clear hb))
    go_ret
    exact ⟨rfl, BB.out⟩
/-- cashierlaw08.PrintBack returns true at every row in memory. -/
theorem printBack_row (A : Option Addr) (c : Nat) (l : List Node) (W : World) (hg : Glob W) (h : Kd.C kN W A l.length l ∧ l.length ≤ c) :
    Calls Tryz.prog 5 #[.slice A l.length c] W fun e w' => e = .returned (.bool true) ∧ Below W.heap.size W w' := by
  obtain ⟨hC, hc⟩ := h
  have hlm : l.length ≤ 9223372036854775807 := hC.2.1
  by_cases h0 : lightV l = true
  · obtain ⟨q1, q2⟩ := light_all h0
    by_cases h1 : chkP l = 0
    · obtain ⟨t, hT, e⟩ := chk_zero h1
      subst e
      exact printBack_T A c t hT hc h0 W hg hC
    · have LI := Lib.hid (fun w (h : Below W.heap.size W w) => light_any A c l hlm hc w (Kd.C_below hC h))
      rw [h0] at LI
      obtain ⟨cv, hcv⟩ : ∃ cv, chkP l = cv := ⟨_, rfl⟩
      have CI : ChkIs A c l cv := by have := chk_any A c l hc (by omega) (fun n hn => ⟨by have := (q2 n hn).1; omega, by have := (q2 n hn).2; omega⟩); rwa [hcv] at this
      rw [hcv] at h1
      have PB := Lib.hid (fun w (h : Below W.heap.size W w) => print_bad A c l cv w (Kd.C_below hC h) CI h1)
      have k1 : (cv == 0) = false := beq_eq_false_iff_ne.2 h1
      have k2 : (cv != 0) = true := bne_iff_ne.2 h1
      clear hC hc q1 q2 hcv CI h1 hg
      go_enter Tryz.func5, Tryz.ntmps5
      go_wp2_with (first | (go_at_call 11; go_must (refine (awake08_in _).mono ?_); rintro e w0 ⟨rfl, hb⟩; have BB := Lib.hid hb; clear hb) | (go_at_call 12; go_must (refine (LI.out _ BB.out).mono ?_); rintro e w1 ⟨rfl, hb⟩; have BB := Lib.hid (below_step BB.out hb); clear hb) | (go_at_call 13; go_must (refine (PB.out _ BB.out).mono ?_); rintro e w2 ⟨rfl, hb⟩; have BB := Lib.hid (below_step BB.out hb); clear hb))
      go_ret
      exact ⟨rfl, BB.out⟩
  · have h0 : lightV l = false := by cases hh : lightV l; rfl; exact absurd hh h0
    have LI := Lib.hid (fun w (h : Below W.heap.size W w) => light_any A c l hlm hc w (Kd.C_below hC h))
    rw [h0] at LI
    clear hC hc hg h0
    go_enter Tryz.func5, Tryz.ntmps5
    go_wp2_with (first | (go_at_call 11; go_must (refine (awake08_in _).mono ?_); rintro e w0 ⟨rfl, hb⟩; have BB := Lib.hid hb; clear hb) | (go_at_call 12; go_must (refine (LI.out _ BB.out).mono ?_); rintro e w1 ⟨rfl, hb⟩; have BB := Lib.hid (below_step BB.out hb); clear hb))
    go_ret
    exact ⟨rfl, BB.out⟩
end Go.Proofs.YtfocognhcljhpaaGreatDoor
namespace Go.Proofs.YtfocognhcljhpaaGreatDoor
set_option linter.unusedVariables false
set_option linter.unusedSimpArgs false
open Go.ChangeShapes Go.WideShapes Go.ChangeAt Go.RowKit Go.Deep Go.Proofs.YtfocognhcljhpaaGreatDoorW.PrintWords Go.Proofs.YtfocognhcljhpaaGreatDoorW.PrintMore Go.Proofs.YtfocognhcljhpaaGreatDoor.PPrintRows Go.Proofs.YtfocognhcljhpaaGreatDoor.Tree
section
variable {H : Type} {enc : TypeId × Value → H} {W : World} {base : Nat} {sp : Nat → Bool} {held : Bool}
set_option maxRecDepth 100000 in
theorem open_nodes {v : Value} {d : DataW H} {p : List MemPlace} (hv : Value.okWide Tryz.prog W .any base 22 v) (h : DataW.Trod enc Tryz.prog W 0 sp held 22 v d p) :
    ∃ A c l, v = .slice A (List.length l) c ∧ (Kd.C kN W A l.length l ∧ l.length ≤ c) := by
  obtain ⟨a0, len0, cap0, rfl⟩ := okWide_slice Tryz.underlying22 hv
  obtain ⟨fuel, hf⟩ := h
  have c5 : Tryz.prog.cellsOf 48 = 5 := by kernel_rfl
  rcases open_slice Tryz.underlying22 hf with ⟨h1, _⟩ | ⟨a, len, cap, m, n, D, Pl, hcs, _, hl, hmx, hm, _, hi⟩
  · have h1 : Value.slice a0 len0 cap0 = .slice none 0 0 := by simpa [Value.cells] using h1
    exact ⟨none, 0, [], h1, Kd.C_nil kN W, by simp⟩
  · have h1 : Value.slice a0 len0 cap0 = .slice (some a) len cap := by simpa [Value.cells] using hcs
    have hlm : len ≤ m := by rw [hm]; split <;> omega
    obtain ⟨l, e1, e2⟩ := list_ofn (Q := fun i (x : Node) => ∀ j u, (nodeC x)[j]? = some u → W.cell? (a.add (i * 5 + j)) = some u) len (fun i hlt => by
      obtain ⟨cs', hc, ht'⟩ := hi i (by omega)
      rw [c5] at hc
      obtain ⟨_, hcl, hat⟩ := World.cells?_some hc
      obtain ⟨r, rfl⟩ := node_cells hcl ht'
      refine ⟨r, fun j u hu => ?_⟩
      have hj : j < 5 := (List.getElem?_eq_some_iff.1 hu).1
      rw [addn_add, hat j hj]
      exact hu)
    have hmx2 : cap ≤ 9223372036854775807 := hmx
    exact ⟨some a, cap, l, by rw [h1, e1], ⟨rfl, by omega, fun _ => ⟨a, rfl, fun j p hj => ⟨nodeC p, rfl, k48_mk W p, e2 j p hj⟩⟩⟩, by omega⟩
end
end Go.Proofs.YtfocognhcljhpaaGreatDoor
namespace Go.Proofs.YtfocognhcljhpaaGreatDoor.printBack
set_option linter.unusedVariables false
set_option linter.unusedSimpArgs false
open Go.ChangeShapes Go.WideShapes Go.ChangeAt Go.RowKit
theorem reads (os : Os) {H : Type} (enc : TypeId × Value → H) : ∃ ds places, DataW.whole enc Tryz.prog ((rowWorld os).forCall (fun _ _ => 0) ⟨#[], #[.slice none 0 0], []⟩).memory Tryz.f5.params.toList Rows.printBackSpec.vars false (#[.slice none 0 0] : Array Value).toList 8 = some (ds, [], places) :=
  ⟨[.nil], [], by kernel_rfl⟩
set_option maxRecDepth 100000 in
theorem contract (H : Type) (enc : TypeId × Value → H) (W : World) (base : Nat) (args : Array Value) (ds gs : List (DataW H)) (before : List MemPlace)
    (hval0 : ∀ (j : Nat) t v, Tryz.f5.params[j]? = some t → args[j]? = some v → Value.okWide Tryz.prog W .any base t v)
    (hW : DataW.Whole enc Tryz.prog Tryz.f5.params.toList Rows.printBackSpec.vars false W args.toList ds gs before)
    (hsz0 : (DataW.weightsEach Tryz.prog (Tryz.f5.params.toList ++ Rows.printBackSpec.plain.varTypes Tryz.prog) (ds ++ gs)).all (· ≤ reachBytes) = true)
    (hL : laidMetH Tryz.prog laidL W) (hs : W.ShapedOpen Tryz.prog) :
    Calls Tryz.prog 5 args W fun e W' => ∃ v, e = .returned v ∧ Rows.printBackSpec.post enc Tryz.prog Tryz.f5 false true false false W args v W' := by
  have hval := hval0
  have hsz := hsz0
  have hW' := hW
  obtain ⟨p, q, hA0, hV, rfl, hfz, hnd⟩ := hW
  have hA : DataW.TrodAll enc Tryz.prog W 0 (fun _ => true) true Tryz.f5.params.toList args.toList ds p := hA0
  rw [Tryz.params5] at hA hval hsz
  obtain ⟨v0, vs0, d0, ds0, p0, q0, hargs, rfl, rfl, h0, r0⟩ := trodAll_cons hA
  obtain ⟨rfl, rfl, rfl⟩ := trodAll_nil r0
  obtain rfl : args = #[v0] := by cases args; simp_all
  obtain ⟨rfl, rfl⟩ := trodVars_none hV
  obtain ⟨A0, c0, l0, rfl, hl0⟩ := open_nodes (hval 0 22 v0 rfl rfl) h0
  have k0 := h0
  have lt0 : ∀ x ∈ p0, x.block < W.heap.size := by obtain ⟨m, hm⟩ := k0; exact DataW.trod_lt m _ _ _ hm
  clear hA0 hval0 hsz0 hsz
  refine (printBack_row A0 c0 l0 W (glob_of hL) hl0).mono fun e W' ⟨he, bel⟩ => ?_
  subst he
  exact ⟨_, rfl, _, _, _, [], _, [], hW', trodAll_mk1 (shut_bool Tryz.underlying4 _), (trodAll_cons_mk (Below.trod laidOut (by kernel_rfl) (of_decide_eq_true (by kernel_rfl)) k0 bel lt0) trodAll_mk0), rfl, bel.frame _, fun h => by cases h⟩
set_option maxRecDepth 100000 in
theorem lifted (os : Os) (started : os.Started) (H : Type) (enc : TypeId × Value → H) (F : Stop.Interp) :
    ReturnsInHanded {} Tryz.checked os 5 .any ((OpenSpec.ofChange Rows.printBackSpec).preRow enc Tryz.prog Tryz.f5 Rows.printBackRow.domain false Rows.printBackRow.laid) (((OpenSpec.ofChange Rows.printBackSpec).at F).post enc Tryz.prog Tryz.f5 false true false false) := by
  obtain ⟨dsw, places, hx⟩ := reads os enc
  refine returnsInHanded_of_row (C := Tryz.checked) (s := OpenSpec.ofChange Rows.printBackSpec) own started (by kernel_rfl) Tryz.func5
    (witness_row_atRef (enc := enc) (C := Tryz.checked) false (rowWorld os) #[.slice none 0 0] (World.laidAll_os _ _ _) (by kernel_rfl) (by kernel_rfl) (by kernel_rfl)
      (OpenSpec.preRow_of_cond 8 hx (by kernel_rfl) (fun k hk => by cases hk) (by kernel_rfl) (row_met os _))) ?_
  intro W base args ds gs before hval hW _ _ hsz hL hs _
  exact contract H enc W base args ds gs before hval hW hsz hL hs
theorem said : Rows.PrintBackSaid :=
  OpenClaim.holds_of_cond 5 Tryz.f5 rfl rfl rfl rfl rfl rfl rfl ⟨rfl, rfl, rfl, rfl, rfl⟩ rfl rfl rfl rfl rfl (by kernel_rfl) Tryz.func5 (by kernel_rfl)
    (of_decide_eq_true (by kernel_rfl)) (by unfold Func.isWrapper; first | (rw [if_pos (by decide +kernel)]; kernel_rfl) | (rw [if_neg (by decide +kernel)]; exact ⟨rfl, rfl⟩))
    (fun os started H enc _ F => by rw [OpenClaim.pre_eq_preRow]; exact lifted os started H enc F)
theorem plain (f : FuncId) (fn : Func) (hf : Tryz.pinned.checked.prog.funcNamed "cashier/cashierlaw08.PrintBack" = some f) (hfn : Tryz.pinned.checked.prog.funcs[f]? = some fn) :
    Rows.printBackCard.stood.looks = Tryz.pinned.checked.prog.looks [] ∧ ∀ (j : Nat) t, fn.params[j]? = some t → Tryz.pinned.checked.prog.wantsStandIn t = false := by
  obtain rfl : f = 5 := Option.some.inj ((show Tryz.prog.funcNamed "cashier/cashierlaw08.PrintBack" = some 5 by kernel_rfl).symm.trans hf) |>.symm
  obtain rfl : fn = Tryz.f5 := (Option.some.inj (Tryz.func5.symm.trans hfn)).symm
  refine ⟨by kernel_rfl, fun j t ht => ?_⟩
  rw [Tryz.params5] at ht
  have hm := Array.mem_of_getElem? ht
  have hm2 : t = 22 := by simpa using hm
  rcases hm2 with rfl
  · exact (show Tryz.prog.wantsStandIn 22 = false by kernel_rfl)
/-- The card. -/
theorem card : Rows.PrintBackCardSaid :=
  Claim7.holds_tied_plain_at .later [] _ _ _ _ said (fun _ h => by cases h) (by kernel_rfl) (fun _ h => by cases h) printBack_row_tie rfl ⟨rfl, rfl⟩ (by kernel_rfl) rfl plain (by kernel_rfl)
#print axioms card
end Go.Proofs.YtfocognhcljhpaaGreatDoor.printBack
