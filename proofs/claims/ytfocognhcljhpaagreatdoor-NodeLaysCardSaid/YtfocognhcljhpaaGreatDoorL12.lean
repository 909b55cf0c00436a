/- cashier/cashierlaw09.NodeLays returns true at every input, and each argument reads behind the call as it read before. Conditions: those of its given row (the listed package-level variables read, when the call begins, as their own initialisers lay them). -/
import Derived.Test.YtfocognhcljhpaaGreatDoorL8
import Derived.Deep.Slices
import Derived.ProofKit
import Derived.Test.YtfocognhcljhpaaGreatDoorL11
import Derived.SliceStrings
import Derived.Test.YtfocognhcljhpaaGreatDoorL9
namespace Go.Proofs.YtfocognhcljhpaaGreatDoor
set_option linter.unusedVariables false
set_option linter.unusedSimpArgs false
open Go.ChangeShapes Go.WideShapes Go.ChangeAt Go.RowKit Go.Deep Go.Proofs.YtfocognhcljhpaaGreatDoorW.PrintWords Go.Proofs.YtfocognhcljhpaaGreatDoorW.PrintMore Go.Proofs.YtfocognhcljhpaaGreatDoor.PPrintRows Go.Proofs.YtfocognhcljhpaaGreatDoor.Tree
theorem okWide_block {P : Program} {w : World} {r : Reach} {base : Nat} {t e : TypeId} (ht : P.underlying t = some (.slice e)) {a : Addr} {len cap : Nat} (h : Value.okWide P w r base t (.slice (some a) len cap)) : a.block < w.heap.size := by
 simp only [Value.okWide, ht, Cell.okWide, Cell.ok] at h
 obtain ⟨_, _, _, _, row, cells, hs, _⟩ := h
 unfold World.shape? at hs
 split at hs
 ·rename_i hh
  exact (Array.getElem?_eq_some_iff.1 hh).1
 ·cases hs
section
variable {H : Type} {enc : TypeId × Value → H} {W : World} {base : Nat} {sp : Nat → Bool} {held : Bool}
set_option maxRecDepth 100000 in
theorem open_row {x : Value} {fuel : Nat} {y : DataW H × List MemPlace} (hf : DataW.trod enc Tryz.prog W 0 sp held fuel 22 [x] = some y) :
  ∃ A c l, x = .slice A (List.length l) c ∧ (Kd.C kN W A l.length l ∧ l.length ≤ c) := by
 have c5 : Tryz.prog.cellsOf 48 = 5 := by kernel_rfl
 rcases open_slice Tryz.underlying22 hf with ⟨h1, _⟩ | ⟨a, len, cap, m, n, D, Pl, hcs, _, hl, hmx, hm, _, hi⟩
 ·have h1 : x = .slice none 0 0 := by simpa using h1
  exact ⟨none, 0, [], h1, Kd.C_nil kN W, by simp⟩
 ·have h1 : x = .slice (some a) len cap := by simpa using hcs
  have hlm : len ≤ m := by rw [hm]; split <;> omega
  obtain ⟨l, e1, e2⟩ := list_ofn (Q := fun i (x : Node) => ∀ j u, (nodeC x)[j]? = some u → W.cell? (a.add (i * 5 + j)) = some u) len (fun i hlt => by
   obtain ⟨cs', hc, ht'⟩ := hi i (by omega)
   rw [c5] at hc
   obtain ⟨_, hcl, hat⟩ := World.cells?_some hc
   obtain ⟨r, rfl⟩ := node_cells hcl ht'
   refine ⟨r, fun j u hu => ?_⟩
   have hj : j < 5 := (List.getElem?_eq_some_iff.1 hu).1
   rw [addn_add, hat j hj]
   exact hu)
  have hmx2 : cap ≤ 9223372036854775807 := hmx
  exact ⟨some a, cap, l, by rw [h1, e1], ⟨rfl, by omega, fun _ => ⟨a, rfl, fun j p hj => ⟨nodeC p, rfl, k48_mk W p, e2 j p hj⟩⟩⟩, by omega⟩
set_option maxRecDepth 100000 in
theorem open_rows {v : Value} {d : DataW H} {p : List MemPlace} (hv : Value.okWide Tryz.prog W .any base 50 v) (h : DataW.Trod enc Tryz.prog W 0 sp held 50 v d p) :
  ∃ A c ms, v = .slice A (List.length ms) c ∧ (RowsAt W A ms ∧ (∀ m ∈ ms, Kd.C kN W m.2.1.1 m.2.2.length m.2.2 ∧ m.2.2.length ≤ m.2.1.2) ∧ ∀ a, A = some a → a.block < W.heap.size) := by
 obtain ⟨a0, len0, cap0, rfl⟩ := okWide_slice Tryz.underlying50 hv
 have hbl : ∀ a, a0 = some a → a.block < W.heap.size := fun a ha => by subst ha; exact okWide_block Tryz.underlying50 hv
 obtain ⟨fuel, hf⟩ := h
 rcases open_slice1 Tryz.underlying50 (by kernel_rfl) hf with ⟨h1, _⟩ | ⟨a, len, cap, m, n, V, D, Pl, hcs, _, hl, hmx, hm, _, hi⟩
 ·have h1 : Value.slice a0 len0 cap0 = .slice none 0 0 := by simpa [Value.cells] using h1
  exact ⟨none, 0, [], h1, (fun q m hq => by simp at hq), (fun _ h => by cases h), fun _ h => by cases h⟩
 ·have h1 : Value.slice a0 len0 cap0 = .slice (some a) len cap := by simpa [Value.cells] using hcs
  have hlm : len ≤ m := by rw [hm]; split <;> omega
  obtain ⟨ms, e1, e2⟩ := list_ofn (Q := fun i (x : Mb) => a.block < W.heap.size ∧ W.cell? (a.add i) = some (mbSl x) ∧ x.1 = ⟨#[]⟩ ∧ Kd.C kN W x.2.1.1 x.2.2.length x.2.2 ∧ x.2.2.length ≤ x.2.1.2) len (fun i hlt => by
   obtain ⟨hc, ht'⟩ := hi i (by omega)
   obtain ⟨A5, c5, l5, hx, hC, hle⟩ := open_row ht'
   have hb := World.block_lt_of_cell? _ _ hc
   have hb2 : (a.add i).block = a.block := by unfold Addr.add; split <;> rfl
   exact ⟨((⟨#[]⟩ : ByteArray), (A5, c5), l5), by rw [← hb2]; exact hb, by rw [hc, hx]; rfl, rfl, hC, hle⟩)
  refine ⟨some a, cap, ms, by rw [h1, e1], fun q m hq => ?_, fun m hm => ?_, fun a' ha' => hbl a' (by injection h1 with h1 _ _; rw [h1]; exact ha')⟩
  ·obtain ⟨b1, b2, b3, _⟩ := e2 q m hq
   exact ⟨a, rfl, b1, b2, b3⟩
  ·obtain ⟨q, hq⟩ := List.mem_iff_getElem?.1 hm
   obtain ⟨_, _, _, b4, b5⟩ := e2 q m hq
   exact ⟨b4, b5⟩
end
end Go.Proofs.YtfocognhcljhpaaGreatDoor
namespace Go.Proofs.YtfocognhcljhpaaGreatDoor
set_option linter.unusedVariables false
set_option linter.unusedSimpArgs false
open Go.ChangeShapes Go.WideShapes Go.ChangeAt Go.RowKit Go.Deep Go.Proofs.YtfocognhcljhpaaGreatDoorW.PrintWords Go.Proofs.YtfocognhcljhpaaGreatDoorW.PrintMore Go.Proofs.YtfocognhcljhpaaGreatDoor.PPrintRows Go.Proofs.YtfocognhcljhpaaGreatDoor.Tree
set_option maxRecDepth 100000 in
set_option maxHeartbeats 4000000 in
theorem nodeLays_not (A : Option Addr) (c n : Nat) (Ak : Option Addr) (ck nk : Nat) (i : Int) (s : ByteArray) (kind : Int) (W : World) (h : 5 < n ∨ 200 < s.size) :
  Calls Tryz.prog 7 #[.slice A n c, .slice Ak nk ck, .int .i64 i, .string s, .int .i64 kind] W fun e w' => e = .returned (.bool true) ∧ Below W.heap.size W w' := by
 by_cases h5 : 5 < n
 ·have kp : decide ((5 : Int) < (n : Int)) = true := decide_eq_true (by omega)
  have kp2 : decide (5 < n) = true := decide_eq_true h5
  clear h
  go_enter Tryz.func7, Tryz.ntmps7
  go_wp2_with (go_at_call 26; go_must (refine (awake09_in _).mono ?_); rintro e w0 ⟨rfl, hb⟩; have B0 := Lib.hid hb; clear hb)
  go_ret
  exact ⟨rfl, B0.out⟩
 ·have hs : 200 < s.size := by omega
  have kp : decide ((5 : Int) < (n : Int)) = false := decide_eq_false (by omega)
  have kp2 : decide (5 < n) = false := decide_eq_false h5
  have kq : decide ((200 : Int) < (s.size : Int)) = true := decide_eq_true (by omega)
  have kq2 : decide (200 < s.size) = true := decide_eq_true hs
  clear h
  go_enter Tryz.func7, Tryz.ntmps7
  go_wp2_with (go_at_call 26; go_must (refine (awake09_in _).mono ?_); rintro e w0 ⟨rfl, hb⟩; have B0 := Lib.hid hb; clear hb)
  go_ret
  exact ⟨rfl, B0.out⟩
/-- cashierlaw09.NodeLays returns true at all rows, names, places and texts in memory. -/
theorem nodeLays_row (A : Option Addr) (c : Nat) (ms : List Mb) (Ak : Option Addr) (ck : Nat) (keys : List ByteArray) (i : Int) (s : ByteArray) (kind : Int) (hs : s.size ≤ 140737488351232) (W : World) (h : RowsAt W A ms ∧ (∀ m ∈ ms, Kd.C kN W m.2.1.1 m.2.2.length m.2.2 ∧ m.2.2.length ≤ m.2.1.2) ∧ ∀ a, A = some a → a.block < W.heap.size) (hP : TextsAt W Ak keys ∧ keys.length ≤ ck ∧ ck ≤ 9223372036854775807) :
  Calls Tryz.prog 7 #[.slice A ms.length c, .slice Ak keys.length ck, .int .i64 i, .string s, .int .i64 kind] W fun e w' => e = .returned (.bool true) ∧ Below W.heap.size W w' := by
 by_cases h5 : 5 < ms.length ∨ 200 < s.size
 ·exact nodeLays_not A c _ Ak ck _ i s kind W h5
 ·exact nodeLays_main A c ms Ak ck keys i s kind W h.1 h.2.1 h.2.2 hP.1 (by omega) (by omega) (by omega)
section
variable {H : Type} {enc : TypeId × Value → H} {W : World} {base : Nat} {sp : Nat → Bool} {held : Bool}
set_option maxRecDepth 100000 in
theorem open_texts2 {v : Value} {d : DataW H} {p : List MemPlace} (hv : Value.okWide Tryz.prog W .any base 51 v) (h : DataW.Trod enc Tryz.prog W 0 sp held 51 v d p) :
  ∃ A c l, v = .slice A (List.length l) c ∧ (TextsAt W A l ∧ l.length ≤ c ∧ c ≤ 9223372036854775807) := by
 obtain ⟨a0, len0, cap0, rfl⟩ := okWide_slice Tryz.underlying51 hv
 obtain ⟨fuel, hf⟩ := h
 rcases open_strings Tryz.underlying51 Tryz.underlying9 (by kernel_rfl) hf with ⟨h1, _⟩ | ⟨a, len, cap, ss, hcs, _, hl, hmx, hm, _, hi, hsz⟩
 ·have h1 : Value.slice a0 len0 cap0 = .slice none 0 0 := by simpa [Value.cells] using h1
  exact ⟨none, 0, [], h1, fun j hj => absurd hj (by simp), by simp, by omega⟩
 ·have h1 : Value.slice a0 len0 cap0 = .slice (some a) len cap := by simpa [Value.cells] using hcs
  have hlm : len ≤ ss.length := by rw [hm]; split <;> omega
  have hmx2 : cap ≤ 9223372036854775807 := hmx
  refine ⟨some a, cap, ss.take len, by rw [h1]; simp; omega, fun j hj => ⟨a, rfl, ?_⟩, by simp; omega, hmx2⟩
  have hj2 : j < ss.length := by simp at hj; omega
  rw [hi j hj2, List.getElem_take, List.getD_eq_getElem?_getD, List.getElem?_eq_getElem hj2]
  rfl
end
end Go.Proofs.YtfocognhcljhpaaGreatDoor
namespace Go.Proofs.YtfocognhcljhpaaGreatDoor.nodeLays
set_option linter.unusedVariables false
set_option linter.unusedSimpArgs false
open Go.ChangeShapes Go.WideShapes Go.ChangeAt Go.RowKit
open Go.ChangeMaps (open_string shut_string)
theorem reads (os : Os) {H : Type} (enc : TypeId × Value → H) : ∃ ds places, DataW.whole enc Tryz.prog ((rowWorld os).forCall (fun _ _ => 0) ⟨#[], #[.slice none 0 0, .slice none 0 0, .int .i64 0, .string ByteArray.empty, .int .i64 0], []⟩).memory Tryz.f7.params.toList Rows.nodeLaysSpec.vars false (#[.slice none 0 0, .slice none 0 0, .int .i64 0, .string ByteArray.empty, .int .i64 0] : Array Value).toList 8 = some (ds, [], places) :=
 ⟨[.nil, .nil, .lit (.int .i64 0), .lit (.string []), .lit (.int .i64 0)], [], by kernel_rfl⟩
set_option maxRecDepth 100000 in
theorem contract (H : Type) (enc : TypeId × Value → H) (W : World) (base : Nat) (args : Array Value) (ds gs : List (DataW H)) (before : List MemPlace)
  (hval0 : ∀ (j : Nat) t v, Tryz.f7.params[j]? = some t → args[j]? = some v → Value.okWide Tryz.prog W .any base t v)
  (hW : DataW.Whole enc Tryz.prog Tryz.f7.params.toList Rows.nodeLaysSpec.vars false W args.toList ds gs before)
  (hsz0 : (DataW.weightsEach Tryz.prog (Tryz.f7.params.toList ++ Rows.nodeLaysSpec.plain.varTypes Tryz.prog) (ds ++ gs)).all (· ≤ reachBytes) = true)
  (hL : laidMetH Tryz.prog laidL W) (hs : W.ShapedOpen Tryz.prog) :
  Calls Tryz.prog 7 args W fun e W' => ∃ v, e = .returned v ∧ Rows.nodeLaysSpec.post enc Tryz.prog Tryz.f7 false true false false W args v W' := by
 have hval := hval0
 have hsz := hsz0
 have hW' := hW
 obtain ⟨p, q, hA0, hV, rfl, hfz, hnd⟩ := hW
 have hA : DataW.TrodAll enc Tryz.prog W 0 (fun _ => true) true Tryz.f7.params.toList args.toList ds p := hA0
 rw [Tryz.params7] at hA hval hsz
 obtain ⟨v0, vs0, d0, ds0, p0, q0, hargs, rfl, rfl, h0, r0⟩ := trodAll_cons hA
 obtain ⟨v1, vs1, d1, ds1, p1, q1, rfl, rfl, rfl, h1, r1⟩ := trodAll_cons r0
 obtain ⟨v2, vs2, d2, ds2, p2, q2, rfl, rfl, rfl, h2, r2⟩ := trodAll_cons r1
 obtain ⟨v3, vs3, d3, ds3, p3, q3, rfl, rfl, rfl, h3, r3⟩ := trodAll_cons r2
 obtain ⟨v4, vs4, d4, ds4, p4, q4, rfl, rfl, rfl, h4, r4⟩ := trodAll_cons r3
 obtain ⟨rfl, rfl, rfl⟩ := trodAll_nil r4
 obtain rfl : args = #[v0, v1, v2, v3, v4] := by cases args; simp_all
 obtain ⟨rfl, rfl⟩ := trodVars_none hV
 obtain ⟨A0, c0, l0, rfl, hl0⟩ := open_rows (hval 0 50 v0 rfl rfl) h0
 have k0 := h0
 have lt0 : ∀ x ∈ p0, x.block < W.heap.size := by obtain ⟨m, hm⟩ := k0; exact DataW.trod_lt m _ _ _ hm
 obtain ⟨A1, c1, l1, rfl, hl1⟩ := open_texts2 (hval 1 51 v1 rfl rfl) h1
 have k1 := h1
 have lt1 : ∀ x ∈ p1, x.block < W.heap.size := by obtain ⟨m, hm⟩ := k1; exact DataW.trod_lt m _ _ _ hm
 obtain ⟨a2, rfl, rfl, rfl, y2⟩ := open_int Tryz.underlying3 (hval 2 3 v2 rfl rfl) h2
 obtain ⟨a3, rfl, rfl, rfl, y3⟩ := open_string Tryz.underlying9 (hval 3 9 v3 rfl rfl) h3
 have w3 : a3.size ≤ 140737488351232 := by
  have z := sized_string hsz (j := 3) (t := 9) rfl rfl
  rw [Array.length_toList] at z
  exact z
 obtain ⟨a4, rfl, rfl, rfl, y4⟩ := open_int Tryz.underlying3 (hval 4 3 v4 rfl rfl) h4
 clear hA0 hval0 hsz0 hsz
 refine (nodeLays_row A0 c0 l0 A1 c1 l1 a2 a3 a4 w3 W hl0 hl1).mono fun e W' ⟨he, bel⟩ => ?_
 subst he
 exact ⟨_, rfl, _, _, _, [], _, [], hW', trodAll_mk1 (shut_bool Tryz.underlying4 _), (trodAll_cons_mk (Below.trod laidOut (by kernel_rfl) (of_decide_eq_true (by kernel_rfl)) k0 bel lt0) (trodAll_cons_mk (Below.trod laidOut (by kernel_rfl) (of_decide_eq_true (by kernel_rfl)) k1 bel lt1) (trodAll_cons_mk (shut_int Tryz.underlying3 y2) (trodAll_cons_mk (shut_string Tryz.underlying9 y3) (trodAll_cons_mk (shut_int Tryz.underlying3 y4) trodAll_mk0))))), rfl, bel.frame _, fun h => by cases h⟩
set_option maxRecDepth 100000 in
theorem lifted (os : Os) (started : os.Started) (H : Type) (enc : TypeId × Value → H) (F : Stop.Interp) :
  ReturnsInHanded {} Tryz.checked os 7 .any ((OpenSpec.ofChange Rows.nodeLaysSpec).preRow enc Tryz.prog Tryz.f7 Rows.nodeLaysRow.domain false Rows.nodeLaysRow.laid) (((OpenSpec.ofChange Rows.nodeLaysSpec).at F).post enc Tryz.prog Tryz.f7 false true false false) := by
 obtain ⟨dsw, places, hx⟩ := reads os enc
 refine returnsInHanded_of_row (C := Tryz.checked) (s := OpenSpec.ofChange Rows.nodeLaysSpec) own started (by kernel_rfl) Tryz.func7
  (witness_row_atRef (enc := enc) (C := Tryz.checked) false (rowWorld os) #[.slice none 0 0, .slice none 0 0, .int .i64 0, .string ByteArray.empty, .int .i64 0] (World.laidAll_os _ _ _) (by kernel_rfl) (by kernel_rfl) (by kernel_rfl)
   (OpenSpec.preRow_of_cond 8 hx (by kernel_rfl) (fun k hk => by cases hk) (by kernel_rfl) (row_met os _))) ?_
 intro W base args ds gs before hval hW _ _ hsz hL hs _
 exact contract H enc W base args ds gs before hval hW hsz hL hs
theorem said : Rows.NodeLaysSaid :=
 OpenClaim.holds_of_cond 7 Tryz.f7 rfl rfl rfl rfl rfl rfl rfl ⟨rfl, rfl, rfl, rfl, rfl⟩ rfl rfl rfl rfl rfl (by kernel_rfl) Tryz.func7 (by kernel_rfl)
  (of_decide_eq_true (by kernel_rfl)) (by unfold Func.isWrapper; first | (rw [if_pos (by decide +kernel)]; kernel_rfl) | (rw [if_neg (by decide +kernel)]; exact ⟨rfl, rfl⟩))
  (fun os started H enc _ F => by rw [OpenClaim.pre_eq_preRow]; exact lifted os started H enc F)
theorem plain (f : FuncId) (fn : Func) (hf : Tryz.pinned.checked.prog.funcNamed "cashier/cashierlaw09.NodeLays" = some f) (hfn : Tryz.pinned.checked.prog.funcs[f]? = some fn) :
  Rows.nodeLaysCard.stood.looks = Tryz.pinned.checked.prog.looks [] ∧ ∀ (j : Nat) t, fn.params[j]? = some t → Tryz.pinned.checked.prog.wantsStandIn t = false := by
 obtain rfl : f = 7 := Option.some.inj ((show Tryz.prog.funcNamed "cashier/cashierlaw09.NodeLays" = some 7 by kernel_rfl).symm.trans hf) |>.symm
 obtain rfl : fn = Tryz.f7 := (Option.some.inj (Tryz.func7.symm.trans hfn)).symm
 refine ⟨by kernel_rfl, fun j t ht => ?_⟩
 rw [Tryz.params7] at ht
 have hm := Array.mem_of_getElem? ht
 have hm2 : t = 50 ∨ t = 51 ∨ t = 3 ∨ t = 9 := by simp at hm; rcases hm with h | h | h | h | h <;> simp [h]
 rcases hm2 with rfl | rfl | rfl | rfl
 ·exact (show Tryz.prog.wantsStandIn 50 = false by kernel_rfl)
 ·exact (show Tryz.prog.wantsStandIn 51 = false by kernel_rfl)
 ·exact (show Tryz.prog.wantsStandIn 3 = false by kernel_rfl)
 ·exact (show Tryz.prog.wantsStandIn 9 = false by kernel_rfl)
/-- The card. -/
theorem card : Rows.NodeLaysCardSaid :=
 Claim7.holds_tied_plain_at .later [] _ _ _ _ said (fun _ h => by cases h) (by kernel_rfl) (fun _ h => by cases h) nodeLays_row_tie rfl ⟨rfl, rfl⟩ (by kernel_rfl) rfl plain (by kernel_rfl)
#print axioms card
end Go.Proofs.YtfocognhcljhpaaGreatDoor.nodeLays
