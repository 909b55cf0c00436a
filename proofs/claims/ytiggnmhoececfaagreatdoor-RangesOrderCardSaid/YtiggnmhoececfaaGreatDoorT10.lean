/- cashier/cashierlaw18.RangesTurn returns true at every input, and each argument reads behind the call as it read before. Conditions: those of its given row (the listed package-level variables read, when the call begins, as their own initialisers lay them). -/
import Derived.Test.YtiggnmhoececfaaGreatDoorT2
import Derived.Test.YtiggnmhoececfaaGreatDoorT9
import Derived.OpenShut
import Derived.ProofKit
import Derived.SliceStrings
import Derived.Deep.Slices

namespace Go.Proofs.YtiggnmhoececfaaGreatDoor
set_option linter.unusedVariables false
set_option linter.unusedSimpArgs false
open Go.ChangeShapes Go.WideShapes Go.ChangeAt Go.RowKit

theorem list6 {α : Type} {l : List α} (h : l.length = 6) : ∃ a b c d e f, l = [a, b, c, d, e, f] := by
  match l, h with
  | [a, b, c, d, e, f], _ => exact ⟨a, b, c, d, e, f, rfl⟩

end Go.Proofs.YtiggnmhoececfaaGreatDoor

namespace Go.Proofs.YtiggnmhoececfaaGreatDoor
set_option linter.unusedVariables false
set_option linter.unusedSimpArgs false
open Go.ChangeShapes Go.WideShapes Go.ChangeAt Go.RowKit Go.Deep

theorem list7 {α : Type} {l : List α} (h : l.length = 7) : ∃ a b c d e f g, l = [a, b, c, d, e, f, g] := by
  match l, h with
  | [a, b, c, d, e, f, g], _ => exact ⟨a, b, c, d, e, f, g, rfl⟩
theorem list2 {α : Type} {l : List α} (h : l.length = 2) : ∃ a b, l = [a, b] := by
  match l, h with
  | [a, b], _ => exact ⟨a, b, rfl⟩

theorem list_of {α : Type} {Q : Nat → α → Prop} : ∀ n, (∀ i, i < n → ∃ x, Q i x) → ∃ l : List α, l.length = n ∧ ∀ j (hj : j < l.length), Q j l[j]
  | 0, _ => ⟨[], rfl, fun j hj => absurd hj (by simp)⟩
  | n + 1, h => by
    obtain ⟨l, h1, h2⟩ := list_of n (fun i hi => h i (by omega))
    obtain ⟨x, hx⟩ := h n (by omega)
    refine ⟨l ++ [x], by simp [h1], fun j hj => ?_⟩
    rcases Nat.lt_or_ge j l.length with hlt | hge
    · rw [List.getElem_append_left hlt]; exact h2 j hlt
    · have : j = n := by simp at hj; omega
      subst this
      rw [List.getElem_append_right hge]
      simpa [h1] using hx

theorem add_at (a : Addr) (j : Nat) (h : 0 < j) : a.add j = ⟨a.block, a.off + j, none⟩ := by
  unfold Addr.add
  rw [if_neg (by omega)]

section
variable {H : Type} {enc : TypeId × Value → H} {W : World} {base : Nat} {sp : Nat → Bool} {held : Bool}

set_option maxRecDepth 100000 in
/-- Six cells that are a range. -/
theorem range_cells {k : Nat} {cs : List Value} {y : DataW H × List MemPlace} (hsz : cs.length = 6) (hf : DataW.trod enc Tryz.prog W 0 sp held k 23 cs = some y) :
    ∃ r : Rng, cs = [.string r.f, .string r.t, .string r.n, .string r.lo, .string r.hi, .int .i64 r.m] := by
  have cS : Tryz.prog.cellsOf 9 = 1 := by kernel_rfl
  have cI : Tryz.prog.cellsOf 3 = 1 := by kernel_rfl
  obtain ⟨x0, x1, x2, x3, x4, x5, rfl⟩ := list6 hsz
  obtain ⟨xs, k, _, _, _, hn, hel⟩ := DataW.trod_struct Tryz.underlying23 hf
  obtain ⟨y0, y1, y2, y3, y4, y5, rfl⟩ := list6 (show xs.length = 6 from hn)
  have g0 : DataW.trod enc Tryz.prog W 0 sp held k 9 (([x0, x1, x2, x3, x4, x5].drop 0).take (Tryz.prog.cellsOf 9)) = some y0 := hel 0 _ rfl
  have g1 : DataW.trod enc Tryz.prog W 0 sp held k 9 (([x0, x1, x2, x3, x4, x5].drop 1).take (Tryz.prog.cellsOf 9)) = some y1 := hel 1 _ rfl
  have g2 : DataW.trod enc Tryz.prog W 0 sp held k 9 (([x0, x1, x2, x3, x4, x5].drop 2).take (Tryz.prog.cellsOf 9)) = some y2 := hel 2 _ rfl
  have g3 : DataW.trod enc Tryz.prog W 0 sp held k 9 (([x0, x1, x2, x3, x4, x5].drop 3).take (Tryz.prog.cellsOf 9)) = some y3 := hel 3 _ rfl
  have g4 : DataW.trod enc Tryz.prog W 0 sp held k 9 (([x0, x1, x2, x3, x4, x5].drop 4).take (Tryz.prog.cellsOf 9)) = some y4 := hel 4 _ rfl
  have g5 : DataW.trod enc Tryz.prog W 0 sp held k 3 (([x0, x1, x2, x3, x4, x5].drop 5).take (Tryz.prog.cellsOf 3)) = some y5 := hel 5 _ rfl
  obtain ⟨s0, e0, _⟩ := DataW.trod_string Tryz.underlying9 (show DataW.trod enc Tryz.prog W 0 sp held k 9 [x0] = some y0 by rw [cS] at g0; exact g0)
  obtain ⟨s1, e1, _⟩ := DataW.trod_string Tryz.underlying9 (show DataW.trod enc Tryz.prog W 0 sp held k 9 [x1] = some y1 by rw [cS] at g1; exact g1)
  obtain ⟨s2, e2, _⟩ := DataW.trod_string Tryz.underlying9 (show DataW.trod enc Tryz.prog W 0 sp held k 9 [x2] = some y2 by rw [cS] at g2; exact g2)
  obtain ⟨s3, e3, _⟩ := DataW.trod_string Tryz.underlying9 (show DataW.trod enc Tryz.prog W 0 sp held k 9 [x3] = some y3 by rw [cS] at g3; exact g3)
  obtain ⟨s4, e4, _⟩ := DataW.trod_string Tryz.underlying9 (show DataW.trod enc Tryz.prog W 0 sp held k 9 [x4] = some y4 by rw [cS] at g4; exact g4)
  obtain ⟨m, e5, _⟩ := DataW.trod_int Tryz.underlying3 (show DataW.trod enc Tryz.prog W 0 sp held k 3 [x5] = some y5 by rw [cI] at g5; exact g5)
  simp only [List.cons.injEq, and_true] at e0 e1 e2 e3 e4 e5
  subst e0 e1 e2 e3 e4 e5
  exact ⟨⟨s0, s1, s2, s3, s4, m⟩, rfl⟩

set_option maxRecDepth 100000 in
theorem open_acts {v : Value} {d : DataW H} {p : List MemPlace} (hv : Value.okWide Tryz.prog W .any base 40 v) (h : DataW.Trod enc Tryz.prog W 0 sp held 40 v d p) :
    ∃ A c l, v = .slice A (List.length l) c ∧ ActsAt W A l := by
  obtain ⟨a0, len0, cap0, rfl⟩ := okWide_slice Tryz.underlying40 hv
  obtain ⟨fuel, hf⟩ := h
  have c7 : Tryz.prog.cellsOf 44 = 7 := by kernel_rfl
  have c6 : Tryz.prog.cellsOf 23 = 6 := by kernel_rfl
  have cI : Tryz.prog.cellsOf 3 = 1 := by kernel_rfl
  rcases open_slice Tryz.underlying40 hf with ⟨h1, _⟩ | ⟨a, len, cap, m, n, D, Pl, hcs, _, hl, _, hm, _, hi⟩
  · have h1 : Value.slice a0 len0 cap0 = .slice none 0 0 := by simpa [Value.cells] using h1
    exact ⟨none, 0, [], h1, fun j hj => absurd hj (by simp)⟩
  · have h1 : Value.slice a0 len0 cap0 = .slice (some a) len cap := by simpa [Value.cells] using hcs
    have hlm : len ≤ m := by rw [hm]; split <;> omega
    obtain ⟨l, e1, e2⟩ := list_of (Q := fun i x => ActAt W a i x) len (fun i hlt => by
      obtain ⟨cs', hc, ht'⟩ := hi i (by omega)
      rw [c7] at hc
      obtain ⟨_, hcl, hat⟩ := World.cells?_some hc
      obtain ⟨x0, x1, x2, x3, x4, x5, x6, rfl⟩ := list7 hcl
      obtain ⟨xs, k, _, _, _, hn, hel⟩ := DataW.trod_struct Tryz.underlying44 ht'
      obtain ⟨y0, y1, rfl⟩ := list2 (show xs.length = 2 from hn)
      have g0 : DataW.trod enc Tryz.prog W 0 sp held k 3 (([x0, x1, x2, x3, x4, x5, x6].drop 0).take (Tryz.prog.cellsOf 3)) = some y0 := hel 0 _ rfl
      have g1 : DataW.trod enc Tryz.prog W 0 sp held k 23 (([x0, x1, x2, x3, x4, x5, x6].drop 1).take (Tryz.prog.cellsOf 23)) = some y1 := hel 1 _ rfl
      obtain ⟨dd, e0, _⟩ := DataW.trod_int Tryz.underlying3 (show DataW.trod enc Tryz.prog W 0 sp held k 3 [x0] = some y0 by rw [cI] at g0; exact g0)
      rw [c6] at g1
      obtain ⟨r, er⟩ := range_cells (by rfl) g1
      simp only [List.drop_succ_cons, List.drop_zero, List.take_succ_cons, List.take_zero, List.cons.injEq, and_true] at er e0
      obtain ⟨rfl, rfl, rfl, rfl, rfl, rfl⟩ := er
      subst e0
      have q := fun j (hj : j < 7) => hat j hj
      refine ⟨⟨dd, r⟩, ⟨?_, ?_, ?_, ?_, ?_, ?_, ?_⟩⟩
      · have := q 0 (by omega); simpa [Addr.add] using this
      · have := q 1 (by omega); rw [add_at _ 1 (by omega)] at this; exact this
      · have := q 2 (by omega); rw [add_at _ 2 (by omega)] at this; exact this
      · have := q 3 (by omega); rw [add_at _ 3 (by omega)] at this; exact this
      · have := q 4 (by omega); rw [add_at _ 4 (by omega)] at this; exact this
      · have := q 5 (by omega); rw [add_at _ 5 (by omega)] at this; exact this
      · have := q 6 (by omega); rw [add_at _ 6 (by omega)] at this; exact this)
    exact ⟨some a, cap, l, by rw [h1, e1], fun j hj => ⟨a, rfl, e2 j hj⟩⟩

set_option maxRecDepth 100000 in
theorem open_strs {v : Value} {d : DataW H} {p : List MemPlace} (hv : Value.okWide Tryz.prog W .any base 41 v) (h : DataW.Trod enc Tryz.prog W 0 sp held 41 v d p) :
    ∃ A c l, v = .slice A (List.length l) c ∧ StrsAt W A l := by
  obtain ⟨a0, len0, cap0, rfl⟩ := okWide_slice Tryz.underlying41 hv
  obtain ⟨fuel, hf⟩ := h
  rcases open_strings Tryz.underlying41 Tryz.underlying9 (by kernel_rfl) hf with ⟨h1, _⟩ | ⟨a, len, cap, ss, hcs, _, hl, _, hm, _, hi, hsz⟩
  · have h1 : Value.slice a0 len0 cap0 = .slice none 0 0 := by simpa [Value.cells] using h1
    exact ⟨none, 0, [], h1, fun j hj => absurd hj (by simp)⟩
  · have h1 : Value.slice a0 len0 cap0 = .slice (some a) len cap := by simpa [Value.cells] using hcs
    have hlm : len ≤ ss.length := by rw [hm]; split <;> omega
    refine ⟨some a, cap, ss.take len, by rw [h1]; simp; omega, fun j hj => ⟨a, rfl, ?_, ?_⟩⟩
    · have hj2 : j < ss.length := by simp at hj; omega
      rw [hi j hj2, List.getElem_take, List.getD_eq_getElem?_getD, List.getElem?_eq_getElem hj2]
      rfl
    · have hj2 : j < ss.length := by simp at hj; omega
      rw [List.getElem_take]
      exact hsz _ (List.getElem_mem hj2)

end

theorem rturn_row (A : Option Addr) (c : Nat) (acts : List ActR) (B : Option Addr) (d : Nat) (cards : List ByteArray) (w : World) (hG : Glob w) (hA : ActsAt w A acts) (hB : StrsAt w B cards) :
    Calls Tryz.prog 5 #[.slice A acts.length c, .slice B cards.length d] w fun e w' => e = .returned (.bool true) ∧ Below w.heap.size w w' := rturn_law A B c d acts cards w hG hA hB

end Go.Proofs.YtiggnmhoececfaaGreatDoor

namespace Go.Proofs.YtiggnmhoececfaaGreatDoor.rangesTurn
set_option linter.unusedVariables false
set_option linter.unusedSimpArgs false
open Go.ChangeShapes Go.WideShapes Go.ChangeAt Go.RowKit
open Go.ChangeMaps (open_string shut_string)

theorem reads (os : Os) {H : Type} (enc : TypeId × Value → H) : ∃ ds places, DataW.whole enc Tryz.prog ((rowWorld os).forCall (fun _ _ => 0) ⟨#[], #[.slice none 0 0, .slice none 0 0], []⟩).memory Tryz.f5.params.toList Rows.rangesTurnSpec.vars false (#[.slice none 0 0, .slice none 0 0] : Array Value).toList 8 = some (ds, [], places) :=
  ⟨[.nil, .nil], [], by kernel_rfl⟩

set_option maxRecDepth 100000 in
theorem contract (H : Type) (enc : TypeId × Value → H) (W : World) (base : Nat) (args : Array Value) (ds gs : List (DataW H)) (before : List MemPlace)
    (hval0 : ∀ (j : Nat) t v, Tryz.f5.params[j]? = some t → args[j]? = some v → Value.okWide Tryz.prog W .any base t v)
    (hW : DataW.Whole enc Tryz.prog Tryz.f5.params.toList Rows.rangesTurnSpec.vars false W args.toList ds gs before)
    (hsz0 : (DataW.weightsEach Tryz.prog (Tryz.f5.params.toList ++ Rows.rangesTurnSpec.plain.varTypes Tryz.prog) (ds ++ gs)).all (· ≤ reachBytes) = true)
    (hL : laidMetH Tryz.prog laidL W) (hs : W.ShapedOpen Tryz.prog) :
    Calls Tryz.prog 5 args W fun e W' => ∃ v, e = .returned v ∧ Rows.rangesTurnSpec.post enc Tryz.prog Tryz.f5 false true false false W args v W' := by
  have hval := hval0
  have hsz := hsz0
  have hW' := hW
  obtain ⟨p, q, hA0, hV, rfl, hfz, hnd⟩ := hW
  have hA : DataW.TrodAll enc Tryz.prog W 0 (fun _ => true) true Tryz.f5.params.toList args.toList ds p := hA0
  rw [Tryz.params5] at hA hval hsz
  obtain ⟨v0, vs0, d0, ds0, p0, q0, hargs, rfl, rfl, h0, r0⟩ := trodAll_cons hA
  obtain ⟨v1, vs1, d1, ds1, p1, q1, rfl, rfl, rfl, h1, r1⟩ := trodAll_cons r0
  obtain ⟨rfl, rfl, rfl⟩ := trodAll_nil r1
  obtain rfl : args = #[v0, v1] := by cases args; simp_all
  obtain ⟨rfl, rfl⟩ := trodVars_none hV
  obtain ⟨A0, c0, l0, rfl, hl0⟩ := open_acts (hval 0 40 v0 rfl rfl) h0
  have k0 := h0
  have lt0 : ∀ x ∈ p0, x.block < W.heap.size := by obtain ⟨m, hm⟩ := k0; exact DataW.trod_lt m _ _ _ hm
  obtain ⟨A1, c1, l1, rfl, hl1⟩ := open_strs (hval 1 41 v1 rfl rfl) h1
  have k1 := h1
  have lt1 : ∀ x ∈ p1, x.block < W.heap.size := by obtain ⟨m, hm⟩ := k1; exact DataW.trod_lt m _ _ _ hm
  clear hA0 hval0 hsz0 hsz
  refine (rturn_row A0 c0 l0 A1 c1 l1  W (glob_of hL hs) hl0 hl1).mono fun e W' ⟨he, bel⟩ => ?_
  subst he
  exact ⟨_, rfl, _, _, _, [], _, [], hW', trodAll_mk1 (shut_bool Tryz.underlying4 _), (trodAll_cons_mk (Below.trod laidOut (by kernel_rfl) (of_decide_eq_true (by kernel_rfl)) k0 bel lt0) (trodAll_cons_mk (Below.trod laidOut (by kernel_rfl) (of_decide_eq_true (by kernel_rfl)) k1 bel lt1) trodAll_mk0)), rfl, bel.frame _, fun h => by cases h⟩

set_option maxRecDepth 100000 in
theorem lifted (os : Os) (started : os.Started) (H : Type) (enc : TypeId × Value → H) (F : Stop.Interp) :
    ReturnsInHanded {} Tryz.checked os 5 .any ((OpenSpec.ofChange Rows.rangesTurnSpec).preRow enc Tryz.prog Tryz.f5 Rows.rangesTurnRow.domain false Rows.rangesTurnRow.laid) (((OpenSpec.ofChange Rows.rangesTurnSpec).at F).post enc Tryz.prog Tryz.f5 false true false false) := by
  obtain ⟨dsw, places, hx⟩ := reads os enc
  refine returnsInHanded_of_row (C := Tryz.checked) (s := OpenSpec.ofChange Rows.rangesTurnSpec) own started (by kernel_rfl) Tryz.func5
    (witness_row_atRef (enc := enc) (C := Tryz.checked) false (rowWorld os) #[.slice none 0 0, .slice none 0 0] rfl (by kernel_rfl) (by kernel_rfl) (by kernel_rfl)
      (OpenSpec.preRow_of_cond 8 hx (by kernel_rfl) (fun k hk => by cases hk) (by kernel_rfl) (row_met os _))) ?_
  intro W base args ds gs before hval hW _ _ hsz hL hs _
  exact contract H enc W base args ds gs before hval hW hsz hL hs

theorem said : Rows.RangesTurnSaid :=
  OpenClaim.holds_of_cond 5 Tryz.f5 rfl rfl rfl rfl rfl rfl rfl ⟨rfl, rfl, rfl, rfl, rfl⟩ rfl rfl rfl rfl rfl (by kernel_rfl) Tryz.func5 (by kernel_rfl)
    (of_decide_eq_true (by kernel_rfl)) (by unfold Func.isWrapper; first | (rw [if_pos (by decide +kernel)]; kernel_rfl) | (rw [if_neg (by decide +kernel)]; exact ⟨rfl, rfl⟩))
    (fun os started H enc _ F => by rw [OpenClaim.pre_eq_preRow]; exact lifted os started H enc F)

theorem plain (f : FuncId) (fn : Func) (hf : Tryz.pinned.checked.prog.funcNamed "cashier/cashierlaw18.RangesTurn" = some f) (hfn : Tryz.pinned.checked.prog.funcs[f]? = some fn) :
    Rows.rangesTurnCard.stood.looks = Tryz.pinned.checked.prog.looks [] ∧ ∀ (j : Nat) t, fn.params[j]? = some t → Tryz.pinned.checked.prog.wantsStandIn t = false := by
  obtain rfl : f = 5 := Option.some.inj ((show Tryz.prog.funcNamed "cashier/cashierlaw18.RangesTurn" = some 5 by kernel_rfl).symm.trans hf) |>.symm
  obtain rfl : fn = Tryz.f5 := (Option.some.inj (Tryz.func5.symm.trans hfn)).symm
  refine ⟨by kernel_rfl, fun j t ht => ?_⟩
  rw [Tryz.params5] at ht
  have hm := Array.mem_of_getElem? ht
  have hm2 : t = 40 ∨ t = 41 := by simpa using hm
  rcases hm2 with rfl | rfl
  · exact (show Tryz.prog.wantsStandIn 40 = false by kernel_rfl)
  · exact (show Tryz.prog.wantsStandIn 41 = false by kernel_rfl)

/-- The card. -/
theorem card : Rows.RangesTurnCardSaid :=
  Claim7.holds_tied_plain_at .later [] _ _ _ _ said (fun _ h => by cases h) (by kernel_rfl) (fun _ h => by cases h) rangesTurn_row_tie rfl ⟨rfl, rfl⟩ (by kernel_rfl) rfl plain (by kernel_rfl)

#print axioms card
end Go.Proofs.YtiggnmhoececfaaGreatDoor.rangesTurn
