/- cashier/cashierlaw08.PrintQuotes returns true at every input, and each argument reads behind the call as it read before. Conditions: those of its given row (the listed package-level variables read, when the call begins, as their own initialisers lay them). -/
import Derived.Test.YtfocognhcljhpaaGreatDoorP9
import Derived.Test.YtfocognhcljhpaaGreatDoorP10
namespace Go.Proofs.YtfocognhcljhpaaGreatDoor
set_option linter.unusedVariables false
set_option linter.unusedSimpArgs false
open Go.RowKit Go.Proofs.YtfocognhcljhpaaGreatDoorW.PrintWords Go.Proofs.YtfocognhcljhpaaGreatDoorW.PrintMore Go.Proofs.YtfocognhcljhpaaGreatDoor.PPrintRows Go.Proofs.YtfocognhcljhpaaGreatDoor.Tree
theorem quote_ba_size (t : Bs) : (⟨(quoteL t).toArray⟩ : ByteArray).size = (quoteL t).length := by show (quoteL t).toArray.size = _; simp
theorem quoteL_sz (t : Bs) : (quoteL t).length ≤ 6 * t.length + 2 := by
  have := flat_qc_len2 t
  unfold quoteL
  rw [List.length_cons, List.length_append]
  simp only [List.length_cons, List.length_nil]
  omega
theorem row_quote (s : ByteArray) : rowGo ⟨(quoteL s.data.toList).toArray⟩ ((⟨(quoteL s.data.toList).toArray⟩ : ByteArray).size + 1) (some []) ⟨0, [], [], false, 0⟩ = some ⟨(quoteL s.data.toList).length, [⟨5, ⟨#[]⟩, s, -1, 1⟩], [], false, 0⟩ := by
  obtain ⟨q, hq⟩ : ∃ q, (⟨(quoteL s.data.toList).toArray⟩ : ByteArray) = q := ⟨_, rfl⟩
  have hqd : q.data.toList = quoteL s.data.toList := by rw [← hq]
  have hqs : q.size = (quoteL s.data.toList).length := by rw [← hq]; exact quote_ba_size _
  rw [hq]
  have hd0 : q.data.toList.drop 0 = 34 :: (s.data.toList.flatMap qc ++ [34]) := by rw [List.drop_zero, hqd]; rfl
  have h0 : q.data.toList[0]? = some 34 := by rw [hqd]; rfl
  have sp0 : spaceP q 0 = 0 := by unfold spaceP; rw [hd0]; rfl
  have tx := text_quote (s := q) (a := 0) s.data.toList [] (by rw [List.drop_zero, hqd, List.append_nil])
  have pre : ∀ (c : UInt8) (r : Bs), c ≠ 34 → preP q 0 (c :: r) = false := fun c r hc => by
    unfold preP
    rw [hd0, List.isPrefixOf, show (c == (34 : UInt8)) = false from beq_eq_false_iff_ne.2 hc, Bool.false_and]
  have tk : ∀ c : Int, takeP q 0 c = decide ((34 : Int) = c) := fun c => by unfold takeP; rw [h0]; rfl
  have hval : valueS q ⟨([] : Bs).toArray⟩ ⟨0, [], [], false, 0⟩ = some (⟨(quoteL s.data.toList).length, [⟨5, ⟨#[]⟩, s, -1, 1⟩], [], false, 0⟩, false) := by
    unfold valueS
    rw [if_neg (by rw [pre _ _ (by decide)]; decide), if_neg (by rw [pre _ _ (by decide)]; decide), if_neg (by rw [pre _ _ (by decide)]; decide), if_neg (by rw [tk]; decide), if_neg (by rw [tk]; decide), if_pos (by rw [tk]; rfl)]
    show (match textP q 0 with | none => none | some (t, n, ln) => _) = _
    rw [tx]
    show some (addS ⟨0 + (quoteL s.data.toList).length, [], [], false || false, 0⟩ 5 ⟨([] : Bs).toArray⟩ ⟨s.data.toList.toArray⟩, false) = _
    rw [Nat.zero_add]
    rfl
  obtain ⟨f, hf⟩ : ∃ f, q.size = f + 1 := ⟨q.size - 1, by rw [hqs]; unfold quoteL; rw [List.length_cons]; omega⟩
  rw [rowGo]
  simp only [sp0, hval]
  rw [if_neg (by decide), hf, rowGo]
  simp
/-- A quoted text's row: a string alone, that text; or why there is none. -/
theorem parse_quote (s : ByteArray) (hs : s.size ≤ 600) : parseS ⟨(quoteL s.data.toList).toArray⟩ = if validL s.data.toList = true then (0, [⟨5, ⟨#[]⟩, s, -1, 1⟩]) else (9, []) := by
  have hls : s.data.toList.length = s.size := by simp
  have hql := quoteL_sz s.data.toList
  have hqv := quote_valid s.data.toList
  obtain ⟨q, hq⟩ : ∃ q, (⟨(quoteL s.data.toList).toArray⟩ : ByteArray) = q := ⟨_, rfl⟩
  have hqd : q.data.toList = quoteL s.data.toList := by rw [← hq]
  have hqs : q.size = (quoteL s.data.toList).length := by rw [← hq]; exact quote_ba_size _
  rw [hq]
  unfold parseS
  rw [if_neg (by omega), hqd, hqv]
  cases hv : validL s.data.toList with
  | false => rw [if_pos rfl, if_neg (by decide)]
  | true =>
    rw [if_neg (by decide), if_pos rfl]
    have hrow := row_quote s
    rw [hq] at hrow
    rw [hrow]
    dsimp only
    rw [spaceP_end (by rw [hqs]; exact Nat.le_refl _), if_neg (by rw [hqs]; simp), if_neg (by decide)]
    have hlim : limitsV [⟨5, ⟨#[]⟩, s, -1, 1⟩] ((0 : Nat) : Int) = 0 := by
      unfold limitsV
      rw [if_neg (by decide), if_neg (by simp), if_neg]
      unfold twGo
      rw [if_pos (.inl (show (-1 : Int) < 0 by decide))]
      simp [twGo]
    rw [if_neg (by rw [hlim]; decide)]
theorem max2_is (a b : Int) : ∃ M : Int, (∀ ats ty, Builtin.max_ ats ty #[.int .i64 a, .int .i64 b] = pure (.int .i64 M)) ∧ (300 < M ↔ 300 < a ∨ 300 < b) := by
  refine ⟨_, fun ats ty => by rw [max_two, max2_int, pure_bind], ?_⟩
  split <;> omega
set_option maxRecDepth 100000 in
set_option maxHeartbeats 4000000 in
theorem printQuotes_row (s t : ByteArray) (hs : s.size ≤ 140737488351232) (ht : t.size ≤ 140737488351232) (W : World) (hg : Glob W) :
    Calls Tryz.prog 6 #[.string s, .string t] W fun e w' => e = .returned (.bool true) ∧ Below W.heap.size W w' := by
  obtain ⟨M, hM, hiff⟩ := max2_is s.size t.size
  have HG := Lib.hid hg
  clear hg
  by_cases hlong : 300 < M
  · have k1 : decide (300 < M) = true := decide_eq_true hlong
    clear hiff
    go_enter Tryz.func6, Tryz.ntmps6
    go_wp2_with (go_at_call 11; go_must (refine (awake08_in _).mono ?_); rintro e w0 ⟨rfl, hb⟩; have B0 := Lib.hid hb; clear hb)
    go_ret
    exact ⟨rfl, B0.out⟩
  · have k1 : decide (300 < M) = false := decide_eq_false hlong
    have hs3 : s.size ≤ 300 := by
      rcases Nat.lt_or_ge 300 s.size with h | h
      · exact absurd (hiff.2 (.inl (by omega))) hlong
      · exact h
    have ht3 : t.size ≤ 300 := by
      rcases Nat.lt_or_ge 300 t.size with h | h
      · exact absurd (hiff.2 (.inr (by omega))) hlong
      · exact h
    clear hiff hlong
    have PQ := parse_quote s (by omega)
    have hls : s.data.toList.length = s.size := by simp
    have hql := quoteL_sz s.data.toList
    have hqz := quote_ba_size s.data.toList
    have QS := Lib.hid (fun W => quote_any s (by omega) W)
    have QT := Lib.hid (fun W => quote_any t (by omega) W)
    obtain ⟨q, hq⟩ : ∃ q, (⟨(quoteL s.data.toList).toArray⟩ : ByteArray) = q := ⟨_, rfl⟩
    obtain ⟨r, hr⟩ : ∃ r, (⟨(quoteL t.data.toList).toArray⟩ : ByteArray) = r := ⟨_, rfl⟩
    have heq : (q == r) = (s == t) := by
      rw [Bool.eq_iff_iff, ba_beq, ba_beq]
      constructor
      · intro h
        have h2 : quoteL s.data.toList = quoteL t.data.toList := by
          have := congrArg (fun x : ByteArray => x.data.toList) ((hq.trans h).trans hr.symm)
          simpa using this
        exact ByteArray.ext (Array.toList_inj.1 (quote_inj h2))
      · intro h
        rw [← hq, ← hr, h]
    rw [hq] at PQ QS hqz
    rw [hr] at QT
    have heqL : ((q.toList == r.toList) == (s.toList == t.toList)) = true := by
      rw [← beq_toListBytes, ← beq_toListBytes, heq]
      simp
    clear heq
    have hno : ∀ x, rowGo q (q.size + 1) (some []) ⟨0, [], [], false, 0⟩ = some x → x.l.length ≤ 400000 ∧ ∀ n ∈ x.l, NodeOk x.l.length n := fun x hx => by
      have h1 := row_quote s
      rw [hq, hx] at h1
      rw [Option.some.inj h1]
      refine ⟨show (1 : Nat) ≤ 400000 by decide, fun n hn => ?_⟩
      obtain rfl := List.mem_singleton.1 hn
      exact ⟨show (-1 : Int) < ((1 : Nat) : Int) by decide, show (-9223372036854775808 : Int) ≤ -1 by decide, show (0 : Nat) ≤ 1000000000 by decide, show s.size ≤ 1000000000 by omega⟩
    have PA := Lib.hid (fun W hL => parse_p (s := q) (numOk_any q (by omega)) (by omega) hno W hL)
    rw [PQ] at PA
    clear PQ hno hql hqz hls hq hr
    have CK := Lib.hid (fun g W h => check7_1 g s (by omega) W h)
    cases hv : validL s.data.toList with
    | false =>
      rw [if_neg (by rw [hv]; decide)] at PA CK
      clear hv
      go_enter Tryz.func6, Tryz.ntmps6
      go_wp2_with (first | (go_at_call 11; go_must (refine (awake08_in _).mono ?_); rintro e w0 ⟨rfl, hb⟩; have BB := Lib.hid hb; clear hb) | (go_at_call 15; first | ((with_reducible refine (QS.out _).mono ?_); rintro e w1 ⟨rfl, hb⟩; have BB := Lib.hid (below_step BB.out hb); clear hb) | ((with_reducible refine (QT.out _).mono ?_); rintro e w1 ⟨rfl, hb⟩; have BB := Lib.hid (below_step BB.out hb); clear hb)) | (go_at_call 24; go_must (refine (PA.out _ (low_at q _ (HG.out.below BB.out))).mono ?_); rintro e w2 ⟨v, rfl, hR, hb⟩; have BB := Lib.hid (below_step BB.out hb); clear hb hR) | (go_at_call 17; go_must (refine (CK.out _ _ (blk_new _ _)).mono ?_); rintro e w3 ⟨rfl, hb⟩; have BX := below_step (below_alloc (Below.refl _ _) _) hb; have BB := Lib.hid (below_step BB.out BX); clear hb BX))
      go_ret
      exact ⟨rfl, BB.out⟩
    | true =>
      rw [if_pos hv] at PA CK
      clear hv
      go_enter Tryz.func6, Tryz.ntmps6
      go_wp2_with (first | (go_at_call 11; go_must (refine (awake08_in _).mono ?_); rintro e w0 ⟨rfl, hb⟩; have BB := Lib.hid hb; clear hb) | (go_at_call 15; first | ((with_reducible refine (QS.out _).mono ?_); rintro e w1 ⟨rfl, hb⟩; have BB := Lib.hid (below_step BB.out hb); clear hb) | ((with_reducible refine (QT.out _).mono ?_); rintro e w1 ⟨rfl, hb⟩; have BB := Lib.hid (below_step BB.out hb); clear hb)) | (go_at_call 24; go_must (refine (PA.out _ (low_at q _ (HG.out.below BB.out))).mono ?_); rintro e w2 ⟨v, rfl, hR, hb⟩; obtain ⟨A, c, rfl, hc⟩ := hR.slice; obtain ⟨ad, rfl, d0, _, d2, _⟩ := node_at (hR.C (show (1 : Nat) ≤ 900000 by decide)) 0 (show 0 < 1 by decide); rw [show ad.add (0 * 5) = ad by rw [Nat.zero_mul]; rfl] at d0 d2; have d0 : w2.cell? ad = some (.int .i64 5) := d0; have d2 : w2.cell? ⟨ad.block, ad.off + 2, none⟩ = some (.string s) := d2; have BB := Lib.hid (below_step BB.out hb); clear hb hR) | (go_at_call 17; go_must (refine (CK.out _ _ (blk_new _ _)).mono ?_); rintro e w3 ⟨rfl, hb⟩; have BX := below_step (below_alloc (Below.refl _ _) _) hb; have BB := Lib.hid (below_step BB.out BX); have d0 := cellBelow BX d0; have d2 := cellBelow BX d2; clear hb BX))
      go_ret
      exact ⟨rfl, BB.out⟩
end Go.Proofs.YtfocognhcljhpaaGreatDoor
namespace Go.Proofs.YtfocognhcljhpaaGreatDoor.printQuotes
set_option linter.unusedVariables false
set_option linter.unusedSimpArgs false
open Go.ChangeShapes Go.WideShapes Go.ChangeAt Go.RowKit
open Go.ChangeMaps (open_string shut_string)
theorem reads (os : Os) {H : Type} (enc : TypeId × Value → H) : ∃ ds places, DataW.whole enc Tryz.prog ((rowWorld os).forCall (fun _ _ => 0) ⟨#[], #[.string ByteArray.empty, .string ByteArray.empty], []⟩).memory Tryz.f6.params.toList Rows.printQuotesSpec.vars false (#[.string ByteArray.empty, .string ByteArray.empty] : Array Value).toList 8 = some (ds, [], places) :=
  ⟨[.lit (.string []), .lit (.string [])], [], by kernel_rfl⟩
set_option maxRecDepth 100000 in
theorem contract (H : Type) (enc : TypeId × Value → H) (W : World) (base : Nat) (args : Array Value) (ds gs : List (DataW H)) (before : List MemPlace)
    (hval0 : ∀ (j : Nat) t v, Tryz.f6.params[j]? = some t → args[j]? = some v → Value.okWide Tryz.prog W .any base t v)
    (hW : DataW.Whole enc Tryz.prog Tryz.f6.params.toList Rows.printQuotesSpec.vars false W args.toList ds gs before)
    (hsz0 : (DataW.weightsEach Tryz.prog (Tryz.f6.params.toList ++ Rows.printQuotesSpec.plain.varTypes Tryz.prog) (ds ++ gs)).all (· ≤ reachBytes) = true)
    (hL : laidMetH Tryz.prog laidL W) (hs : W.ShapedOpen Tryz.prog) :
    Calls Tryz.prog 6 args W fun e W' => ∃ v, e = .returned v ∧ Rows.printQuotesSpec.post enc Tryz.prog Tryz.f6 false true false false W args v W' := by
  have hval := hval0
  have hsz := hsz0
  have hW' := hW
  obtain ⟨p, q, hA0, hV, rfl, hfz, hnd⟩ := hW
  have hA : DataW.TrodAll enc Tryz.prog W 0 (fun _ => true) true Tryz.f6.params.toList args.toList ds p := hA0
  rw [Tryz.params6] at hA hval hsz
  obtain ⟨v0, vs0, d0, ds0, p0, q0, hargs, rfl, rfl, h0, r0⟩ := trodAll_cons hA
  obtain ⟨v1, vs1, d1, ds1, p1, q1, rfl, rfl, rfl, h1, r1⟩ := trodAll_cons r0
  obtain ⟨rfl, rfl, rfl⟩ := trodAll_nil r1
  obtain rfl : args = #[v0, v1] := by cases args; simp_all
  obtain ⟨rfl, rfl⟩ := trodVars_none hV
  obtain ⟨a0, rfl, rfl, rfl, y0⟩ := open_string Tryz.underlying9 (hval 0 9 v0 rfl rfl) h0
  have w0 : a0.size ≤ 140737488351232 := by
    have z := sized_string hsz (j := 0) (t := 9) rfl rfl
    rw [Array.length_toList] at z
    exact z
  obtain ⟨a1, rfl, rfl, rfl, y1⟩ := open_string Tryz.underlying9 (hval 1 9 v1 rfl rfl) h1
  have w1 : a1.size ≤ 140737488351232 := by
    have z := sized_string hsz (j := 1) (t := 9) rfl rfl
    rw [Array.length_toList] at z
    exact z
  clear hA0 hval0 hsz0 hsz
  refine (printQuotes_row a0 a1 w0 w1 W (glob_of hL)).mono fun e W' ⟨he, bel⟩ => ?_
  subst he
  exact ⟨_, rfl, _, _, _, [], _, [], hW', trodAll_mk1 (shut_bool Tryz.underlying4 _), (trodAll_cons_mk (shut_string Tryz.underlying9 y0) (trodAll_cons_mk (shut_string Tryz.underlying9 y1) trodAll_mk0)), rfl, bel.frame _, fun h => by cases h⟩
set_option maxRecDepth 100000 in
theorem lifted (os : Os) (started : os.Started) (H : Type) (enc : TypeId × Value → H) (F : Stop.Interp) :
    ReturnsInHanded {} Tryz.checked os 6 .any ((OpenSpec.ofChange Rows.printQuotesSpec).preRow enc Tryz.prog Tryz.f6 Rows.printQuotesRow.domain false Rows.printQuotesRow.laid) (((OpenSpec.ofChange Rows.printQuotesSpec).at F).post enc Tryz.prog Tryz.f6 false true false false) := by
  obtain ⟨dsw, places, hx⟩ := reads os enc
  refine returnsInHanded_of_row (C := Tryz.checked) (s := OpenSpec.ofChange Rows.printQuotesSpec) own started (by kernel_rfl) Tryz.func6
    (witness_row_atRef (enc := enc) (C := Tryz.checked) false (rowWorld os) #[.string ByteArray.empty, .string ByteArray.empty] (World.laidAll_os _ _ _) (by kernel_rfl) (by kernel_rfl) (by kernel_rfl)
      (OpenSpec.preRow_of_cond 8 hx (by kernel_rfl) (fun k hk => by cases hk) (by kernel_rfl) (row_met os _))) ?_
  intro W base args ds gs before hval hW _ _ hsz hL hs _
  exact contract H enc W base args ds gs before hval hW hsz hL hs
theorem said : Rows.PrintQuotesSaid :=
  OpenClaim.holds_of_cond 6 Tryz.f6 rfl rfl rfl rfl rfl rfl rfl ⟨rfl, rfl, rfl, rfl, rfl⟩ rfl rfl rfl rfl rfl (by kernel_rfl) Tryz.func6 (by kernel_rfl)
    (of_decide_eq_true (by kernel_rfl)) (by unfold Func.isWrapper; first | (rw [if_pos (by decide +kernel)]; kernel_rfl) | (rw [if_neg (by decide +kernel)]; exact ⟨rfl, rfl⟩))
    (fun os started H enc _ F => by rw [OpenClaim.pre_eq_preRow]; exact lifted os started H enc F)
theorem plain (f : FuncId) (fn : Func) (hf : Tryz.pinned.checked.prog.funcNamed "cashier/cashierlaw08.PrintQuotes" = some f) (hfn : Tryz.pinned.checked.prog.funcs[f]? = some fn) :
    Rows.printQuotesCard.stood.looks = Tryz.pinned.checked.prog.looks [] ∧ ∀ (j : Nat) t, fn.params[j]? = some t → Tryz.pinned.checked.prog.wantsStandIn t = false := by
  obtain rfl : f = 6 := Option.some.inj ((show Tryz.prog.funcNamed "cashier/cashierlaw08.PrintQuotes" = some 6 by kernel_rfl).symm.trans hf) |>.symm
  obtain rfl : fn = Tryz.f6 := (Option.some.inj (Tryz.func6.symm.trans hfn)).symm
  refine ⟨by kernel_rfl, fun j t ht => ?_⟩
  rw [Tryz.params6] at ht
  have hm := Array.mem_of_getElem? ht
  have hm2 : t = 9 := by simpa using hm
  rcases hm2 with rfl
  · exact (show Tryz.prog.wantsStandIn 9 = false by kernel_rfl)
/-- The card. -/
theorem card : Rows.PrintQuotesCardSaid :=
  Claim7.holds_tied_plain_at .later [] _ _ _ _ said (fun _ h => by cases h) (by kernel_rfl) (fun _ h => by cases h) printQuotes_row_tie rfl ⟨rfl, rfl⟩ (by kernel_rfl) rfl plain (by kernel_rfl)
#print axioms card
end Go.Proofs.YtfocognhcljhpaaGreatDoor.printQuotes
