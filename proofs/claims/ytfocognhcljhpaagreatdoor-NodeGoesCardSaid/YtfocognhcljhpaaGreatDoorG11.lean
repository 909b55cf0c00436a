/- cashierlaw09.NodeGoes returns true at every row in memory, at every place, path and number. -/
import Derived.Test.YtfocognhcljhpaaGreatDoorG9
import Derived.Test.YtfocognhcljhpaaGreatDoorG10

namespace Go.Proofs.YtfocognhcljhpaaGreatDoor
set_option linter.unusedVariables false
set_option linter.unusedSimpArgs false
open Go.RowKit Go.Shelf Go.Proofs.YtfocognhcljhpaaGreatDoorW.PrintWords Go.Proofs.YtfocognhcljhpaaGreatDoorW.PrintLast Go.Proofs.YtfocognhcljhpaaGreatDoorW.PrintMore Go.Proofs.YtfocognhcljhpaaGreatDoor.PPrintRows Go.Proofs.YtfocognhcljhpaaGreatDoor.Tree
attribute [local go_sem] Oper.semAt_some

theorem results_bool {fn : Func} {p : Tmp} {ty : TypeId} {P : Program} (h : fn.results = #[.cell p ty]) (tmps : Array Value) (w : World) (g : Nat) (b : Bool)
    (hp : tmps.getD p undef = .pointer (some ⟨g, 0, none⟩)) (hg : w.cell? ⟨g, 0, none⟩ = some (.bool b)) (hu : P.underlying ty = some .bool) :
    (results fn tmps).run P w = .ok (.bool b) w := by
  have hp' : tmps[p]?.getD undef = .pointer (some ⟨g, 0, none⟩) := by simpa using hp
  have hagg : (isAgg ty).run P w = .ok false w := by
    unfold isAgg
    rw [Sem.run_bind, run_underlying hu w]
    rfl
  simp [results, h, hp', asAddr, loadVar, Sem.run_bind, Result.andThen, hagg, hg]

theorem headD_get : ∀ (p : List ByteArray) (h : 0 < p.length), p[0] = p.headD ⟨#[]⟩
  | a :: xs, _ => rfl
theorem headD_none : ∀ (p : List ByteArray) (h : ¬ 0 < p.length), p.headD ⟨#[]⟩ = ⟨#[]⟩
  | [], _ => rfl
  | a :: xs, h => absurd (Nat.succ_pos _) h

/-- A step's end in a form that hangs on no case. -/
theorem cut_seq {F : Fence} {n : Nat} {P : Program} {c d : Code} {Q : Exit → Act → World → Prop} {a : Act} {w : World} (R : Act → World → Prop)
    (h : Hid (c.wpIn F n P (fun e a' w' => e = .normal ∧ R a' w') a w)) (k : Hid (∀ a' w', R a' w' → d.wpIn F n P Q a' w')) : (Code.seq c d).wpIn F n P Q a w :=
  wpIn_seq (wpIn_mono h.out (fun e a' w' h => by obtain ⟨rfl, h⟩ := h; exact k.out a' w' h))

/-- The places that are laid aside, behind a world Y0. -/
structure GI (Y0 : World) (B : Nat) (pre : List Nat) (v : Value) (X : World) : Prop where
  chg : Chg (fun k => k = B) Y0 X
  box : X.heap[B]? = some (.cells #[v] 71 (0, 0))
  own : OpenAt X Y0.heap.size v pre.reverse
theorem Chg.gro {S : Nat → Prop} {Y0 X Y : World} {row : Option Nat} (h : Chg S Y0 X) (hg : X.grownBy Y row) (hr : ∀ r, row = some r → Y0.heap.size ≤ r) : Chg S Y0 Y :=
  ⟨hg.os.trans h.os, hg.tape.trans h.tape, hg.output.trans h.output, Nat.le_trans h.size hg.size, fun k hl hs => (hg.block k (Nat.lt_of_lt_of_le hl h.size) (fun e => by have := hr k e.symm; omega)).trans (h.block k hl hs)⟩
theorem GI.grown {Y0 : World} {B : Nat} {pre : List Nat} {v : Value} {X Y : World} {row : Option Nat} (h : GI Y0 B pre v X) (hg : X.grownBy Y row) (hr : ∀ r, row = some r → Y0.heap.size ≤ r ∧ ∃ o : Obj, X.heap[r]? = some o ∧ o.isCells = false) : GI Y0 B pre v Y := by
  have hk : ∀ (k : Nat) cs T, X.heap[k]? = some (Obj.cells cs T (0, 0)) → Y.heap[k]? = some (Obj.cells cs T (0, 0)) := fun k cs T hk => (hg.block k (blk_lt hk) (fun e => by
    obtain ⟨_, o, ho, hc⟩ := hr k e.symm
    rw [hk] at ho; cases ho; cases hc)).trans hk
  exact ⟨h.chg.gro hg (fun r e => (hr r e).1), hk _ _ _ h.box, open_of (own_keep (open_own h.own) (fun k e => by obtain ⟨_, cs, e2⟩ := own_int (open_own h.own) k e; rw [e2]; exact hk _ _ _ e2))⟩

set_option maxRecDepth 100000 in
set_option maxHeartbeats 4000000 in
theorem nodeGoes_ok (A : Option Addr) (c : Nat) (t : Tr) (ht : TreeOk t) (l : List Node) (hlt : l = rowT t) (W : World) (hc : l.length ≤ c) (hlen : l.length ≤ 300) (htx : ∀ n ∈ l, n.f1.size ≤ 200 ∧ n.f2.size ≤ 200) (hC : Kd.C kN W A l.length l) (hA : ∀ a, A = some a → a.block < W.heap.size)
    (hlv : lightV l = true) (hcv : chkP l = 0) (i : Int) (Ap : Option Addr) (cp : Nat) (path : List ByteArray) (hpl : path.length ≤ 6) (hP : TextsAt W Ap path) (st : Nat) (hst : st < 256) :
    Calls Tryz.prog 10 #[.slice A l.length c, .int .i64 i, .slice Ap path.length cp, .int .u8 (st : Int)] W fun e w' => e = .returned (.bool true) ∧ Below W.heap.size W w' := by
  have HLI := Lib.hid (fun w (h : Below W.heap.size W w) => light_any A c l (by omega) hc w (Kd.C_below hC h))
  have HCK := Lib.hid (fun w (h : Below W.heap.size W w) => chk_any A c l hc (by omega) (fun n hn => ⟨by have := (htx n hn).1; omega, by have := (htx n hn).2; omega⟩) w (Kd.C_below hC h))
  rw [hlv] at HLI
  rw [hcv] at HCK
  have hmono : ∀ (k : Nat) (h : k < l.length), (k : Int) < l[k].f4 ∧ l[k].f4 ≤ l.length := by subst hlt; exact fun k h => ⟨(rowT_at t k h).1, (rowT_at t k h).2.1⟩
  have HM := Lib.hid hmono
  have HC := Lib.hid hC
  have HA := Lib.hid hA
  have HP := Lib.hid hP
  have HLT := Lib.hid hlt
  have TO := Lib.hid (fun w (h : Below W.heap.size W w) => to_any A c l (by omega) w (Kd.C_below hC h))
  obtain ⟨Wa, hWa⟩ : ∃ Wa, ((W.alloc (.cells #[.slice A l.length c] 22)).alloc (.cells #[.int .u8 (st : Int)] 5)).alloc (.cells #[.bool false] 4) = Wa := ⟨_, rfl⟩
  have hba : Below W.heap.size W Wa := by rw [← hWa]; exact allocs_below W [.cells #[.slice A l.length c] 22, .cells #[.int .u8 (st : Int)] 5, .cells #[.bool false] 4]
  have a0 : Wa.heap[W.heap.size]? = some (.cells #[.slice A l.length c] 22 (0, 0)) := by rw [← hWa]; exact allocs_get W [.cells #[.slice A l.length c] 22, .cells #[.int .u8 (st : Int)] 5, .cells #[.bool false] 4] 0 _ rfl
  have a1 : Wa.heap[W.heap.size + 1]? = some (.cells #[.int .u8 (st : Int)] 5 (0, 0)) := by rw [← hWa]; exact allocs_get W [.cells #[.slice A l.length c] 22, .cells #[.int .u8 (st : Int)] 5, .cells #[.bool false] 4] 1 _ rfl
  have a2 : Wa.heap[W.heap.size + 2]? = some (.cells #[.bool false] 4 (0, 0)) := by rw [← hWa]; exact allocs_get W [.cells #[.slice A l.length c] 22, .cells #[.int .u8 (st : Int)] 5, .cells #[.bool false] 4] 2 _ rfl
  have hsa : Wa.heap.size = W.heap.size + 3 := by rw [← hWa]; simp
  have BA := Lib.hid hba
  have HWa := Lib.hid hWa
  have BOX := Lib.hid (show ∀ w, Below Wa.heap.size Wa w → w.heap[W.heap.size]? = some (.cells #[.slice A l.length c] 22 (0, 0)) ∧ w.heap[W.heap.size + 1]? = some (.cells #[.int .u8 (st : Int)] 5 (0, 0)) ∧ w.heap[W.heap.size + 2]? = some (.cells #[.bool false] 4 (0, 0)) from
    fun w h => ⟨(h.block _ (by omega)).trans a0, (h.block _ (by omega)).trans a1, (h.block _ (by omega)).trans a2⟩)
  have kp : decide ((6 : Int) < (path.length : Int)) = false := decide_eq_false (by omega)
  have kp2 : ¬ 6 < path.length := by omega
  clear hlv hcv hC htx hmono hlt hA hP hWa hba a0 a1 a2
  refine (callsIn_wide (n := 10)).1 ?_
  refine callsIn_of_wp_marks Tryz.func10 rfl trivial ?_ rfl
  simp only [Tryz.ntmps10, List.size_toArray, List.length_cons, List.length_nil, Nat.reduceAdd, Nat.reduceSub, Array.replicate_succ, Array.replicate_zero, List.push_toArray, List.append_toArray, List.nil_append, List.cons_append]
  gi_wp2_with (first | (refine ⟨trivial, ?_⟩; gi_at_call 26; go_must (refine ((callsIn_wide (n := 9)).2 (awake09_in _)).mono ?_); rintro e w1 ⟨rfl, hb⟩; rw [HWa.out] at hb; have c1 : w1.cell? ⟨W.heap.size, 0, none⟩ = some (.slice A l.length c) := blkc (BOX.out w1 hb).1 0 rfl; have B1 := Lib.hid hb; clear hb) | (refine ⟨trivial, ?_⟩; gi_at_call 12; go_must (refine ((callsIn_wide (n := 9)).2 (HLI.out _ (below_step BA.out B1.out))).mono ?_); rintro e w2 ⟨rfl, hb⟩; have c2 : w2.cell? ⟨W.heap.size, 0, none⟩ = some (.slice A l.length c) := blkc (BOX.out w2 (below_step B1.out hb)).1 0 rfl; have B2 := Lib.hid (below_step B1.out hb); clear hb) | (refine ⟨trivial, ?_⟩; gi_at_call 21; go_must (refine ((callsIn_wide (n := 9)).2 (HCK.out _ (below_step BA.out B2.out))).mono ?_); rintro e w3 ⟨rfl, hb⟩; have c3 : w3.cell? ⟨W.heap.size, 0, none⟩ = some (.slice A l.length c) := blkc (BOX.out w3 (below_step B2.out hb)).1 0 rfl; have B3 := Lib.hid (below_step B2.out hb); clear hb) | (refine ⟨trivial, ?_⟩; gi_at_call 18; go_must (refine ((callsIn_wide (n := 9)).2 (TO.out _ (below_step BA.out B3.out))).mono ?_); rintro e w4 ⟨v7, rfl, hR7, hb⟩; obtain ⟨A7, c7, rfl, hc7⟩ := hR7.slice; have c4 : (w4.alloc (.cells #[.slice none 0 0] 71)).cell? ⟨W.heap.size, 0, none⟩ = some (.slice A l.length c) := cellBelow (below_alloc (Below.refl _ _) _) (blkc (BOX.out w4 (below_step B3.out hb)).1 0 rfl); have B4 := Lib.hid (below_step B3.out hb); have R7 := Lib.hid hR7; clear hb hR7) | (refine ⟨trivial, ?_⟩; gi_at_call 35; go_must (refine ((callsIn_wide (n := 9)).2 (items_any _ _ _ _ _)).mono ?_); rintro e' w5 ⟨rfl, hw5⟩; have HW5 := Lib.hid hw5; clear hw5))
  have hw5 := HW5.out
  have g1 : w5.heap[w4.heap.size + 1]? = some (.cells #[.slice A l.length c] 22 (0, 0)) := by rw [hw5]; exact allocs_get w4 [.cells #[.slice none 0 0] 71, .cells #[.slice A l.length c] 22, .cells #[.int .i64 i] 3] 1 _ rfl
  have g2 : w5.heap[w4.heap.size + 1 + 1]? = some (.cells #[.int .i64 i] 3 (0, 0)) := by rw [hw5]; exact allocs_get w4 [.cells #[.slice none 0 0] 71, .cells #[.slice A l.length c] 22, .cells #[.int .i64 i] 3] 2 _ rfl
  have g0 : w5.heap[w4.heap.size]? = some (.cells #[.slice none 0 0] 71 (0, 0)) := by rw [hw5]; exact allocs_get w4 [.cells #[.slice none 0 0] 71, .cells #[.slice A l.length c] 22, .cells #[.int .i64 i] 3] 0 _ rfl
  have hb5 : Below w4.heap.size w4 w5 := by rw [hw5]; exact allocs_below w4 [.cells #[.slice none 0 0] 71, .cells #[.slice A l.length c] 22, .cells #[.int .i64 i] 3]
  have hsz5 : w5.heap.size = w4.heap.size + 3 := by rw [hw5]; simp
  have hw4s : Wa.heap.size ≤ w4.heap.size := B4.out.size
  have hmo : Tryz.prog.follows .mixedOrders = true := by kernel_rfl
  have HSQ := Lib.hid (seq_itemsI 8 (w4.heap.size + 1 + 1) (w4.heap.size + 1) A c l i (by omega) hc HM.out w5 g2 g1 (Kd.C_below HC.out (below_step (below_step BA.out B4.out) hb5)))
  have HI0 : Hid (∃ v, GI w5 w4.heap.size [] v w5) := Lib.hid ⟨_, Chg.refl _ _, g0, open_of (World.ownsRow_nil _ _ _ _)⟩
  have HB5 := Lib.hid hb5
  clear hw5 HW5 g0 g1 g2 hb5 c1 c2 c3 c4
  refine range_b (by omega) (gf := 72) (lb := #[.pointer (some ⟨w4.heap.size + 1, 0, none⟩), .pointer (some ⟨w4.heap.size + 1 + 1, 0, none⟩)]) rfl (enters_of Tryz.func72 (by kernel_rfl) rfl)
    HSQ.out (Below.refl _ _) (fun h k => h.trans k) (fun Z l' o o' h1 h2 ho hc' => KpS.putObj (fun hS => by
      rcases hS with h | h | ⟨a, e, h⟩
      · omega
      · omega
      · have := HA.out a e; omega)) (fun Z Y (h : Y = Z) k o _ _ ho => by rw [h]; exact ho) (fun _ => rfl)
    (fun pre Z => ∃ v, GI w5 w4.heap.size pre v Z) (fun _ _ _ => False)
    (fun s Z Y row hs hg hr => by obtain ⟨v, h⟩ := hs; exact ⟨v, h.grown hg hr⟩)
    (fun _ _ _ _ _ hs _ _ => hs) (fun s Z Y h (k : Y = Z) => k ▸ h) (fun _ _ _ _ h _ => h) HI0.out
    (fun x a' Z => a' = { tmps := #[.slice A l.length c, .int .i64 i, .slice Ap path.length cp, .int .u8 (st : Int), .pointer (some ⟨W.heap.size, 0, none⟩), undef, undef, .pointer (some ⟨W.heap.size + 1, 0, none⟩), .pointer (some ⟨W.heap.size + 1 + 1, 0, none⟩), .slice A7 l.length c7, .pointer (some ⟨w4.heap.size, 0, none⟩), .int .i64 (x : Int), undef, undef, undef, undef, undef, undef, undef, undef, undef, undef, undef, undef, undef, undef, undef, .bool true, .bool false, .slice A l.length c, .bool true, .bool false, .bool false, .slice A l.length c, .int .i64 0, .bool false, .bool false, .bool false, .slice Ap path.length cp, .int .i64 (path.length : Int), .bool false, .bool false, .slice A l.length c, .slice A7 l.length c7, .slice A l.length c, .int .i64 i, .func (.func 72) #[] #[.pointer (some ⟨w4.heap.size + 1, 0, none⟩), .pointer (some ⟨w4.heap.size + 1 + 1, 0, none⟩)], .int .i64 (x : Int), undef, undef, undef, undef, undef, undef, undef, undef, undef, undef, undef, undef, undef, undef, undef, undef, undef, undef, undef, undef, undef, undef, undef, undef, undef, undef, undef, undef, undef, undef, undef, undef, undef, undef, undef, undef, undef, undef, undef, undef, undef, undef, undef, undef, undef, undef, undef, undef, undef, undef, undef, undef, undef, undef, undef, undef, undef, undef, undef, undef, undef, undef, undef, undef, undef, undef, undef, undef, undef, undef, undef, undef, undef, undef, undef, undef, undef, undef, undef, undef, undef, undef, undef, undef, undef, undef, undef, undef, undef, undef, undef, undef, undef, undef, undef, undef, undef, undef, undef, undef, undef, undef, undef, undef, undef, undef, undef, undef, undef, undef, undef, undef, undef, undef, undef, undef, undef, undef, undef, undef, undef, undef, undef, undef, undef, undef, undef, undef, undef, undef, undef, undef, undef, undef, undef, undef, undef, undef, undef, undef, undef, undef, undef, undef, undef, undef, undef, undef, undef, undef, undef, undef, undef, undef, undef, undef, undef, undef, undef, undef, undef, undef, undef, undef, undef, undef, undef, undef, undef, undef, undef, undef, undef, undef, undef, undef, undef, undef, undef, undef], defers := [] })
    (fun x a' s Z Y row hs hg hr => hs) ?assign ?body ?done ?stop
  case assign =>
    rintro lq pre x Z K hI hK
    have e1 : (intEnc x) = #[.int .i64 (x : Int)] := rfl
    rw [e1]
    have HI := Lib.hid hI
    clear e1 hI
    gi_wp2
    exact hK _ _ (KeepsFrom.refl _ _) (KpS.refl _ _) HI.out rfl
  case body =>
    rintro lq pre x a' Z hlq ⟨r, hr⟩ ⟨v, h3, h1, h2⟩ rfl hT
    have hlen2 : pre.length ≤ 300 := by
      have h1 := hT.length_le
      have h2 : (itemsI l i).length ≤ l.length := by unfold itemsI; split <;> simp [itemsL_len]
      rw [List.length_append] at h1
      simp at h1
      omega
    have hsz := h3.size
    obtain ⟨v', w2, hr1, hO, hg, hown⟩ := int_append h2 x (by rw [List.length_reverse]; omega) hsz
    obtain ⟨A', c', hv'⟩ := open_len hO
    generalize (x :: pre.reverse).length = n' at hv'
    subst hv'
    have c0 : Z.cell? ⟨w4.heap.size, 0, none⟩ = some v := blkc h1 0 rfl
    have hne : v.ownBlock ≠ some w4.heap.size := fun e => by
      obtain ⟨_, cells, hc⟩ := own_int (open_own h2) _ e
      rw [h1] at hc
      injection hc with hc
      injection hc with _ hc
      cases hc
    have hx2 : w2.heap[w4.heap.size]? = some (.cells #[v] 71 (0, 0)) := (hg.block _ (by simp; omega) (fun e => hne e.symm)).trans (blk_alloc h1 _)
    have q0 : w2.cell? ⟨w4.heap.size, 0, none⟩ = some v := blkc hx2 0 rfl
    have qf := blk_frozen hx2 0
    have HX2 := Lib.hid hx2
    have HO := Lib.hid hO
    have HG := Lib.hid hg
    have HOW := Lib.hid hown
    have H1 := Lib.hid h1
    have H2 := Lib.hid h2
    have H3 := Lib.hid h3
    clear hT hr h1 h2 h3 hx2 hO hg hown
    gi_wp2_with (gi_at_builtin; refine wpListIn_append_runI _ rfl _ _ 71 71 rfl _ _ rfl rfl hr1 ?_)
    have hty := own_int (open_own H2.out)
    have hty2 := own_int (open_own HO.out)
    have hx3 : (w2.setCell ⟨w4.heap.size, 0, none⟩ (.slice A' n' c')).heap[w4.heap.size]? = some (.cells #[.slice A' n' c'] 71 (0, 0)) := by
      simp [World.setCell, Array.getElem?_modify, HX2.out]
    have hoth : ∀ k, k < Z.heap.size → v.ownBlock ≠ some k → k ≠ w4.heap.size → (w2.setCell ⟨w4.heap.size, 0, none⟩ (.slice A' n' c')).heap[k]? = Z.heap[k]? := fun k hk hv hw =>
      (Below.heap_setCell _ _ _ _ hw).trans ((HG.out.block k (by simp; omega) (fun e => hv e.symm)).trans ((below_alloc (Below.refl _ _) _).block k hk))
    have hsz2 := HG.out.size
    simp only [World.size_alloc] at hsz2
    have hZ := H3.out.size
    have hlow : ∀ k, k < w5.heap.size → k ≠ w4.heap.size → (w2.setCell ⟨w4.heap.size, 0, none⟩ (.slice A' n' c')).heap[k]? = Z.heap[k]? := fun k hk hn => hoth k (by omega) (fun e => by have := (hty k e).1; omega) hn
    refine ⟨⟨by simp [World.setCell]; omega, fun k o hk ho hc => (hoth k (blk_lt ho) (fun e => ?_) (fun e => ?_)).trans ho⟩, ⟨by simp [World.setCell]; omega, fun k hk => ?_⟩, _, ⟨HG.out.os.trans H3.out.os, HG.out.tape.trans H3.out.tape, HG.out.output.trans H3.out.output, by simp [World.setCell]; omega, fun k hk hn => (hlow k hk hn).trans (H3.out.block k hk hn)⟩, hx3, ?_⟩
    · obtain ⟨_, cells, h⟩ := hty k e
      rw [ho] at h
      cases h
      cases hc
    · rw [e, H1.out] at ho
      cases ho
      cases hc
    · rcases hk with rfl | rfl | ⟨a, ha, rfl⟩
      · exact hlow _ (by omega) (by omega)
      · exact hlow _ (by omega) (by omega)
      · have := HA.out a ha
        exact hlow _ (by omega) (by omega)
    · rw [List.reverse_append]
      exact HO.out.keep (fun k hk => Below.heap_setCell _ _ _ _ (fun e => by
        obtain ⟨_, cells, h⟩ := hty2 k hk
        dsimp only at e
        omega))
  case stop =>
    rintro D c pre X _ _ h _
    exact h.elim
  case done =>
    rintro D1 ys X1 hD1 rfl ⟨v, hchg, hbx, hov⟩ hK1
    obtain ⟨I, hI⟩ : ∃ I, itemsI l i = I := ⟨_, rfl⟩
    have hIl : I.length ≤ 300 := by
      rw [← hI]
      have h2 : (itemsI l i).length ≤ l.length := by unfold itemsI; split <;> simp [itemsL_len]
      omega
    rw [hI] at hov
    have HI := Lib.hid hI
    obtain ⟨Av, cv, hv⟩ := open_len hov
    rw [List.length_reverse] at hv
    subst hv
    have hs1 := hchg.size
    have b1 : Below w4.heap.size w4 X1 := HB5.out.trans (hchg.to_below (by omega) (fun k hk => by omega))
    have ba1 : Below Wa.heap.size Wa X1 := below_step B4.out b1
    have c0 : X1.cell? ⟨w4.heap.size, 0, none⟩ = some (.slice Av I.length cv) := blkc hbx 0 rfl
    have hr1 : Row7 X1 w3.heap.size (.slice A7 l.length c7) l := R7.out.keep (fun k hk => b1.block k (R7.out.own k hk).2)
    have ITM := Lib.hid (items9_any A7 c7 w3.heap.size l t HLT.out (by omega) i X1.drew (hr1.keep (w1 := X1.drew) (fun _ _ => rfl)))
    rw [hI] at ITM
    have HBX1 := Lib.hid hbx
    have HOV := Lib.hid hov
    have HB1 := Lib.hid b1
    have HBA1 := Lib.hid ba1
    have HR1 := Lib.hid hr1
    have HK1 := Lib.hid hK1
    have hgood : X1.drew.cell? ⟨w4.heap.size, 0, none⟩ = some (.slice Av I.length cv) := c0
    clear hchg hbx hov hK1 b1 ba1 hr1 hI HSQ HI0
    gi_wp2
    refine region_g (fun w => w.cell? ⟨w4.heap.size, 0, none⟩ = some (.slice Av I.length cv)) (fun _ => true) hmo ?_
    refine takeQ 0 (.slice Av I.length cv) hgood rfl (by kernel_rfl) ⟨fun _ => rfl, .inl ⟨by rfl, fun w' hw' => by go_simp⟩⟩ ?_
    simp only [Act.put, List.setIfInBounds_toArray, List.set_cons_succ, List.set_cons_zero]
    refine takeQ 1 (.slice A7 l.length c7) hgood rfl (by kernel_rfl) ⟨fun _ => rfl, .inl ⟨by rfl, fun w' hw' => by go_simp⟩⟩ ?_
    simp only [Act.put, List.setIfInBounds_toArray, List.set_cons_succ, List.set_cons_zero]
    refine takeQ 2 (.int .i64 i) hgood rfl (by kernel_rfl) ⟨fun _ => rfl, .inl ⟨by rfl, fun w' hw' => by go_simp⟩⟩ ?_
    simp only [Act.put, List.setIfInBounds_toArray, List.set_cons_succ, List.set_cons_zero]
    refine takeL 3 rfl (by kernel_rfl) ?_
    gi_wp2_with (refine ⟨trivial, ?_⟩; gi_at_call 38; go_must (refine ((callsIn_wide (n := 9)).2 ITM.out).mono ?_); rintro e' w6 ⟨v6, rfl, hO6, hB6⟩)
    have hb6 : Below X1.heap.size X1 w6 := ⟨hB6.os, hB6.tape, hB6.output, hB6.size, hB6.block⟩
    obtain ⟨A6, c6, hv6⟩ := open_len hO6
    rw [List.length_reverse] at hv6
    subst hv6
    have EQ := Lib.hid (equal_ints Av A6 I.length cv c6 w5.heap.size X1.heap.size I rfl (by omega) w6 (open_of (own_keep (open_own HOV.out) (fun k hk => hb6.block k (by obtain ⟨_, cs, h⟩ := own_int (open_own HOV.out) k hk; exact blk_lt h)))) hO6)
    have G6 := Lib.hid (cellBelow hb6 hgood)
    have HB6 := Lib.hid hb6
    clear hB6 hb6 hO6
    refine ⟨fun _ => G6.out, ?_⟩
    refine takeL 4 rfl (by kernel_rfl) ?_
    gi_wp2_with (refine ⟨trivial, ?_⟩; gi_at_call 37; go_must (refine ((callsIn_wide (n := 9)).2 EQ.out).mono ?_); rintro e' w7 ⟨rfl, hB7⟩)
    have G7 := Lib.hid (cellBelow hB7 G6.out)
    have HB7 := Lib.hid (below_step HB6.out hB7)
    clear hB7 hgood
    refine ⟨by first | exact G7.out | exact fun _ => G7.out, ?_⟩
    refine takeL 5 rfl (by kernel_rfl) ?_
    gi_wp2
    refine ⟨by first | exact G7.out | exact fun _ => G7.out, doneG (by kernel_rfl) ?_⟩
    have c8 : (w7.alloc (.cells #[.int .i64 0] 3)).cell? ⟨W.heap.size, 0, none⟩ = some (.slice A l.length c) := cellBelow (below_alloc (Below.refl _ _) _) (blkc (BOX.out w7 (below_step HBA1.out HB7.out)).1 0 rfl)
    gi_wp2_with (refine ⟨trivial, ?_⟩; gi_at_call 34; go_must (refine ((callsIn_wide (n := 9)).2 (members_any _ _ _ _ _)).mono ?_); rintro e' w8 ⟨rfl, hw8⟩; have HW8 := Lib.hid hw8; clear hw8)
    have hw8 := HW8.out
    have g0 : w8.heap[w7.heap.size]? = some (.cells #[.int .i64 0] 3 (0, 0)) := by rw [hw8]; exact allocs_get w7 [.cells #[.int .i64 0] 3, .cells #[.slice A l.length c] 22, .cells #[.int .i64 i] 3] 0 _ rfl
    have g1 : w8.heap[w7.heap.size + 1]? = some (.cells #[.slice A l.length c] 22 (0, 0)) := by rw [hw8]; exact allocs_get w7 [.cells #[.int .i64 0] 3, .cells #[.slice A l.length c] 22, .cells #[.int .i64 i] 3] 1 _ rfl
    have g2 : w8.heap[w7.heap.size + 1 + 1]? = some (.cells #[.int .i64 i] 3 (0, 0)) := by rw [hw8]; exact allocs_get w7 [.cells #[.int .i64 0] 3, .cells #[.slice A l.length c] 22, .cells #[.int .i64 i] 3] 2 _ rfl
    have hb8 : Below w7.heap.size w7 w8 := by rw [hw8]; exact allocs_below w7 [.cells #[.int .i64 0] 3, .cells #[.slice A l.length c] 22, .cells #[.int .i64 i] 3]
    have hsz8 : w8.heap.size = w7.heap.size + 3 := by rw [hw8]; simp
    have HB8 := Lib.hid (below_step HB7.out hb8)
    have hx17 : X1.heap.size ≤ w7.heap.size := HB7.out.size
    have hx41 : w4.heap.size ≤ X1.heap.size := HB1.out.size
    have hbl1 : w4.heap.size < X1.heap.size := blk_lt HBX1.out
    have HSQ2 := Lib.hid (seq_membersI (w7.heap.size + 1 + 1) (w7.heap.size + 1) A c l i (by omega) hc HM.out w8 g2 g1 (Kd.C_below HC.out (below_step (below_step BA.out HBA1.out) HB8.out)) (fun a ha => by have := HA.out a ha; omega))
    have hm0 : Chg (fun k => k = w7.heap.size) w8 w8 ∧ w8.heap[w7.heap.size]? = some (.cells #[.int .i64 ((([] : List (ByteArray × Nat)).length : Nat) : Int)] 3 (0, 0)) := ⟨Chg.refl _ _, g0⟩
    have HM0 := Lib.hid hm0
    have KEEP8 := Lib.hid (show ∀ X, Chg (fun k => k = w7.heap.size) w8 X → (Chg (fun k => k = w7.heap.size) X1 X ∧ (∀ k, k < X1.heap.size → X.heap[k]? = X1.heap[k]?)) from fun X h =>
      have hk : ∀ k, k < X1.heap.size → X.heap[k]? = X1.heap[k]? := fun k hk => (h.block k (by omega) (by omega)).trans (HB8.out.block k hk)
      ⟨⟨h.os.trans HB8.out.os, h.tape.trans HB8.out.tape, h.output.trans HB8.out.output, by have := h.size; omega, fun k h1 _ => hk k h1⟩, hk⟩)
    clear hw8 HW8 g0 g1 g2 hb8 hm0 c8 G6 G7 ITM EQ c0
    refine range_b (by omega) (gf := 71) (lb := #[.pointer (some ⟨w7.heap.size + 1, 0, none⟩), .pointer (some ⟨w7.heap.size + 1 + 1, 0, none⟩)]) rfl (enters_of Tryz.func71 (by kernel_rfl) rfl)
      HSQ2.out (Below.refl _ _) (fun h k => h.trans k) (fun X l' o o' h1 h2 ho hc' => KpM.putObj h2 (fun a ha => by have := HA.out a ha; omega) ho hc') (fun X Y (h : MvM _ X Y) k o h1 h2 ho => h.block k o ho (.inl h2)) (fun _ => rfl)
      (fun pre X => Chg (fun k => k = w7.heap.size) w8 X ∧ X.heap[w7.heap.size]? = some (.cells #[.int .i64 ((pre.length : Nat) : Int)] 3 (0, 0))) (fun _ _ _ => False)
      (fun s X Y row hs hg hr => ⟨hs.1.gro hg (fun k e => (hr k e).1), (hg.block _ (blk_lt hs.2) (fun e => by obtain ⟨_, o, ho, hc⟩ := hr _ e.symm; rw [hs.2] at ho; cases ho; cases hc)).trans hs.2⟩)
      (fun _ _ _ _ _ hs _ _ => hs)
      (fun s X Y h (k : MvM _ X Y) => by
        have kb := k.to_below (M := w8.heap.size) (by omega) h.1.size
        exact ⟨⟨kb.os.trans h.1.os, kb.tape.trans h.1.tape, kb.output.trans h.1.output, Nat.le_trans h.1.size kb.size, fun j hj hs => (kb.block j hj).trans (h.1.block j hj hs)⟩, (kb.block _ (by omega)).trans h.2⟩)
      (fun _ _ _ _ h _ => h) HM0.out
      (fun x a' X => a' = { tmps := #[.slice A l.length c, .int .i64 i, .slice Ap path.length cp, .int .u8 (st : Int), .pointer (some ⟨W.heap.size, 0, none⟩), undef, undef, .pointer (some ⟨W.heap.size + 1, 0, none⟩), .pointer (some ⟨W.heap.size + 1 + 1, 0, none⟩), .slice A7 l.length c7, .pointer (some ⟨w4.heap.size, 0, none⟩), undef, .pointer (some ⟨w7.heap.size, 0, none⟩), .string x.1, .int .i64 (x.2 : Int), undef, undef, undef, undef, undef, undef, undef, undef, undef, undef, undef, undef, .bool true, .bool false, .slice A l.length c, .bool true, .bool false, .bool false, .slice A l.length c, .int .i64 0, .bool false, .bool false, .bool false, .slice Ap path.length cp, .int .i64 (path.length : Int), .bool false, .bool false, .slice A l.length c, .slice A7 l.length c7, .slice A l.length c, .int .i64 i, .func (.func 72) #[] #[.pointer (some ⟨w4.heap.size + 1, 0, none⟩), .pointer (some ⟨w4.heap.size + 1 + 1, 0, none⟩)], undef, undef, undef, undef, undef, .slice Av I.length cv, .slice A7 l.length c7, .int .i64 i, .slice A6 I.length c6, .bool true, .bool false, .slice A l.length c, .int .i64 i, .func (.func 71) #[] #[.pointer (some ⟨w7.heap.size + 1, 0, none⟩), .pointer (some ⟨w7.heap.size + 1 + 1, 0, none⟩)], .string x.1, .int .i64 (x.2 : Int), undef, undef, undef, undef, undef, undef, undef, undef, undef, undef, undef, undef, undef, undef, undef, undef, undef, undef, undef, undef, undef, undef, undef, undef, undef, undef, undef, undef, undef, undef, undef, undef, undef, undef, undef, undef, undef, undef, undef, undef, undef, undef, undef, undef, undef, undef, undef, undef, undef, undef, undef, undef, undef, undef, undef, undef, undef, undef, undef, undef, undef, undef, undef, undef, undef, undef, undef, undef, undef, undef, undef, undef, undef, undef, undef, undef, undef, undef, undef, undef, undef, undef, undef, undef, undef, undef, undef, undef, undef, undef, undef, undef, undef, undef, undef, undef, undef, undef, undef, undef, undef, undef, undef, undef, undef, undef, undef, undef, undef, undef, undef, undef, undef, undef, undef, undef, undef, undef, undef, undef, undef, undef, undef, undef, undef, undef, undef, undef, undef, undef, undef, undef, undef, undef, undef, undef, undef, undef, undef, undef, undef, undef, undef, undef, undef, undef, undef, undef, undef, undef, undef, undef, undef, undef, undef, undef, undef, undef, undef, undef, undef, undef, undef, undef, undef], defers := [] })
      (fun x a' s X Y row hs hg hr => hs) ?assign2 ?body2 ?done2 ?stop2
    case assign2 =>
      rintro lq pre x X K hI hK
      have e1 : (mEnc x) = #[.string x.1, .int .i64 (x.2 : Int)] := rfl
      rw [e1]
      have HI2 := Lib.hid hI
      clear e1 hI
      gi_wp2
      exact hK _ _ (KeepsFrom.refl _ _) (KpM.refl _ _ _) HI2.out rfl
    case body2 =>
      rintro lq pre x a' X hlq ⟨r, hr⟩ ⟨hch, hbn⟩ rfl hT
      have hmI : membersI l i = I.map (mPr l) := by
        rw [← HI.out]
        unfold membersI itemsI
        unfold membersI at hT
        split at hT
        · rename_i h9
          rw [if_pos h9, if_pos h9]
          unfold membersL at hT ⊢
          split at hT
          · rename_i h8
            rw [if_pos h8]
          · exact absurd hT.length_le (by simp)
        · exact absurd hT.length_le (by simp)
      rw [hmI] at hT
      obtain ⟨tl, htl⟩ := hT
      have hget : (I.map (mPr l))[pre.length]? = some x := by rw [← htl, List.append_assoc, List.getElem?_append_right (Nat.le_refl _)]; simp
      rw [List.getElem?_map] at hget
      have hpl : pre.length < I.length := by
        rcases Nat.lt_or_ge pre.length I.length with h | h
        · exact h
        · rw [List.getElem?_eq_none h] at hget; cases hget
      rw [List.getElem?_eq_getElem hpl] at hget
      injection hget with hget
      have hx2 : I[pre.length] = x.2 := by rw [← hget]; rfl
      have hx1 : keyAt l x.2 = x.1 := by rw [← hget]; rfl
      have hkl : x.2 < l.length := by
        have hmem : I[pre.length] ∈ I := List.getElem_mem hpl
        rw [hx2, ← HI.out] at hmem
        unfold itemsI at hmem
        split at hmem
        · exact itemsL_lt (by omega) (HM.out _ (by omega)).2 _ hmem
        · cases hmem
      obtain ⟨hc1, hk8⟩ := KEEP8.out X hch
      have b0 := (hk8 _ (by omega)).trans (BOX.out X1 HBA1.out).1
      have bi := (hk8 _ hbl1).trans HBX1.out
      have hov2 : OpenAt X w5.heap.size (.slice Av I.length cv) I.reverse := open_of (own_keep (open_own HOV.out) (fun k hk => hk8 k (by obtain ⟨_, cs, h⟩ := own_int (open_own HOV.out) k hk; exact blk_lt h)))
      obtain ⟨av, rfl, v0⟩ := open_at hov2 pre.length hpl
      rw [hx2] at v0
      obtain ⟨ad, rfl, _, d1, _, _, _⟩ := node_at (kdC_keep HC.out (w1 := X) (fun a ha => by have := HA.out a ha; exact (hk8 _ (by omega)).trans ((below_step BA.out HBA1.out).block _ this))) x.2 hkl
      rw [show l[x.2].f1 = x.1 by rw [← hx1]; unfold keyAt; rw [List.getElem?_eq_getElem hkl]] at d1
      have cn : X.cell? ⟨w7.heap.size, 0, none⟩ = some (.int .i64 ((pre.length : Nat) : Int)) := blkc hbn 0 rfl
      have qf := blk_frozen hbn 0
      have c0 : X.cell? ⟨W.heap.size, 0, none⟩ = some (.slice (some ad) l.length c) := blkc b0 0 rfl
      have ci : X.cell? ⟨w4.heap.size, 0, none⟩ = some (.slice (some av) I.length cv) := blkc bi 0 rfl
      have k1 : decide (I.length ≤ pre.length) = false := decide_eq_false (by omega)
      have k2 : decide ((I.length : Int) ≤ (pre.length : Int)) = false := decide_eq_false (by omega)
      have k3 : decide (pre.length < I.length) = true := decide_eq_true hpl
      have k4 : decide ((pre.length : Int) < (I.length : Int)) = true := decide_eq_true (by omega)
      have k5 : decide (x.2 < l.length) = true := decide_eq_true hkl
      have k6 : decide ((x.2 : Int) < (l.length : Int)) = true := decide_eq_true (by omega)
      have k7 : ¬ I.length ≤ pre.length := by omega
      have HCH := Lib.hid hch
      have HBN := Lib.hid hbn
      obtain ⟨n, hn⟩ : ∃ n, pre.length = n := ⟨_, rfl⟩
      have HN := Lib.hid hn
      rw [hn] at v0 cn k1 k2 k3 k4 k7 HBN
      have hn300 : n ≤ 300 := by omega
      clear hch hbn hr htl hget hx2 hx1 hc1 b0 bi hov2 hmI hn hpl
      dsimp only
      gi_wp2
      have ch : Chg (fun k => k = w7.heap.size) X (X.setCell ⟨w7.heap.size, 0, none⟩ (.int .i64 ((n : Int) + 1))) := Chg.setCell rfl
      refine ⟨ch.keepsFrom (fun k hk _ => by subst hk; exact ⟨_, _, HBN.out⟩), ch.kpM2 (fun k hk _ => by subst hk; exact ⟨_, _, HBN.out, by decide, .inl (by omega)⟩) (fun a ha => by have := HA.out a ha; have := HCH.out.size; exact ⟨by omega, by omega⟩), HCH.out.trans ch, ?_⟩
      rw [List.length_append, HN.out]
      simp [World.setCell, Array.getElem?_modify, HBN.out]
    case stop2 =>
      rintro D c pre X _ _ h _
      exact h.elim
    case done2 =>
      rintro D2 ys X2 hD2 rfl ⟨hch, hbn⟩ hK2
      obtain ⟨hc1, hk8⟩ := KEEP8.out X2 hch
      have c0 : X2.cell? ⟨W.heap.size, 0, none⟩ = some (.slice A l.length c) := blkc ((hk8 _ (by omega)).trans (BOX.out X1 HBA1.out).1) 0 rfl
      have ci : X2.cell? ⟨w4.heap.size, 0, none⟩ = some (.slice Av I.length cv) := blkc ((hk8 _ hbl1).trans HBX1.out) 0 rfl
      obtain ⟨m, hm⟩ : ∃ m, (membersI l i).length = m := ⟨_, rfl⟩
      rw [hm] at hbn
      have cn : X2.cell? ⟨w7.heap.size, 0, none⟩ = some (.int .i64 (m : Int)) := blkc hbn 0 rfl
      obtain ⟨ob, hob⟩ : ∃ ob : Bool, ob = decide (0 ≤ i ∧ i < (l.length : Int) ∧ kndAt l i.toNat = 7) := ⟨_, rfl⟩
      have hob2 : (ob = true → m = I.length) ∧ (ob = false → m = 0) := by
        refine ⟨fun h => ?_, fun h => ?_⟩
        · rw [hob] at h
          obtain ⟨h1, h2, h3⟩ := of_decide_eq_true h
          rw [← hm, ← HI.out]
          unfold membersI itemsI
          rw [if_pos ⟨h1, h2⟩, if_pos ⟨h1, h2⟩]
          unfold membersL
          rw [if_pos h3, List.length_map]
        · rw [hob] at h
          have h9 := of_decide_eq_false h
          rw [← hm]
          unfold membersI
          split
          · rename_i h8
            unfold membersL
            rw [if_neg (fun h3 => h9 ⟨h8.1, h8.2, h3⟩)]
            rfl
          · rfl
      have HK2 := Lib.hid hK2
      have HCH2 := Lib.hid hc1
      have HK8 := Lib.hid hk8
      have HOB := Lib.hid hob2
      have HO1 := Lib.hid hob
      clear hK2 hc1 hk8 hob2 hob hbn hch HSQ2 HM0 hm
      simp only [Exit.inBlock, Exit.then]
      go_at_K
      gi_step
      gi_step
      refine cut_seq (fun a' w' => w' = X2 ∧ ∃ y86 y87 y88 y89 y90 y91 y92 y93 y94 y95 y96 y97 y98 y99 y100 y101 : Value, a' = { tmps := #[.slice A l.length c, .int .i64 i, .slice Ap path.length cp, .int .u8 (st : Int), .pointer (some ⟨W.heap.size, 0, none⟩), undef, undef, .pointer (some ⟨W.heap.size + 1, 0, none⟩), .pointer (some ⟨W.heap.size + 1 + 1, 0, none⟩), .slice A7 l.length c7, .pointer (some ⟨w4.heap.size, 0, none⟩), undef, .pointer (some ⟨w7.heap.size, 0, none⟩), undef, undef, .bool ob, undef, undef, undef, undef, undef, undef, undef, undef, undef, undef, undef, .bool true, .bool false, .slice A l.length c, .bool true, .bool false, .bool false, .slice A l.length c, .int .i64 0, .bool false, .bool false, .bool false, .slice Ap path.length cp, .int .i64 (path.length : Int), .bool false, .bool false, .slice A l.length c, .slice A7 l.length c7, .slice A l.length c, .int .i64 i, .func (.func 72) #[] #[.pointer (some ⟨w4.heap.size + 1, 0, none⟩), .pointer (some ⟨w4.heap.size + 1 + 1, 0, none⟩)], undef, undef, undef, undef, undef, .slice Av I.length cv, .slice A7 l.length c7, .int .i64 i, .slice A6 I.length c6, .bool true, .bool false, .slice A l.length c, .int .i64 i, .func (.func 71) #[] #[.pointer (some ⟨w7.heap.size + 1, 0, none⟩), .pointer (some ⟨w7.heap.size + 1 + 1, 0, none⟩)], undef, undef, undef, undef, undef, undef, undef, undef, undef, undef, undef, undef, undef, undef, undef, undef, undef, undef, undef, undef, undef, undef, undef, undef, undef, y86, y87, y88, y89, y90, y91, y92, y93, y94, y95, y96, y97, y98, y99, y100, y101, undef, undef, undef, undef, undef, undef, undef, undef, undef, undef, undef, undef, undef, undef, undef, undef, undef, undef, undef, undef, undef, undef, undef, undef, undef, undef, undef, undef, undef, undef, undef, undef, undef, undef, undef, undef, undef, undef, undef, undef, undef, undef, undef, undef, undef, undef, undef, undef, undef, undef, undef, undef, undef, undef, undef, undef, undef, undef, undef, undef, undef, undef, undef, undef, undef, undef, undef, undef, undef, undef, undef, undef, undef, undef, undef, undef, undef, undef, undef, undef, undef, undef, undef, undef, undef, undef, undef, undef, undef, undef, undef, undef, undef, undef, undef, undef, undef, undef, undef, undef, undef, undef, undef, undef, undef, undef, undef, undef, undef, undef, undef, undef, undef, undef, undef, undef, undef, undef, undef, undef, undef, undef, undef, undef, undef, undef], defers := [{ target := .collected D2, args := #[] }, { target := .collected D1, args := #[] }] }) (Lib.hid ?h19) (Lib.hid ?k19)
      case h19 =>
        have ho := HO1.out
        by_cases h9 : 0 ≤ i ∧ i < (l.length : Int)
        · obtain ⟨j, rfl⟩ : ∃ j : Nat, i = (j : Int) := ⟨i.toNat, by omega⟩
          have hj : j < l.length := by omega
          have k1 : decide ((0 : Int) ≤ (j : Int)) = true := decide_eq_true (by omega)
          have k2 : decide ((j : Int) < (l.length : Int)) = true := decide_eq_true (by omega)
          have k3 : decide (j < l.length) = true := decide_eq_true hj
          obtain ⟨ad, rfl, d0, _⟩ := node_at (kdC_keep HC.out (w1 := X2) (fun a ha => by have := HA.out a ha; exact (HK8.out _ (by omega)).trans ((below_step BA.out HBA1.out).block _ this))) j hj
          have hob : (l[j].f0 == 7) = ob := by
            rw [ho, Int.toNat_natCast, show kndAt l j = l[j].f0 by unfold kndAt; rw [List.getElem?_eq_getElem hj]]
            simp only [h9.1, h9.2, true_and]
            rfl
          clear ho h9
          generalize l[j].f0 = x0 at d0 hob
          gi_wp2
        · have hof : ob = false := by rw [ho]; exact decide_eq_false (fun h => h9 ⟨h.1, h.2.1⟩)
          rw [hof]
          clear ho hof
          by_cases h0 : 0 ≤ i
          · have k1 : decide (0 ≤ i) = true := decide_eq_true h0
            have k2 : decide (i < (l.length : Int)) = false := decide_eq_false (by omega)
            clear h9
            gi_wp2
          · have k1 : decide (0 ≤ i) = false := decide_eq_false h0
            clear h9
            gi_wp2
      case k19 =>
        rintro a' Z ⟨hZ, y86, y87, y88, y89, y90, y91, y92, y93, y94, y95, y96, y97, y98, y99, y100, y101, rfl⟩
        rw [hZ]
        clear hZ
        refine cut_seq (fun a' w' => w' = X2 ∧ ∃ y102 y103 y104 y105 y106 y107 y108 y109 y110 y111 y112 y113 y114 y115 : Value, a' = { tmps := #[.slice A l.length c, .int .i64 i, .slice Ap path.length cp, .int .u8 (st : Int), .pointer (some ⟨W.heap.size, 0, none⟩), undef, undef, .pointer (some ⟨W.heap.size + 1, 0, none⟩), .pointer (some ⟨W.heap.size + 1 + 1, 0, none⟩), .slice A7 l.length c7, .pointer (some ⟨w4.heap.size, 0, none⟩), undef, .pointer (some ⟨w7.heap.size, 0, none⟩), undef, undef, .bool ob, undef, undef, undef, undef, undef, undef, undef, undef, undef, undef, undef, .bool true, .bool false, .slice A l.length c, .bool true, .bool false, .bool false, .slice A l.length c, .int .i64 0, .bool false, .bool false, .bool false, .slice Ap path.length cp, .int .i64 (path.length : Int), .bool false, .bool false, .slice A l.length c, .slice A7 l.length c7, .slice A l.length c, .int .i64 i, .func (.func 72) #[] #[.pointer (some ⟨w4.heap.size + 1, 0, none⟩), .pointer (some ⟨w4.heap.size + 1 + 1, 0, none⟩)], undef, undef, undef, undef, undef, .slice Av I.length cv, .slice A7 l.length c7, .int .i64 i, .slice A6 I.length c6, .bool true, .bool false, .slice A l.length c, .int .i64 i, .func (.func 71) #[] #[.pointer (some ⟨w7.heap.size + 1, 0, none⟩), .pointer (some ⟨w7.heap.size + 1 + 1, 0, none⟩)], undef, undef, undef, undef, undef, undef, undef, undef, undef, undef, undef, undef, undef, undef, undef, undef, undef, undef, undef, undef, undef, undef, undef, undef, undef, y86, y87, y88, y89, y90, y91, y92, y93, y94, y95, y96, y97, y98, y99, y100, y101, y102, y103, y104, y105, y106, y107, y108, y109, y110, y111, y112, y113, y114, y115, .bool false, undef, undef, undef, undef, undef, undef, undef, undef, undef, undef, undef, undef, undef, undef, undef, undef, undef, undef, undef, undef, undef, undef, undef, undef, undef, undef, undef, undef, undef, undef, undef, undef, undef, undef, undef, undef, undef, undef, undef, undef, undef, undef, undef, undef, undef, undef, undef, undef, undef, undef, undef, undef, undef, undef, undef, undef, undef, undef, undef, undef, undef, undef, undef, undef, undef, undef, undef, undef, undef, undef, undef, undef, undef, undef, undef, undef, undef, undef, undef, undef, undef, undef, undef, undef, undef, undef, undef, undef, undef, undef, undef, undef, undef, undef, undef, undef, undef, undef, undef, undef, undef, undef, undef, undef, undef, undef, undef, undef, undef, undef, undef], defers := [{ target := .collected D2, args := #[] }, { target := .collected D1, args := #[] }] }) (Lib.hid ?h20) (Lib.hid ?k20)
        case h20 =>
          obtain ⟨hb1, hb2⟩ := HOB.out
          cases ob with
          | true =>
            have hmI := hb1 rfl
            subst hmI
            have k1 : ((I.length : Int) != (I.length : Int)) = false := by simp
            clear hb1 hb2
            gi_wp2
          | false =>
            have hm0 := hb2 rfl
            subst hm0
            clear hb1 hb2
            gi_wp2
        case k20 =>
          rintro a' Z ⟨hZ, y102, y103, y104, y105, y106, y107, y108, y109, y110, y111, y112, y113, y114, y115, rfl⟩
          rw [hZ]
          clear hZ
          have c9 : (X2.alloc (.cells #[.int .i64 0] 3)).cell? ⟨W.heap.size, 0, none⟩ = some (.slice A l.length c) := cellBelow (below_alloc (Below.refl _ _) _) c0
          clear ci cn c0
          gi_wp2_with (refine ⟨trivial, ?_⟩; gi_at_call 39; go_must (refine ((callsIn_wide (n := 9)).2 (find_any _ _ _ _)).mono ?_); rintro e' w9 ⟨rfl, hw9⟩; have HW9 := Lib.hid hw9; clear hw9)
          have hw9 := HW9.out
          have g0 : w9.heap[X2.heap.size]? = some (.cells #[.int .i64 0] 3 (0, 0)) := by rw [hw9]; exact allocs_get X2 [.cells #[.int .i64 0] 3, .cells #[.slice A l.length c] 22, .cells #[.func (.func 40) #[] #[]] 75] 0 _ rfl
          have g1 : w9.heap[X2.heap.size + 1]? = some (.cells #[.slice A l.length c] 22 (0, 0)) := by rw [hw9]; exact allocs_get X2 [.cells #[.int .i64 0] 3, .cells #[.slice A l.length c] 22, .cells #[.func (.func 40) #[] #[]] 75] 1 _ rfl
          have g2 : w9.heap[X2.heap.size + 1 + 1]? = some (.cells #[.func (.func 40) #[] #[]] 75 (0, 0)) := by rw [hw9]; exact allocs_get X2 [.cells #[.int .i64 0] 3, .cells #[.slice A l.length c] 22, .cells #[.func (.func 40) #[] #[]] 75] 2 _ rfl
          have hb9 : Below X2.heap.size X2 w9 := by rw [hw9]; exact allocs_below X2 [.cells #[.int .i64 0] 3, .cells #[.slice A l.length c] 22, .cells #[.func (.func 40) #[] #[]] 75]
          have hsz9 : w9.heap.size = X2.heap.size + 3 := by rw [hw9]; simp
          have HB9 := Lib.hid hb9
          have hx12 := HCH2.out.size
          have hD2l := blk_lt HK2.out
          have hC9 : Kd.C kN w9 A l.length l := kdC_keep HC.out (w1 := w9) (fun a ha => by have := HA.out a ha; exact (hb9.block _ (by omega)).trans ((HK8.out _ (by omega)).trans ((below_step BA.out HBA1.out).block _ this)))
          have HSQ3 := Lib.hid (seq_find 8 (X2.heap.size + 1) (X2.heap.size + 1 + 1) A c l (by omega) w9 g1 g2 hC9)
          have HF0 := Lib.hid (show Chg (fun k => k = X2.heap.size) w9 w9 ∧ w9.heap[X2.heap.size]? = some (.cells #[.int .i64 ((([] : List Nat).length : Nat) : Int)] 3 (0, 0)) ∧ ([] : List Nat).length ≤ st from ⟨Chg.refl _ _, g0, Nat.zero_le _⟩)
          have KEEP9 := Lib.hid (show ∀ X, Chg (fun k => k = X2.heap.size) w9 X → ∀ k, k < X2.heap.size → X.heap[k]? = X2.heap[k]? from fun X h k hk => (h.block k (by omega) (by omega)).trans (HB9.out.block k hk))
          clear hw9 HW9 g0 g1 g2 hb9 c9 hC9
          refine wpIn_mono (Q := fun e a' w' => (e = .normal ∨ e = .exit 4) ∧ ∃ D3, a' = { tmps := #[.slice A l.length c, .int .i64 i, .slice Ap path.length cp, .int .u8 (st : Int), .pointer (some ⟨W.heap.size, 0, none⟩), undef, undef, .pointer (some ⟨W.heap.size + 1, 0, none⟩), .pointer (some ⟨W.heap.size + 1 + 1, 0, none⟩), .slice A7 l.length c7, .pointer (some ⟨w4.heap.size, 0, none⟩), undef, .pointer (some ⟨w7.heap.size, 0, none⟩), undef, undef, .bool ob, .pointer (some ⟨X2.heap.size, 0, none⟩), undef, undef, undef, undef, undef, undef, undef, undef, undef, undef, .bool true, .bool false, .slice A l.length c, .bool true, .bool false, .bool false, .slice A l.length c, .int .i64 0, .bool false, .bool false, .bool false, .slice Ap path.length cp, .int .i64 (path.length : Int), .bool false, .bool false, .slice A l.length c, .slice A7 l.length c7, .slice A l.length c, .int .i64 i, .func (.func 72) #[] #[.pointer (some ⟨w4.heap.size + 1, 0, none⟩), .pointer (some ⟨w4.heap.size + 1 + 1, 0, none⟩)], undef, undef, undef, undef, undef, .slice Av I.length cv, .slice A7 l.length c7, .int .i64 i, .slice A6 I.length c6, .bool true, .bool false, .slice A l.length c, .int .i64 i, .func (.func 71) #[] #[.pointer (some ⟨w7.heap.size + 1, 0, none⟩), .pointer (some ⟨w7.heap.size + 1 + 1, 0, none⟩)], undef, undef, undef, undef, undef, undef, undef, undef, undef, undef, undef, undef, undef, undef, undef, undef, undef, undef, undef, undef, undef, undef, undef, undef, undef, y86, y87, y88, y89, y90, y91, y92, y93, y94, y95, y96, y97, y98, y99, y100, y101, y102, y103, y104, y105, y106, y107, y108, y109, y110, y111, y112, y113, y114, y115, .bool false, .slice A l.length c, .func (.func 73) #[] #[.pointer (some ⟨X2.heap.size + 1, 0, none⟩), .pointer (some ⟨X2.heap.size + 1 + 1, 0, none⟩)], undef, undef, undef, undef, undef, undef, undef, undef, undef, undef, undef, undef, undef, undef, undef, undef, undef, undef, undef, undef, undef, undef, undef, undef, undef, undef, undef, undef, undef, undef, undef, undef, undef, undef, undef, undef, undef, undef, undef, undef, undef, undef, undef, undef, undef, undef, undef, undef, undef, undef, undef, undef, undef, undef, undef, undef, undef, undef, undef, undef, undef, undef, undef, undef, undef, undef, undef, undef, undef, undef, undef, undef, undef, undef, undef, undef, undef, undef, undef, undef, undef, undef, undef, undef, undef, undef, undef, undef, undef, undef, undef, undef, undef, undef, undef, undef, undef, undef, undef, undef, undef, undef, undef, undef, undef, undef, undef, undef, undef], defers := [{ target := .collected D3, args := #[] }, { target := .collected D2, args := #[] }, { target := .collected D1, args := #[] }] } ∧ w9.heap.size ≤ D3 ∧ w'.heap[D3]? = some (.deferred (some [])) ∧ Chg (fun k => k = X2.heap.size) w9 w' ∧ w'.heap[X2.heap.size]? = some (.cells #[.int .i64 ((min (findU l l.length).length (st + 1) : Nat) : Int)] 3 (0, 0))) ?range3 ?rest3
          case range3 =>
            refine range_b (by omega) (gf := 73) (lb := #[.pointer (some ⟨X2.heap.size + 1, 0, none⟩), .pointer (some ⟨X2.heap.size + 1 + 1, 0, none⟩)]) rfl (enters_of Tryz.func73 (by kernel_rfl) rfl)
              HSQ3.out (Below.refl _ _) (fun h k => h.trans k) (fun Z l' o o' h1 h2 ho hc' => KpS.putObj (fun hS => by
                rcases hS with h | h | ⟨a, e, h⟩
                · omega
                · omega
                · have := HA.out a e; omega)) (fun X Y (h : Below X.heap.size X Y) k o _ _ ho => (h.block k (blk_lt ho)).trans ho) (fun _ => rfl)
              (fun pre X => Chg (fun k => k = X2.heap.size) w9 X ∧ X.heap[X2.heap.size]? = some (.cells #[.int .i64 ((pre.length : Nat) : Int)] 3 (0, 0)) ∧ pre.length ≤ st)
              (fun cd pre X => cd = .exit 4 ∧ Chg (fun k => k = X2.heap.size) w9 X ∧ X.heap[X2.heap.size]? = some (.cells #[.int .i64 ((st + 1 : Nat) : Int)] 3 (0, 0)) ∧ pre.length = st + 1)
              (fun s X Y row hs hg hr => ⟨hs.1.gro hg (fun k e => (hr k e).1), (hg.block _ (blk_lt hs.2.1) (fun e => by obtain ⟨_, o, ho, hc⟩ := hr _ e.symm; rw [hs.2.1] at ho; cases ho; cases hc)).trans hs.2.1, hs.2.2⟩)
              (fun cd s X Y row hs hg hr => ⟨hs.1, hs.2.1.gro hg (fun k e => (hr k e).1), (hg.block _ (blk_lt hs.2.2.1) (fun e => by obtain ⟨_, o, ho, hc⟩ := hr _ e.symm; rw [hs.2.2.1] at ho; cases ho; cases hc)).trans hs.2.2.1, hs.2.2.2⟩)
              (fun s X Y h (k : Below X.heap.size X Y) => ⟨h.1.trans (Chg.below k), (k.block _ (blk_lt h.2.1)).trans h.2.1, h.2.2⟩)
              (fun cd s X Y h (k : Below X.heap.size X Y) => ⟨h.1, h.2.1.trans (Chg.below k), (k.block _ (blk_lt h.2.2.1)).trans h.2.2.1, h.2.2.2⟩) HF0.out
              (fun x a' X => a' = { tmps := #[.slice A l.length c, .int .i64 i, .slice Ap path.length cp, .int .u8 (st : Int), .pointer (some ⟨W.heap.size, 0, none⟩), undef, undef, .pointer (some ⟨W.heap.size + 1, 0, none⟩), .pointer (some ⟨W.heap.size + 1 + 1, 0, none⟩), .slice A7 l.length c7, .pointer (some ⟨w4.heap.size, 0, none⟩), undef, .pointer (some ⟨w7.heap.size, 0, none⟩), undef, undef, .bool ob, .pointer (some ⟨X2.heap.size, 0, none⟩), undef, undef, undef, undef, undef, undef, undef, undef, undef, undef, .bool true, .bool false, .slice A l.length c, .bool true, .bool false, .bool false, .slice A l.length c, .int .i64 0, .bool false, .bool false, .bool false, .slice Ap path.length cp, .int .i64 (path.length : Int), .bool false, .bool false, .slice A l.length c, .slice A7 l.length c7, .slice A l.length c, .int .i64 i, .func (.func 72) #[] #[.pointer (some ⟨w4.heap.size + 1, 0, none⟩), .pointer (some ⟨w4.heap.size + 1 + 1, 0, none⟩)], undef, undef, undef, undef, undef, .slice Av I.length cv, .slice A7 l.length c7, .int .i64 i, .slice A6 I.length c6, .bool true, .bool false, .slice A l.length c, .int .i64 i, .func (.func 71) #[] #[.pointer (some ⟨w7.heap.size + 1, 0, none⟩), .pointer (some ⟨w7.heap.size + 1 + 1, 0, none⟩)], undef, undef, undef, undef, undef, undef, undef, undef, undef, undef, undef, undef, undef, undef, undef, undef, undef, undef, undef, undef, undef, undef, undef, undef, undef, y86, y87, y88, y89, y90, y91, y92, y93, y94, y95, y96, y97, y98, y99, y100, y101, y102, y103, y104, y105, y106, y107, y108, y109, y110, y111, y112, y113, y114, y115, .bool false, .slice A l.length c, .func (.func 73) #[] #[.pointer (some ⟨X2.heap.size + 1, 0, none⟩), .pointer (some ⟨X2.heap.size + 1 + 1, 0, none⟩)], .int .i64 (x : Int), undef, undef, undef, undef, undef, undef, undef, undef, undef, undef, undef, undef, undef, undef, undef, undef, undef, undef, undef, undef, undef, undef, undef, undef, undef, undef, undef, undef, undef, undef, undef, undef, undef, undef, undef, undef, undef, undef, undef, undef, undef, undef, undef, undef, undef, undef, undef, undef, undef, undef, undef, undef, undef, undef, undef, undef, undef, undef, undef, undef, undef, undef, undef, undef, undef, undef, undef, undef, undef, undef, undef, undef, undef, undef, undef, undef, undef, undef, undef, undef, undef, undef, undef, undef, undef, undef, undef, undef, undef, undef, undef, undef, undef, undef, undef, undef, undef, undef, undef, undef, undef, undef, undef, undef, undef, undef, undef, undef], defers := [] })
              (fun x a' s X Y row hs hg hr => hs) ?assign3 ?body3 ?done3 ?stop3
            case assign3 =>
              rintro lq pre x X K hI hK
              have e1 : (intEnc x) = #[.int .i64 (x : Int)] := rfl
              rw [e1]
              have HI2 := Lib.hid hI
              clear e1 hI
              gi_wp2
              exact hK _ _ (KeepsFrom.refl _ _) (KpS.refl _ _) HI2.out rfl
            case body3 =>
              rintro lq pre x a' X hlq ⟨r, hr⟩ ⟨hch, hbn, hps⟩ rfl hT
              have hk9 := KEEP9.out X hch
              have cn : X.cell? ⟨X2.heap.size, 0, none⟩ = some (.int .i64 ((pre.length : Nat) : Int)) := blkc hbn 0 rfl
              have qf := blk_frozen hbn 0
              have cs : X.cell? ⟨W.heap.size + 1, 0, none⟩ = some (.int .u8 (st : Int)) := blkc ((hk9 _ (by omega)).trans ((HK8.out _ (by omega)).trans (BOX.out X1 HBA1.out).2.1)) 0 rfl
              have HCH := Lib.hid hch
              have HBN := Lib.hid hbn
              obtain ⟨n, hn⟩ : ∃ n, pre.length = n := ⟨_, rfl⟩
              have HN := Lib.hid hn
              rw [hn] at cn HBN hps
              have ch : Chg (fun k => k = X2.heap.size) X (X.setCell ⟨X2.heap.size, 0, none⟩ (.int .i64 ((n : Int) + 1))) := Chg.setCell rfl
              have hsX := hch.size
              have hx3 : (X.setCell ⟨X2.heap.size, 0, none⟩ (.int .i64 ((n : Int) + 1))).heap[X2.heap.size]? = some (.cells #[.int .i64 ((n + 1 : Nat) : Int)] 3 (0, 0)) := by simp [World.setCell, Array.getElem?_modify, HBN.out]
              have hcs2 : (X.setCell ⟨X2.heap.size, 0, none⟩ (.int .i64 ((n : Int) + 1))).cell? ⟨W.heap.size + 1, 0, none⟩ = some (.int .u8 (st : Int)) := (World.cell?_of_block (a := ⟨W.heap.size + 1, 0, none⟩) (ch.block _ (by dsimp only; omega) (by dsimp only; omega))).trans cs
              have hkf : KeepsFrom w9.heap.size X (X.setCell ⟨X2.heap.size, 0, none⟩ (.int .i64 ((n : Int) + 1))) := ch.keepsFrom (fun k hk _ => by subst hk; exact ⟨_, _, HBN.out⟩)
              have hkp : KpS (FS (X2.heap.size + 1) (X2.heap.size + 1 + 1) A) X (X.setCell ⟨X2.heap.size, 0, none⟩ (.int .i64 ((n : Int) + 1))) := ⟨ch.size, fun k hk => by
                rcases hk with rfl | rfl | ⟨a, ha, rfl⟩
                · exact ch.block _ (by omega) (by omega)
                · exact ch.block _ (by omega) (by omega)
                · have := HA.out a ha
                  exact ch.block _ (by omega) (by omega)⟩
              have FIN := Lib.hid (And.intro hkf (And.intro hkp (And.intro (hch.trans ch) hx3)))
              have hlen : (pre ++ [x]).length = n + 1 := by rw [List.length_append, hn]; rfl
              have HLEN := Lib.hid hlen
              have HS9 := Lib.hid hsz9
              clear hch hbn hr hT hn ch hkf hkp hx3 hlen hsz9
              dsimp only
              by_cases hgt : n + 1 ≤ st
              · have k1 : decide ((st : Int) < (n : Int) + 1) = false := decide_eq_false (by omega)
                have k2 : ¬ (st : Int) < (n : Int) + 1 := by omega
                have HGT := Lib.hid hgt
                clear hgt
                gi_wp2
                obtain ⟨f1, f2, f3, f4⟩ := FIN.out
                exact ⟨f1, f2, f3, by rw [HLEN.out]; exact f4, by rw [HLEN.out]; exact HGT.out⟩
              · have k1 : decide ((st : Int) < (n : Int) + 1) = true := decide_eq_true (by omega)
                have k2 : (st : Int) < (n : Int) + 1 := by omega
                have hst1 : n = st := by omega
                subst hst1
                clear hgt
                gi_wp2
                obtain ⟨f1, f2, f3, f4⟩ := FIN.out
                exact ⟨f1, f2, rfl, f3, f4, HLEN.out⟩
            case done3 =>
              rintro D3 ys X3 hD3 rfl ⟨hch, hbn, hps⟩ hK3
              refine ⟨.inl rfl, D3, rfl, hD3, hK3, hch, ?_⟩
              rw [hbn, Nat.min_eq_left (by omega)]
            case stop3 =>
              rintro D3 cd pre X3 hD3 hSp ⟨rfl, hch, hbn, hps⟩ hK3
              have hle := hSp.length_le
              have HR := Lib.hid (show ∃ D, ({ tmps := #[.slice A l.length c, .int .i64 i, .slice Ap path.length cp, .int .u8 (st : Int), .pointer (some ⟨W.heap.size, 0, none⟩), undef, undef, .pointer (some ⟨W.heap.size + 1, 0, none⟩), .pointer (some ⟨W.heap.size + 1 + 1, 0, none⟩), .slice A7 l.length c7, .pointer (some ⟨w4.heap.size, 0, none⟩), undef, .pointer (some ⟨w7.heap.size, 0, none⟩), undef, undef, .bool ob, .pointer (some ⟨X2.heap.size, 0, none⟩), undef, undef, undef, undef, undef, undef, undef, undef, undef, undef, .bool true, .bool false, .slice A l.length c, .bool true, .bool false, .bool false, .slice A l.length c, .int .i64 0, .bool false, .bool false, .bool false, .slice Ap path.length cp, .int .i64 (path.length : Int), .bool false, .bool false, .slice A l.length c, .slice A7 l.length c7, .slice A l.length c, .int .i64 i, .func (.func 72) #[] #[.pointer (some ⟨w4.heap.size + 1, 0, none⟩), .pointer (some ⟨w4.heap.size + 1 + 1, 0, none⟩)], undef, undef, undef, undef, undef, .slice Av I.length cv, .slice A7 l.length c7, .int .i64 i, .slice A6 I.length c6, .bool true, .bool false, .slice A l.length c, .int .i64 i, .func (.func 71) #[] #[.pointer (some ⟨w7.heap.size + 1, 0, none⟩), .pointer (some ⟨w7.heap.size + 1 + 1, 0, none⟩)], undef, undef, undef, undef, undef, undef, undef, undef, undef, undef, undef, undef, undef, undef, undef, undef, undef, undef, undef, undef, undef, undef, undef, undef, undef, y86, y87, y88, y89, y90, y91, y92, y93, y94, y95, y96, y97, y98, y99, y100, y101, y102, y103, y104, y105, y106, y107, y108, y109, y110, y111, y112, y113, y114, y115, .bool false, .slice A l.length c, .func (.func 73) #[] #[.pointer (some ⟨X2.heap.size + 1, 0, none⟩), .pointer (some ⟨X2.heap.size + 1 + 1, 0, none⟩)], undef, undef, undef, undef, undef, undef, undef, undef, undef, undef, undef, undef, undef, undef, undef, undef, undef, undef, undef, undef, undef, undef, undef, undef, undef, undef, undef, undef, undef, undef, undef, undef, undef, undef, undef, undef, undef, undef, undef, undef, undef, undef, undef, undef, undef, undef, undef, undef, undef, undef, undef, undef, undef, undef, undef, undef, undef, undef, undef, undef, undef, undef, undef, undef, undef, undef, undef, undef, undef, undef, undef, undef, undef, undef, undef, undef, undef, undef, undef, undef, undef, undef, undef, undef, undef, undef, undef, undef, undef, undef, undef, undef, undef, undef, undef, undef, undef, undef, undef, undef, undef, undef, undef, undef, undef, undef, undef, undef, undef], defers := [{ target := .collected D3, args := #[] }, { target := .collected D2, args := #[] }, { target := .collected D1, args := #[] }] } : Act) = { tmps := #[.slice A l.length c, .int .i64 i, .slice Ap path.length cp, .int .u8 (st : Int), .pointer (some ⟨W.heap.size, 0, none⟩), undef, undef, .pointer (some ⟨W.heap.size + 1, 0, none⟩), .pointer (some ⟨W.heap.size + 1 + 1, 0, none⟩), .slice A7 l.length c7, .pointer (some ⟨w4.heap.size, 0, none⟩), undef, .pointer (some ⟨w7.heap.size, 0, none⟩), undef, undef, .bool ob, .pointer (some ⟨X2.heap.size, 0, none⟩), undef, undef, undef, undef, undef, undef, undef, undef, undef, undef, .bool true, .bool false, .slice A l.length c, .bool true, .bool false, .bool false, .slice A l.length c, .int .i64 0, .bool false, .bool false, .bool false, .slice Ap path.length cp, .int .i64 (path.length : Int), .bool false, .bool false, .slice A l.length c, .slice A7 l.length c7, .slice A l.length c, .int .i64 i, .func (.func 72) #[] #[.pointer (some ⟨w4.heap.size + 1, 0, none⟩), .pointer (some ⟨w4.heap.size + 1 + 1, 0, none⟩)], undef, undef, undef, undef, undef, .slice Av I.length cv, .slice A7 l.length c7, .int .i64 i, .slice A6 I.length c6, .bool true, .bool false, .slice A l.length c, .int .i64 i, .func (.func 71) #[] #[.pointer (some ⟨w7.heap.size + 1, 0, none⟩), .pointer (some ⟨w7.heap.size + 1 + 1, 0, none⟩)], undef, undef, undef, undef, undef, undef, undef, undef, undef, undef, undef, undef, undef, undef, undef, undef, undef, undef, undef, undef, undef, undef, undef, undef, undef, y86, y87, y88, y89, y90, y91, y92, y93, y94, y95, y96, y97, y98, y99, y100, y101, y102, y103, y104, y105, y106, y107, y108, y109, y110, y111, y112, y113, y114, y115, .bool false, .slice A l.length c, .func (.func 73) #[] #[.pointer (some ⟨X2.heap.size + 1, 0, none⟩), .pointer (some ⟨X2.heap.size + 1 + 1, 0, none⟩)], undef, undef, undef, undef, undef, undef, undef, undef, undef, undef, undef, undef, undef, undef, undef, undef, undef, undef, undef, undef, undef, undef, undef, undef, undef, undef, undef, undef, undef, undef, undef, undef, undef, undef, undef, undef, undef, undef, undef, undef, undef, undef, undef, undef, undef, undef, undef, undef, undef, undef, undef, undef, undef, undef, undef, undef, undef, undef, undef, undef, undef, undef, undef, undef, undef, undef, undef, undef, undef, undef, undef, undef, undef, undef, undef, undef, undef, undef, undef, undef, undef, undef, undef, undef, undef, undef, undef, undef, undef, undef, undef, undef, undef, undef, undef, undef, undef, undef, undef, undef, undef, undef, undef, undef, undef, undef, undef, undef, undef], defers := [{ target := .collected D, args := #[] }, { target := .collected D2, args := #[] }, { target := .collected D1, args := #[] }] } ∧ w9.heap.size ≤ D ∧ X3.heap[D]? = some (.deferred (some [])) ∧ Chg (fun k => k = X2.heap.size) w9 X3 ∧ X3.heap[X2.heap.size]? = some (.cells #[.int .i64 ((min (findU l l.length).length (st + 1) : Nat) : Int)] 3 (0, 0)) from
                ⟨D3, rfl, hD3, hK3, hch, by rw [hbn, Nat.min_eq_right (by omega)]⟩)
              clear hch hbn hK3 hSp
              refine wpIn_exit ?_
              exact ⟨.inr rfl, HR.out⟩
          case rest3 =>
            rintro e a' X3 ⟨he, D3, rfl, hD3, hK3, hch, hbn⟩
            have hE : ∀ (K : Act → World → Prop) Q a w, K a w → Exit.inBlock 4 (Exit.then K Q) e a w := fun K Q a w h => by rcases he with rfl | rfl <;> simpa [Exit.inBlock, Exit.then] using h
            refine hE _ _ _ _ ?_
            have bw2 : Below W.heap.size W X2 := (below_step BA.out HBA1.out).trans (HCH2.out.to_below (by omega) (fun k hk => by omega))
            have bw3 : Below W.heap.size W X3 := (below_step bw2 HB9.out).trans (hch.to_below (by omega) (fun k hk => by omega))
            have hk9 := KEEP9.out X3 hch
            have hsx3 := hch.size
            have bx := BOX.out X1 HBA1.out
            have e0 : X3.heap[W.heap.size]? = some (.cells #[.slice A l.length c] 22 (0, 0)) := (hk9 _ (by omega)).trans ((HK8.out _ (by omega)).trans bx.1)
            have e1 : X3.heap[W.heap.size + 1]? = some (.cells #[.int .u8 (st : Int)] 5 (0, 0)) := (hk9 _ (by omega)).trans ((HK8.out _ (by omega)).trans bx.2.1)
            have e2 : X3.heap[W.heap.size + 1 + 1]? = some (.cells #[.bool false] 4 (0, 0)) := (hk9 _ (by omega)).trans ((HK8.out _ (by omega)).trans bx.2.2)
            have hd1 : X3.heap[D1]? = some (.deferred (some [])) := by have := blk_lt HK1.out; exact (hk9 _ (by omega)).trans ((HK8.out _ (by omega)).trans HK1.out)
            have hd2 : X3.heap[D2]? = some (.deferred (some [])) := (hk9 _ hD2l).trans HK2.out
            have hd3 : X3.heap[D3]? = some (.deferred (some [])) := hK3
            have hrow : Row7 X3 w3.heap.size (.slice A7 l.length c7) l := R7.out.keep (fun k hk => by have := (R7.out.own k hk).2; exact (hk9 _ (by omega)).trans ((HK8.out _ (by omega)).trans (HB1.out.block k this)))
            have hgo : ∀ cd : Act → World → Prop, cd = cd := fun _ => rfl
            have FACT := Lib.hid (And.intro e0 (And.intro e1 (And.intro e2 (And.intro hbn (And.intro hd1 (And.intro hd2 hd3))))))
            have HROW := Lib.hid hrow
            have HBW3 := Lib.hid bw3
            have hDs : w4.heap.size ≤ D1 ∧ D1 < D2 ∧ D2 < D3 := by have := blk_lt HK1.out; omega
            dsimp only
            go_at_K
            gi_step
            clear bw2 bw3 hk9 bx e0 e1 e2 hd1 hd2 hd3 hrow hgo hch hbn hK3 he hE
            refine cut_seq (fun a' w' => w' = X3 ∧ a' = { tmps := #[.slice A l.length c, .int .i64 i, .slice Ap path.length cp, .int .u8 (st : Int), .pointer (some ⟨W.heap.size, 0, none⟩), undef, undef, .pointer (some ⟨W.heap.size + 1, 0, none⟩), .pointer (some ⟨W.heap.size + 1 + 1, 0, none⟩), .slice A7 l.length c7, .pointer (some ⟨w4.heap.size, 0, none⟩), undef, .pointer (some ⟨w7.heap.size, 0, none⟩), undef, undef, .bool ob, .pointer (some ⟨X2.heap.size, 0, none⟩), .int .i64 0, undef, undef, undef, undef, undef, undef, undef, undef, undef, .bool true, .bool false, .slice A l.length c, .bool true, .bool false, .bool false, .slice A l.length c, .int .i64 0, .bool false, .bool false, .bool false, .slice Ap path.length cp, .int .i64 (path.length : Int), .bool false, .bool false, .slice A l.length c, .slice A7 l.length c7, .slice A l.length c, .int .i64 i, .func (.func 72) #[] #[.pointer (some ⟨w4.heap.size + 1, 0, none⟩), .pointer (some ⟨w4.heap.size + 1 + 1, 0, none⟩)], undef, undef, undef, undef, undef, .slice Av I.length cv, .slice A7 l.length c7, .int .i64 i, .slice A6 I.length c6, .bool true, .bool false, .slice A l.length c, .int .i64 i, .func (.func 71) #[] #[.pointer (some ⟨w7.heap.size + 1, 0, none⟩), .pointer (some ⟨w7.heap.size + 1 + 1, 0, none⟩)], undef, undef, undef, undef, undef, undef, undef, undef, undef, undef, undef, undef, undef, undef, undef, undef, undef, undef, undef, undef, undef, undef, undef, undef, undef, y86, y87, y88, y89, y90, y91, y92, y93, y94, y95, y96, y97, y98, y99, y100, y101, y102, y103, y104, y105, y106, y107, y108, y109, y110, y111, y112, y113, y114, y115, .bool false, .slice A l.length c, .func (.func 73) #[] #[.pointer (some ⟨X2.heap.size + 1, 0, none⟩), .pointer (some ⟨X2.heap.size + 1 + 1, 0, none⟩)], undef, undef, undef, undef, undef, undef, undef, undef, undef, undef, undef, undef, undef, undef, undef, undef, undef, undef, undef, undef, undef, undef, undef, undef, undef, undef, undef, undef, undef, undef, undef, undef, undef, undef, undef, undef, undef, undef, undef, undef, undef, undef, undef, undef, undef, undef, undef, undef, undef, undef, undef, undef, undef, undef, undef, undef, undef, undef, undef, undef, undef, undef, undef, undef, undef, undef, undef, undef, undef, undef, undef, undef, undef, undef, undef, undef, undef, undef, undef, undef, undef, undef, undef, undef, undef, undef, undef, undef, undef, undef, undef, undef, undef, undef, undef, undef, undef, undef, undef, undef, undef, undef, undef, undef, undef, undef, undef, undef, undef], defers := [{ target := .collected D3, args := #[] }, { target := .collected D2, args := #[] }, { target := .collected D1, args := #[] }] }) (Lib.hid ?h26) (Lib.hid ?k26)
            case h26 =>
              gi_wp2
            case k26 =>
              rintro a' Z ⟨hZ, rfl⟩
              rw [hZ]
              clear hZ
              refine cut_seq (fun a' X4 => (∃ z19 z126 z127 z128 z129 z130 z131 z132 z133 z134 z135 z136 z137 : Value, a' = { tmps := #[.slice A l.length c, .int .i64 i, .slice Ap path.length cp, .int .u8 (st : Int), .pointer (some ⟨W.heap.size, 0, none⟩), undef, undef, .pointer (some ⟨W.heap.size + 1, 0, none⟩), .pointer (some ⟨W.heap.size + 1 + 1, 0, none⟩), .slice A7 l.length c7, .pointer (some ⟨w4.heap.size, 0, none⟩), undef, .pointer (some ⟨w7.heap.size, 0, none⟩), undef, undef, .bool ob, .pointer (some ⟨X2.heap.size, 0, none⟩), .int .i64 ((findU l l.length).length : Int), undef, z19, undef, undef, undef, undef, undef, undef, undef, .bool true, .bool false, .slice A l.length c, .bool true, .bool false, .bool false, .slice A l.length c, .int .i64 0, .bool false, .bool false, .bool false, .slice Ap path.length cp, .int .i64 (path.length : Int), .bool false, .bool false, .slice A l.length c, .slice A7 l.length c7, .slice A l.length c, .int .i64 i, .func (.func 72) #[] #[.pointer (some ⟨w4.heap.size + 1, 0, none⟩), .pointer (some ⟨w4.heap.size + 1 + 1, 0, none⟩)], undef, undef, undef, undef, undef, .slice Av I.length cv, .slice A7 l.length c7, .int .i64 i, .slice A6 I.length c6, .bool true, .bool false, .slice A l.length c, .int .i64 i, .func (.func 71) #[] #[.pointer (some ⟨w7.heap.size + 1, 0, none⟩), .pointer (some ⟨w7.heap.size + 1 + 1, 0, none⟩)], undef, undef, undef, undef, undef, undef, undef, undef, undef, undef, undef, undef, undef, undef, undef, undef, undef, undef, undef, undef, undef, undef, undef, undef, undef, y86, y87, y88, y89, y90, y91, y92, y93, y94, y95, y96, y97, y98, y99, y100, y101, y102, y103, y104, y105, y106, y107, y108, y109, y110, y111, y112, y113, y114, y115, .bool false, .slice A l.length c, .func (.func 73) #[] #[.pointer (some ⟨X2.heap.size + 1, 0, none⟩), .pointer (some ⟨X2.heap.size + 1 + 1, 0, none⟩)], undef, undef, undef, undef, undef, undef, undef, z126, z127, z128, z129, z130, z131, z132, z133, z134, z135, z136, z137, undef, undef, undef, undef, undef, undef, undef, undef, undef, undef, undef, undef, undef, undef, undef, undef, undef, undef, undef, undef, undef, undef, undef, undef, undef, undef, undef, undef, undef, undef, undef, undef, undef, undef, undef, undef, undef, undef, undef, undef, undef, undef, undef, undef, undef, undef, undef, undef, undef, undef, undef, undef, undef, undef, undef, undef, undef, undef, undef, undef, undef, undef, undef, undef, undef, undef, undef, undef, undef, undef, undef, undef, undef, undef, undef, undef, undef, undef, undef, undef, undef, undef, undef, undef, undef, undef, undef, undef, undef, undef], defers := [{ target := .collected D3, args := #[] }, { target := .collected D2, args := #[] }, { target := .collected D1, args := #[] }] }) ∧ Below X3.heap.size X3 X4) (Lib.hid ?h27) (Lib.hid ?k27)
              case h27 =>
                dsimp only
                gi_wp2
                gi_loopw [17, 128] (fun v17 vi wr => ∃ (q : Nat), q ≤ l.length ∧ vi = .int .i64 (q : Int) ∧ v17 = .int .i64 ((findU l q).length : Int) ∧ Below X3.heap.size X3 wr) (fun _ vi _ => l.length - (intOf vi).toNat)
                case atStart => exact ⟨0, Nat.zero_le _, rfl, rfl, Below.refl _ _⟩
                case round =>
                  obtain ⟨q, hq, rfl, rfl, hBq⟩ := hrel
                  by_cases hql : q < l.length
                  · have k9 : decide ((q : Int) < (l.length : Int)) = true := decide_eq_true (by omega)
                    have k10 : decide (q < l.length) = true := decide_eq_true hql
                    have HLQ := Lib.hid hql
                    obtain ⟨ad7, rfl, d0, d1, d2, d3, d4⟩ := node7_at (HROW.out.keep (w1 := wr) (fun k hk => hBq.block k (HROW.out.own k hk).2)) q hql
                    have hfs := findU_succ l q
                    have hfl := findU_len l q
                    obtain ⟨⟨x0, x1, x2, x3, x4⟩, hkq, b0, b1, b2, b3, b4⟩ : ∃ x : Node, kndAt l q = x.f0 ∧ wr.cell? (ad7.add (q * 5)) = some (.int .i64 x.f0) ∧ wr.cell? ⟨(ad7.add (q * 5)).block, (ad7.add (q * 5)).off + 1, none⟩ = some (.string x.f1) ∧ wr.cell? ⟨(ad7.add (q * 5)).block, (ad7.add (q * 5)).off + 2, none⟩ = some (.string x.f2) ∧ wr.cell? ⟨(ad7.add (q * 5)).block, (ad7.add (q * 5)).off + 3, none⟩ = some (.int .i64 x.f3) ∧ wr.cell? ⟨(ad7.add (q * 5)).block, (ad7.add (q * 5)).off + 4, none⟩ = some (.int .i64 x.f4) :=
                      ⟨l[q], by unfold kndAt; rw [List.getElem?_eq_getElem hql] <;> rfl, d0, d1, d2, d3, d4⟩
                    rw [hkq] at hfs
                    clear d0 d1 d2 d3 d4 hkq
                    dsimp only at b0 b1 b2 b3 b4 hfs
                    obtain ⟨n, hn⟩ : ∃ n, (findU l q).length = n := ⟨_, rfl⟩
                    have hfs2 := congrArg List.length hfs
                    rw [List.length_append, hn] at hfs2
                    rw [hn] at hfl ⊢
                    have HBQ := Lib.hid (below_alloc hBq (.cells #[.int .i64 x0, .string x1, .string x2, .int .i64 x3, .int .i64 x4] 47))
                    clear hBq hfs hn
                    by_cases h5 : x0 = 5
                    · subst h5
                      have k5 : ((5 : Int) == 5) = true := rfl
                      rw [if_pos k5] at hfs2
                      have HFS := Lib.hid (show (findU l (q + 1)).length = n + 1 from hfs2)
                      clear hfs2
                      gi_wp2
                      go_roundw
                      case rel => exact ⟨q + 1, HLQ.out, by go_num, by rw [HFS.out]; go_num, HBQ.out⟩
                      case measure => have := HLQ.out; simp [intOf]; omega
                    · have k5 : (x0 == 5) = false := by simp [h5]
                      rw [k5] at hfs2
                      have HFS := Lib.hid (show (findU l (q + 1)).length = n from hfs2)
                      clear hfs2 h5
                      gi_wp2
                      go_roundw
                      case rel => exact ⟨q + 1, HLQ.out, by go_num, by rw [HFS.out], HBQ.out⟩
                      case measure => have := HLQ.out; simp [intOf]; omega
                  · have hqq : q = l.length := by omega
                    subst hqq
                    have k9 : decide ((l.length : Int) < (l.length : Int)) = false := decide_eq_false (by omega)
                    have HBQ := Lib.hid hBq
                    clear hBq
                    gi_wp2
                    exact HBQ.out
              case k27 =>
                rintro a' X4 ⟨⟨z19, z126, z127, z128, z129, z130, z131, z132, z133, z134, z135, z136, z137, rfl⟩, hB4⟩
                obtain ⟨gv, gb, hgv, hgb, hg1, hg2⟩ : ∃ (gv : Int) (gb : Bool), getV (getI l i path) = .tuple #[.int .i64 gv, .bool gb] ∧ gb = decide (0 ≤ refV (getI l i path)) ∧ (gb = true → gv = refV (getI l i path)) ∧ (gb = false → gv = 0) := by
                  cases getI l i path with
                  | none => exact ⟨0, false, rfl, rfl, fun h => (by cases h), fun _ => rfl⟩
                  | some j => exact ⟨(j : Int), true, rfl, (decide_eq_true (Int.natCast_nonneg j)).symm, fun _ => rfl, fun h => (by cases h)⟩
                obtain ⟨rv, hrv⟩ : ∃ rv, refV (getI l i path) = rv := ⟨_, rfl⟩
                have bw4 := below_step HBW3.out hB4
                have GET := Lib.hid (get_any A c l i (by omega) hc HM.out Ap cp path (by omega) X4 (Kd.C_below HC.out bw4) (fun a ha => by have := HA.out a ha; have := bw4.size; omega) (HP.out.below bw4))
                have GETR := Lib.hid (fun X (h : Below X4.heap.size X4 X) => getR_any A7 c7 w3.heap.size l t HLT.out (by omega) i Ap cp path (by omega) X (HROW.out.keep (w1 := X) (fun k hk => (below_step hB4 h).block k (HROW.out.own k hk).2)) (HP.out.below (below_step bw4 h)))
                rw [hgv] at GET
                rw [hrv] at GETR hgb hg1
                have c0 : X4.cell? ⟨W.heap.size, 0, none⟩ = some (.slice A l.length c) := cellBelow hB4 (blkc FACT.out.1 0 rfl)
                have HB4 := Lib.hid hB4
                have HGB := Lib.hid (And.intro hgb (And.intro hg1 hg2))
                clear hB4 bw4 hgv hgb hg1 hg2 hrv
                refine cut_seq (fun a' X5 => (∃ z138 z139 z140 z141 z142 z143 z144 : Value, a' = { tmps := #[.slice A l.length c, .int .i64 i, .slice Ap path.length cp, .int .u8 (st : Int), .pointer (some ⟨W.heap.size, 0, none⟩), undef, undef, .pointer (some ⟨W.heap.size + 1, 0, none⟩), .pointer (some ⟨W.heap.size + 1 + 1, 0, none⟩), .slice A7 l.length c7, .pointer (some ⟨w4.heap.size, 0, none⟩), undef, .pointer (some ⟨w7.heap.size, 0, none⟩), undef, undef, .bool ob, .pointer (some ⟨X2.heap.size, 0, none⟩), .int .i64 ((findU l l.length).length : Int), undef, z19, .int .i64 gv, .bool gb, undef, undef, undef, undef, undef, .bool true, .bool false, .slice A l.length c, .bool true, .bool false, .bool false, .slice A l.length c, .int .i64 0, .bool false, .bool false, .bool false, .slice Ap path.length cp, .int .i64 (path.length : Int), .bool false, .bool false, .slice A l.length c, .slice A7 l.length c7, .slice A l.length c, .int .i64 i, .func (.func 72) #[] #[.pointer (some ⟨w4.heap.size + 1, 0, none⟩), .pointer (some ⟨w4.heap.size + 1 + 1, 0, none⟩)], undef, undef, undef, undef, undef, .slice Av I.length cv, .slice A7 l.length c7, .int .i64 i, .slice A6 I.length c6, .bool true, .bool false, .slice A l.length c, .int .i64 i, .func (.func 71) #[] #[.pointer (some ⟨w7.heap.size + 1, 0, none⟩), .pointer (some ⟨w7.heap.size + 1 + 1, 0, none⟩)], undef, undef, undef, undef, undef, undef, undef, undef, undef, undef, undef, undef, undef, undef, undef, undef, undef, undef, undef, undef, undef, undef, undef, undef, undef, y86, y87, y88, y89, y90, y91, y92, y93, y94, y95, y96, y97, y98, y99, y100, y101, y102, y103, y104, y105, y106, y107, y108, y109, y110, y111, y112, y113, y114, y115, .bool false, .slice A l.length c, .func (.func 73) #[] #[.pointer (some ⟨X2.heap.size + 1, 0, none⟩), .pointer (some ⟨X2.heap.size + 1 + 1, 0, none⟩)], undef, undef, undef, undef, undef, undef, undef, z126, z127, z128, z129, z130, z131, z132, z133, z134, z135, z136, z137, z138, z139, z140, z141, z142, z143, z144, undef, undef, undef, undef, undef, undef, undef, undef, undef, undef, undef, undef, undef, undef, undef, undef, undef, undef, undef, undef, undef, undef, undef, undef, undef, undef, undef, undef, undef, undef, undef, undef, undef, undef, undef, undef, undef, undef, undef, undef, undef, undef, undef, undef, undef, undef, undef, undef, undef, undef, undef, undef, undef, undef, undef, undef, undef, undef, undef, undef, undef, undef, undef, undef, undef, undef, undef, undef, undef, undef, undef, undef, undef, undef, undef, undef, undef, undef, undef, undef, undef, undef, undef], defers := [{ target := .collected D3, args := #[] }, { target := .collected D2, args := #[] }, { target := .collected D1, args := #[] }] }) ∧ Below X4.heap.size X4 X5) (Lib.hid ?h33) (Lib.hid ?k33)
                case h33 =>
                  dsimp only
                  gi_wp2_with (refine ⟨trivial, ?_⟩; gi_at_call 36; go_must (refine ((callsIn_wide (n := 9)).2 GET.out).mono ?_); rintro e' X5 ⟨rfl, hb5⟩; have HB5' := Lib.hid hb5; clear hb5)
                  exact HB5'.out
                case k33 =>
                  rintro a' X5 ⟨⟨z138, z139, z140, z141, z142, z143, z144, rfl⟩, hB5⟩
                  have HB5 := Lib.hid hB5
                  clear hB5 c0
                  refine cut_seq (fun a' X6 => (∃ z145 z146 z147 z148 : Value, a' = { tmps := #[.slice A l.length c, .int .i64 i, .slice Ap path.length cp, .int .u8 (st : Int), .pointer (some ⟨W.heap.size, 0, none⟩), undef, undef, .pointer (some ⟨W.heap.size + 1, 0, none⟩), .pointer (some ⟨W.heap.size + 1 + 1, 0, none⟩), .slice A7 l.length c7, .pointer (some ⟨w4.heap.size, 0, none⟩), undef, .pointer (some ⟨w7.heap.size, 0, none⟩), undef, undef, .bool ob, .pointer (some ⟨X2.heap.size, 0, none⟩), .int .i64 ((findU l l.length).length : Int), undef, z19, .int .i64 gv, .bool gb, .int .i64 rv, undef, undef, undef, undef, .bool true, .bool false, .slice A l.length c, .bool true, .bool false, .bool false, .slice A l.length c, .int .i64 0, .bool false, .bool false, .bool false, .slice Ap path.length cp, .int .i64 (path.length : Int), .bool false, .bool false, .slice A l.length c, .slice A7 l.length c7, .slice A l.length c, .int .i64 i, .func (.func 72) #[] #[.pointer (some ⟨w4.heap.size + 1, 0, none⟩), .pointer (some ⟨w4.heap.size + 1 + 1, 0, none⟩)], undef, undef, undef, undef, undef, .slice Av I.length cv, .slice A7 l.length c7, .int .i64 i, .slice A6 I.length c6, .bool true, .bool false, .slice A l.length c, .int .i64 i, .func (.func 71) #[] #[.pointer (some ⟨w7.heap.size + 1, 0, none⟩), .pointer (some ⟨w7.heap.size + 1 + 1, 0, none⟩)], undef, undef, undef, undef, undef, undef, undef, undef, undef, undef, undef, undef, undef, undef, undef, undef, undef, undef, undef, undef, undef, undef, undef, undef, undef, y86, y87, y88, y89, y90, y91, y92, y93, y94, y95, y96, y97, y98, y99, y100, y101, y102, y103, y104, y105, y106, y107, y108, y109, y110, y111, y112, y113, y114, y115, .bool false, .slice A l.length c, .func (.func 73) #[] #[.pointer (some ⟨X2.heap.size + 1, 0, none⟩), .pointer (some ⟨X2.heap.size + 1 + 1, 0, none⟩)], undef, undef, undef, undef, undef, undef, undef, z126, z127, z128, z129, z130, z131, z132, z133, z134, z135, z136, z137, z138, z139, z140, z141, z142, z143, z144, z145, z146, z147, z148, undef, undef, undef, undef, undef, undef, undef, undef, undef, undef, undef, undef, undef, undef, undef, undef, undef, undef, undef, undef, undef, undef, undef, undef, undef, undef, undef, undef, undef, undef, undef, undef, undef, undef, undef, undef, undef, undef, undef, undef, undef, undef, undef, undef, undef, undef, undef, undef, undef, undef, undef, undef, undef, undef, undef, undef, undef, undef, undef, undef, undef, undef, undef, undef, undef, undef, undef, undef, undef, undef, undef, undef, undef, undef, undef, undef, undef, undef, undef], defers := [{ target := .collected D3, args := #[] }, { target := .collected D2, args := #[] }, { target := .collected D1, args := #[] }] }) ∧ Below X4.heap.size X4 X6) (Lib.hid ?h34) (Lib.hid ?k34)
                  case h34 =>
                    dsimp only
                    gi_wp2_with (refine ⟨trivial, ?_⟩; gi_at_call 41; go_must (refine ((callsIn_wide (n := 9)).2 (GETR.out _ HB5.out)).mono ?_); rintro e' X6 ⟨rfl, hb6⟩; have HB6' := Lib.hid (below_step HB5.out hb6); clear hb6)
                    exact HB6'.out
                  case k34 =>
                    rintro a' X6 ⟨⟨z145, z146, z147, z148, rfl⟩, hB6⟩
                    have hB36 := below_step HB4.out hB6
                    have cc : X6.cell? ⟨X2.heap.size, 0, none⟩ = some (.int .i64 ((min (findU l l.length).length (st + 1) : Nat) : Int)) := cellBelow hB36 (blkc FACT.out.2.2.2.1 0 rfl)
                    have cs : X6.cell? ⟨W.heap.size + 1, 0, none⟩ = some (.int .u8 (st : Int)) := cellBelow hB36 (blkc FACT.out.2.1 0 rfl)
                    have HB36 := Lib.hid hB36
                    obtain ⟨nf, hnf⟩ : ∃ nf, (findU l l.length).length = nf := ⟨_, rfl⟩
                    have hnfl : nf ≤ 300 := by have := findU_len l l.length; omega
                    rw [hnf] at cc ⊢
                    clear hB36 hB6 hnf
                    refine cut_seq (fun a' w' => w' = X6 ∧ ∃ z149 z150 z151 z152 z153 z154 z155 z156 z157 z158 z159 z160 z161 z162 z163 z164 z165 z166 z167 z168 z169 z170 z171 z172 z173 z174 z175 z176 z177 : Value, a' = { tmps := #[.slice A l.length c, .int .i64 i, .slice Ap path.length cp, .int .u8 (st : Int), .pointer (some ⟨W.heap.size, 0, none⟩), undef, undef, .pointer (some ⟨W.heap.size + 1, 0, none⟩), .pointer (some ⟨W.heap.size + 1 + 1, 0, none⟩), .slice A7 l.length c7, .pointer (some ⟨w4.heap.size, 0, none⟩), undef, .pointer (some ⟨w7.heap.size, 0, none⟩), undef, undef, .bool ob, .pointer (some ⟨X2.heap.size, 0, none⟩), .int .i64 (nf : Int), undef, z19, .int .i64 gv, .bool gb, .int .i64 rv, undef, undef, undef, undef, .bool true, .bool false, .slice A l.length c, .bool true, .bool false, .bool false, .slice A l.length c, .int .i64 0, .bool false, .bool false, .bool false, .slice Ap path.length cp, .int .i64 (path.length : Int), .bool false, .bool false, .slice A l.length c, .slice A7 l.length c7, .slice A l.length c, .int .i64 i, .func (.func 72) #[] #[.pointer (some ⟨w4.heap.size + 1, 0, none⟩), .pointer (some ⟨w4.heap.size + 1 + 1, 0, none⟩)], undef, undef, undef, undef, undef, .slice Av I.length cv, .slice A7 l.length c7, .int .i64 i, .slice A6 I.length c6, .bool true, .bool false, .slice A l.length c, .int .i64 i, .func (.func 71) #[] #[.pointer (some ⟨w7.heap.size + 1, 0, none⟩), .pointer (some ⟨w7.heap.size + 1 + 1, 0, none⟩)], undef, undef, undef, undef, undef, undef, undef, undef, undef, undef, undef, undef, undef, undef, undef, undef, undef, undef, undef, undef, undef, undef, undef, undef, undef, y86, y87, y88, y89, y90, y91, y92, y93, y94, y95, y96, y97, y98, y99, y100, y101, y102, y103, y104, y105, y106, y107, y108, y109, y110, y111, y112, y113, y114, y115, .bool false, .slice A l.length c, .func (.func 73) #[] #[.pointer (some ⟨X2.heap.size + 1, 0, none⟩), .pointer (some ⟨X2.heap.size + 1 + 1, 0, none⟩)], undef, undef, undef, undef, undef, undef, undef, z126, z127, z128, z129, z130, z131, z132, z133, z134, z135, z136, z137, z138, z139, z140, z141, z142, z143, z144, z145, z146, z147, z148, z149, z150, z151, z152, z153, z154, z155, z156, z157, z158, z159, z160, z161, z162, z163, z164, z165, z166, z167, z168, z169, z170, z171, z172, z173, z174, z175, z176, z177, undef, undef, undef, undef, undef, undef, undef, undef, undef, undef, undef, undef, undef, undef, undef, undef, undef, undef, undef, undef, undef, undef, undef, undef, undef, undef, undef, undef, undef, undef, undef, undef, undef, undef, undef, undef, undef, undef, undef, undef, undef, undef, undef, undef, undef, undef, undef, undef, undef, undef], defers := [{ target := .collected D3, args := #[] }, { target := .collected D2, args := #[] }, { target := .collected D1, args := #[] }] }) (Lib.hid ?h35) (Lib.hid ?k35)
                    case h35 =>
                      dsimp only
                      obtain ⟨hgb, hg1, hg2⟩ := HGB.out
                      have kf : ((min nf (st + 1) : Nat) : Int) = (if (nf : Int) ≤ (st : Int) + 1 then (nf : Int) else (st : Int) + 1) := by split <;> omega
                      cases gb with
                      | true =>
                        have hgr := hg1 rfl
                        subst hgr
                        have k1 : decide (0 ≤ gv) = true := hgb.symm
                        have k2 : (gv != gv) = false := by simp
                        clear hgb hg1 hg2
                        gi_wp2
                      | false =>
                        have hg0 := hg2 rfl
                        subst hg0
                        have k1 : decide (0 ≤ rv) = false := hgb.symm
                        clear hgb hg1 hg2
                        gi_wp2
                    case k35 =>
                      rintro a' Z ⟨hZ, z149, z150, z151, z152, z153, z154, z155, z156, z157, z158, z159, z160, z161, z162, z163, z164, z165, z166, z167, z168, z169, z170, z171, z172, z173, z174, z175, z176, z177, rfl⟩
                      rw [hZ]
                      clear hZ
                      clear cc cs
                      obtain ⟨key, hkey⟩ : ∃ key, path.headD ⟨#[]⟩ = key := ⟨_, rfl⟩
                      refine cut_seq (fun a' w' => w' = X6 ∧ a' = { tmps := #[.slice A l.length c, .int .i64 i, .slice Ap path.length cp, .int .u8 (st : Int), .pointer (some ⟨W.heap.size, 0, none⟩), undef, undef, .pointer (some ⟨W.heap.size + 1, 0, none⟩), .pointer (some ⟨W.heap.size + 1 + 1, 0, none⟩), .slice A7 l.length c7, .pointer (some ⟨w4.heap.size, 0, none⟩), undef, .pointer (some ⟨w7.heap.size, 0, none⟩), undef, undef, .bool ob, .pointer (some ⟨X2.heap.size, 0, none⟩), .int .i64 (nf : Int), undef, z19, .int .i64 gv, .bool gb, .int .i64 rv, .string ⟨#[]⟩, undef, undef, undef, .bool true, .bool false, .slice A l.length c, .bool true, .bool false, .bool false, .slice A l.length c, .int .i64 0, .bool false, .bool false, .bool false, .slice Ap path.length cp, .int .i64 (path.length : Int), .bool false, .bool false, .slice A l.length c, .slice A7 l.length c7, .slice A l.length c, .int .i64 i, .func (.func 72) #[] #[.pointer (some ⟨w4.heap.size + 1, 0, none⟩), .pointer (some ⟨w4.heap.size + 1 + 1, 0, none⟩)], undef, undef, undef, undef, undef, .slice Av I.length cv, .slice A7 l.length c7, .int .i64 i, .slice A6 I.length c6, .bool true, .bool false, .slice A l.length c, .int .i64 i, .func (.func 71) #[] #[.pointer (some ⟨w7.heap.size + 1, 0, none⟩), .pointer (some ⟨w7.heap.size + 1 + 1, 0, none⟩)], undef, undef, undef, undef, undef, undef, undef, undef, undef, undef, undef, undef, undef, undef, undef, undef, undef, undef, undef, undef, undef, undef, undef, undef, undef, y86, y87, y88, y89, y90, y91, y92, y93, y94, y95, y96, y97, y98, y99, y100, y101, y102, y103, y104, y105, y106, y107, y108, y109, y110, y111, y112, y113, y114, y115, .bool false, .slice A l.length c, .func (.func 73) #[] #[.pointer (some ⟨X2.heap.size + 1, 0, none⟩), .pointer (some ⟨X2.heap.size + 1 + 1, 0, none⟩)], undef, undef, undef, undef, undef, undef, undef, z126, z127, z128, z129, z130, z131, z132, z133, z134, z135, z136, z137, z138, z139, z140, z141, z142, z143, z144, z145, z146, z147, z148, z149, z150, z151, z152, z153, z154, z155, z156, z157, z158, z159, z160, z161, z162, z163, z164, z165, z166, z167, z168, z169, z170, z171, z172, z173, z174, z175, z176, z177, undef, undef, undef, undef, undef, undef, undef, undef, undef, undef, undef, undef, undef, undef, undef, undef, undef, undef, undef, undef, undef, undef, undef, undef, undef, undef, undef, undef, undef, undef, undef, undef, undef, undef, undef, undef, undef, undef, undef, undef, undef, undef, undef, undef, undef, undef, undef, undef, undef, undef], defers := [{ target := .collected D3, args := #[] }, { target := .collected D2, args := #[] }, { target := .collected D1, args := #[] }] }) (Lib.hid ?h37) (Lib.hid ?k37)
                      case h37 =>
                        dsimp only
                        gi_wp2
                      case k37 =>
                        rintro a' Z ⟨hZ, rfl⟩
                        rw [hZ]
                        clear hZ
                        refine cut_seq (fun a' w' => w' = X6 ∧ ∃ z178 z179 z180 z181 z182 z183 : Value, a' = { tmps := #[.slice A l.length c, .int .i64 i, .slice Ap path.length cp, .int .u8 (st : Int), .pointer (some ⟨W.heap.size, 0, none⟩), undef, undef, .pointer (some ⟨W.heap.size + 1, 0, none⟩), .pointer (some ⟨W.heap.size + 1 + 1, 0, none⟩), .slice A7 l.length c7, .pointer (some ⟨w4.heap.size, 0, none⟩), undef, .pointer (some ⟨w7.heap.size, 0, none⟩), undef, undef, .bool ob, .pointer (some ⟨X2.heap.size, 0, none⟩), .int .i64 (nf : Int), undef, z19, .int .i64 gv, .bool gb, .int .i64 rv, .string key, undef, undef, undef, .bool true, .bool false, .slice A l.length c, .bool true, .bool false, .bool false, .slice A l.length c, .int .i64 0, .bool false, .bool false, .bool false, .slice Ap path.length cp, .int .i64 (path.length : Int), .bool false, .bool false, .slice A l.length c, .slice A7 l.length c7, .slice A l.length c, .int .i64 i, .func (.func 72) #[] #[.pointer (some ⟨w4.heap.size + 1, 0, none⟩), .pointer (some ⟨w4.heap.size + 1 + 1, 0, none⟩)], undef, undef, undef, undef, undef, .slice Av I.length cv, .slice A7 l.length c7, .int .i64 i, .slice A6 I.length c6, .bool true, .bool false, .slice A l.length c, .int .i64 i, .func (.func 71) #[] #[.pointer (some ⟨w7.heap.size + 1, 0, none⟩), .pointer (some ⟨w7.heap.size + 1 + 1, 0, none⟩)], undef, undef, undef, undef, undef, undef, undef, undef, undef, undef, undef, undef, undef, undef, undef, undef, undef, undef, undef, undef, undef, undef, undef, undef, undef, y86, y87, y88, y89, y90, y91, y92, y93, y94, y95, y96, y97, y98, y99, y100, y101, y102, y103, y104, y105, y106, y107, y108, y109, y110, y111, y112, y113, y114, y115, .bool false, .slice A l.length c, .func (.func 73) #[] #[.pointer (some ⟨X2.heap.size + 1, 0, none⟩), .pointer (some ⟨X2.heap.size + 1 + 1, 0, none⟩)], undef, undef, undef, undef, undef, undef, undef, z126, z127, z128, z129, z130, z131, z132, z133, z134, z135, z136, z137, z138, z139, z140, z141, z142, z143, z144, z145, z146, z147, z148, z149, z150, z151, z152, z153, z154, z155, z156, z157, z158, z159, z160, z161, z162, z163, z164, z165, z166, z167, z168, z169, z170, z171, z172, z173, z174, z175, z176, z177, z178, z179, z180, z181, z182, z183, undef, undef, undef, undef, undef, undef, undef, undef, undef, undef, undef, undef, undef, undef, undef, undef, undef, undef, undef, undef, undef, undef, undef, undef, undef, undef, undef, undef, undef, undef, undef, undef, undef, undef, undef, undef, undef, undef, undef, undef, undef, undef, undef, undef], defers := [{ target := .collected D3, args := #[] }, { target := .collected D2, args := #[] }, { target := .collected D1, args := #[] }] }) (Lib.hid ?h38) (Lib.hid ?k38)
                        case h38 =>
                          dsimp only
                          by_cases h0 : 0 < path.length
                          · have k1 : decide ((0 : Int) < (path.length : Int)) = true := decide_eq_true (by omega)
                            have k2 : decide (0 < path.length) = true := decide_eq_true h0
                            obtain ⟨pa, rfl, p0⟩ := (HP.out.below (below_step HBW3.out HB36.out)) 0 h0
                            have hk0 : path[0] = key := (headD_get path h0).trans hkey
                            rw [hk0] at p0
                            have p1 : X6.cell? pa = some (.string key) := by rw [Addr.add, if_pos rfl] at p0; exact p0
                            clear hk0 hkey
                            gi_wp2
                          · have k1 : decide ((0 : Int) < (path.length : Int)) = false := decide_eq_false (by omega)
                            have hk0 : key = ⟨#[]⟩ := hkey.symm.trans (headD_none path h0)
                            subst hk0
                            clear hkey
                            gi_wp2
                        case k38 =>
                          rintro a' Z ⟨hZ, z178, z179, z180, z181, z182, z183, rfl⟩
                          rw [hZ]
                          clear hZ hkey
                          have bw6 := below_step HBW3.out HB36.out
                          have TEXT := Lib.hid (ntext_any A c l i (by omega) hc HM.out key X6 (Kd.C_below HC.out bw6) (fun a ha => by have := HA.out a ha; have := bw6.size; omega))
                          have GETR2 := Lib.hid (fun X (h : Below X6.heap.size X6 X) => getR_any A7 c7 w3.heap.size l t HLT.out (by omega) i (some ⟨X.heap.size, 0, none⟩) 1 [key] (by simp) (X.alloc (.cells #[.string key] 9)) (HROW.out.keep (fun k hk => ((below_alloc (Below.refl X.heap.size X) _).block k (by have := (HROW.out.own k hk).2; have := HB36.out.size; have := h.size; omega)).trans ((below_step HB36.out h).block k (HROW.out.own k hk).2))) (fun j hj => by
                            obtain rfl : j = 0 := by simpa using hj
                            exact ⟨_, rfl, blkc (blk_new X (.cells #[.string key] 9)) 0 rfl⟩))
                          have c0 : X6.cell? ⟨W.heap.size, 0, none⟩ = some (.slice A l.length c) := cellBelow HB36.out (blkc FACT.out.1 0 rfl)
                          have FIN := Lib.hid (show ∀ X, Below X6.heap.size X6 X → X.heap[W.heap.size + 1 + 1]? = some (.cells #[.bool false] 4 (0, 0)) from fun X h => ((below_step HB36.out h).block _ (blk_lt FACT.out.2.2.1)).trans FACT.out.2.2.1)
                          obtain ⟨o2, ho2⟩ : ∃ o2, getI l i [key] = o2 := ⟨_, rfl⟩
                          have hjl : ∀ j, o2 = some j → j < l.length := by
                            intro j h
                            rw [← ho2] at h
                            unfold getI at h
                            split at h
                            · exact getP_lt HM.out [key] i.toNat j (by omega) h
                            · cases h
                          rw [ho2] at TEXT GETR2
                          clear bw6 ho2
                          have MARK := Lib.hid (show ∀ X, Below X6.heap.size X6 X → MarksAt w4.heap.size [D3, D2, D1] (X.setCell ⟨W.heap.size + 1 + 1, 0, none⟩ (.bool true)) ∧ Below W.heap.size W (X.setCell ⟨W.heap.size + 1 + 1, 0, none⟩ (.bool true)) ∧ (X.setCell ⟨W.heap.size + 1 + 1, 0, none⟩ (.bool true)).heap[W.heap.size + 1 + 1]? = some (.cells #[.bool true] 4 (0, 0)) from by
                            intro X h
                            have hs := below_step HB36.out h
                            obtain ⟨_, _, _, _, f1, f2, f3⟩ := FACT.out
                            have hset : ∀ k, k ≠ W.heap.size + 1 + 1 → (X.setCell ⟨W.heap.size + 1 + 1, 0, none⟩ (.bool true)).heap[k]? = X.heap[k]? := fun k hk => Below.heap_setCell _ _ _ _ hk
                            refine ⟨⟨?_, fun r hr => ?_⟩, (below_step HBW3.out hs).setCell (by dsimp only; omega) _, by simp [World.setCell, Array.getElem?_modify, FIN.out X h]⟩
                            · simp; omega
                            · simp only [List.mem_cons, List.not_mem_nil, or_false] at hr
                              rcases hr with rfl | rfl | rfl
                              · exact ⟨by omega, (hset _ (by omega)).trans ((hs.block _ (blk_lt f3)).trans f3)⟩
                              · exact ⟨by omega, (hset _ (by omega)).trans ((hs.block _ (blk_lt f2)).trans f2)⟩
                              · exact ⟨by omega, (hset _ (by omega)).trans ((hs.block _ (blk_lt f1)).trans f1)⟩)
                          have hW4 : W.heap.size + 1 + 1 < w4.heap.size := by omega
                          dsimp only
                          cases o2 with
                          | none =>
                            have et : textV l none = .tuple #[.string ⟨#[]⟩, .bool false] := rfl
                            have er : refV none = -1 := rfl
                            rw [et] at TEXT
                            rw [er] at GETR2
                            clear et er hjl
                            gi_wp2_with (first | (refine ⟨trivial, ?_⟩; gi_at_call 42; go_must (refine ((callsIn_wide (n := 9)).2 TEXT.out).mono ?_); rintro e' X7 ⟨rfl, hb7⟩; have HB7 := Lib.hid hb7; clear hb7) | (refine ⟨trivial, ?_⟩; gi_at_call 41; go_must (refine ((callsIn_wide (n := 9)).2 (GETR2.out _ HB7.out)).mono ?_); rintro e' X8 ⟨rfl, hb8⟩; have HB8 := Lib.hid (below_step (below_alloc HB7.out _) hb8); have qe := blkc (FIN.out X8 HB8.out) 0 rfl; have qf := blk_frozen (FIN.out X8 HB8.out) 0; clear hb8))
                            refine leaves_marks (base := w4.heap.size) [D3, D2, D1] _ (MARK.out X8 HB8.out).1 (fun w' hw' => ?_)
                            obtain ⟨_, m2, m3⟩ := MARK.out X8 HB8.out
                            exact ⟨_, results_bool rfl _ _ (W.heap.size + 1 + 1) true rfl (blkc ((hw'.block _ hW4).trans m3) 0 rfl) Tryz.underlying4, rfl, m2.trans (hw'.mono (by omega))⟩
                          | some j =>
                            have hj := hjl j rfl
                            have er : refV (some j) = (j : Int) := rfl
                            rw [er] at GETR2
                            have k1 : decide ((0 : Int) ≤ (j : Int)) = true := decide_eq_true (by omega)
                            have k2 : decide (j < l.length) = true := decide_eq_true hj
                            have k3 : decide ((j : Int) < (l.length : Int)) = true := decide_eq_true (by omega)
                            have ROWJ := Lib.hid (show ∀ X, Below X6.heap.size X6 X → ∃ ad, A7 = some ad ∧ X.cell? (ad.add (j * 5)) = some (.int .i64 (kndAt l j)) ∧ X.cell? ⟨(ad.add (j * 5)).block, (ad.add (j * 5)).off + 2, none⟩ = some (.string (txtAt l j)) from by
                              intro X h
                              obtain ⟨ad7, e, d0, _, d2, _⟩ := node7_at (HROW.out.keep (w1 := X) (fun k hk => (below_step HB36.out h).block k (HROW.out.own k hk).2)) j hj
                              refine ⟨ad7, e, ?_, ?_⟩
                              · unfold kndAt; rw [List.getElem?_eq_getElem hj]; exact d0
                              · unfold txtAt; rw [List.getElem?_eq_getElem hj]; exact d2)
                            obtain ⟨kd, hkd⟩ : ∃ kd, kndAt l j = kd := ⟨_, rfl⟩
                            obtain ⟨tx, htx⟩ : ∃ tx, txtAt l j = tx := ⟨_, rfl⟩
                            have et : textV l (some j) = if kd = 5 then .tuple #[.string tx, .bool true] else .tuple #[.string ⟨#[]⟩, .bool false] := by rw [← hkd, ← htx]; rfl
                            rw [et] at TEXT
                            rw [hkd, htx] at ROWJ
                            clear et er hjl hkd htx
                            by_cases h5 : kd = 5
                            · rw [if_pos h5] at TEXT
                              have k5 : (kd == 5) = true := by simp [h5]
                              clear h5
                              gi_wp2_with (first | (refine ⟨trivial, ?_⟩; gi_at_call 42; go_must (refine ((callsIn_wide (n := 9)).2 TEXT.out).mono ?_); rintro e' X7 ⟨rfl, hb7⟩; have HB7 := Lib.hid hb7; clear hb7) | (refine ⟨trivial, ?_⟩; gi_at_call 41; go_must (refine ((callsIn_wide (n := 9)).2 (GETR2.out _ HB7.out)).mono ?_); rintro e' X8 ⟨rfl, hb8⟩; have HB8 := Lib.hid (below_step (below_alloc HB7.out _) hb8); have qe := blkc (FIN.out X8 HB8.out) 0 rfl; have qf := blk_frozen (FIN.out X8 HB8.out) 0; obtain ⟨ad7, rfl, dk, dt⟩ := ROWJ.out X8 HB8.out; clear hb8))
                              refine leaves_marks (base := w4.heap.size) [D3, D2, D1] _ (MARK.out X8 HB8.out).1 (fun w' hw' => ?_)
                              obtain ⟨_, m2, m3⟩ := MARK.out X8 HB8.out
                              exact ⟨_, results_bool rfl _ _ (W.heap.size + 1 + 1) true rfl (blkc ((hw'.block _ hW4).trans m3) 0 rfl) Tryz.underlying4, rfl, m2.trans (hw'.mono (by omega))⟩
                            · rw [if_neg h5] at TEXT
                              have k5 : (kd == 5) = false := by simp [h5]
                              clear h5
                              gi_wp2_with (first | (refine ⟨trivial, ?_⟩; gi_at_call 42; go_must (refine ((callsIn_wide (n := 9)).2 TEXT.out).mono ?_); rintro e' X7 ⟨rfl, hb7⟩; have HB7 := Lib.hid hb7; clear hb7) | (refine ⟨trivial, ?_⟩; gi_at_call 41; go_must (refine ((callsIn_wide (n := 9)).2 (GETR2.out _ HB7.out)).mono ?_); rintro e' X8 ⟨rfl, hb8⟩; have HB8 := Lib.hid (below_step (below_alloc HB7.out _) hb8); have qe := blkc (FIN.out X8 HB8.out) 0 rfl; have qf := blk_frozen (FIN.out X8 HB8.out) 0; obtain ⟨ad7, rfl, dk, dt⟩ := ROWJ.out X8 HB8.out; clear hb8))
                              refine leaves_marks (base := w4.heap.size) [D3, D2, D1] _ (MARK.out X8 HB8.out).1 (fun w' hw' => ?_)
                              obtain ⟨_, m2, m3⟩ := MARK.out X8 HB8.out
                              exact ⟨_, results_bool rfl _ _ (W.heap.size + 1 + 1) true rfl (blkc ((hw'.block _ hW4).trans m3) 0 rfl) Tryz.underlying4, rfl, m2.trans (hw'.mono (by omega))⟩

set_option maxRecDepth 100000 in
set_option maxHeartbeats 4000000 in
theorem nodeGoes_not (A : Option Addr) (c : Nat) (l : List Node) (W : World) (hc : l.length ≤ c) (hl : l.length ≤ 9223372036854775807) (hC : Kd.C kN W A l.length l) (i : Int) (Ap : Option Addr) (cp : Nat) (path : List ByteArray) (st : Nat)
    (hno : lightV l = true → chkP l = 0 → 6 < path.length) :
    Calls Tryz.prog 10 #[.slice A l.length c, .int .i64 i, .slice Ap path.length cp, .int .u8 (st : Int)] W fun e w' => e = .returned (.bool true) ∧ Below W.heap.size W w' := by
  have HLI := Lib.hid (fun w (h : Below W.heap.size W w) => light_any A c l hl hc w (Kd.C_below hC h))
  obtain ⟨lv, hlv⟩ : ∃ lv, lightV l = lv := ⟨_, rfl⟩
  rw [hlv] at HLI hno
  obtain ⟨Wa, hWa⟩ : ∃ Wa, ((W.alloc (.cells #[.slice A l.length c] 22)).alloc (.cells #[.int .u8 (st : Int)] 5)).alloc (.cells #[.bool false] 4) = Wa := ⟨_, rfl⟩
  have hba : Below W.heap.size W Wa := by rw [← hWa]; exact allocs_below W [.cells #[.slice A l.length c] 22, .cells #[.int .u8 (st : Int)] 5, .cells #[.bool false] 4]
  have a0 : Wa.heap[W.heap.size]? = some (.cells #[.slice A l.length c] 22 (0, 0)) := by rw [← hWa]; exact allocs_get W [.cells #[.slice A l.length c] 22, .cells #[.int .u8 (st : Int)] 5, .cells #[.bool false] 4] 0 _ rfl
  have a2 : Wa.heap[W.heap.size + 1 + 1]? = some (.cells #[.bool false] 4 (0, 0)) := by rw [← hWa]; exact allocs_get W [.cells #[.slice A l.length c] 22, .cells #[.int .u8 (st : Int)] 5, .cells #[.bool false] 4] 2 _ rfl
  have hsa : Wa.heap.size = W.heap.size + 3 := by rw [← hWa]; simp
  have BA := Lib.hid hba
  have HWa := Lib.hid hWa
  have BOX := Lib.hid (show ∀ w, Below Wa.heap.size Wa w → w.heap[W.heap.size]? = some (.cells #[.slice A l.length c] 22 (0, 0)) ∧ w.heap[W.heap.size + 1 + 1]? = some (.cells #[.bool false] 4 (0, 0)) from
    fun w h => ⟨(h.block _ (by omega)).trans a0, (h.block _ (by omega)).trans a2⟩)
  have FIN := Lib.hid (show ∀ X, Below Wa.heap.size Wa X → Below W.heap.size W (X.setCell ⟨W.heap.size + 1 + 1, 0, none⟩ (.bool true)) ∧ (X.setCell ⟨W.heap.size + 1 + 1, 0, none⟩ (.bool true)).cell? ⟨W.heap.size + 1 + 1, 0, none⟩ = some (.bool true) from by
    intro X h
    exact ⟨(below_step BA.out h).setCell (by dsimp only; omega) _, blkc (show (X.setCell ⟨W.heap.size + 1 + 1, 0, none⟩ (.bool true)).heap[W.heap.size + 1 + 1]? = some (.cells #[.bool true] 4 (0, 0)) by simp [World.setCell, Array.getElem?_modify, (BOX.out X h).2]) 0 rfl⟩)
  cases lv with
  | false =>
    clear hno hlv hC hWa hba a0 a2
    go_enter Tryz.func10, Tryz.ntmps10
    go_wp2_with (first | (go_at_call 26; go_must (refine (awake09_in _).mono ?_); rintro e w1 ⟨rfl, hb⟩; rw [HWa.out] at hb; have c1 : w1.cell? ⟨W.heap.size, 0, none⟩ = some (.slice A l.length c) := blkc (BOX.out w1 hb).1 0 rfl; have B1 := Lib.hid hb; clear hb) | (go_at_call 12; go_must (refine (HLI.out _ (below_step BA.out B1.out)).mono ?_); rintro e w2 ⟨rfl, hb⟩; have B2 := Lib.hid (below_step B1.out hb); have q2 := blkc (BOX.out w2 B2.out).2 0 rfl; have qf := blk_frozen (BOX.out w2 B2.out).2 0; clear hb))
    refine bodyPost_ret (results_bool rfl _ _ (W.heap.size + 1 + 1) true rfl (FIN.out _ B2.out).2 Tryz.underlying4) rfl ?_
    exact ⟨rfl, (FIN.out _ B2.out).1⟩
  | true =>
    have h1 := hno rfl
    obtain ⟨q1, q2⟩ := light_all hlv
    have HCK := Lib.hid (fun w (h : Below W.heap.size W w) => chk_any A c l hc (by omega) (fun n hn => ⟨by have := (q2 n hn).1; omega, by have := (q2 n hn).2; omega⟩) w (Kd.C_below hC h))
    obtain ⟨cv, hcv⟩ : ∃ cv, chkP l = cv := ⟨_, rfl⟩
    rw [hcv] at HCK h1
    clear hno hlv hC hcv q1 q2 hWa hba a0 a2
    by_cases h0 : cv = 0
    · have k0 : (cv != 0) = false := by simp [h0]
      have hp := h1 h0
      have k6 : decide ((6 : Int) < (path.length : Int)) = true := decide_eq_true (by omega)
      have k7 : decide (6 < path.length) = true := decide_eq_true hp
      clear h1 h0
      go_enter Tryz.func10, Tryz.ntmps10
      go_wp2_with (first | (go_at_call 26; go_must (refine (awake09_in _).mono ?_); rintro e w1 ⟨rfl, hb⟩; rw [HWa.out] at hb; have c1 : w1.cell? ⟨W.heap.size, 0, none⟩ = some (.slice A l.length c) := blkc (BOX.out w1 hb).1 0 rfl; have B1 := Lib.hid hb; clear hb) | (go_at_call 12; go_must (refine (HLI.out _ (below_step BA.out B1.out)).mono ?_); rintro e w2 ⟨rfl, hb⟩; have B2 := Lib.hid (below_step B1.out hb); have c2 : w2.cell? ⟨W.heap.size, 0, none⟩ = some (.slice A l.length c) := blkc (BOX.out w2 B2.out).1 0 rfl; clear hb) | (go_at_call 21; go_must (refine (HCK.out _ (below_step BA.out B2.out)).mono ?_); rintro e w3 ⟨rfl, hb⟩; have B3 := Lib.hid (below_step B2.out hb); have q2 := blkc (BOX.out w3 B3.out).2 0 rfl; have qf := blk_frozen (BOX.out w3 B3.out).2 0; clear hb))
      refine bodyPost_ret (results_bool rfl _ _ (W.heap.size + 1 + 1) true rfl (FIN.out _ B3.out).2 Tryz.underlying4) rfl ?_
      exact ⟨rfl, (FIN.out _ B3.out).1⟩
    · have k0 : (cv != 0) = true := by simpa using h0
      clear h1 h0
      go_enter Tryz.func10, Tryz.ntmps10
      go_wp2_with (first | (go_at_call 26; go_must (refine (awake09_in _).mono ?_); rintro e w1 ⟨rfl, hb⟩; rw [HWa.out] at hb; have c1 : w1.cell? ⟨W.heap.size, 0, none⟩ = some (.slice A l.length c) := blkc (BOX.out w1 hb).1 0 rfl; have B1 := Lib.hid hb; clear hb) | (go_at_call 12; go_must (refine (HLI.out _ (below_step BA.out B1.out)).mono ?_); rintro e w2 ⟨rfl, hb⟩; have B2 := Lib.hid (below_step B1.out hb); have c2 : w2.cell? ⟨W.heap.size, 0, none⟩ = some (.slice A l.length c) := blkc (BOX.out w2 B2.out).1 0 rfl; clear hb) | (go_at_call 21; go_must (refine (HCK.out _ (below_step BA.out B2.out)).mono ?_); rintro e w3 ⟨rfl, hb⟩; have B3 := Lib.hid (below_step B2.out hb); have q2 := blkc (BOX.out w3 B3.out).2 0 rfl; have qf := blk_frozen (BOX.out w3 B3.out).2 0; clear hb))
      refine bodyPost_ret (results_bool rfl _ _ (W.heap.size + 1 + 1) true rfl (FIN.out _ B3.out).2 Tryz.underlying4) rfl ?_
      exact ⟨rfl, (FIN.out _ B3.out).1⟩

/-- NodeGoes answers true, whatever it is handed. -/
theorem nodeGoes_any (A : Option Addr) (c : Nat) (l : List Node) (i : Int) (Ap : Option Addr) (cp : Nat) (path : List ByteArray) (st : Nat) (hst : st < 256) (W : World) (h : Kd.C kN W A l.length l ∧ l.length ≤ c) (hP : TextsAt W Ap path) :
    Calls Tryz.prog 10 #[.slice A l.length c, .int .i64 i, .slice Ap path.length cp, .int .u8 (st : Int)] W fun e w' => e = .returned (.bool true) ∧ Below W.heap.size W w' := by
  obtain ⟨hC, hc⟩ := h
  by_cases h : lightV l = true ∧ chkP l = 0 ∧ path.length ≤ 6
  · obtain ⟨h1, h2, h3⟩ := h
    obtain ⟨t, ht, e⟩ := chk_zero h2
    obtain ⟨q1, q2⟩ := light_all h1
    have hpos : 0 < l.length := by rw [e, rowT_len]; exact t.size_pos
    refine nodeGoes_ok A c t ht l e W hc q1 q2 hC (fun a ha => ?_) h1 h2 i Ap cp path h3 hP st hst
    obtain ⟨ad, e2, d0, _⟩ := node_at hC 0 hpos
    rw [ha] at e2
    cases e2
    have := World.block_lt_of_cell? _ _ d0
    rwa [show (a.add (0 * 5)).block = a.block by unfold Addr.add; split <;> rfl] at this
  · exact nodeGoes_not A c l W hc hC.2.1 hC i Ap cp path st (fun h1 h2 => by
      rcases Nat.lt_or_ge 6 path.length with h3 | h3
      · exact h3
      · exact absurd ⟨h1, h2, h3⟩ h)
end Go.Proofs.YtfocognhcljhpaaGreatDoor
