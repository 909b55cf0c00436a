/- The versions that are known, and the best of them. -/
import Derived.Test.YtiggnmhoececfaaGreatDoorWithin
import Derived.RangeFuncNested
import Derived.RangeFuncBound
import Derived.RangeFuncCalls
import Derived.RangeFuncLeaves
import Derived.Shelf.Abstract
import Derived.Shelf.RegionOpen
import Derived.OwnWalkIn
import Derived.TacticsInMore
import Derived.LoopNIn
import Derived.LoopIn
namespace Go.Proofs.YtiggnmhoececfaaGreatDoor
set_option linter.unusedVariables false
set_option linter.unusedSimpArgs false
open Go.RowKit Go.Shelf Go.Proofs.YtiggnmhoececfaaGreatDoorW.PrintWords
attribute [local go_sem] Oper.semAt_some

def verAgg (x : Ver) : Value := .agg #[.int .u16 (x.1.1 : Nat), .int .u16 (x.1.2.1 : Nat), .int .u16 (x.1.2.2 : Nat)]
def verEnc (x : Ver) : Array Value := #[verAgg x]

/-- The cells of block b hold these versions. -/
def VersAt (W : World) (b : Nat) (zs : List Ver) : Prop := ∃ cs T, W.heap[b]? = some (.cells cs T (0, 0)) ∧ ∀ j (h : j < zs.length), cs[j * 3]? = some (.int .u16 (zs[j].1.1 : Nat)) ∧ cs[j * 3 + 1]? = some (.int .u16 (zs[j].1.2.1 : Nat)) ∧ cs[j * 3 + 2]? = some (.int .u16 (zs[j].1.2.2 : Nat))

theorem VersAt.get {W : World} {b : Nat} {zs : List Ver} (h : VersAt W b zs) (j : Nat) (hj : j < zs.length) :
    W.cell? ⟨b, j * 3, none⟩ = some (.int .u16 (zs[j].1.1 : Nat)) ∧ W.cell? ⟨b, j * 3 + 1, none⟩ = some (.int .u16 (zs[j].1.2.1 : Nat)) ∧ W.cell? ⟨b, j * 3 + 2, none⟩ = some (.int .u16 (zs[j].1.2.2 : Nat)) := by
  obtain ⟨cs, T, hc, hz⟩ := h
  obtain ⟨h0, h1, h2⟩ := hz j hj
  exact ⟨(blk_cell hc _).trans h0, (blk_cell hc _).trans h1, (blk_cell hc _).trans h2⟩

set_option maxRecDepth 100000 in
set_option maxHeartbeats 2000000 in
theorem values1_in (l Bs b cap : Nat) (zs : List Ver) (hreach : zs.length ≤ 1000) (J Jx : List Ver → World → Prop)
    (hY : ∀ pre x W, J pre W → pre.length < zs.length → YieldAt Fence.wide 8 Tryz.prog l (verEnc x) W fun e W' =>
      (e = .returned (.bool true) ∧ J (pre ++ [x]) W' ∧ W'.heap[b]? = W.heap[b]?) ∨ (e = .returned (.bool false) ∧ Jx (pre ++ [x]) W'))
    (hJ : ∀ pre (A B : World), J pre A → Below A.heap.size A B → J pre B)
    (W : World) (hBs : W.cell? ⟨Bs, 0, none⟩ = some (.slice (some ⟨b, 0, none⟩) zs.length cap)) (hc : VersAt W b zs) (h0 : J [] W) :
    CallsIn Fence.wide 9 Tryz.prog 84 #[.func (.yield l) #[] #[], .pointer (some ⟨Bs, 0, none⟩)] W fun e W' => (∃ v, e = .returned v) ∧
      ((∃ ys, ys = zs ∧ J ys W') ∨ (∃ pre, pre <+: zs ∧ Jx pre W')) := by
  refine callsIn_of_wp Tryz.func84 rfl trivial ?_ rfl
  simp only [Tryz.ntmps84, List.size_toArray, List.length_cons, List.length_nil, Nat.reduceAdd, Nat.reduceSub, Array.replicate_succ, Array.replicate_zero, List.push_toArray, List.append_toArray, List.nil_append, List.cons_append]
  gi_wp2
  gi_loopw [7] (fun i wr => ∃ k : Nat, k ≤ zs.length ∧ i = .int .i64 k ∧ J (zs.take k) wr ∧ wr.heap[b]? = W.heap[b]?)
    (fun i _ => zs.length - (intOf i).toNat)
  case atStart => exact ⟨0, Nat.zero_le _, rfl, h0, rfl⟩
  case round =>
    obtain ⟨k, hk, rfl, hJs, hnx⟩ := hrel
    by_cases hlt : k < zs.length
    · have hc' : VersAt wr b zs := by obtain ⟨cs, T, hc1, hz⟩ := hc; exact ⟨cs, T, hnx.trans hc1, hz⟩
      obtain ⟨c0, c1, c2⟩ := hc'.get k hlt
      obtain ⟨fn, tmps, assign, body, hy, hR⟩ := hY (zs.take k) zs[k] (wr.alloc (.cells #[.int .u16 (zs[k].1.1 : Nat), .int .u16 (zs[k].1.2.1 : Nat), .int .u16 (zs[k].1.2.2 : Nat)] 82)) (hJ _ _ _ hJs (below_alloc (Below.refl _ _) _)) (by rw [List.length_take]; omega)
      dsimp only [verEnc, verAgg] at hy
      have hbk : b < wr.heap.size := by obtain ⟨cs, T, hc1, _⟩ := hc'; exact blk_lt hc1
      have HN := Lib.hid hnx
      clear hnx hc hc'
      gi_wp2
      refine hR.mono ?_
      rintro e W3 (⟨rfl, hJ3, hk3⟩ | ⟨rfl, hJx3⟩)
      · have hk4 : W3.heap[b]? = W.heap[b]? := hk3.trans ((Below.heap_alloc _ _ _ hbk).trans HN.out)
        have HK := Lib.hid hk4
        clear hk4 hk3
        have hts : zs.take (k + 1) = zs.take k ++ [zs[k]] := List.take_succ_eq_append_getElem hlt
        have HTS := Lib.hid hts
        clear hts
        gi_wp2
        go_roundw
        case rel => exact ⟨k + 1, by omega, by go_num, by rw [HTS.out]; exact hJ3, HK.out⟩
        case measure => simp [intOf]; omega
      · gi_wp2
        refine bodyPost_ret (results_none rfl _ _ _) rfl ?_
        exact ⟨⟨_, rfl⟩, .inr ⟨_, by rw [← List.take_succ_eq_append_getElem hlt]; exact List.take_prefix _ _, hJx3⟩⟩
    · obtain rfl : k = zs.length := by omega
      rw [List.take_of_length_le (Nat.le_refl _)] at hJs
      clear hnx
      gi_wp2
      go_end0
      exact ⟨⟨_, rfl⟩, .inl ⟨_, rfl, hJs⟩⟩

theorem values_any (a : Option Addr) (len cap : Nat) (w : World) :
    Calls Tryz.prog 75 #[.slice a len cap] w fun e w' => e = .returned (.func (.func 84) #[] #[.pointer (some ⟨w.heap.size, 0, none⟩)]) ∧ w' = w.alloc (.cells #[.slice a len cap] 76) := by
  go_enter Tryz.func75, Tryz.ntmps75
  go_wp2
  go_ret
  exact ⟨rfl, rfl⟩

def knownV : List Ver := [⟨(2, 1, 0), by decide⟩, ⟨(2, 2, 0), by decide⟩]

/-- version.Known: an iterator over two versions -/
theorem known_any (w : World) :
    Calls Tryz.prog 67 #[] w fun e w' => e = .returned (.func (.func 84) #[] #[.pointer (some ⟨w.heap.size + 1, 0, none⟩)]) ∧
      w' = (w.alloc (.cells #[.int .u16 2, .int .u16 1, .int .u16 0, .int .u16 2, .int .u16 2, .int .u16 0] 82)).alloc (.cells #[.slice (some ⟨w.heap.size, 0, none⟩) 2 2] 76) := by
  go_enter Tryz.func67, Tryz.ntmps67
  go_wp2_with (go_at_call 75; go_must (refine (values_any _ _ _ _).mono ?_); rintro e w1 ⟨rfl, rfl⟩)
  go_ret
  exact ⟨by simp, rfl⟩

/-! Blocks of cells, between a loop's rounds -/
theorem ownFrom_blk {β : Type} (B k : Nat) (f : β → Array Value) (T : TypeId) : OwnFrom B (fun s W => W.heap[k]? = some (.cells (f s) T (0, 0))) := fun s A C row hs hg hr =>
  (hg.block k (blk_lt hs) (fun e => by obtain ⟨_, o, ho, hc⟩ := hr k e.symm; rw [hs] at ho; cases ho; cases hc)).trans hs

theorem seq_known (Bs b : Nat) (w0 : World) (hBs : w0.heap[Bs]? = some (.cells #[.slice (some ⟨b, 0, none⟩) 2 2] 76 (0, 0))) (hc : VersAt w0 b knownV) :
    SeqStopsK Fence.wide 9 Tryz.prog 84 #[.pointer (some ⟨Bs, 0, none⟩)] verEnc (fun A B => B.heap[b]? = A.heap[b]?) (fun ys => ys = knownV) (fun pre => pre <+: knownV) 2 w0 := by
  intro l J Jx W hW hJ _ hY h0
  have hbs := hW.block Bs (blk_lt hBs)
  obtain ⟨cs, T, hb, hz⟩ := hc
  have hbb := hW.block b (blk_lt hb)
  exact values1_in l Bs b 2 knownV (by decide) J Jx hY (fun pre A B hj hAB => hJ pre A B none hj (grown_of_below hAB none) (fun r e => by cases e)) W
    (blk_cell (hbs.trans hBs) 0) ⟨cs, T, hbb.trans hb, hz⟩ h0

theorem keepsFrom_below {B : Nat} {W W2 : World} (h : Below W.heap.size W W2) : KeepsFrom B W W2 := ⟨h.size, fun k o _ hk _ => (h.block k (Array.getElem?_eq_some_iff.1 hk).1).trans hk⟩

def bestStep (low high : Bytes) (acc : Bytes) (v : Ver) : Bytes := if within (verText v.1.1 v.1.2.1 v.1.2.2) low high = true then verText v.1.1 v.1.2.1 v.1.2.2 else acc
def bestOf (low high : Bytes) (vs : List Ver) : Bytes := vs.foldl (bestStep low high) []
theorem bestOf_snoc (low high : Bytes) (vs : List Ver) (v : Ver) : bestOf low high (vs ++ [v]) = bestStep low high (bestOf low high vs) v := by simp [bestOf]

theorem verText_len (a b c : Nat) (ha : a < 65536) (hb : b < 65536) (hc : c < 65536) : (verText a b c).length ≤ 1000000 := by
  have h1 := text0_len a (by omega); have h2 := text0_len b (by omega); have h3 := text0_len c (by omega)
  simp [verText, Lib.join, List.intercalate]; omega

set_option maxRecDepth 100000 in
set_option maxHeartbeats 2000000 in
/-- version.Best -/
theorem best_any (low high : Bytes) (hlo : low.length ≤ 1000000) (hh : high.length ≤ 1000000) (w : World) (hG : Glob w) :
    Calls Tryz.prog 60 #[.string ⟨low.toArray⟩, .string ⟨high.toArray⟩] w fun e w' => e = .returned (.tuple #[.string ⟨(bestOf low high knownV).toArray⟩, .bool (!(bestOf low high knownV).isEmpty)]) ∧ Below w.heap.size w w' := by
  refine (callsIn_wide (n := 10)).1 ?_
  refine callsIn_of_wp_marks Tryz.func60 rfl trivial ?_ rfl
  simp only [Tryz.ntmps60, List.size_toArray, List.length_cons, List.length_nil, Nat.reduceAdd, Nat.reduceSub, Array.replicate_succ, Array.replicate_zero, List.push_toArray, List.append_toArray, List.nil_append, List.cons_append]
  gi_wp2_with (refine ⟨trivial, ?_⟩; gi_at_call 67; go_must (refine ((callsIn_wide (n := 9)).2 (known_any _)).mono ?_); rintro e w1 ⟨rfl, hw1⟩; have HW1 := Lib.hid hw1; clear hw1)
  have hw2 : w1 = allocs w [.cells #[.string ⟨low.toArray⟩] 9, .cells #[.string ⟨high.toArray⟩] 9, .cells #[.string ⟨([] : Bytes).toArray⟩] 9, .cells #[.int .u16 2, .int .u16 1, .int .u16 0, .int .u16 2, .int .u16 2, .int .u16 0] 82, .cells #[.slice (some ⟨w.heap.size + 3, 0, none⟩) 2 2] 76] := by
    rw [HW1.out]
    simp only [World.size_alloc]
    rfl
  have hsz : w1.heap.size = w.heap.size + 5 := by rw [hw2, allocs_size]; rfl
  have g2 : w1.heap[w.heap.size]? = some (.cells #[.string ⟨low.toArray⟩] 9 (0, 0)) := by rw [hw2]; exact allocs_get w _ 0 _ rfl
  have g3 : w1.heap[w.heap.size + 1]? = some (.cells #[.string ⟨high.toArray⟩] 9 (0, 0)) := by rw [hw2]; exact allocs_get w _ 1 _ rfl
  have g6 : w1.heap[w.heap.size + 1 + 1]? = some (.cells #[.string ⟨(bestOf low high []).toArray⟩] 9 (0, 0)) := by rw [hw2]; exact allocs_get w _ 2 _ rfl
  have gb : VersAt w1 (w.heap.size + 3) knownV := by
    rw [hw2]
    refine ⟨_, _, allocs_get w _ 3 _ rfl, fun j hj => ?_⟩
    have : j = 0 ∨ j = 1 := by have : j < 2 := hj; omega
    rcases this with rfl | rfl <;> exact ⟨rfl, rfl, rfl⟩
  have gs : w1.heap[w.heap.size + 4]? = some (.cells #[.slice (some ⟨w.heap.size + 3, 0, none⟩) 2 2] 76 (0, 0)) := by rw [hw2]; exact allocs_get w _ 4 _ rfl
  have hbelow : Below w.heap.size w w1 := by rw [hw2]; exact allocs_below _ _
  have hseq := seq_known (w.heap.size + 4) (w.heap.size + 3) w1 gs gb
  clear hw2 HW1 gb gs
  refine wpIn_rangeFunc_ownH rfl (by omega) (gf := 84) (lb := #[.pointer (some ⟨w.heap.size + 4, 0, none⟩)]) rfl trivial (enters_of Tryz.func84 (by kernel_rfl) rfl)
    hseq (fun h k => k.trans h) (fun W l o o' hl ho _ _ => World.putObj_heap_other (by omega)) (Below.refl _ _) (fun _ => rfl)
    (fun pre W => W.heap[w.heap.size + 1 + 1]? = some (.cells #[.string ⟨(bestOf low high pre).toArray⟩] 9 (0, 0)) ∧ W.heap[w.heap.size]? = some (.cells #[.string ⟨low.toArray⟩] 9 (0, 0)) ∧ W.heap[w.heap.size + 1]? = some (.cells #[.string ⟨high.toArray⟩] 9 (0, 0)) ∧ Below w.heap.size w W ∧ w1.heap.size ≤ W.heap.size)
    (fun _ _ _ => False)
    (OwnFrom.and (ownFrom_blk _ _ _ _) (OwnFrom.and (ownFrom_blk _ _ _ _) (OwnFrom.and (ownFrom_blk _ _ _ _) (OwnFrom.and (ownFrom_below (Nat.le_refl _) (by omega)) (fun s A B row hs hg hr => Nat.le_trans hs hg.size)))))
    (fun _ _ _ _ _ hs _ _ => hs)
    ⟨g6, g2, g3, hbelow, Nat.le_refl _⟩
    (fun x a' W => ∃ Bx, w1.heap.size ≤ Bx ∧ W.heap[Bx]? = some (.cells #[.int .u16 (x.1.1 : Nat), .int .u16 (x.1.2.1 : Nat), .int .u16 (x.1.2.2 : Nat)] 82 (0, 0)) ∧ a' = { tmps := #[.string ⟨low.toArray⟩, .string ⟨high.toArray⟩, .pointer (some ⟨w.heap.size, 0, none⟩), .pointer (some ⟨w.heap.size + 1, 0, none⟩), .string ⟨#[]⟩, .bool false, .pointer (some ⟨w.heap.size + 1 + 1, 0, none⟩), .pointer (some ⟨Bx, 0, none⟩), undef, .func (.func 84) #[] #[.pointer (some ⟨w.heap.size + 1 + 1 + 1 + 1, 0, none⟩)], verAgg x, undef, undef, undef, undef, undef, undef, undef, undef, undef, undef], defers := [] })
    (fun x a' s A B row hs hg hr => by
      obtain ⟨Bx, h1, h2, h3⟩ := hs
      exact ⟨Bx, h1, ownFrom_blk _ Bx (fun (_ : Unit) => _) _ () A B row h2 hg hr, h3⟩)
    ?assign ?body ?done ?stop
  case assign =>
    rintro l pre x W K ⟨i6, i2, i3, ib, is⟩ hK
    have e1 : (verEnc x) = #[.agg #[.int .u16 (x.1.1 : Nat), .int .u16 (x.1.2.1 : Nat), .int .u16 (x.1.2.2 : Nat)]] := rfl
    rw [e1]
    clear e1
    have hb3 : w.heap.size + 3 < W.heap.size := by omega
    gi_wp2
    refine hK _ _ ((KeepsOthers.alloc _ _).from _) (Below.heap_alloc _ _ _ hb3) ⟨blk_alloc i6 _, blk_alloc i2 _, blk_alloc i3 _, below_alloc ib _, by simp; omega⟩ ⟨W.heap.size, is, blk_new _ _, rfl⟩
  case body =>
    rintro l pre x a' W hl ⟨r, hr⟩ ⟨i6, i2, i3, ib, is⟩ ⟨Bx, hBx, bX, rfl⟩ hlt
    have hGW := hG.below ib
    have ht := vtext_any x.1.1 x.1.2.1 x.1.2.2 x.2.1 x.2.2.1 x.2.2.2 W hGW
    have hwi := fun W1 => within_any (verText x.1.1 x.1.2.1 x.1.2.2) low high (verText_len _ _ _ x.2.1 x.2.2.1 x.2.2.2) hlo hh W1
    obtain ⟨x0, x1, x2, _, _, _⟩ := blk3 bX
    have hstep := bestOf_snoc low high pre x
    unfold bestStep at hstep
    obtain ⟨tx, htx⟩ : ∃ tx, verText x.1.1 x.1.2.1 x.1.2.2 = tx := ⟨_, rfl⟩
    rw [htx] at ht hwi hstep
    cases hwb : within tx low high with
    | true =>
      rw [hwb, if_pos rfl] at hstep
      rw [hwb] at hwi
      have HT := Lib.hid ht
      have HW := Lib.hid hwi
      have HS := Lib.hid hstep
      clear ht hwi hstep hwb htx hr hlt bX
      gi_wp2_with (first
        | (refine ⟨trivial, ?_⟩; gi_at_call 68; go_must (refine (CallsIn.inRound l ((callsIn_wide (n := 7)).2 HT.out)).mono ?_); rintro e W1 ⟨rfl, hb1⟩; have j2 := blk_cell (blk_below i2 hb1) 0; have j3 := blk_cell (blk_below i3 hb1) 0)
        | (refine ⟨trivial, ?_⟩; gi_at_call 30; go_must (refine (CallsIn.inRound l ((callsIn_wide (n := 7)).2 (HW.out _ (hGW.below hb1)))).mono ?_); rintro e W2 ⟨rfl, hb2⟩; have hb3 := below_step hb1 hb2; have j6 := blk_cell (blk_below i6 hb3) 0; have f6 := blk_frozen (blk_below i6 hb3) 0))
      have hk3 : w.heap.size + 3 < W.heap.size := by omega
      refine ⟨(keepsFrom_below hb3).trans ((KeepsOthers.setCell _ _ _).from _), (Below.heap_setCell _ _ _ _ (by simp)).trans (hb3.block _ hk3), ?_, blk_far (blk_below i2 hb3) (by show w.heap.size ≠ w.heap.size + 1 + 1; omega) _, blk_far (blk_below i3 hb3) (by simp) _, (below_step ib hb3).setCell (by simp; omega) _, ?_⟩
      · have := blk_set (blk_below i6 hb3) 0 (.string ⟨tx.toArray⟩)
        rw [HS.out]
        exact this
      · have := hb3.size
        simp [World.setCell]
        omega
    | false =>
      rw [hwb, if_neg (by decide)] at hstep
      rw [hwb] at hwi
      have HT := Lib.hid ht
      have HW := Lib.hid hwi
      have HS := Lib.hid hstep
      clear ht hwi hstep hwb htx hr hlt bX
      gi_wp2_with (first
        | (refine ⟨trivial, ?_⟩; gi_at_call 68; go_must (refine (CallsIn.inRound l ((callsIn_wide (n := 7)).2 HT.out)).mono ?_); rintro e W1 ⟨rfl, hb1⟩; have j2 := blk_cell (blk_below i2 hb1) 0; have j3 := blk_cell (blk_below i3 hb1) 0)
        | (refine ⟨trivial, ?_⟩; gi_at_call 30; go_must (refine (CallsIn.inRound l ((callsIn_wide (n := 7)).2 (HW.out _ (hGW.below hb1)))).mono ?_); rintro e W2 ⟨rfl, hb2⟩; have hb3 := below_step hb1 hb2; have j6 := blk_cell (blk_below i6 hb3) 0; have f6 := blk_frozen (blk_below i6 hb3) 0))
      have hk3 : w.heap.size + 3 < W.heap.size := by omega
      refine ⟨keepsFrom_below hb3, hb3.block _ hk3, ?_, blk_below i2 hb3, blk_below i3 hb3, below_step ib hb3, ?_⟩
      · rw [HS.out]; exact blk_below i6 hb3
      · have := hb3.size
        omega
  case done =>
    rintro D ys W hD rfl ⟨i6, i2, i3, ib, is⟩ hK
    have j6 := blk_cell i6 0
    obtain ⟨tx, htx⟩ : ∃ tx, bestOf low high knownV = tx := ⟨_, rfl⟩
    have HTX := Lib.hid htx
    rw [htx] at j6
    clear htx i2 i3 i6 hseq
    replace j6 : W.cell? ⟨w.heap.size + 1 + 1, 0, none⟩ = some (.string ⟨tx.toArray⟩) := j6
    gi_wp2
    refine wpIn_wide.2 ?_
    go_quiet (fail)
    gi_wp2
    have hK2 : (W.drewN nq).heap[D]? = some (.deferred (some [])) := hK
    refine ⟨by simp, .inl ⟨_, _, rfl, run_takeDeferred hK2, ?_⟩⟩
    refine ⟨_, results_tmp2 rfl _ _ _, ?_, ?_⟩
    · rw [HTX.out]; rfl
    · exact (pw_below_drewN ib nq).trans (belowK_b (w := w) (Nat.le_refl _) (W.drewN nq) D _ _ (by omega) hK2 rfl rfl)
  case stop =>
    rintro D c pre W _ _ h _
    exact h.elim

end Go.Proofs.YtiggnmhoececfaaGreatDoor
