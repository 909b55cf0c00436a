/- A card's check digit. -/
import Derived.Test.YtiggnmhoececfaaGreatDoorDigits
import Derived.Test.YtiggnmhoececfaaGreatDoorRange
import Derived.Shelf.Abstract
import Derived.Shelf.RegionOpen
import Derived.OwnWalkIn
import Derived.TacticsInMore
import Derived.LoopNIn
import Derived.LoopIn
namespace Go.Proofs.YtiggnmhoececfaaGreatDoor
set_option linter.unusedVariables false
set_option linter.unusedSimpArgs false
open Go.RowKit Go.Shelf Go.Proofs.YtiggnmhoececfaaGreatDoorW.PrintWords
attribute [local go_sem] Oper.semAt_some

abbrev Wt := { n : Nat // n ≤ 9 }
def wtEnc (x : Wt) : Array Value := #[.int .i64 (x.1 : Nat)]
def wv (n : Nat) (dbl : Bool) : Nat := if 10 ≤ (if dbl then n * 2 else n) then (if dbl then n * 2 else n) - 9 else (if dbl then n * 2 else n)
theorem wv_le (n : Nat) (dbl : Bool) (h : n ≤ 9) : wv n dbl ≤ 9 := by unfold wv; cases dbl <;> simp <;> split <;> omega
/-- The weight of the digit that stands k from the end. -/
def wtAt (l : Bytes) (dbl : Bool) (k : Nat) : Nat := wv ((l.getD (l.length - 1 - k) 48).toNat - 48) (if k % 2 = 0 then dbl else !dbl)
def wts (l : Bytes) (dbl : Bool) : List Nat := (List.range l.length).map (wtAt l dbl)

theorem dig_at {l : Bytes} (h : isDig l = true) (i : Nat) (hi : i < l.length) : 48 ≤ (l[i]).toNat ∧ (l[i]).toNat ≤ 57 := by
  unfold isDig at h
  rw [List.all_eq_true] at h
  have := h l[i] (List.getElem_mem hi)
  simp only [Bool.and_eq_true, decide_eq_true_eq, UInt8.le_iff_toNat_le] at this
  exact this

def wMv (Db : Nat) (A B : World) : Prop := Below A.heap.size A B ∨ ∃ v, B = A.setCell ⟨Db, 0, none⟩ v
def wKp (Sb Db : Nat) (A B : World) : Prop := B.heap[Sb]? = A.heap[Sb]? ∧ B.heap[Db]? = A.heap[Db]?

set_option maxRecDepth 100000 in
set_option maxHeartbeats 2000000 in
theorem weights1_in (l Sb Db : Nat) (hne : Sb ≠ Db) (s : ByteArray) (dbl : Bool) (hs : s.size ≤ 1000000) (hd : isDig s.data.toList = true) (J Jx : List Wt → World → Prop)
    (hY : ∀ pre x W, J pre W → pre.length < s.size → YieldAt Fence.wide 8 Tryz.prog l (wtEnc x) W fun e W' =>
      (e = .returned (.bool true) ∧ J (pre ++ [x]) W' ∧ wKp Sb Db W W') ∨ (e = .returned (.bool false) ∧ Jx (pre ++ [x]) W'))
    (hJ : ∀ pre (A B : World), J pre A → wMv Db A B → J pre B)
    (W : World) (hS : W.heap[Sb]? = some (.cells #[.string s] 9 (0, 0))) (hD : W.heap[Db]? = some (.cells #[.bool dbl] 4 (0, 0))) (h0 : J [] W) :
    CallsIn Fence.wide 9 Tryz.prog 122 #[.func (.yield l) #[] #[], .pointer (some ⟨Sb, 0, none⟩), .pointer (some ⟨Db, 0, none⟩)] W fun e W' => (∃ v, e = .returned v) ∧
      ((∃ ys : List Wt, ys.map (·.1) = wts s.data.toList dbl ∧ J ys W') ∨ (∃ pre : List Wt, Jx pre W')) := by
  have hsz : s.data.toList.length = s.size := by simp
  refine callsIn_of_wp Tryz.func122 rfl trivial ?_ rfl
  simp only [Tryz.ntmps122, List.size_toArray, List.length_cons, List.length_nil, Nat.reduceAdd, Nat.reduceSub, Array.replicate_succ, Array.replicate_zero, List.push_toArray, List.append_toArray, List.nil_append, List.cons_append]
  have hc0 := blk_cell hS 0
  gi_wp2
  gi_loopw [4] (fun i wr => ∃ (k : Nat) (ys : List Wt), k ≤ s.size ∧ i = .int .i64 ((s.size : Int) - 1 - k) ∧ ys.length = k ∧ ys.map (·.1) = (wts s.data.toList dbl).take k ∧ J ys wr ∧ wr.heap[Sb]? = some (.cells #[.string s] 9 (0, 0)) ∧ wr.heap[Db]? = some (.cells #[.bool (if k % 2 = 0 then dbl else !dbl)] 4 (0, 0)))
    (fun i _ => (intOf i + 1).toNat)
  case atStart => exact ⟨0, [], by omega, by simp, rfl, rfl, h0, hS, hD⟩
  case round =>
    obtain ⟨k, ys, hk, rfl, hyl, hys, hJs, hS', hD'⟩ := hrel
    by_cases hlt : k < s.size
    · obtain ⟨m, hm⟩ : ∃ m : Nat, (s.size : Int) - 1 - k = m := ⟨s.size - 1 - k, by omega⟩
      have hml : m < s.size := by omega
      have hmk : m = s.data.toList.length - 1 - k := by rw [hsz]; omega
      have hdg := dig_at hd m (by rw [hsz]; exact hml)
      have hwt : wtAt s.data.toList dbl k = wv (s[m].toNat - 48) (if k % 2 = 0 then dbl else !dbl) := by
        unfold wtAt
        rw [← hmk, List.getD_eq_getElem?_getD, List.getElem?_eq_getElem (by rw [hsz]; exact hml)]
        rfl
      have hdg' : 48 ≤ s[m].toNat ∧ s[m].toNat ≤ 57 := hdg
      obtain ⟨c, hc⟩ : ∃ c, s[m].toNat = c := ⟨_, rfl⟩
      rw [hc] at hwt hdg'
      obtain ⟨b, hb⟩ : ∃ b, (if k % 2 = 0 then dbl else !dbl) = b := ⟨_, rfl⟩
      rw [hb] at hwt hD'
      have hnext : (if (k + 1) % 2 = 0 then dbl else !dbl) = !b := by rw [← hb]; by_cases p : k % 2 = 0 <;> simp [p] <;> omega
      rw [hm]
      have hS0 := blk_cell hS' 0
      have hD0 := blk_cell hD' 0
      have hDf := blk_frozen hD' 0
      have hcI : ((s[m].toNat : Nat) : Int) = (c : Int) := by rw [hc]
      have HN := Lib.hid hnext
      have HW := Lib.hid hwt
      have HY := Lib.hid hys
      have HM := Lib.hid hm
      clear hnext hwt hys hm hc hb hdg hmk hS hD hd hsz
      obtain ⟨hc1, hc2⟩ := hdg'
      cases b with
      | true =>
        by_cases h10 : 10 ≤ (c - 48) * 2
        · have h10' : decide ((10 : Int) ≤ ((c : Int) - 48) * 2) = true := by simp; omega
          obtain ⟨x, hx⟩ : ∃ x : Nat, ((c : Int) - 48) * 2 - 9 = (x : Int) := ⟨(((c : Int) - 48) * 2 - 9).toNat, by omega⟩
          have hxv : wv (c - 48) true = x := by simp only [wv, if_true]; rw [if_pos h10]; omega
          have hx9 : x ≤ 9 := by omega
          have hxt : (ys ++ [(⟨x, hx9⟩ : Wt)]).map (·.1) = (wts s.data.toList dbl).take (k + 1) := by
            rw [List.map_append, HY.out, List.take_succ_eq_append_getElem (by simp [wts]; exact hlt)]
            congr 1
            simp [wts, HW.out, hxv]
          obtain ⟨fn, tmps, assign, body, hy, hR⟩ := hY ys ⟨x, hx9⟩ wr hJs (by omega)
          dsimp only [wtEnc] at hy
          have HXT := Lib.hid hxt
          clear hxt hxv
          gi_wp2
          refine hR.mono ?_
          rintro e W3 (⟨rfl, hJ3, hk3⟩ | ⟨rfl, hJx3⟩)
          · have hD3 := hk3.2.trans hD'
            have hS3 := hk3.1.trans hS'
            have hD4 := blk_cell hD3 0
            have hD5 := blk_frozen hD3 0
            gi_wp2
            go_roundw
            case rel =>
              refine ⟨k + 1, ys ++ [⟨x, hx9⟩], by omega, ?_, by simp [hyl], HXT.out, hJ _ _ _ hJ3 (.inr ⟨_, rfl⟩), blk_far hS3 hne _, ?_⟩
              · rw [show (m : Int) - 1 = (s.size : Int) - 1 - ((k + 1 : Nat) : Int) by have := HM.out; omega]
              · rw [HN.out]; exact blk_set hD3 0 _
            case measure => simp [intOf]
          · gi_wp2
            refine bodyPost_ret (results_none rfl _ _ _) rfl ?_
            exact ⟨⟨_, rfl⟩, .inr ⟨_, hJx3⟩⟩
        · have h10' : decide ((10 : Int) ≤ ((c : Int) - 48) * 2) = false := by simp; omega
          obtain ⟨x, hx⟩ : ∃ x : Nat, ((c : Int) - 48) * 2 = (x : Int) := ⟨(((c : Int) - 48) * 2).toNat, by omega⟩
          have hxv : wv (c - 48) true = x := by simp only [wv, if_true]; rw [if_neg h10]; omega
          have hx9 : x ≤ 9 := by omega
          have hxt : (ys ++ [(⟨x, hx9⟩ : Wt)]).map (·.1) = (wts s.data.toList dbl).take (k + 1) := by
            rw [List.map_append, HY.out, List.take_succ_eq_append_getElem (by simp [wts]; exact hlt)]
            congr 1
            simp [wts, HW.out, hxv]
          obtain ⟨fn, tmps, assign, body, hy, hR⟩ := hY ys ⟨x, hx9⟩ wr hJs (by omega)
          dsimp only [wtEnc] at hy
          have HXT := Lib.hid hxt
          clear hxt hxv
          gi_wp2
          refine hR.mono ?_
          rintro e W3 (⟨rfl, hJ3, hk3⟩ | ⟨rfl, hJx3⟩)
          · have hD3 := hk3.2.trans hD'
            have hS3 := hk3.1.trans hS'
            have hD4 := blk_cell hD3 0
            have hD5 := blk_frozen hD3 0
            gi_wp2
            go_roundw
            case rel =>
              refine ⟨k + 1, ys ++ [⟨x, hx9⟩], by omega, ?_, by simp [hyl], HXT.out, hJ _ _ _ hJ3 (.inr ⟨_, rfl⟩), blk_far hS3 hne _, ?_⟩
              · rw [show (m : Int) - 1 = (s.size : Int) - 1 - ((k + 1 : Nat) : Int) by have := HM.out; omega]
              · rw [HN.out]; exact blk_set hD3 0 _
            case measure => simp [intOf]
          · gi_wp2
            refine bodyPost_ret (results_none rfl _ _ _) rfl ?_
            exact ⟨⟨_, rfl⟩, .inr ⟨_, hJx3⟩⟩
      | false =>
        have h10' : decide ((10 : Int) ≤ ((c : Int) - 48)) = false := by simp; omega
        obtain ⟨x, hx⟩ : ∃ x : Nat, (c : Int) - 48 = (x : Int) := ⟨((c : Int) - 48).toNat, by omega⟩
        have hxv : wv (c - 48) false = x := by simp only [wv, Bool.false_eq_true, if_false]; rw [if_neg (by omega)]; omega
        have hx9 : x ≤ 9 := by omega
        have hxt : (ys ++ [(⟨x, hx9⟩ : Wt)]).map (·.1) = (wts s.data.toList dbl).take (k + 1) := by
          rw [List.map_append, HY.out, List.take_succ_eq_append_getElem (by simp [wts]; exact hlt)]
          congr 1
          simp [wts, HW.out, hxv]
        obtain ⟨fn, tmps, assign, body, hy, hR⟩ := hY ys ⟨x, hx9⟩ wr hJs (by omega)
        dsimp only [wtEnc] at hy
        have HXT := Lib.hid hxt
        clear hxt hxv
        gi_wp2
        refine hR.mono ?_
        rintro e W3 (⟨rfl, hJ3, hk3⟩ | ⟨rfl, hJx3⟩)
        · have hD3 := hk3.2.trans hD'
          have hS3 := hk3.1.trans hS'
          have hD4 := blk_cell hD3 0
          have hD5 := blk_frozen hD3 0
          gi_wp2
          go_roundw
          case rel =>
            refine ⟨k + 1, ys ++ [⟨x, hx9⟩], by omega, ?_, by simp [hyl], HXT.out, hJ _ _ _ hJ3 (.inr ⟨_, rfl⟩), blk_far hS3 hne _, ?_⟩
            · rw [show (m : Int) - 1 = (s.size : Int) - 1 - ((k + 1 : Nat) : Int) by have := HM.out; omega]
            · rw [HN.out]; exact blk_set hD3 0 _
          case measure => simp [intOf]
        · gi_wp2
          refine bodyPost_ret (results_none rfl _ _ _) rfl ?_
          exact ⟨⟨_, rfl⟩, .inr ⟨_, hJx3⟩⟩
    · obtain rfl : k = s.size := by omega
      have hys' : ys.map (·.1) = wts s.data.toList dbl := by rw [hys, List.take_of_length_le (by simp [wts])]
      have HY := Lib.hid hys'
      clear hys hys' hsz hD' hS' hS hD hc0
      have hneg : ¬ (0 : Int) ≤ (s.size : Int) - 1 - (s.size : Int) := by omega
      gi_wp2
      go_end0
      exact ⟨⟨_, rfl⟩, .inl ⟨_, HY.out, hJs⟩⟩

theorem seq_weights (Sb Db : Nat) (hne : Sb ≠ Db) (s : ByteArray) (dbl : Bool) (hs : s.size ≤ 1000000) (hd : isDig s.data.toList = true) (w0 : World) (hS : w0.heap[Sb]? = some (.cells #[.string s] 9 (0, 0))) (hD : w0.heap[Db]? = some (.cells #[.bool dbl] 4 (0, 0))) :
    SeqM 9 Tryz.prog 122 #[.pointer (some ⟨Sb, 0, none⟩), .pointer (some ⟨Db, 0, none⟩)] wtEnc (wKp Sb Db) (wMv Db) (fun ys => ys.map (·.1) = wts s.data.toList dbl) (fun _ => True) s.size w0 := by
  intro l J Jx W hW hJ _ hY h0
  refine (weights1_in l Sb Db hne s dbl hs hd J Jx hY hJ W ((hW.block Sb (blk_lt hS)).trans hS) ((hW.block Db (blk_lt hD)).trans hD) h0).mono ?_
  rintro e W' ⟨hv, ⟨ys, h1, h2⟩ | ⟨pre, h1⟩⟩
  · exact ⟨hv, .inl ⟨ys, h1, h2⟩⟩
  · exact ⟨hv, .inr ⟨pre, trivial, h1⟩⟩

theorem sum_le (l : List Wt) : (l.map (·.1)).sum ≤ 9 * l.length := by
  induction l with
  | nil => simp
  | cons x l ih => have := x.2; simp only [List.map_cons, List.sum_cons, List.length_cons]; omega

theorem ownFrom_blk' {β : Type} (B k : Nat) (f : β → Array Value) (T : TypeId) : OwnFrom B (fun s W => W.heap[k]? = some (.cells (f s) T (0, 0))) := fun s A C row hs hg hr =>
  (hg.block k (blk_lt hs) (fun e => by obtain ⟨_, o, ho, hc⟩ := hr k e.symm; rw [hs] at ho; cases ho; cases hc)).trans hs

set_option maxRecDepth 100000 in
set_option maxHeartbeats 2000000 in
/-- digits.sum, of a text's weights -/
theorem sum_weights (Sb Db : Nat) (hne : Sb ≠ Db) (s : ByteArray) (dbl : Bool) (hs : s.size ≤ 1000000) (hd : isDig s.data.toList = true) (w : World) (hS : w.heap[Sb]? = some (.cells #[.string s] 9 (0, 0))) (hD : w.heap[Db]? = some (.cells #[.bool dbl] 4 (0, 0))) (n₀ : Nat) (hn₀ : n₀ ≤ Db) (hn1 : n₀ ≤ w.heap.size) :
    Calls Tryz.prog 101 #[.func (.func 122) #[] #[.pointer (some ⟨Sb, 0, none⟩), .pointer (some ⟨Db, 0, none⟩)]] w fun e w' => e = .returned (.int .i64 ((wts s.data.toList dbl).sum : Nat)) ∧ Below n₀ w w' := by
  refine (callsIn_wide (n := 10)).1 ?_
  refine callsIn_of_wp_marks Tryz.func101 rfl trivial ?_ rfl
  simp only [Tryz.ntmps101, List.size_toArray, List.length_cons, List.length_nil, Nat.reduceAdd, Nat.reduceSub, Array.replicate_succ, Array.replicate_zero, List.push_toArray, List.append_toArray, List.nil_append, List.cons_append]
  gi_wp2
  have hDl := blk_lt hD
  have hSl := blk_lt hS
  have hseq := seq_weights Sb Db hne s dbl hs hd (w.alloc (.cells #[.int .i64 0] 3)) (blk_alloc hS _) (blk_alloc hD _)
  refine range_m (by omega) (gf := 122) (lb := #[.pointer (some ⟨Sb, 0, none⟩), .pointer (some ⟨Db, 0, none⟩)]) rfl (enters_of Tryz.func122 (by kernel_rfl) rfl)
    hseq (Below.refl _ _) (fun h k => ⟨k.1.trans h.1, k.2.trans h.2⟩) (fun W l o o' hl ho _ _ => by rw [World.size_alloc] at hl; exact ⟨World.putObj_heap_other (by omega), World.putObj_heap_other (by omega)⟩)
    (fun A B h k o hk ho hc _ => by
      rcases h with h | ⟨v, rfl⟩
      · exact (h.block k (Array.getElem?_eq_some_iff.1 ho).1).trans ho
      · rw [World.size_alloc] at hk
        exact (Below.heap_setCell _ _ _ _ (by show k ≠ Db; omega)).trans ho)
    (fun _ => rfl)
    (fun pre W => W.heap[w.heap.size]? = some (.cells #[.int .i64 ((pre.map (·.1)).sum : Nat)] 3 (0, 0)) ∧ Below n₀ w W ∧ (w.alloc (.cells #[.int .i64 0] 3)).heap.size ≤ W.heap.size)
    (fun _ _ _ => False)
    (OwnFrom.and (ownFrom_blk' _ _ _ _) (OwnFrom.and (ownFrom_below hn1 (by rw [World.size_alloc]; omega)) (fun s A B row hs hg hr => Nat.le_trans hs hg.size)))
    (fun _ _ _ _ _ hs _ _ => hs)
    (fun s A B hs h => by
      obtain ⟨i1, i2, i3⟩ := hs
      rcases h with h | ⟨v, rfl⟩
      · exact ⟨blk_below i1 h, i2.trans (h.mono (Nat.le_trans hn1 i2.size)), Nat.le_trans i3 h.size⟩
      · exact ⟨blk_far i1 (by show w.heap.size ≠ Db; omega) _, i2.setCell (p := ⟨Db, 0, none⟩) hn₀ _, by simpa [World.setCell] using i3⟩)
    (fun _ _ _ _ hs _ => hs)
    ⟨blk_new _ _, (Below.refl n₀ w).alloc hn1 _, Nat.le_refl _⟩
    (fun x a' W => a' = { tmps := #[.func (.func 122) #[] #[.pointer (some ⟨Sb, 0, none⟩), .pointer (some ⟨Db, 0, none⟩)], undef, .int .i64 0, .pointer (some ⟨w.heap.size, 0, none⟩), .int .i64 (x.1 : Nat), .func (.func 122) #[] #[.pointer (some ⟨Sb, 0, none⟩), .pointer (some ⟨Db, 0, none⟩)], .int .i64 (x.1 : Nat), undef, undef, undef, undef], defers := [] })
    (fun x a' s A B row hs hg hr => hs)
    ?assign ?body ?done ?stop
  case assign =>
    rintro l pre x W K hI hK
    rw [show wtEnc x = #[.int .i64 (x.1 : Nat)] from rfl]
    gi_wp2
    exact hK _ _ (KeepsFrom.refl _ _) ⟨rfl, rfl⟩ hI rfl
  case body =>
    rintro l pre x a' W hl ⟨r, hr⟩ ⟨i1, i2, i3⟩ rfl hlt
    have hsum := sum_le pre
    have hx := x.2
    obtain ⟨t, ht⟩ : ∃ t, (pre.map (·.1)).sum = t := ⟨_, rfl⟩
    rw [ht] at i1 hsum
    have c1 := blk_cell i1 0
    have f1 := blk_frozen i1 0
    have HT := Lib.hid ht
    have hts : t + x.1 ≤ 10000000 := by omega
    clear ht hr hseq
    gi_wp2
    rw [World.size_alloc] at i3
    refine ⟨((KeepsOthers.setCell _ _ _).from _), ⟨Below.heap_setCell _ _ _ _ (by show Sb ≠ w.heap.size; omega), Below.heap_setCell _ _ _ _ (by show Db ≠ w.heap.size; omega)⟩, ?_, i2.setCell (p := ⟨w.heap.size, 0, none⟩) hn1 _, by rw [World.size_alloc]; simpa [World.setCell] using i3⟩
    have := blk_set i1 0 (.int .i64 ((t : Int) + (x.1 : Nat)))
    rw [List.map_append, List.sum_append, HT.out]
    simpa using this
  case done =>
    rintro D ys W hD hys ⟨i1, i2, i3⟩ hK
    rw [hys] at i1
    have c1 := blk_cell i1 0
    clear hys i1 hseq
    gi_wp2
    refine ⟨by simp, .inl ⟨_, _, rfl, run_takeDeferred hK, ?_⟩⟩
    refine ⟨_, results_tmp rfl _ _ _, rfl, ?_⟩
    rw [World.size_alloc] at hD
    exact i2.trans (belowK_b (w := w) hn1 W D _ _ (by omega) hK rfl rfl)
  case stop =>
    rintro D c pre W _ _ h _
    exact h.elim

end Go.Proofs.YtiggnmhoececfaaGreatDoor
