/- VersionAgrees, where the texts are short. -/
import Derived.Test.YtiggnmhoececfaaDoorAgrees
namespace Go.Proofs.YtiggnmhoececfaaDoor
set_option linter.unusedVariables false
set_option linter.unusedSimpArgs false
open Go.RowKit Go.Shelf Go.Proofs.YtiggnmhoececfaaDoorW.PrintWords Go.Proofs.YtiggnmhoececfaaDoorW.PrintMore
open PVersionAgrees (cashierref17_Within.f cashierref17_Best.f)
attribute [local go_sem] Oper.semAt_some

set_option maxRecDepth 100000 in
set_option maxHeartbeats 4000000 in
theorem agrees_walk (x y z B : ByteArray) (ok r1 : Bool) (hB : (B = ⟨#[50, 46, 50, 46, 48]⟩ ∧ ok = true) ∨ (B = ⟨#[50, 46, 49, 46, 48]⟩ ∧ ok = true) ∨ (B = ⟨#[]⟩ ∧ ok = false)) (w : World) (hG : Glob w) (M : Int) (hM : ∀ ats ty, Builtin.max_ ats ty #[.int .i64 x.size, .int .i64 y.size, .int .i64 z.size] = pure (.int .i64 M)) (hlong : ¬ 60 < M)
    (be : ∀ W : World, Glob W → Calls Tryd.prog 12 #[.string y, .string z] W fun e w' => e = .returned (.tuple #[.string B, .bool ok]) ∧ Below W.heap.size W w')
    (wi : ∀ W : World, Glob W → Calls Tryd.prog 14 #[.string x, .string y, .string z] W fun e w' => e = .returned (.bool r1) ∧ Below W.heap.size W w')
    (rw1 : cashierref17_Within.f 5000 x y z = some r1) (rb : cashierref17_Best.f 5000 y z = some B)
    (wb : ok = true → ∀ W : World, Glob W → Calls Tryd.prog 14 #[.string B, .string y, .string z] W fun e w' => e = .returned (.bool true) ∧ Below W.heap.size W w') :
    Calls Tryd.prog 4 #[.string x, .string y, .string z] w fun e w' => e = .returned (.bool true) ∧ Below w.heap.size w w' := by
  have hA := awake17_any (w.alloc (.cells #[.bool false] 4)) (hG.below (below_alloc (Below.refl _ _) _))
  have HA := Lib.hid hA
  have hmax : decide (60 < M) = false := decide_eq_false hlong
  have HBE := Lib.hid be
  have HWI := Lib.hid wi
  have HWB := Lib.hid wb
  have HRW := Lib.hid rw1
  have HRB := Lib.hid rb
  have HBC := Lib.hid hB
  clear hA hlong be wi wb rw1 rb hB
  refine (callsIn_wide (n := 10)).1 ?_
  refine callsIn_of_wp_marks Tryd.func4 rfl trivial ?_ rfl
  simp only [Tryd.ntmps4, List.size_toArray, List.length_cons, List.length_nil, Nat.reduceAdd, Nat.reduceSub, Array.replicate_succ, Array.replicate_zero, List.push_toArray, List.append_toArray, List.nil_append, List.cons_append]
  gi_wp2_with (first
    | (refine ⟨trivial, ?_⟩; gi_at_call 6; go_must (refine ((callsIn_wide (n := 9)).2 HA.out).mono ?_); rintro e w1 ⟨rfl, hb1⟩; have HB1 := Lib.hid (below_step (below_alloc (Below.refl w.heap.size w) (.cells #[.bool false] 4)) hb1); have b6 := blk_below (blk_new w (.cells #[.bool false] 4)) hb1; clear hb1)
    | (refine ⟨trivial, ?_⟩; gi_at_call 12; go_must (refine ((callsIn_wide (n := 9)).2 (HBE.out _ (hG.below HB1.out))).mono ?_); rintro e w2 ⟨rfl, hb2⟩; have HB2 := Lib.hid (below_step HB1.out hb2); have c6 := blk_below b6 hb2; clear hb2)
    | (refine ⟨trivial, ?_⟩; gi_at_call 13; go_must (refine ((callsIn_wide (n := 9)).2 (known_any _)).mono ?_); rintro e w3 ⟨rfl, hw3⟩; have HW3 := Lib.hid hw3; clear hw3))
  have hsz0 := HB2.out.size
  have hlt6 : w.heap.size < w2.heap.size := blk_lt c6
  have hw2 : w3 = allocs w2 [.cells #[.int .i64 0] 3, .cells #[.int .u16 2, .int .u16 1, .int .u16 0, .int .u16 2, .int .u16 2, .int .u16 0] 24, .cells #[.slice (some ⟨w2.heap.size + 1, 0, none⟩) 2 2] 58] := by
    rw [HW3.out]
    simp only [World.size_alloc]
    rfl
  have hsz : w3.heap.size = w2.heap.size + 3 := by rw [hw2, allocs_size]; rfl
  have hbelow3 : Below w2.heap.size w2 w3 := by rw [hw2]; exact allocs_below _ _
  have g6 : w3.heap[w.heap.size]? = some (.cells #[.bool false] 4 (0, 0)) := blk_below c6 hbelow3
  have g9 : w3.heap[w2.heap.size]? = some (.cells #[.int .i64 (([] : List Ver).length : Nat)] 3 (0, 0)) := by rw [hw2]; exact allocs_get w2 _ 0 _ rfl
  have gb : VersAt w3 (w2.heap.size + 1) knownV := by
    rw [hw2]
    refine ⟨_, _, allocs_get w2 _ 1 _ rfl, fun j hj => ?_⟩
    have : j = 0 ∨ j = 1 := by have : j < 2 := hj; omega
    rcases this with rfl | rfl <;> exact ⟨rfl, rfl, rfl⟩
  have gs : w3.heap[w2.heap.size + 2]? = some (.cells #[.slice (some ⟨w2.heap.size + 1, 0, none⟩) 2 2] 58 (0, 0)) := by rw [hw2]; exact allocs_get w2 _ 2 _ rfl
  have hbelow : Below w.heap.size w w3 := below_step HB2.out hbelow3
  have hseq := seq_known (w2.heap.size + 2) (w2.heap.size + 1) w3 gs gb
  clear hw2 HW3 gb gs hbelow3 c6
  refine wpIn_rangeFunc_ownH rfl (by omega) (gf := 38) (lb := #[.pointer (some ⟨w2.heap.size + 2, 0, none⟩)]) rfl trivial (enters_of Tryd.func38 (by kernel_rfl) rfl)
    hseq (fun h k => k.trans h) (fun W l o o' hl ho _ _ => World.putObj_heap_other (by omega)) (Below.refl _ _) (fun _ => rfl)
    (fun pre W => pre <+: knownV ∧ W.heap[w.heap.size]? = some (.cells #[.bool false] 4 (0, 0)) ∧ W.heap[w2.heap.size]? = some (.cells #[.int .i64 (pre.length : Nat)] 3 (0, 0)) ∧ Below w.heap.size w W ∧ w3.heap.size ≤ W.heap.size)
    (fun _ xs _ => ¬ xs <+: knownV)
    (OwnFrom.and (fun _ _ _ _ hs _ _ => hs) (OwnFrom.and (ownFrom_blk _ _ _ _) (OwnFrom.and (ownFrom_blk _ _ (fun (pre : List Ver) => #[.int .i64 (pre.length : Nat)]) _) (OwnFrom.and (ownFrom_below (Nat.le_refl _) (by omega)) (fun s A B row hs hg hr => Nat.le_trans hs hg.size)))))
    (fun _ _ _ _ _ hs _ _ => hs)
    ⟨List.nil_prefix, g6, g9, hbelow, Nat.le_refl _⟩
    (fun v a' W => ∃ Bx, w3.heap.size ≤ Bx ∧ W.heap[Bx]? = some (.cells #[.int .u16 (v.1.1 : Nat), .int .u16 (v.1.2.1 : Nat), .int .u16 (v.1.2.2 : Nat)] 24 (0, 0)) ∧ a' = { tmps := #[Value.string x, Value.string y, Value.string z, undef, undef, undef, Value.pointer (some ⟨w.heap.size, 0, none⟩), Value.string B, Value.bool ok, Value.pointer (some ⟨w2.heap.size, 0, none⟩), Value.pointer (some ⟨Bx, 0, none⟩), Value.bool true, Value.bool false, Value.string x, Value.int .i64 x.size, Value.string y, Value.int .i64 y.size, Value.string z, Value.int .i64 z.size, Value.int .i64 M, Value.bool false, Value.tuple #[Value.string B, Value.bool ok], Value.string y, Value.string z, Value.tuple #[Value.string B, Value.bool ok], Value.string B, Value.bool ok, Value.func (.func 38) #[] #[Value.pointer (some ⟨w2.heap.size + 1 + 1, 0, none⟩)], verAgg v, undef, undef, undef, undef, undef, undef, undef, undef, undef, undef, undef, undef, undef, undef, undef, undef, undef, undef, undef, undef, undef, undef, undef, undef, undef, undef, undef, undef, undef, undef, undef, undef, undef, undef, undef, undef, undef, undef, undef, undef, undef, undef, undef, undef, undef, undef, undef, undef, undef, undef, undef, undef, undef, undef], defers := [] })
    (fun v a' s A B row hs hg hr => by
      obtain ⟨Bx, h1, h2, h3⟩ := hs
      exact ⟨Bx, h1, ownFrom_blk _ Bx (fun (_ : Unit) => _) _ () A B row h2 hg hr, h3⟩)
    ?assign ?body ?done ?stop
  case assign =>
    rintro l pre v W K ⟨ip, i6, i9, ib, is⟩ hK
    have e1 : (verEnc v) = #[.agg #[.int .u16 (v.1.1 : Nat), .int .u16 (v.1.2.1 : Nat), .int .u16 (v.1.2.2 : Nat)]] := rfl
    rw [e1]
    clear e1
    have hb3 : w2.heap.size + 1 < W.heap.size := by omega
    gi_wp2
    refine hK _ _ ((KeepsOthers.alloc _ _).from _) (Below.heap_alloc _ _ _ hb3) ⟨ip, blk_alloc i6 _, blk_alloc i9 _, below_alloc ib _, by simp; omega⟩ ⟨W.heap.size, is, blk_new _ _, rfl⟩
  case body =>
    rintro l pre v a' W hl ⟨r, hr⟩ ⟨ip, i6, i9, ib, is⟩ ⟨Bx, hBx, bX, rfl⟩ hlt
    have hpx : pre = [] ∨ pre = [⟨(2, 1, 0), by decide⟩] := by
      obtain ⟨r', hr'⟩ := ip
      match pre, hr', hlt with
      | [], _, _ => exact .inl rfl
      | [p], hr', _ => right; simp [knownV] at hr'; rw [hr'.1]
    have hz9 : w2.heap.size < W.heap.size := blk_lt i9
    have hz6 : w.heap.size < W.heap.size := blk_lt i6
    dsimp only
    obtain ⟨x0, x1, x2, _, _, _⟩ := blk3 bX
    have j9 := blk_cell i9 0
    have f9 := blk_frozen i9 0
    have j6 := blk_cell i6 0
    have f6 := blk_frozen i6 0
    have n9 : w2.heap.size ≠ Bx := by omega
    have n6 : w2.heap.size ≠ w.heap.size := by omega
    rcases hpx with rfl | rfl
    · have j9 : W.cell? ⟨w2.heap.size, 0, none⟩ = some (.int .i64 0) := j9
      by_cases hv : v = ⟨(2, 1, 0), by decide⟩
      · skip
        subst hv
        have e0 := fun W => eqV 2 1 0 2 1 0 W
        simp only [beq_self_eq_true, Bool.and_self] at e0
        gi_wp2
        exact ⟨(KeepsOthers.setCell _ _ _).from _, Below.heap_setCell _ _ _ _ (by simp), ⟨[⟨(2, 2, 0), by decide⟩], rfl⟩, blk_far i6 (by simpa using n6.symm) _, blk_set i9 0 _, ib.setCell (by simp; omega) _, by simp [World.setCell]; omega⟩
      · skip
        have hb : ((v.1.1 : Int) == 2 && ((v.1.2.1 : Int) == 1 && (v.1.2.2 : Int) == 0)) = false := by
          rw [Bool.eq_false_iff]
          intro hh
          apply hv
          simp at hh
          exact Subtype.ext (Prod.ext (by show v.1.1 = 2; omega) (Prod.ext (by show v.1.2.1 = 1; omega) (by show v.1.2.2 = 0; omega)))
        have e0 := fun W => eqV (v.1.1 : Nat) (v.1.2.1 : Nat) (v.1.2.2 : Nat) 2 1 0 W
        rw [hb] at e0
        clear hb
        have HV := Lib.hid hv
        clear hv
        gi_wp2
        refine ⟨((KeepsOthers.setCell _ _ _).from _).trans ((KeepsOthers.setCell _ _ _).from _), fun hh => HV.out ?_⟩
        obtain ⟨r', hr'⟩ := hh
        simp [knownV] at hr'
        exact hr'.1
    · have j9 : W.cell? ⟨w2.heap.size, 0, none⟩ = some (.int .i64 1) := j9
      by_cases hv : v = ⟨(2, 2, 0), by decide⟩
      · skip
        subst hv
        have e0 := fun W => eqV 2 2 0 2 2 0 W
        simp only [beq_self_eq_true, Bool.and_self] at e0
        gi_wp2
        exact ⟨(KeepsOthers.setCell _ _ _).from _, Below.heap_setCell _ _ _ _ (by simp), ⟨[], rfl⟩, blk_far i6 (by simpa using n6.symm) _, blk_set i9 0 _, ib.setCell (by simp; omega) _, by simp [World.setCell]; omega⟩
      · skip
        have hb : ((v.1.1 : Int) == 2 && ((v.1.2.1 : Int) == 2 && (v.1.2.2 : Int) == 0)) = false := by
          rw [Bool.eq_false_iff]
          intro hh
          apply hv
          simp at hh
          exact Subtype.ext (Prod.ext (by show v.1.1 = 2; omega) (Prod.ext (by show v.1.2.1 = 2; omega) (by show v.1.2.2 = 0; omega)))
        have e0 := fun W => eqV (v.1.1 : Nat) (v.1.2.1 : Nat) (v.1.2.2 : Nat) 2 2 0 W
        rw [hb] at e0
        clear hb
        have HV := Lib.hid hv
        clear hv
        gi_wp2
        refine ⟨((KeepsOthers.setCell _ _ _).from _).trans ((KeepsOthers.setCell _ _ _).from _), fun hh => HV.out ?_⟩
        obtain ⟨r', hr'⟩ := hh
        simp [knownV] at hr'
        exact hr'.1
  case done =>
    rintro D ys W hD rfl ⟨ip, i6, i9, ib, is⟩ hK
    have j9 : W.cell? ⟨w2.heap.size, 0, none⟩ = some (.int .i64 2) := blk_cell i9 0
    have IB := Lib.hid ib
    have I6 := Lib.hid i6
    have HK := Lib.hid hK
    clear i9 ip is ib i6 hK hseq
    rcases HBC.out with ⟨rfl, rfl⟩ | ⟨rfl, rfl⟩ | ⟨rfl, rfl⟩
    · have HWB2 := Lib.hid (HWB.out rfl)
      clear HBC HBE HWB
      gi_wp2_with (first
        | (refine ⟨trivial, ?_⟩; gi_at_call 14; first
            | (with_reducible refine ((callsIn_wide (n := 9)).2 (HWI.out _ (hG.below IB.out))).mono ?_; rintro e W1 ⟨rfl, hb1⟩; have B1 := Lib.hid (below_step IB.out hb1))
            | (refine ((callsIn_wide (n := 9)).2 (HWB2.out _ (hG.below B3.out))).mono ?_; rintro e W4 ⟨rfl, hb4⟩; have B4 := Lib.hid (below_step B3.out hb4); have R4 := Lib.hid (below_step R3.out hb4); have k6 := blk_cell (blk_below I6.out R4.out) 0; have l6 := blk_frozen (blk_below I6.out R4.out) 0))
        | (refine ⟨trivial, ?_⟩; gi_at_call 15; go_must (refine ((callsIn_wide (n := 9)).2 (PVersionAgrees.cashierref17_Within.calls 5000 x y z r1 _ HRW.out)).mono ?_); rintro e W2 ⟨rfl, hb2⟩; have B2 := Lib.hid (below_step B1.out hb2); have R2 := Lib.hid (below_step hb1 hb2))
        | (refine ⟨trivial, ?_⟩; gi_at_call 16; go_must (refine ((callsIn_wide (n := 9)).2 (PVersionAgrees.cashierref17_Best.calls 5000 y z _ _ HRB.out)).mono ?_); rintro e W3 ⟨rfl, hb3⟩; have B3 := Lib.hid (below_step B2.out hb3); have R3 := Lib.hid (below_step R2.out hb3)))
      have hK2 : (W4.setCell ⟨w.heap.size, 0, none⟩ (.bool true)).heap[D]? = some (.deferred (some [])) := (Below.heap_setCell _ _ _ D (by simp; omega)).trans ((R4.out.block D (blk_lt HK.out)).trans HK.out)
      refine ⟨by simp, .inl ⟨_, _, rfl, run_takeDeferred hK2, ?_⟩⟩
      refine ⟨_, results_bool rfl _ _ w.heap.size true rfl ?_ Tryd.underlying4, rfl, ?_⟩
      · exact blk_cell ((World.putObj_heap_other (by omega)).trans (blk_set (blk_below I6.out R4.out) 0 (.bool true))) 0
      · exact (B4.out.setCell (Nat.le_refl _) _).trans (belowK_b (w := w) (Nat.le_refl _) (W4.setCell ⟨w.heap.size, 0, none⟩ (.bool true)) D _ _ (by omega) hK2 rfl rfl)
    · have HWB2 := Lib.hid (HWB.out rfl)
      clear HBC HBE HWB
      gi_wp2_with (first
        | (refine ⟨trivial, ?_⟩; gi_at_call 14; first
            | (with_reducible refine ((callsIn_wide (n := 9)).2 (HWI.out _ (hG.below IB.out))).mono ?_; rintro e W1 ⟨rfl, hb1⟩; have B1 := Lib.hid (below_step IB.out hb1))
            | (refine ((callsIn_wide (n := 9)).2 (HWB2.out _ (hG.below B3.out))).mono ?_; rintro e W4 ⟨rfl, hb4⟩; have B4 := Lib.hid (below_step B3.out hb4); have R4 := Lib.hid (below_step R3.out hb4); have k6 := blk_cell (blk_below I6.out R4.out) 0; have l6 := blk_frozen (blk_below I6.out R4.out) 0))
        | (refine ⟨trivial, ?_⟩; gi_at_call 15; go_must (refine ((callsIn_wide (n := 9)).2 (PVersionAgrees.cashierref17_Within.calls 5000 x y z r1 _ HRW.out)).mono ?_); rintro e W2 ⟨rfl, hb2⟩; have B2 := Lib.hid (below_step B1.out hb2); have R2 := Lib.hid (below_step hb1 hb2))
        | (refine ⟨trivial, ?_⟩; gi_at_call 16; go_must (refine ((callsIn_wide (n := 9)).2 (PVersionAgrees.cashierref17_Best.calls 5000 y z _ _ HRB.out)).mono ?_); rintro e W3 ⟨rfl, hb3⟩; have B3 := Lib.hid (below_step B2.out hb3); have R3 := Lib.hid (below_step R2.out hb3)))
      have hK2 : (W4.setCell ⟨w.heap.size, 0, none⟩ (.bool true)).heap[D]? = some (.deferred (some [])) := (Below.heap_setCell _ _ _ D (by simp; omega)).trans ((R4.out.block D (blk_lt HK.out)).trans HK.out)
      refine ⟨by simp, .inl ⟨_, _, rfl, run_takeDeferred hK2, ?_⟩⟩
      refine ⟨_, results_bool rfl _ _ w.heap.size true rfl ?_ Tryd.underlying4, rfl, ?_⟩
      · exact blk_cell ((World.putObj_heap_other (by omega)).trans (blk_set (blk_below I6.out R4.out) 0 (.bool true))) 0
      · exact (B4.out.setCell (Nat.le_refl _) _).trans (belowK_b (w := w) (Nat.le_refl _) (W4.setCell ⟨w.heap.size, 0, none⟩ (.bool true)) D _ _ (by omega) hK2 rfl rfl)
    · clear HBC HBE HWB
      gi_wp2_with (first
        | (refine ⟨trivial, ?_⟩; gi_at_call 14; first
            | (with_reducible refine ((callsIn_wide (n := 9)).2 (HWI.out _ (hG.below IB.out))).mono ?_; rintro e W1 ⟨rfl, hb1⟩; have B1 := Lib.hid (below_step IB.out hb1)))
        | (refine ⟨trivial, ?_⟩; gi_at_call 15; go_must (refine ((callsIn_wide (n := 9)).2 (PVersionAgrees.cashierref17_Within.calls 5000 x y z r1 _ HRW.out)).mono ?_); rintro e W2 ⟨rfl, hb2⟩; have B2 := Lib.hid (below_step B1.out hb2); have R2 := Lib.hid (below_step hb1 hb2))
        | (refine ⟨trivial, ?_⟩; gi_at_call 16; go_must (refine ((callsIn_wide (n := 9)).2 (PVersionAgrees.cashierref17_Best.calls 5000 y z _ _ HRB.out)).mono ?_); rintro e W3 ⟨rfl, hb3⟩; have B3 := Lib.hid (below_step B2.out hb3); have R3 := Lib.hid (below_step R2.out hb3); have k6 := blk_cell (blk_below I6.out R3.out) 0; have l6 := blk_frozen (blk_below I6.out R3.out) 0)
        | (refine ⟨trivial, ?_⟩))
      have hK2 : (W3.setCell ⟨w.heap.size, 0, none⟩ (.bool true)).heap[D]? = some (.deferred (some [])) := (Below.heap_setCell _ _ _ D (by simp; omega)).trans ((R3.out.block D (blk_lt HK.out)).trans HK.out)
      refine ⟨by simp, .inl ⟨_, _, rfl, run_takeDeferred hK2, ?_⟩⟩
      refine ⟨_, results_bool rfl _ _ w.heap.size true rfl ?_ Tryd.underlying4, rfl, ?_⟩
      · exact blk_cell ((World.putObj_heap_other (by omega)).trans (blk_set (blk_below I6.out R3.out) 0 (.bool true))) 0
      · exact (B3.out.setCell (Nat.le_refl _) _).trans (belowK_b (w := w) (Nat.le_refl _) (W3.setCell ⟨w.heap.size, 0, none⟩ (.bool true)) D _ _ (by omega) hK2 rfl rfl)
  case stop =>
    rintro D c pre W _ hp h _
    exact (h hp).elim

end Go.Proofs.YtiggnmhoececfaaDoor
