/- New of any slice, Equal, Same; the plain law of RangesOrder; append. -/
import Derived.Test.YtiggnmhoececfaaGreatDoorT10

namespace Go.Proofs.YtiggnmhoececfaaGreatDoor
set_option linter.unusedVariables false
set_option linter.unusedSimpArgs false
open Go.RowKit Go.Proofs.YtiggnmhoececfaaGreatDoorW.PrintWords

theorem addL_mem (l : List Rng) (r x : Rng) : x ∈ addL l r ↔ x = r ∨ x ∈ l := by
  unfold addL
  rw [List.mem_append, List.mem_append, List.mem_singleton, or_comm (b := x = r), or_assoc, ← List.mem_append, List.take_append_drop]

theorem newInv0 (w : World) (rs : List Rng) : NewInv w rs 0 ((w.alloc (.cells #[.slice none 0 0] 36)).alloc (.cells #[.slice none 0 0] 36)) := by
  have F0 := Lib.hid (show ((w.alloc (.cells #[.slice none 0 0] 36)).alloc (.cells #[.slice none 0 0] 36)).heap[w.heap.size]? = some (.cells #[.slice none 0 0] 36) from allocs_get w [.cells #[.slice none 0 0] 36, .cells #[.slice none 0 0] 36] 0 _ rfl); have F1 := Lib.hid (show ((w.alloc (.cells #[.slice none 0 0] 36)).alloc (.cells #[.slice none 0 0] 36)).heap[w.heap.size + 1]? = some (.cells #[.slice none 0 0] 36) from allocs_get w [.cells #[.slice none 0 0] 36, .cells #[.slice none 0 0] 36] 1 _ rfl); have B := Lib.hid (show Below w.heap.size w ((w.alloc (.cells #[.slice none 0 0] 36)).alloc (.cells #[.slice none 0 0] 36)) from allocs_below w [.cells #[.slice none 0 0] 36, .cells #[.slice none 0 0] 36])
  exact ⟨_, [], F1.out, F0.out, .inl ⟨rfl, rfl⟩, fun k hk => (by cases hk), Nat.le_refl _, rfl, rfl, B.out⟩

theorem newE_ne {l rs : List Rng} (h : newE l rs ≠ 0) : newL l rs = [] := by
  induction rs generalizing l with
  | nil => exact absurd rfl h
  | cons r rs ih =>
    unfold newE at h
    unfold newL
    by_cases h0 : addE l r = 0
    · rw [if_pos h0] at h ⊢; exact ih h
    · rw [if_neg h0]

end Go.Proofs.YtiggnmhoececfaaGreatDoor

namespace Go.Proofs.YtiggnmhoececfaaGreatDoor
set_option linter.unusedVariables false
set_option linter.unusedSimpArgs false
open Go.RowKit Go.Proofs.YtiggnmhoececfaaGreatDoorW.PrintWords

/-- A range, at any address. -/
structure RAt (W : World) (ad : Addr) (j : Nat) (r : Rng) : Prop where
  c0 : W.cell? (ad.add (j * 6)) = some (.string r.f)
  c1 : W.cell? ⟨(ad.add (j * 6)).block, (ad.add (j * 6)).off + 1, none⟩ = some (.string r.t)
  c2 : W.cell? ⟨(ad.add (j * 6)).block, (ad.add (j * 6)).off + 2, none⟩ = some (.string r.n)
  c3 : W.cell? ⟨(ad.add (j * 6)).block, (ad.add (j * 6)).off + 3, none⟩ = some (.string r.lo)
  c4 : W.cell? ⟨(ad.add (j * 6)).block, (ad.add (j * 6)).off + 4, none⟩ = some (.string r.hi)
  c5 : W.cell? ⟨(ad.add (j * 6)).block, (ad.add (j * 6)).off + 5, none⟩ = some (.int .i64 r.m)
theorem RAt.below {w w1 : World} {ad : Addr} {j : Nat} {r : Rng} (h : RAt w ad j r) (hb : Below w.heap.size w w1) : RAt w1 ad j r :=
  ⟨cellBelow hb h.c0, cellBelow hb h.c1, cellBelow hb h.c2, cellBelow hb h.c3, cellBelow hb h.c4, cellBelow hb h.c5⟩
def RsAt (W : World) (A : Option Addr) (l : List Rng) : Prop := ∀ j (h : j < l.length), ∃ ad, A = some ad ∧ RAt W ad j l[j]
theorem RsAt.below {w w1 : World} {A : Option Addr} {l : List Rng} (h : RsAt w A l) (hb : Below w.heap.size w w1) : RsAt w1 A l := fun j hj => by
  obtain ⟨ad, e, ha⟩ := h j hj
  exact ⟨ad, e, ha.below hb⟩
theorem Tab.rsAt {w : World} {A : Option Addr} {c : Nat} {l : List Rng} (h : Tab w (.slice A l.length c) l) : RsAt w A l := fun j hj => by
  rcases h with ⟨_, h2⟩ | ⟨g, cap, h1, _, _, _, h5⟩
  · rw [h2] at hj; exact absurd hj (by simp)
  · simp only [Value.slice.injEq] at h1
    obtain ⟨rfl, _, rfl⟩ := h1
    have hr := Tab.rngs h5 j hj
    have e : (⟨g, 0, none⟩ : Addr).add (j * 6) = ⟨g, j * 6, none⟩ := by rw [Lib.add_plain, Nat.zero_add]
    exact ⟨_, rfl, by rw [e]; exact hr.c0, by rw [e]; exact hr.c1, by rw [e]; exact hr.c2, by rw [e]; exact hr.c3, by rw [e]; exact hr.c4, by rw [e]; exact hr.c5⟩

set_option maxHeartbeats 4000000 in
set_option maxRecDepth 100000 in
theorem new_any2 (A0 : Option Addr) (cap : Nat) (rs : List Rng) (w : World) (hG : Glob w) (hcell : RsAt w A0 rs) (hs : ∀ r ∈ rs, Small r) (hl : rs.length ≤ 900) :
    Calls Tryz.prog 14 #[.slice A0 rs.length cap] w (NewPost rs w) := by
  have HS := Lib.hid hs
  have HC := Lib.hid hcell
  clear hs hcell
  go_enter Tryz.func14, Tryz.ntmps14
  go_wp2_with fail
  go_loopw [10] (fun vi wr => ∃ k : Nat, k ≤ rs.length ∧ vi = .int .i64 k ∧ NewInv w rs k wr) (fun vi _ => rs.length - (intOf vi).toNat)
  case atStart => exact ⟨0, Nat.zero_le _, rfl, newInv0 w rs⟩
  case round =>
    obtain ⟨k, hk, rfl, vt, lk, F4, F2, hTk, hTn, hlk, hE, hL, hB⟩ := hrel
    obtain ⟨A, c, rfl⟩ := hTk.slice
    have F4_0 := blkc F4 0 rfl
    have F2_0 := blkc F2 0 rfl
    have F2_f := blk_frozen F2 0
    have HF4 := Lib.hid F4
    have HF2 := Lib.hid F2
    have HTk := Lib.hid hTk
    have B := Lib.hid hB
    have hsz := blk_lt F4
    clear F4 F2 hTk hB
    by_cases hlt : k < rs.length
    · have k9 : decide ((k : Int) < (rs.length : Int)) = true := decide_eq_true (by omega)
      obtain ⟨ad, rfl, hra⟩ := HC.out k hlt
      obtain ⟨c0, c1, c2, c3, c4, c5⟩ := hra.below B.out
      clear hra
      have hd : rs.drop k = rs[k] :: rs.drop (k + 1) := List.drop_eq_getElem_cons hlt
      rw [hd] at hE hL
      have HM := Lib.hid (HS.out rs[k] (List.getElem_mem hlt))
      generalize rs[k] = r at hE hL HM c0 c1 c2 c3 c4 c5
      have HA := Lib.hid (add_any (.slice A lk.length c) lk r (wr.alloc (.cells #[.string r.f, .string r.t, .string r.n, .string r.lo, .string r.hi, .int .i64 r.m] 23)) (hG.below (below_alloc B.out _)) (HTk.out.below (below_alloc (Below.refl _ _) _)) HM.out (by omega))
      have HLK := Lib.hid hlk
      clear hd hlk hTn
      by_cases h0 : addE lk r = 0
      · have k8 : (addE lk r != 0) = false := by simp [h0]
        rw [newE, if_pos h0] at hE
        rw [newL, if_pos h0] at hL
        have HE := Lib.hid hE
        have HL := Lib.hid hL
        have H0 := Lib.hid h0
        clear hE hL h0
        go_wp2_with (go_at_call 19; ((with_reducible refine HA.out.mono ?_); rintro e w1 ⟨v', rfl, hT', hb, hfr⟩); rw [if_pos H0.out] at hT'; obtain ⟨A', c', rfl⟩ := hT'.slice; have B1 := Lib.hid hb; have HT1 := Lib.hid hT'; have HF1 := Lib.hid hfr; replace HF4 := Lib.hid (blk_below (blk_alloc HF4.out _) hb); replace HF2 := Lib.hid (blk_below (blk_alloc HF2.out _) hb); replace F4_0 := blkc HF4.out 0 rfl; have F4_f := blk_frozen HF4.out 0; replace F2_0 := blkc HF2.out 0 rfl; replace F2_f := blk_frozen HF2.out 0; clear hb hT' hfr)
        go_roundw
        case rel =>
          refine ⟨k + 1, by omega, by go_num, _, addL lk r, blk_set HF4.out 0 _, blk_far HF2.out (by dsimp only; omega) _, HT1.out.far (fun e => by have := HF1.out _ e; simp at this; omega) _, fun j e => by have := HF1.out _ e; simp at this; omega, by rw [addL_len]; have := HLK.out; omega, HE.out, HL.out, ?_⟩
          exact (below_step B.out (below_step (below_alloc (Below.refl _ _) _) B1.out)).setCell (by dsimp only; omega) _
        case measure => simp [intOf]; omega
      · have k8 : (addE lk r != 0) = true := by simpa using h0
        rw [newE, if_neg h0] at hE
        rw [newL, if_neg h0] at hL
        have HE := Lib.hid hE
        have HL := Lib.hid hL
        have H0 := Lib.hid h0
        clear hE hL h0
        go_wp2_with (go_at_call 19; ((with_reducible refine HA.out.mono ?_); rintro e w1 ⟨v', rfl, hT', hb, hfr⟩); rw [if_neg H0.out] at hT'; obtain ⟨A', c', rfl⟩ := hT'.slice; have B1 := Lib.hid hb; replace HF4 := Lib.hid (blk_below (blk_alloc HF4.out _) hb); replace HF2 := Lib.hid (blk_below (blk_alloc HF2.out _) hb); replace F4_0 := blkc HF4.out 0 rfl; have F4_f := blk_frozen HF4.out 0; replace F2_0 := blkc HF2.out 0 rfl; replace F2_f := blk_frozen HF2.out 0; clear hb hT' hfr)
        have F9 := blk_set (blk_far HF2.out (p := ⟨w.heap.size + 1, 0, none⟩) (by dsimp only; omega) (.slice A' 0 c')) 0 (.slice none 0 0)
        have F9_0 := blkc F9 0 rfl
        refine bodyPost_ret (v := .tuple #[.agg #[.slice none 0 0], .int .i64 (addE lk r)]) (by simp [results, Tryz.results14, go_sem, F9_0]) rfl ⟨.slice none 0 0, by rw [HE.out], by rw [← HL.out]; exact .inl ⟨rfl, rfl⟩, ?_⟩
        exact ((below_step B.out (below_step (below_alloc (Below.refl _ _) _) B1.out)).setCell (by dsimp only; omega) _).setCell (Nat.le_refl _) _
    · obtain rfl : k = rs.length := by omega
      have k9 : decide ((rs.length : Int) < (rs.length : Int)) = false := by simp
      rw [List.drop_of_length_le (Nat.le_refl _)] at hE hL
      have HE := Lib.hid hE
      have HL := Lib.hid hL
      clear hE hL
      go_wp2
      have F9 := blk_set HF2.out 0 (.slice A lk.length c)
      have F9_0 := blkc F9 0 rfl
      refine bodyPost_ret (v := .tuple #[.agg #[.slice A lk.length c], .int .i64 0]) (by simp [results, Tryz.results14, go_sem, F9_0]) rfl ⟨_, by rw [← HE.out]; rfl, ?_, B.out.setCell (Nat.le_refl _) _⟩
      rw [← HL.out]
      exact HTk.out.far (fun e => by have := hTn _ e; dsimp only at this; omega) _

set_option maxHeartbeats 4000000 in
set_option maxRecDepth 100000 in
theorem equal_any (A A' : Option Addr) (c c' : Nat) (L : List Rng) (w : World) (hv : RsAt w A L) (hu : RsAt w A' L) (hl : L.length ≤ 1000) :
    Calls Tryz.prog 47 #[.slice A L.length c, .slice A' L.length c'] w fun e w' => e = .returned (.bool true) ∧ Below w.heap.size w w' := by
  have HV := Lib.hid hv
  have HU := Lib.hid hu
  clear hv hu
  go_enter Tryz.func47, Tryz.ntmps47
  have k0 : ((L.length : Int) != (L.length : Int)) = false := by simp
  go_wp2_with fail
  go_loopw [13] (fun vi wr => ∃ k : Nat, k ≤ L.length ∧ vi = .int .i64 k ∧ Below w.heap.size w wr) (fun vi _ => L.length - (intOf vi).toNat)
  case atStart => exact ⟨0, Nat.zero_le _, rfl, Below.refl _ _⟩
  case round =>
    obtain ⟨k, hk, rfl, hB⟩ := hrel
    have B := Lib.hid hB
    clear hB
    rcases Nat.lt_or_ge k L.length with hlt | hge
    · have k9 : decide ((k : Int) < (L.length : Int)) = true := decide_eq_true (by omega)
      have k8 : decide ((0 : Int) ≤ (k : Int)) = true := decide_eq_true (by omega)
      obtain ⟨ad, rfl, ha⟩ := HV.out k hlt
      obtain ⟨ad', rfl, ha'⟩ := HU.out k hlt
      obtain ⟨c0, c1, c2, c3, c4, c5⟩ := ha.below B.out
      obtain ⟨d0, d1, d2, d3, d4, d5⟩ := ha'.below B.out
      clear ha ha'
      generalize L[k] = R at c0 c1 c2 c3 c4 c5 d0 d1 d2 d3 d4 d5
      have hne : ∀ W, (binOp BinOp.neq 23 (.agg #[.string R.f, .string R.t, .string R.n, .string R.lo, .string R.hi, .int .i64 R.m]) (.agg #[.string R.f, .string R.t, .string R.n, .string R.lo, .string R.hi, .int .i64 R.m])).run Tryz.prog W = .ok (.bool false) W := fun W => by go_simp
      go_wp2_with fail
      go_big_quiet (fail)
      go_wp2
      go_roundw
      case rel => exact ⟨k + 1, by omega, by go_num, pw_below_drewN B.out _⟩
      case measure => simp [intOf]; omega
    · obtain rfl : k = L.length := by omega
      have k9 : decide ((L.length : Int) < (L.length : Int)) = false := by simp
      go_wp2
      go_ret
      exact ⟨rfl, B.out⟩

set_option maxHeartbeats 4000000 in
set_option maxRecDepth 100000 in
theorem same_any (A A' : Option Addr) (c c' : Nat) (L : List Rng) (w : World) (hv : RsAt w A L) (hu : RsAt w A' L) (hl : L.length ≤ 1000) :
    Calls Tryz.prog 25 #[.agg #[.slice A L.length c], .agg #[.slice A' L.length c']] w fun e w' => e = .returned (.bool true) ∧ Below w.heap.size w w' := by
  have F0 := Lib.hid (show ((w.alloc (.cells #[.slice A L.length c] 36)).alloc (.cells #[.slice A' L.length c'] 36)).heap[w.heap.size]? = some (.cells #[.slice A L.length c] 36) from allocs_get w [.cells #[.slice A L.length c] 36, .cells #[.slice A' L.length c'] 36] 0 _ rfl); have F1 := Lib.hid (show ((w.alloc (.cells #[.slice A L.length c] 36)).alloc (.cells #[.slice A' L.length c'] 36)).heap[w.heap.size + 1]? = some (.cells #[.slice A' L.length c'] 36) from allocs_get w [.cells #[.slice A L.length c] 36, .cells #[.slice A' L.length c'] 36] 1 _ rfl); have B := Lib.hid (show Below w.heap.size w ((w.alloc (.cells #[.slice A L.length c] 36)).alloc (.cells #[.slice A' L.length c'] 36)) from allocs_below w [.cells #[.slice A L.length c] 36, .cells #[.slice A' L.length c'] 36])
  have HV := Lib.hid (equal_any A A' c c' L _ (hv.below B.out) (hu.below B.out) hl)
  clear hv hu
  go_enter Tryz.func25, Tryz.ntmps25
  go_wp2_with (go_at_call 47; go_must (refine HV.out.mono ?_); rintro e w1 ⟨rfl, hb⟩)
  go_ret
  exact ⟨rfl, below_step B.out hb⟩

end Go.Proofs.YtiggnmhoececfaaGreatDoor

namespace Go.Proofs.YtiggnmhoececfaaGreatDoor
set_option linter.unusedVariables false
set_option linter.unusedSimpArgs false
open Go.RowKit

theorem apart_symm (x y : Rng) : apartB x y = apartB y x := by unfold apartB; rw [Bool.or_comm]

def okR (r : Rng) : Prop := checkV r.f r.t r.n r.lo r.hi r.m = 0
def apartR (x y : Rng) : Prop := apartB x y = true

theorem addE_ok (l : List Rng) (r : Rng) (h : addE l r = 0) : okR r := by
  unfold addE at h
  by_cases h0 : checkV r.f r.t r.n r.lo r.hi r.m = 0
  · exact h0
  · rw [if_neg h0] at h; exact absurd h h0

theorem newE_zero : ∀ (rs l : List Rng), TabOk l → newE l rs = 0 → (∀ r ∈ rs, okR r) ∧ rs.Pairwise apartR ∧ (∀ r ∈ rs, free l r)
  | [], l, _, _ => ⟨fun _ h => absurd h List.not_mem_nil, List.Pairwise.nil, fun _ h => absurd h List.not_mem_nil⟩
  | r :: rs, l, hl, h => by
    unfold newE at h
    by_cases h0 : addE l r = 0
    · rw [if_pos h0] at h
      obtain ⟨i1, i2, i3⟩ := newE_zero rs (addL l r) (addL_good l r hl h0).1 h
      obtain ⟨_, hf, _⟩ := addE_free l r hl h0
      refine ⟨fun x hx => ?_, List.pairwise_cons.2 ⟨fun x hx => ?_, i2⟩, fun x hx => ?_⟩
      · rcases List.mem_cons.1 hx with rfl | hx
        · exact addE_ok l _ h0
        · exact i1 x hx
      · have := i3 x hx r ((addL_mem l r r).2 (.inl rfl))
        unfold apartR apartB
        rw [Bool.or_eq_true]
        exact this
      · rcases List.mem_cons.1 hx with rfl | hx
        · exact hf
        · exact fun y hy => i3 x hx y ((addL_mem l r y).2 (.inr hy))
    · rw [if_neg h0] at h; exact absurd h h0

theorem newE_good : ∀ (rs l : List Rng), TabOk l → (∀ r ∈ rs, okR r) → rs.Pairwise apartR → (∀ r ∈ rs, free l r) → l.length + rs.length ≤ 64 →
    newE l rs = 0 ∧ TabOk (newL l rs) ∧ (∀ x, x ∈ newL l rs ↔ x ∈ l ∨ x ∈ rs) ∧ (newL l rs).length = l.length + rs.length
  | [], l, hl, _, _, _, _ => ⟨rfl, hl, fun x => by simp [newL], by simp [newL]⟩
  | r :: rs, l, hl, h1, h2, h3, h4 => by
    have hr := VR.of_check r (h1 r List.mem_cons_self)
    have hf := h3 r List.mem_cons_self
    have h0 : addE l r = 0 := by
      unfold addE
      rw [if_pos (show checkV r.f r.t r.n r.lo r.hi r.m = 0 from h1 r List.mem_cons_self), if_neg (by simp at h4; omega), (clash_free l r hl hr.o).2 hf]
      rfl
    obtain ⟨p1, p2⟩ := List.pairwise_cons.1 h2
    obtain ⟨i1, i2, i3, i4⟩ := newE_good rs (addL l r) (addL_good l r hl h0).1 (fun x hx => h1 x (List.mem_cons_of_mem _ hx)) p2 (fun x hx y hy => by
      rcases (addL_mem l r y).1 hy with rfl | hy
      · have := p1 x hx
        unfold apartR apartB at this
        rw [Bool.or_eq_true] at this
        exact this
      · exact h3 x (List.mem_cons_of_mem _ hx) y hy) (by rw [addL_len]; simp at h4; omega)
    unfold newE newL
    rw [if_pos h0, if_pos h0]
    refine ⟨i1, i2, fun x => ?_, by rw [i4, addL_len]; simp; omega⟩
    rw [i3, addL_mem, List.mem_cons]
    constructor
    · rintro ((h | h) | h)
      · exact .inr (.inl h)
      · exact .inl h
      · exact .inr (.inr h)
    · rintro (h | h | h)
      · exact .inl (.inr h)
      · exact .inl (.inl h)
      · exact .inr h

theorem sorted_one : ∀ (l m : List Rng), TabOk l → TabOk m → (∀ x, x ∈ l ↔ x ∈ m) → l = m
  | [], [], _, _, _ => rfl
  | [], y :: m, _, _, h => absurd ((h y).2 List.mem_cons_self) List.not_mem_nil
  | x :: l, [], _, _, h => absurd ((h x).1 List.mem_cons_self) List.not_mem_nil
  | x :: l, y :: m, hl, hm, h => by
    have cx := (List.pairwise_cons.1 hl.2).1
    have cy := (List.pairwise_cons.1 hm.2).1
    have vx := hl.1 x List.mem_cons_self
    have vy := hm.1 y List.mem_cons_self
    have hxy : x = y := by
      rcases List.mem_cons.1 ((h x).1 List.mem_cons_self) with e | h1
      · exact e
      · rcases List.mem_cons.1 ((h y).2 List.mem_cons_self) with e | h2
        · exact e.symm
        · have a := le_klt vy.o (cy x h1)
          have b := le_klt vx.o (cx y h2)
          have := klt_trans a b
          rw [klt_irrefl] at this
          cases this
    subst hxy
    have hxl : x ∉ l := fun hx => by have := cx x hx; rw [vx.o] at this; cases this
    have hxm : x ∉ m := fun hx => by have := cy x hx; rw [vy.o] at this; cases this
    rw [sorted_one l m hl.tail hm.tail (fun z => ?_)]
    constructor
    · intro hz
      rcases List.mem_cons.1 ((h z).1 (List.mem_cons_of_mem _ hz)) with e | hz2
      · rw [e] at hz; exact absurd hz hxl
      · exact hz2
    · intro hz
      rcases List.mem_cons.1 ((h z).2 (List.mem_cons_of_mem _ hz)) with e | hz2
      · rw [e] at hz; exact absurd hz hxm
      · exact hz2

/-- New of a list, and of its rotation. -/
theorem order_law (l : List Rng) (k : Nat) (hl : l.length ≤ 20) (h : newE [] l = 0) :
    TabOk (newL [] l) ∧ (newL [] l).length = l.length ∧ (∀ r ∈ l, r ∈ newL [] l) ∧ newE [] (l.drop k ++ l.take k) = 0 ∧ newL [] (l.drop k ++ l.take k) = newL [] l := by
  obtain ⟨a1, a2, _⟩ := newE_zero l [] TabOk.nil h
  have hfree : ∀ r : Rng, free [] r := fun r x hx => absurd hx List.not_mem_nil
  obtain ⟨b1, b2, b3, b4⟩ := newE_good l [] TabOk.nil a1 a2 (fun r _ => hfree r) (by simp; omega)
  have hmem : ∀ x, x ∈ l.drop k ++ l.take k ↔ x ∈ l := fun x => by
    rw [List.mem_append, or_comm, ← List.mem_append, List.take_append_drop]
  have hpw : (l.drop k ++ l.take k).Pairwise apartR := by
    rw [← List.take_append_drop k l, List.pairwise_append] at a2
    rw [List.pairwise_append]
    refine ⟨a2.2.1, a2.1, fun x hx y hy => ?_⟩
    unfold apartR
    rw [apart_symm]
    exact a2.2.2 y hy x hx
  obtain ⟨c1, c2, c3, c4⟩ := newE_good (l.drop k ++ l.take k) [] TabOk.nil (fun r hr => a1 r ((hmem r).1 hr)) hpw (fun r _ => hfree r) (by simp; omega)
  refine ⟨b2, by rw [b4]; simp, fun r hr => (b3 r).2 (.inr hr), c1, ?_⟩
  refine sorted_one _ _ c2 b2 fun x => ?_
  rw [c3, b3, hmem]

theorem has_of (f t c : ByteArray) (hs : f.size = t.size) (hc : c.size = f.size) (hn : isNum c.data.toList = true) (h1 : klt c f = false) (h2 : klt t c = false) : hasV f t c = true := by
  rw [klt_is, decide_eq_false (by omega : ¬ c.size < f.size), decide_eq_true hc] at h1
  rw [klt_is, decide_eq_false (by omega : ¬ t.size < c.size), decide_eq_true (by omega : t.size = c.size)] at h2
  simp only [Bool.false_or, Bool.true_and] at h1 h2
  unfold hasV
  rw [hn, decide_eq_true hc, ByteArray.toList_eq, ByteArray.toList_eq, ByteArray.toList_eq, bl_eq, bl_eq, h1, ← not_less, h2]
  rfl

theorem has_from (r : Rng) (h : VR r) : hasV r.f r.t r.f = true := by
  obtain ⟨h1, h2, _, _, h5⟩ := h.num
  exact has_of _ _ _ h5 rfl h1 (klt_irrefl _) h.o
theorem has_to (r : Rng) (h : VR r) : hasV r.f r.t r.t = true := by
  obtain ⟨h1, h2, _, _, h5⟩ := h.num
  exact has_of _ _ _ h5 h5.symm h2 h.o (klt_irrefl _)

theorem has_one_of (L : List Rng) (hL : TabOk L) (c : ByteArray) (x y : Rng) (hx : x ∈ L) (hy : y ∈ L) (h1 : hasV x.f x.t c = true) (h2 : hasV y.f y.t c = true) : x = y := by
  obtain ⟨i, hi, rfl⟩ := List.getElem_of_mem hx
  obtain ⟨j, hj, rfl⟩ := List.getElem_of_mem hy
  have a := has_klt _ _ _ (hL.1 _ hx).s h1
  have b := has_klt _ _ _ (hL.1 _ hy).s h2
  have lt : ∀ (u v : Rng), klt u.t v.f = true → klt c v.f = false → klt u.t c = false → False := fun u v h k1 k2 => by
    rw [klt_le h k1] at k2; cases k2
  rcases Nat.lt_trichotomy i j with h | h | h
  · exact (lt _ _ (List.pairwise_iff_getElem.1 hL.2 i j hi hj h) b.1 a.2).elim
  · subst h; rfl
  · exact (lt _ _ (List.pairwise_iff_getElem.1 hL.2 j i hj hi h) a.1 b.2).elim

theorem find_it (L : List Rng) (hL : TabOk L) (c : ByteArray) (r : Rng) (hr : r ∈ L) (h : hasV r.f r.t c = true) : findB L c = true ∧ findR L c = r := by
  rcases find_is L hL c with ⟨h1, i, hi, _, h2, h3⟩ | ⟨_, _, _, h4⟩
  · exact ⟨h1, by rw [h2]; exact has_one_of L hL c _ _ (List.getElem_mem hi) hr h3 h⟩
  · rw [h4 r hr] at h; cases h

/-- With a range gone, none has its end. -/
theorem gone_it (L : List Rng) (hL : TabOk L) (r : Rng) (hr : r ∈ L) : dropE L r.f = 0 ∧ findB (dropL L r.f) r.t = false ∧ findR (dropL L r.f) r.t = noR := by
  have hany : L.any (fun x => sameF x r.f) = true := List.any_eq_true.2 ⟨r, hr, (sameF_is r r.f).2 rfl⟩
  obtain ⟨e1, e2⟩ := rem_is L r.f hL
  rw [hany] at e1 e2
  refine ⟨e1, ?_⟩
  have hD := dropL_ok L r.f hL
  rcases find_is (dropL L r.f) hD r.t with ⟨_, i, hi, _, _, h3⟩ | ⟨h1, _, h2, _⟩
  · have hm := List.getElem_mem hi
    have hm2 : (dropL L r.f)[i] ∈ remL L r.f := by
      generalize (dropL L r.f)[i] = z at hm ⊢
      rw [e2] at hm
      simpa using hm
    unfold remL at hm2
    rw [List.mem_filter] at hm2
    have := has_one_of L hL r.t _ r hm2.1 hr h3 (has_to r (hL.1 r hr))
    rw [this, (sameF_is r r.f).2 rfl] at hm2
    exact absurd hm2.2 (by simp)
  · exact ⟨h1, h2⟩

end Go.Proofs.YtiggnmhoececfaaGreatDoor

namespace Go.Proofs.YtiggnmhoececfaaGreatDoor
set_option linter.unusedVariables false
set_option linter.unusedSimpArgs false
open Go.RowKit Go.Proofs.YtiggnmhoececfaaGreatDoorW.PrintWords

/-- A slice of the call's own that holds the list. -/
def OwnT (w : World) (base : Nat) (v : Value) (L : List Rng) : Prop := w.ownsRow base 23 6 v L.length (rcells L)

theorem OwnT.made (w : World) : OwnT (w.alloc (.cells #[] 23)) w.heap.size (.slice (some ⟨w.heap.size, 0, none⟩) 0 0) [] :=
  World.ownsRow_made w #[] 0 (Nat.le_refl _) (Nat.zero_le _) (by simp)
theorem OwnT.alloc {w : World} {base : Nat} {v : Value} {L : List Rng} (h : OwnT w base v L) (o : Obj) : OwnT (w.alloc o) base v L := World.ownsRow.alloc h o
theorem OwnT.lower {w : World} {base base' : Nat} {v : Value} {L : List Rng} (h : OwnT w base v L) (hb : base' ≤ base) : OwnT w base' v L := own_weaken h hb
theorem OwnT.tab {w : World} {base : Nat} {v : Value} {L : List Rng} (h : OwnT w base v L) : Tab w v L := Tab.of_owns h

theorem add_more (a : Addr) (i j : Nat) : (a.add i).add j = a.add (i + j) := by
  unfold Addr.add
  by_cases hi : i = 0
  · subst hi; simp
  · by_cases hj : j = 0
    · subst hj; simp
    · rw [if_neg hi, if_neg hj, if_neg (by omega)]
      simp only [Nat.add_assoc]

theorem rs_cells {w : World} {ad : Addr} {l : List Rng} (h : RsAt w (some ad) l) : ∀ j u, (rcells l)[j]? = some u → w.cell? (ad.add j) = some u := by
  intro j u hj
  have hjl : j < l.length * 6 := by
    rcases Nat.lt_or_ge j (l.length * 6) with h | h
    · exact h
    · rw [List.getElem?_eq_none (by rw [rcells_len]; exact h)] at hj; cases hj
  have hq : j / 6 < l.length := by omega
  obtain ⟨ad2, e, hr⟩ := h (j / 6) hq
  obtain rfl := Option.some.inj e
  have e : j = j / 6 * 6 + j % 6 := by omega
  rw [e] at hj
  have hc := (rcells_at l (j / 6) (j % 6) hq (by omega)).symm.trans hj
  have e2 : ad.add j = (ad.add (j / 6 * 6)).add (j % 6) := by rw [add_more, ← e]
  rw [e2]
  have at_ : ∀ (a : Addr) (i : Nat), 0 < i → a.add i = ⟨a.block, a.off + i, none⟩ := fun a i hi => by unfold Addr.add; rw [if_neg (by omega)]
  obtain ⟨c0, c1, c2, c3, c4, c5⟩ := hr
  have hm : j % 6 < 6 := by omega
  generalize j % 6 = i at hc hm ⊢
  unfold Rng.cells rangeC at hc
  match i, hm with
  | 0, _ => simp at hc; subst hc; simpa [Addr.add] using c0
  | 1, _ => simp at hc; subst hc; rw [at_ _ 1 (by omega)]; exact c1
  | 2, _ => simp at hc; subst hc; rw [at_ _ 2 (by omega)]; exact c2
  | 3, _ => simp at hc; subst hc; rw [at_ _ 3 (by omega)]; exact c3
  | 4, _ => simp at hc; subst hc; rw [at_ _ 4 (by omega)]; exact c4
  | 5, _ => simp at hc; subst hc; rw [at_ _ 5 (by omega)]; exact c5

theorem cells_drop {w : World} {ad : Addr} {l : List Rng} (h : ∀ j u, (rcells l)[j]? = some u → w.cell? (ad.add j) = some u) (k : Nat) : ∀ j u, (rcells (l.drop k))[j]? = some u → w.cell? ((ad.add (k * 6)).add j) = some u := by
  intro j u hj
  rw [← rcells_drop, List.getElem?_drop] at hj
  rw [add_more]
  exact h _ u hj
theorem cells_take {w : World} {ad : Addr} {l : List Rng} (h : ∀ j u, (rcells l)[j]? = some u → w.cell? (ad.add j) = some u) (k : Nat) : ∀ j u, (rcells (l.take k))[j]? = some u → w.cell? (ad.add j) = some u := by
  intro j u hj
  rw [← rcells_take] at hj
  rcases Nat.lt_or_ge j (k * 6) with h1 | h1
  · rw [List.getElem?_take_of_lt h1] at hj
    exact h j u hj
  · rw [List.getElem?_eq_none (by rw [List.length_take]; omega)] at hj
    cases hj

theorem app_some (W : World) (base : Nat) (v : Value) (L : List Rng) (hO : OwnT W base v L) (a : Addr) (m c : Nat) (news : List Rng) (hm : m = news.length) (hcell : ∀ j u, (rcells news)[j]? = some u → W.cell? (a.add j) = some u) (hn : L.length + news.length ≤ 1000) (hbase : base ≤ W.heap.size) :
    ∃ v' W', (Builtin.append_ #[34, 34] 34 #[v, .slice (some a) m c]).run Tryz.prog W = .ok v' W' ∧ OwnT W' base v' (L ++ news) ∧ Below base W W' ∧
      (∀ (k : Nat) (cs : Array Value), W.heap[k]? = some (.cells cs 36 (0, 0)) → W'.heap[k]? = some (.cells cs 36 (0, 0))) := by
  subst hm
  obtain ⟨i0, hi0, hz0, hz1, hz2⟩ := info_parts info_range
  obtain ⟨v', W', h1, h2, h3, _⟩ := run_append_own W base 34 34 23 i0 _ 6 88 Tryz.underlying34 hi0 hz0 hz1 hz2 rfl (by decide) v L.length (rcells L) hO a news.length c (rcells news) (rcells_len news) hcell (rcells_oneCell news) (by unfold maxLen; omega) (by omega) hbase
  refine ⟨v', W', h1, ?_, (Below.refl _ W).grown h3 hbase (fun k hk => own_base hO k hk), fun k cs hk => ?_⟩
  · unfold OwnT
    rw [List.length_append, rcells_app]
    exact h2
  · refine (h3.block k (blk_lt hk) (fun e => ?_)).trans hk
    obtain ⟨cells, hc⟩ := own_typed hO k e.symm
    rw [hk] at hc
    simp at hc

end Go.Proofs.YtiggnmhoececfaaGreatDoor
