/- VersionParses. -/
import Derived.Test.YtiggnmhoececfaaDoorRef17b
import Derived.Test.YtiggnmhoececfaaDoorEq24
namespace Go.Proofs.YtiggnmhoececfaaDoor
open Go.RowKit Go.Proofs.YtiggnmhoececfaaDoorW.PrintWords
open PVersionAgrees (cashierref17_Parse.f cashierref17_Cmp.f)

theorem join_split (l : Bytes) : ∀ a b c : Bytes, split1 46 l = [a, b, c] → l = a ++ 46 :: (b ++ 46 :: c) := by
  have key : ∀ l : Bytes, Lib.join (split1 46 l) [46] = l := by
    intro l
    induction l with
    | nil => rfl
    | cons x r ih =>
      unfold split1
      split
      · rename_i hx
        subst hx
        cases hs : split1 46 r with
        | nil => exact absurd hs (split1_ne 46 r)
        | cons h t =>
          rw [hs] at ih
          rw [Lib.join_cons]
          rw [Lib.join_cons] at ih
          simp [Lib.joinTail] at ih ⊢
          exact ih
      · cases hs : split1 46 r with
        | nil => exact absurd hs (split1_ne 46 r)
        | cons h t =>
          rw [hs] at ih
          rw [Lib.join_cons] at ih
          show Lib.join ((x :: h) :: t) [46] = x :: r
          rw [Lib.join_cons, List.cons_append, ih]
  intro a b c h
  have := key l
  rw [h, Lib.join_cons] at this
  rw [← this]
  simp [Lib.joinTail]

theorem text_of_ver (l : Bytes) (v : Ver) (h : verOf l = some v) : verText v.1.1 v.1.2.1 v.1.2.2 = l := by
  unfold verOf at h
  split at h
  · rename_i a b c hs
    split at h
    · rename_i hok
      cases h
      rw [verText_eq]
      have e : ∀ p, okPart p = true → Lib.decDigits (numOf p) = p := fun p hp => by
        simp only [okPart, Bool.and_eq_true, beq_iff_eq] at hp
        exact hp.2
      rw [e a hok.1, e b hok.2.1, e c hok.2.2]
      exact (join_split l a b c hs).symm
    · cases h
  · cases h

abbrev verV (a b c : Nat) : Value := .agg #[.int .u16 a, .int .u16 b, .int .u16 c]

set_option maxHeartbeats 1600000 in
set_option maxRecDepth 1000000 in
theorem parses_long (s : ByteArray) (a b : Ver) (hs : 100 < s.size) (hs2 : s.size ≤ 140737488351232) (w : World) (hG : Glob w) :
    Calls Tryd.prog 3 #[.string s, verV a.1.1 a.1.2.1 a.1.2.2, verV b.1.1 b.1.2.1 b.1.2.2] w fun e w' => e = .returned (.bool true) ∧ Below w.heap.size w w' := by
  have hB : Below w.heap.size w ((w.alloc (.cells (verCells a).toArray 24)).alloc (.cells (verCells b).toArray 24)) := below_alloc (below_alloc (Below.refl _ _) _) _
  have hA := awake17_any ((w.alloc (.cells (verCells a).toArray 24)).alloc (.cells (verCells b).toArray 24)) (hG.below hB)
  have HA := Lib.hid hA
  have HB := Lib.hid hB
  have h1 : decide ((100 : Int) < (s.size : Int)) = true := decide_eq_true (by omega)
  clear hA hB
  go_enter Tryd.func3, Tryd.ntmps3
  go_wp2_with (go_at_call 6; go_must (refine HA.out.mono ?_); rintro e w1 ⟨rfl, hb1⟩)
  go_ret
  exact ⟨rfl, below_step HB.out hb1⟩

abbrev boxed2 (w : World) (a b : Ver) : World := (w.alloc (.cells (verCells a).toArray 24)).alloc (.cells (verCells b).toArray 24)

structure Six (w : World) (n : Nat) (a b : Ver) : Prop where
  a0 : w.cell? ⟨n, 0, none⟩ = some (.int .u16 (a.1.1 : Nat))
  a1 : w.cell? ⟨n, 1, none⟩ = some (.int .u16 (a.1.2.1 : Nat))
  a2 : w.cell? ⟨n, 2, none⟩ = some (.int .u16 (a.1.2.2 : Nat))
  b0 : w.cell? ⟨n + 1, 0, none⟩ = some (.int .u16 (b.1.1 : Nat))
  b1 : w.cell? ⟨n + 1, 1, none⟩ = some (.int .u16 (b.1.2.1 : Nat))
  b2 : w.cell? ⟨n + 1, 2, none⟩ = some (.int .u16 (b.1.2.2 : Nat))

theorem Six.below {w w1 : World} {n : Nat} {a b : Ver} (h : Six w n a b) (hb : Below w.heap.size w w1) : Six w1 n a b :=
  ⟨cellBelow hb h.a0, cellBelow hb h.a1, cellBelow hb h.a2, cellBelow hb h.b0, cellBelow hb h.b1, cellBelow hb h.b2⟩

theorem Six.new (w : World) (a b : Ver) : Six (boxed2 w a b) w.heap.size a b := by
  have h0 := CellsAt.new w (verCells a) 24
  have h1 := CellsAt.new (w.alloc (.cells (verCells a).toArray 24)) (verCells b) 24
  simp only [World.size_alloc] at h1
  have k0 := h0.below (below_alloc (Below.refl _ _) (.cells (verCells b).toArray 24))
  exact ⟨k0.get (j := 0) rfl, k0.get (j := 1) rfl, k0.get (j := 2) rfl, h1.get (j := 0) rfl, h1.get (j := 1) rfl, h1.get (j := 2) rfl⟩

abbrev isText (A : Value) (t : Bytes) : Prop := ∀ W : World, Glob W → Calls Tryd.prog 9 #[A] W fun e w' => e = .returned (.string ⟨t.toArray⟩) ∧ Below W.heap.size W w'
abbrev isParse (s : ByteArray) (r : Value) : Prop := ∀ W : World, Glob W → Calls Tryd.prog 7 #[.string s] W fun e w' => e = .returned r ∧ Below W.heap.size W w'
abbrev isCmp (A B : Value) (X : Int) : Prop := ∀ W : World, Calls Tryd.prog 10 #[A, B] W fun e w' => e = .returned (.int .i64 X) ∧ Below W.heap.size W w'

abbrev ints (v : Ver) : List Value := [.int .i64 (v.1.1 : Nat), .int .i64 (v.1.2.1 : Nat), .int .i64 (v.1.2.2 : Nat)]
abbrev backW (w : World) (a : Ver) : World := w.alloc (.cells #[.int .u16 (a.1.1 : Nat), .int .u16 (a.1.2.1 : Nat), .int .u16 (a.1.2.2 : Nat)] 24)
abbrev leftW (w : World) (a : Ver) : World := (backW w a).alloc (.cells #[.int .i64 (a.1.1 : Nat), .int .i64 (a.1.2.1 : Nat), .int .i64 (a.1.2.2 : Nat)] 3)
abbrev rightW (w : World) (a b : Ver) : World := (leftW w a).alloc (.cells #[.int .i64 (b.1.1 : Nat), .int .i64 (b.1.2.1 : Nat), .int .i64 (b.1.2.2 : Nat)] 3)

theorem back_below (w : World) (a b : Ver) : Below w.heap.size w (rightW w a b) := below_alloc (below_alloc (below_alloc (Below.refl _ _) _) _) _

structure Back (w : World) (n m : Nat) (a b : Ver) : Prop where
  six : Six w n a b
  back : CellsAt w m (verCells a)
  left : CellsAt w (m + 1) (ints a)
  right : CellsAt w (m + 1 + 1) (ints b)

theorem Back.below {w w1 : World} {n m : Nat} {a b : Ver} (h : Back w n m a b) (hb : Below w.heap.size w w1) : Back w1 n m a b :=
  ⟨h.six.below hb, h.back.below hb, h.left.below hb, h.right.below hb⟩

theorem Back.new {w : World} {n : Nat} {a b : Ver} (h : Six w n a b) : Back (rightW w a b) n w.heap.size a b := by
  have h0 := CellsAt.new w (verCells a) 24
  have h1 := CellsAt.new (backW w a) (ints a) 3
  have h2 := CellsAt.new (leftW w a) (ints b) 3
  simp only [World.size_alloc] at h1 h2
  refine ⟨h.below (back_below w a b), (h0.below (below_alloc (Below.refl _ _) _)).below (below_alloc (Below.refl _ _) _), h1.below (below_alloc (Below.refl _ _) _), h2⟩

theorem six_both {w : World} {n : Nat} {a b : Ver} (h : Six w n a b) : Six (backW w a) n a b ∧ Six (leftW w a) n a b :=
  ⟨h.below (below_alloc (Below.refl _ _) _), h.below (below_alloc (below_alloc (Below.refl _ _) _) _)⟩

theorem kdC {W : World} {b : Nat} {v : Ver} (h : CellsAt W b (ints v)) : Kd.C (Kd.int .i64) W (some ⟨b, 0, none⟩) 3 (nums3 v) := by
  refine ⟨rfl, by decide, fun _ => ⟨⟨b, 0, none⟩, rfl, fun j p hj => ⟨[.int .i64 p], rfl, rfl, fun i u hi => ?_⟩⟩⟩
  have hi0 : i = 0 := by
    have := (List.getElem?_eq_some_iff.1 hi).1
    simp at this
    exact this
  subst hi0
  have hu : u = .int .i64 p := by simpa using hi.symm
  subst hu
  have := h.get (j := j) (u := .int .i64 p) (by
    show (ints v)[j]? = _
    rw [show ints v = (nums3 v).map (Value.int .i64) by rfl, List.getElem?_map, hj]
    rfl)
  show W.cell? ((⟨b, 0, none⟩ : Addr).add (j * 1 + 0)) = _
  have e : (⟨b, 0, none⟩ : Addr).add (j * 1 + 0) = ⟨b, j, none⟩ := by unfold Addr.add; split <;> simp_all
  rw [e]
  exact this

theorem ref17 (s : ByteArray) (r1 : List Int) (r2 : Bool) (h : cashierref17_Parse.f 5000 s = some (r1, r2)) (w : World) :
    Calls Tryd.prog 8 #[.string s] w fun e w' => ∃ A c, e = .returned (.tuple #[.slice A r1.length c, .bool r2]) ∧ (∀ z : Nat, z < r1.length → ∃ g, A = some ⟨g, 0, none⟩ ∧ ∀ j : Nat, j < r1.length → w'.cell? ⟨g, j, none⟩ = some (.int .i64 (r1.getD j 0))) ∧ Below w.heap.size w w' := by
  refine (PVersionAgrees.cashierref17_Parse.calls 5000 s r1 r2 w h).mono ?_
  rintro e w' ⟨v, rfl, hR, hb⟩
  have ho := Kd.own_of_R hR
  by_cases h0 : 0 < r1.length
  · obtain ⟨g, cap, cs, rfl, _, _, _, _, hc⟩ := own_blk ho h0
    refine ⟨_, _, rfl, fun _ _ => ⟨g, rfl, fun j hj => ?_⟩, hb⟩
    refine hc j _ ?_
    simp [encs, List.getD, hj]
  · obtain ⟨A, c, rfl, _, _⟩ := Kd.R_reads hR
    exact ⟨A, c, rfl, fun z hz => by omega, hb⟩

set_option maxHeartbeats 1600000 in
set_option maxRecDepth 1000000 in
theorem parses_none (s : ByteArray) (a b : Ver) (r1 : List Int) (hs : s.size ≤ 100) (hv : verOf s.data.toList = none) (hr : cashierref17_Parse.f 5000 s = some (r1, false)) (hl : r1.length ≤ 1000)
    (ta : Bytes) (xa : isText (verV a.1.1 a.1.2.1 a.1.2.2) ta) (pa : isParse ⟨ta.toArray⟩ (.tuple #[verV a.1.1 a.1.2.1 a.1.2.2, .int .i64 0])) (X : Int) (cab : isCmp (verV a.1.1 a.1.2.1 a.1.2.2) (verV b.1.1 b.1.2.1 b.1.2.2) X) (hx : cashierref17_Cmp.f 5000 (nums3 a) (nums3 b) = some X) (w : World) (hG : Glob w) :
    Calls Tryd.prog 3 #[.string s, verV a.1.1 a.1.2.1 a.1.2.2, verV b.1.1 b.1.2.1 b.1.2.2] w fun e w' => e = .returned (.bool true) ∧ Below w.heap.size w w' := by
  have hB : Below w.heap.size w (boxed2 w a b) := below_alloc (below_alloc (Below.refl _ _) _) _
  have hA := awake17_any (boxed2 w a b) (hG.below hB)
  have hP := fun W hW => vparse_of s W (by omega) hW
  rw [hv] at hP
  have HN := Lib.hid (Six.new w a b)
  have XA := Lib.hid xa
  have PA := Lib.hid pa
  have CAB := Lib.hid cab
  have HXC := Lib.hid hx
  have haa := fun W => eqV (a.1.1 : Nat) (a.1.2.1 : Nat) (a.1.2.2 : Nat) (a.1.1 : Nat) (a.1.2.1 : Nat) (a.1.2.2 : Nat) W
  have HA := Lib.hid hA
  have HB := Lib.hid hB
  have HP := Lib.hid hP
  have HR := Lib.hid (fun W => ref17 s r1 false hr W)
  have h1 : decide ((100 : Int) < (s.size : Int)) = false := decide_eq_false (by omega)
  have heq := fun W => eqV 0 0 0 0 0 0 W
  simp only [beq_self_eq_true, Bool.and_self] at heq haa
  clear hA hB hP hr hs hv xa pa cab hx
  go_enter Tryd.func3, Tryd.ntmps3
  go_wp2_with (first
    | (go_at_call 6; go_must (refine HA.out.mono ?_); rintro e w1 ⟨rfl, hb1⟩; have hb2 := below_step HB.out hb1; have n1 := Lib.hid (HN.out.below hb1))
    | (go_at_call 7; go_must (refine (HP.out _ (hG.below hb2)).mono ?_); rintro e w2 ⟨rfl, hb3⟩; have hb4 := below_step hb2 hb3; have n2 := Lib.hid (n1.out.below hb3); simp only [verRes])
    | (go_at_call 8; go_must (refine (HR.out _).mono ?_); rintro e w3 ⟨A, c, rfl, hcells, hb5⟩; clear hcells; have k7 := (CellsAt.new w2 [.int .u16 0, .int .u16 0, .int .u16 0] 24).below hb5; have k70 := k7.get (j := 0) rfl; have k71 := k7.get (j := 1) rfl; have k72 := k7.get (j := 2) rfl; have hb6 := below_step (below_alloc hb4 _) hb5; have n3 := n2.out.below (below_step (below_alloc (Below.refl _ _) _) hb5); clear k7 hb5))
  have HN3 := Lib.hid n3
  have HB6 := Lib.hid hb6
  clear n3 k70 k71 k72
  go_loopw [50] (fun i wr => ∃ k : Nat, i = .int .i64 k ∧ k ≤ r1.length ∧ Below w3.heap.size w3 wr) (fun i _ => r1.length - (intOf i).toNat)
  case atStart => exact ⟨0, rfl, by omega, Below.refl _ _⟩
  case round =>
    obtain ⟨k, rfl, hk, hbr⟩ := hrel
    by_cases hlt : k < r1.length
    · have h5 : decide ((k : Int) < (r1.length : Int)) = true := decide_eq_true (by omega)
      have HBR := Lib.hid hbr
      clear hbr
      go_wp2
      go_quiet (fail)
      go_wp2
      go_roundw
      case rel => exact ⟨k + 1, by simp, by omega, pw_below_drewN HBR.out _⟩
      case measure => simp [intOf]; omega
    · have h5 : decide ((k : Int) < (r1.length : Int)) = false := decide_eq_false (by omega)
      have n4 := HN3.out.below hbr
      have hb7 := below_step HB6.out hbr
      have HN4 := Lib.hid n4
      obtain ⟨a0, a1, a2, b0, b1, b2⟩ := n4
      clear hbr
      go_wp2_with (first
        | (go_at_call 9; go_must (refine (XA.out _ (hG.below hb7)).mono ?_); rintro e w5 ⟨rfl, hb8⟩; have hb9 := below_step hb7 hb8)
        | (go_at_call 7; go_must (refine (PA.out _ (hG.below hb9)).mono ?_); rintro e w6 ⟨rfl, hb10⟩; have hb11 := below_step hb9 hb10; have n6 := HN4.out.below (below_step hb8 hb10); have NR := Lib.hid (Back.new n6); have hb12 := below_step hb11 (back_below w6 a b); obtain ⟨⟨a0', a1', a2', _, _, _⟩, ⟨_, _, _, b0', b1', b2'⟩⟩ := six_both n6; clear n6; obtain ⟨ra0, ra1, ra2, rb0, rb1, rb2⟩ := NR.out.six; have rc0 := NR.out.back.get (j := 0) rfl; have rc1 := NR.out.back.get (j := 1) rfl; have rc2 := NR.out.back.get (j := 2) rfl)
        | (go_at_call 10; go_must (refine (CAB.out _).mono ?_); rintro e w7 ⟨rfl, hb13⟩; have R7 := NR.out.below hb13; have hb14 := below_step hb12 hb13)
        | (go_at_call 11; go_must (refine (PVersionAgrees.cashierref17_Cmp.calls 5000 (some ⟨w6.heap.size + 1, 0, none⟩) 3 (nums3 a) (some ⟨w6.heap.size + 1 + 1, 0, none⟩) 3 (nums3 b) X w7 (kdC R7.left) (Nat.le_refl 3) (kdC R7.right) (Nat.le_refl 3) HXC.out).mono ?_); rintro e w8 ⟨rfl, hd⟩; have hb15 := below_step hb14 hd.below))
      go_ret
      exact ⟨rfl, hb15⟩

end Go.Proofs.YtiggnmhoececfaaDoor
