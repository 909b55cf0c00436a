/- VersionParses, at a version. -/
import Derived.Test.YtiggnmhoececfaaDoorParses
namespace Go.Proofs.YtiggnmhoececfaaDoor
open Go.RowKit Go.Proofs.YtiggnmhoececfaaDoorW.PrintWords
open PVersionAgrees (cashierref17_Parse.f cashierref17_Cmp.f)

set_option maxHeartbeats 1600000 in
set_option maxRecDepth 1000000 in
theorem parses_some (s : ByteArray) (a b v : Ver) (hs : s.size ≤ 100) (hv : verOf s.data.toList = some v) (hr : cashierref17_Parse.f 5000 s = some (nums3 v, true))
    (xv : ∀ W : World, Glob W → Calls Tryd.prog 9 #[verV v.1.1 v.1.2.1 v.1.2.2] W fun e w' => e = .returned (.string s) ∧ Below W.heap.size W w')
    (ta : Bytes) (xa : isText (verV a.1.1 a.1.2.1 a.1.2.2) ta) (pa : isParse ⟨ta.toArray⟩ (.tuple #[verV a.1.1 a.1.2.1 a.1.2.2, .int .i64 0])) (X : Int) (cab : isCmp (verV a.1.1 a.1.2.1 a.1.2.2) (verV b.1.1 b.1.2.1 b.1.2.2) X) (hx : cashierref17_Cmp.f 5000 (nums3 a) (nums3 b) = some X) (w : World) (hG : Glob w) :
    Calls Tryd.prog 3 #[.string s, verV a.1.1 a.1.2.1 a.1.2.2, verV b.1.1 b.1.2.1 b.1.2.2] w fun e w' => e = .returned (.bool true) ∧ Below w.heap.size w w' := by
  have hB : Below w.heap.size w (boxed2 w a b) := below_alloc (below_alloc (Below.refl _ _) _) _
  have hA := awake17_any (boxed2 w a b) (hG.below hB)
  have hP := fun W hW => vparse_of s W (by omega) hW
  rw [hv] at hP
  have HN := Lib.hid (Six.new w a b)
  have XA := Lib.hid xa
  have PA := Lib.hid pa
  have CAB := Lib.hid cab
  have HXC := Lib.hid hx
  have haa := fun W => eqV (a.1.1 : Nat) (a.1.2.1 : Nat) (a.1.2.2 : Nat) (a.1.1 : Nat) (a.1.2.1 : Nat) (a.1.2.2 : Nat) W
  have HA := Lib.hid hA
  have HB := Lib.hid hB
  have HP := Lib.hid hP
  have HR := Lib.hid (fun W => ref17 s (nums3 v) true hr W)
  have h1 : decide ((100 : Int) < (s.size : Int)) = false := decide_eq_false (by omega)
  simp only [beq_self_eq_true, Bool.and_self] at haa
  have XV := Lib.hid xv
  clear xv hA hB hP hr hs hv xa pa cab hx
  go_enter Tryd.func3, Tryd.ntmps3
  go_wp2_with (first
    | (go_at_call 6; go_must (refine HA.out.mono ?_); rintro e w1 ⟨rfl, hb1⟩; have hb2 := below_step HB.out hb1; have n1 := Lib.hid (HN.out.below hb1))
    | (go_at_call 7; go_must (refine (HP.out _ (hG.below hb2)).mono ?_); rintro e w2 ⟨rfl, hb3⟩; have hb4 := below_step hb2 hb3; have n2 := Lib.hid (n1.out.below hb3); simp only [verRes])
    | (go_at_call 8; go_must (refine (HR.out _).mono ?_); rintro e w3 ⟨A, c, rfl, hcells, hb5⟩; obtain ⟨g, rfl, hg⟩ := hcells 0 (show 0 < 3 by decide); have k7 := (CellsAt.new w2 [.int .u16 (v.1.1 : Nat), .int .u16 (v.1.2.1 : Nat), .int .u16 (v.1.2.2 : Nat)] 24).below hb5; have K7 := Lib.hid k7; have HGC := Lib.hid hg; clear hcells hg; have hb6 := below_step (below_alloc hb4 _) hb5; have n3 := n2.out.below (below_step (below_alloc (Below.refl _ _) _) hb5); clear k7 hb5))
  have HN3 := Lib.hid n3
  have HB6 := Lib.hid hb6
  clear n3
  go_loopw [50] (fun i wr => ∃ k : Nat, i = .int .i64 k ∧ k ≤ 3 ∧ Below w3.heap.size w3 wr) (fun i _ => 3 - (intOf i).toNat)
  case atStart => exact ⟨0, rfl, by omega, Below.refl _ _⟩
  case round =>
    obtain ⟨k, rfl, hk, hbr⟩ := hrel
    by_cases hlt : k < 3
    · have h5 : decide ((k : Int) < (3 : Int)) = true := decide_eq_true (by omega)
      obtain ⟨x, hx, hx0, hx1⟩ : ∃ x : Int, (nums3 v).getD k 0 = x ∧ 0 ≤ x ∧ x < 65536 := by
        refine ⟨_, rfl, ?_⟩
        have hv1 := v.2.1
        have hv2 := v.2.2.1
        have hv3 := v.2.2.2
        have hc : k = 0 ∨ k = 1 ∨ k = 2 := by omega
        rcases hc with rfl | rfl | rfl <;> simp [nums3] <;> omega
      have gk := cellBelow hbr (HGC.out k (show k < 3 by omega))
      have fk : wr.cell? ⟨w2.heap.size, k, none⟩ = some (.int .u16 ((nums3 v).getD k 0)) := by
        refine (K7.out.below hbr).get ?_
        have hc : k = 0 ∨ k = 1 ∨ k = 2 := by omega
        rcases hc with rfl | rfl | rfl <;> rfl
      rw [hx] at gk fk
      clear hx
      have HBR := Lib.hid hbr
      clear hbr
      have h3 : k < 3 := by omega
      go_wp2
      go_quiet (fail)
      go_wp2
      go_roundw
      case rel => exact ⟨k + 1, by simp, by omega, pw_below_drewN HBR.out _⟩
      case measure => simp [intOf]; omega
    · have h5 : decide ((k : Int) < (3 : Int)) = false := decide_eq_false (by omega)
      have n4 := HN3.out.below hbr
      have hb7 := below_step HB6.out hbr
      have HN4 := Lib.hid n4
      obtain ⟨a0, a1, a2, b0, b1, b2⟩ := n4
      have K7R := Lib.hid (K7.out.below hbr)
      clear hbr
      go_wp2_with (first
        | (go_at_call 9; first
            | (with_reducible refine (XA.out _ (hG.below hb7)).mono ?_; rintro e w5 ⟨rfl, hb8⟩; have hb9 := below_step hb7 hb8)
            | (with_reducible refine (XV.out _ (hG.below hb12)).mono ?_; rintro e w9 ⟨rfl, hb16⟩; have hb17 := below_step hb12 hb16; have NR9 := Lib.hid (NR.out.below hb16); obtain ⟨sa0, sa1, sa2, sb0, sb1, sb2⟩ := NR9.out.six; have sc0 := NR9.out.back.get (j := 0) rfl; have sc1 := NR9.out.back.get (j := 1) rfl; have sc2 := NR9.out.back.get (j := 2) rfl))
        | (go_at_call 7; go_must (refine (PA.out _ (hG.below hb9)).mono ?_); rintro e w6 ⟨rfl, hb10⟩; have hb11 := below_step hb9 hb10; have K8 := (K7R.out.below (below_step hb8 hb10)).below (back_below w6 a b); have c70 := K8.get (j := 0) rfl; have c71 := K8.get (j := 1) rfl; have c72 := K8.get (j := 2) rfl; clear K8; have n6 := HN4.out.below (below_step hb8 hb10); have NR := Lib.hid (Back.new n6); have hb12 := below_step hb11 (back_below w6 a b); obtain ⟨⟨a0', a1', a2', _, _, _⟩, ⟨_, _, _, b0', b1', b2'⟩⟩ := six_both n6; clear n6; obtain ⟨ra0, ra1, ra2, rb0, rb1, rb2⟩ := NR.out.six; have rc0 := NR.out.back.get (j := 0) rfl; have rc1 := NR.out.back.get (j := 1) rfl; have rc2 := NR.out.back.get (j := 2) rfl)
        | (go_at_call 10; go_must (refine (CAB.out _).mono ?_); rintro e w7 ⟨rfl, hb13⟩; have R7 := NR9.out.below hb13; have hb14 := below_step hb17 hb13)
        | (go_at_call 11; go_must (refine (PVersionAgrees.cashierref17_Cmp.calls 5000 (some ⟨w6.heap.size + 1, 0, none⟩) 3 (nums3 a) (some ⟨w6.heap.size + 1 + 1, 0, none⟩) 3 (nums3 b) X w7 (kdC R7.left) (Nat.le_refl 3) (kdC R7.right) (Nat.le_refl 3) HXC.out).mono ?_); rintro e w8 ⟨rfl, hd⟩; have hb15 := below_step hb14 hd.below))
      go_ret
      exact ⟨rfl, hb15⟩


end Go.Proofs.YtiggnmhoececfaaDoor
