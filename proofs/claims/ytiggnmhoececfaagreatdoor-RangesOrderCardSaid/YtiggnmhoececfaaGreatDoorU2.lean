/- RangesOrder, at every input. -/
import Derived.Test.YtiggnmhoececfaaGreatDoorU1
import Derived.Deep.DeepCutAuto
import Derived.Deep.RegionHeld3
import Derived.Deep.Upon

namespace Go.Proofs.YtiggnmhoececfaaGreatDoor
set_option linter.unusedVariables false
set_option linter.unusedSimpArgs false
open Go.RowKit Go.Proofs.YtiggnmhoececfaaGreatDoorW.PrintWords Go.Proofs.YtiggnmhoececfaaGreatDoorW.PrintLast Go.Proofs.YtiggnmhoececfaaGreatDoorW.PrintMore

theorem own_at1 (w : World) (o : Obj) : OwnT ((w.drew.alloc o).alloc (.cells #[] 23)) w.heap.size (.slice (some ⟨w.heap.size + 1, 0, none⟩) 0 0) [] := by
  have h := (OwnT.made (w.drew.alloc o)).lower (base' := w.heap.size) (by simp)
  rw [show (w.drew.alloc o).heap.size = w.heap.size + 1 by simp] at h
  exact h
theorem tab_ne {w : World} {A : Option Addr} {c b : Nat} {L : List Rng} (h : Tab w (.slice A L.length c) L) (hp : 0 < L.length) (hb : w.heap[b]? = some (.cells #[.slice none 0 0] 36 (0, 0))) : (Value.slice A L.length c).ownBlock ≠ some b := by
  rcases h with ⟨_, h2⟩ | ⟨g, cap, h1, _, _, _, h5⟩
  · rw [h2] at hp; exact absurd hp (by simp)
  · rw [h1]
    intro e
    have : g = b := by simpa [Value.ownBlock] using e
    subst this
    have h6 := (Tab.rngs h5 0 hp).c0
    have h7 := blkc hb 0 rfl
    rw [Nat.zero_mul, h7] at h6
    cases h6
theorem drop0 (v : Value) (L : List Rng) (c : ByteArray) (W : World) (hT : Tab W v L) (hl : L.length ≤ 1000) (h0 : dropE L c = 0) :
    Calls Tryz.prog 15 #[.agg #[v], .string c] W fun e w' => ∃ v', e = .returned (.tuple #[.agg #[v'], .int .i64 0]) ∧ Tab w' v' (dropL L c) ∧ Below W.heap.size W w' :=
  (drop_any v L c W hT hl).mono fun e w' h => by
    unfold DropPost at h
    rw [h0] at h
    obtain ⟨v', a, b, c, _⟩ := h
    exact ⟨v', a, b, c⟩
theorem app_none (W : World) (ao : Option Addr) (n cap : Nat) (hle : n ≤ cap) (S : Option Addr) (c' : Nat) :
    (Builtin.append_ #[34, 34] 34 #[.slice ao n cap, .slice S 0 c']).run Tryz.prog W = .ok (.slice ao n cap) W := by
  obtain ⟨i0, hi0, hz0, hz1, hz2⟩ := info_parts info_range
  have hs : Src Tryz.prog i0.size 34 (.slice S 0 c') 0 [] W := by
    cases S with
    | none => exact Src.ofNil W Tryz.underlying34 c'
    | some a => exact Src.ofSlice W Tryz.underlying34 a 0 c' [] (by simp) (fun j u h => by simp at h) (fun _ h => absurd h List.not_mem_nil)
  exact run_append_nothing W 34 34 34 23 i0 Tryz.underlying34 hi0 ao n cap hle (.slice S 0 c') hs
theorem new_nil (A : Option Addr) (c : Nat) (W : World) (hG : Glob W) : Calls Tryz.prog 14 #[.slice A 0 c] W fun e w' => ∃ A' c', e = .returned (.tuple #[.agg #[.slice A' 0 c'], .int .i64 0]) ∧ Tab w' (.slice A' ([] : List Rng).length c') [] ∧ Below W.heap.size W w' :=
  (new_any2 A c [] W hG (fun j h => absurd h (by simp)) (fun r h => absurd h List.not_mem_nil) (by simp)).mono fun e w' h => by
    obtain ⟨v', h1, h2, h3⟩ := h
    have h2 : Tab w' v' [] := h2
    obtain ⟨A', c', rfl⟩ := h2.slice
    exact ⟨A', c', h1, h2, h3⟩
theorem tab_nil_set {w : World} {A : Option Addr} {c : Nat} (h : Tab w (.slice A ([] : List Rng).length c) []) (p : Addr) (u : Value) : Tab (w.setCell p u) (.slice A ([] : List Rng).length c) [] := by
  rcases h with h | ⟨g, cap, h1, h2, h3, h4, h5⟩
  · exact .inl h
  · exact .inr ⟨g, cap, h1, h2, h3, by simpa [World.setCell] using h4, fun j u hj => by simp [rcells] at hj⟩
theorem below_step_b {w w1 w2 : World} {B : Nat} (h : Below B w w1) (k : Below B w1 w2) : Below B w w2 := h.trans k

set_option maxHeartbeats 8000000 in
set_option maxRecDepth 100000 in
theorem rorder_law (A : Option Addr) (c : Nat) (l : List Rng) (b : Nat) (w : World) (hG : Glob w) (hA : RsAt w A l) (hc : l.length ≤ c) (hnil : A = none → c = 0) (hb : b ≤ 255) :
    Calls Tryz.prog 6 #[.slice A l.length c, .int .u8 b] w fun e w' => e = .returned (.bool true) ∧ Below w.heap.size w w' := by
  have HW := Lib.hid (awake18_any w hG)
  have HA := Lib.hid hA
  clear hA
  go_enter Tryz.func6, Tryz.ntmps6
  rcases Nat.lt_or_ge 20 l.length with h20 | h20
  · have k1 : decide ((l.length : Int) > 20) = true := decide_eq_true (by omega)
    go_wp2_with (go_at_call 7; go_must (refine HW.out.mono ?_); rintro e w1 ⟨rfl, hb⟩)
    go_ret
    exact ⟨rfl, hb⟩
  have k1 : decide ((l.length : Int) > 20) = false := decide_eq_false (by omega)
  go_wp2_with (go_at_call 7; go_must (refine HW.out.mono ?_); rintro e w1 ⟨rfl, hb⟩; have B0 := Lib.hid hb; clear hb)
  go_loopw [29] (fun vi wr => ∃ k : Nat, k ≤ l.length ∧ vi = .int .i64 k ∧ (∀ r ∈ l.take k, Small r) ∧ Below w.heap.size w wr) (fun vi _ => l.length - (intOf vi).toNat)
  case atStart => exact ⟨0, Nat.zero_le _, rfl, fun r hr => by simp at hr, B0.out⟩
  case round =>
    obtain ⟨k, hk, rfl, hsm, hBw⟩ := hrel
    have BW := Lib.hid hBw
    have HS := Lib.hid hsm
    clear hBw hsm
    rcases Nat.lt_or_ge k l.length with hlt | hge
    · have k9 : decide ((k : Int) < (l.length : Int)) = true := decide_eq_true (by omega)
      obtain ⟨ad, rfl, ha⟩ := HA.out k hlt
      obtain ⟨a0, a1, a2, a3, a4, a5⟩ := ha.below BW.out
      have htk : l.take (k + 1) = l.take k ++ [l[k]] := List.take_succ_eq_append_getElem hlt
      clear ha
      generalize l[k] = r at a0 a1 a2 a3 a4 a5 htk
      have HK := Lib.hid htk
      have HL := Lib.hid (fun W => light_any r.f r.t r.n r.lo r.hi r.m W)
      clear htk
      cases hli : lightV r.f r.t r.n r.lo r.hi with
      | false =>
        rw [hli] at HL
        clear hli
        go_wp2_with (go_at_call 8; go_must (refine (HL.out _).mono ?_); rintro e w2 ⟨rfl, hb⟩)
        go_ret
        exact ⟨rfl, below_step BW.out (below_step (below_alloc (Below.refl _ _) _) hb)⟩
      | true =>
        rw [hli] at HL
        have HR := Lib.hid (light_small r hli)
        clear hli
        go_wp2_with (go_at_call 8; go_must (refine (HL.out _).mono ?_); rintro e w2 ⟨rfl, hb⟩; have B2 := Lib.hid hb; clear hb)
        go_roundw
        case rel => exact ⟨k + 1, by omega, by go_num, fun x hx => by rw [HK.out, List.mem_append, List.mem_singleton] at hx; rcases hx with hx | rfl; exact HS.out x hx; exact HR.out, below_step BW.out (below_step (below_alloc (Below.refl _ _) _) B2.out)⟩
        case measure => simp [intOf]; omega
    · obtain rfl : k = l.length := by omega
      have k9 : decide ((l.length : Int) < (l.length : Int)) = false := by simp
      have HSM := Lib.hid (fun r (hr : r ∈ l) => HS.out r (by rw [List.take_of_length_le (Nat.le_refl _)]; exact hr))
      have HN := Lib.hid (new_any2 A c l wr (hG.below BW.out) (HA.out.below BW.out) HSM.out (by omega))
      by_cases h0 : newE [] l = 0
      · have e1 : (newE [] l != 0) = false := by simp [h0]
        rcases Nat.eq_zero_or_pos l.length with hz | hp
        · obtain rfl : l = [] := List.eq_nil_of_length_eq_zero hz
          have HN1 := Lib.hid (new_nil A c wr (hG.below BW.out))
          have HN2 := Lib.hid (fun W A (c : Nat) (hW : Below w.heap.size w W) => new_nil A c W (hG.below hW))
          have HC := Lib.hid hnil
          clear HN e1 hnil
          have e1 : ((0 : Int) != 0) = false := by simp
          have q8 : decide ((0 : Int) ≤ (c : Int)) = true := decide_eq_true (by omega)
          go_upto_region 17 with (go_at_call 14; ((with_reducible refine HN1.out.mono ?_); rintro e w3 ⟨A3, c3, rfl, hT3, hb⟩); have HT3 := Lib.hid hT3; have B3 := Lib.hid hb; clear hT3 hb)
          obtain ⟨w4, hw4⟩ : ∃ w4, w4 = w3.alloc (.cells #[.slice A3 0 c3] 36) := ⟨_, rfl⟩
          rw [← hw4]
          have F7 := Lib.hid (show w4.heap[w3.heap.size]? = some (.cells #[.slice A3 0 c3] 36 (0, 0)) by rw [hw4]; exact blk_new _ _)
          have B4 := Lib.hid (show Below wr.heap.size wr w4 by rw [hw4]; exact below_alloc B3.out _)
          have HT4 := Lib.hid (show Tab w4 (.slice A3 ([] : List Rng).length c3) [] by rw [hw4]; exact HT3.out.below (below_alloc (Below.refl _ _) _))
          clear hw4
          go_cut [10, 11] (fun v10 v11 wc => ∃ b10 A8 c8, v10 = .pointer (some ⟨b10, 0, none⟩) ∧ v11 = .int .i64 0 ∧ wc.heap[b10]? = some (.cells #[.slice A8 0 c8] 36 (0, 0)) ∧ Tab wc (.slice A8 ([] : List Rng).length c8) [] ∧ Below w4.heap.size w4 wc)
          case first =>
            rcases A with _ | ad
            · obtain rfl := HC.out rfl
              go_region_held3 (fun _ => True) (trivial) (first | (refine step_append_runI rfl _ _ 34 34 rfl (.slice (some ⟨w4.heap.size, 0, none⟩) 0 0) (.slice none 0 0) (by simp [Act.eval, Act.put]) (by simp [Act.eval, Act.put]) (app_none (w4.drew.alloc (.cells #[] 23)) _ 0 0 (Nat.le_refl _) _ _) ?_) | (refine step_append_runI rfl _ _ 34 34 rfl (.slice (some ⟨w4.heap.size, 0, none⟩) 0 0) (.slice none 0 0) (by simp [Act.eval, Act.put]) (by simp [Act.eval, Act.put]) (app_none ((w4.drew.alloc (.cells #[] 23)).alloc (.cells #[.slice none 0 0] 36)) _ 0 0 (Nat.le_refl _) _ _) ?_) | (refine step_append_runI rfl _ _ 34 34 rfl (.slice (some ⟨w4.heap.size + 1, 0, none⟩) 0 0) (.slice none 0 0) (by simp [Act.eval, Act.put]) (by simp [Act.eval, Act.put]) (app_none ((w4.drew.alloc (.cells #[.slice none 0 0] 36)).alloc (.cells #[] 23)) _ 0 0 (Nat.le_refl _) _ _) ?_) | (go_at_call 14; ((with_reducible refine (HN2.out _ (some ⟨w4.heap.size, 0, none⟩) 0 (below_step (below_step BW.out B4.out) (by first | exact below_drew (Below.refl _ _) | exact below_alloc (below_drew (Below.refl _ _)) _ | exact below_alloc (below_alloc (below_drew (Below.refl _ _)) _) _ | exact below_drew (below_alloc (Below.refl _ _) _) | exact below_drew (below_alloc (below_alloc (Below.refl _ _) _) _) | exact below_alloc (below_drew (below_alloc (Below.refl _ _) _)) _))).mono ?_); rintro e w8 ⟨A8, c8, rfl, hT8, hb8⟩); have HT8 := Lib.hid hT8; have G3 := Lib.hid (show Below w4.heap.size w4 w8 from below_step (by first | exact below_drew (Below.refl _ _) | exact below_alloc (below_drew (Below.refl _ _)) _ | exact below_alloc (below_alloc (below_drew (Below.refl _ _)) _) _ | exact below_drew (below_alloc (Below.refl _ _) _) | exact below_drew (below_alloc (below_alloc (Below.refl _ _) _) _) | exact below_alloc (below_drew (below_alloc (Below.refl _ _) _)) _) hb8); have f10 := blk_below (blk_new (w4.drew.alloc (.cells #[] 23)) (.cells #[.slice none 0 0] 36)) hb8; rw [show (w4.drew.alloc (.cells #[] 23)).heap.size = w4.heap.size + 1 by simp] at f10; have F10 := Lib.hid f10; clear f10; (try (have F10_f := blk_frozen F10.out 0)); (try (have F10_z := blk_lt F10.out)); (try (have F10_0 := blkc F10.out 0 rfl)); clear hT8 hb8) | (go_at_call 14; ((with_reducible refine (HN2.out _ (some ⟨w4.heap.size + 1, 0, none⟩) 0 (below_step (below_step BW.out B4.out) (by first | exact below_drew (Below.refl _ _) | exact below_alloc (below_drew (Below.refl _ _)) _ | exact below_alloc (below_alloc (below_drew (Below.refl _ _)) _) _ | exact below_drew (below_alloc (Below.refl _ _) _) | exact below_drew (below_alloc (below_alloc (Below.refl _ _) _) _) | exact below_alloc (below_drew (below_alloc (Below.refl _ _) _)) _))).mono ?_); rintro e w8 ⟨A8, c8, rfl, hT8, hb8⟩); have HT8 := Lib.hid hT8; have G3 := Lib.hid (show Below w4.heap.size w4 w8 from below_step (by first | exact below_drew (Below.refl _ _) | exact below_alloc (below_drew (Below.refl _ _)) _ | exact below_alloc (below_alloc (below_drew (Below.refl _ _)) _) _ | exact below_drew (below_alloc (Below.refl _ _) _) | exact below_drew (below_alloc (below_alloc (Below.refl _ _) _) _) | exact below_alloc (below_drew (below_alloc (Below.refl _ _) _)) _) hb8); have F10 := Lib.hid (show w8.heap[w4.heap.size]? = some (.cells #[.slice none 0 0] 36) from blk_below (blk_alloc (blk_new w4.drew (.cells #[.slice none 0 0] 36)) (.cells #[] 23)) hb8); (try (have F10_f := blk_frozen F10.out 0)); (try (have F10_z := blk_lt F10.out)); (try (have F10_0 := blkc F10.out 0 rfl)); clear hT8 hb8) | (go_at_call 14; ((with_reducible refine (HN2.out _ (some ⟨w4.heap.size, 0, none⟩) 0 (below_step (below_step BW.out B4.out) (by first | exact below_drew (Below.refl _ _) | exact below_alloc (below_drew (Below.refl _ _)) _ | exact below_alloc (below_alloc (below_drew (Below.refl _ _)) _) _ | exact below_drew (below_alloc (Below.refl _ _) _) | exact below_drew (below_alloc (below_alloc (Below.refl _ _) _) _) | exact below_alloc (below_drew (below_alloc (Below.refl _ _) _)) _))).mono ?_); rintro e w8 ⟨A8, c8, rfl, hT8, hb8⟩); have HT8 := Lib.hid hT8; have G3 := Lib.hid (show Below w4.heap.size w4 w8 from below_step (by first | exact below_drew (Below.refl _ _) | exact below_alloc (below_drew (Below.refl _ _)) _ | exact below_alloc (below_alloc (below_drew (Below.refl _ _)) _) _ | exact below_drew (below_alloc (Below.refl _ _) _) | exact below_drew (below_alloc (below_alloc (Below.refl _ _) _) _) | exact below_alloc (below_drew (below_alloc (Below.refl _ _) _)) _) hb8); (try (have F10_f := blk_frozen F10.out 0)); (try (have F10_z := blk_lt F10.out)); (try (have F10_0 := blkc F10.out 0 rfl)); clear hT8 hb8))
              all_goals (go_wp2_with fail; go_meet; first | exact ⟨_, A8, c8, rfl, rfl, blk_set F10.out 0 _, tab_nil_set HT8.out _ _, G3.out.setCell (by dsimp only; omega) _⟩ | exact ⟨_, A8, c8, rfl, rfl, blk_new _ _, HT8.out.below (below_alloc (Below.refl _ _) _), below_alloc G3.out _⟩)
            · rcases Nat.eq_zero_or_pos c with rfl | hc0
              · go_region_held3 (fun _ => True) (trivial) (first | (refine step_append_runI rfl _ _ 34 34 rfl (.slice (some ⟨w4.heap.size, 0, none⟩) 0 0) (.slice (some ad) 0 0) (by simp [Act.eval, Act.put]) (by simp [Act.eval, Act.put]) (app_none (w4.drew.alloc (.cells #[] 23)) _ 0 0 (Nat.le_refl _) _ _) ?_) | (refine step_append_runI rfl _ _ 34 34 rfl (.slice (some ⟨w4.heap.size, 0, none⟩) 0 0) (.slice (some ad) 0 0) (by simp [Act.eval, Act.put]) (by simp [Act.eval, Act.put]) (app_none ((w4.drew.alloc (.cells #[] 23)).alloc (.cells #[.slice none 0 0] 36)) _ 0 0 (Nat.le_refl _) _ _) ?_) | (refine step_append_runI rfl _ _ 34 34 rfl (.slice (some ⟨w4.heap.size + 1, 0, none⟩) 0 0) (.slice (some ad) 0 0) (by simp [Act.eval, Act.put]) (by simp [Act.eval, Act.put]) (app_none ((w4.drew.alloc (.cells #[.slice none 0 0] 36)).alloc (.cells #[] 23)) _ 0 0 (Nat.le_refl _) _ _) ?_) | (go_at_call 14; ((with_reducible refine (HN2.out _ (some ⟨w4.heap.size, 0, none⟩) 0 (below_step (below_step BW.out B4.out) (by first | exact below_drew (Below.refl _ _) | exact below_alloc (below_drew (Below.refl _ _)) _ | exact below_alloc (below_alloc (below_drew (Below.refl _ _)) _) _ | exact below_drew (below_alloc (Below.refl _ _) _) | exact below_drew (below_alloc (below_alloc (Below.refl _ _) _) _) | exact below_alloc (below_drew (below_alloc (Below.refl _ _) _)) _))).mono ?_); rintro e w8 ⟨A8, c8, rfl, hT8, hb8⟩); have HT8 := Lib.hid hT8; have G3 := Lib.hid (show Below w4.heap.size w4 w8 from below_step (by first | exact below_drew (Below.refl _ _) | exact below_alloc (below_drew (Below.refl _ _)) _ | exact below_alloc (below_alloc (below_drew (Below.refl _ _)) _) _ | exact below_drew (below_alloc (Below.refl _ _) _) | exact below_drew (below_alloc (below_alloc (Below.refl _ _) _) _) | exact below_alloc (below_drew (below_alloc (Below.refl _ _) _)) _) hb8); have f10 := blk_below (blk_new (w4.drew.alloc (.cells #[] 23)) (.cells #[.slice none 0 0] 36)) hb8; rw [show (w4.drew.alloc (.cells #[] 23)).heap.size = w4.heap.size + 1 by simp] at f10; have F10 := Lib.hid f10; clear f10; (try (have F10_f := blk_frozen F10.out 0)); (try (have F10_z := blk_lt F10.out)); (try (have F10_0 := blkc F10.out 0 rfl)); clear hT8 hb8) | (go_at_call 14; ((with_reducible refine (HN2.out _ (some ⟨w4.heap.size + 1, 0, none⟩) 0 (below_step (below_step BW.out B4.out) (by first | exact below_drew (Below.refl _ _) | exact below_alloc (below_drew (Below.refl _ _)) _ | exact below_alloc (below_alloc (below_drew (Below.refl _ _)) _) _ | exact below_drew (below_alloc (Below.refl _ _) _) | exact below_drew (below_alloc (below_alloc (Below.refl _ _) _) _) | exact below_alloc (below_drew (below_alloc (Below.refl _ _) _)) _))).mono ?_); rintro e w8 ⟨A8, c8, rfl, hT8, hb8⟩); have HT8 := Lib.hid hT8; have G3 := Lib.hid (show Below w4.heap.size w4 w8 from below_step (by first | exact below_drew (Below.refl _ _) | exact below_alloc (below_drew (Below.refl _ _)) _ | exact below_alloc (below_alloc (below_drew (Below.refl _ _)) _) _ | exact below_drew (below_alloc (Below.refl _ _) _) | exact below_drew (below_alloc (below_alloc (Below.refl _ _) _) _) | exact below_alloc (below_drew (below_alloc (Below.refl _ _) _)) _) hb8); have F10 := Lib.hid (show w8.heap[w4.heap.size]? = some (.cells #[.slice none 0 0] 36) from blk_below (blk_alloc (blk_new w4.drew (.cells #[.slice none 0 0] 36)) (.cells #[] 23)) hb8); (try (have F10_f := blk_frozen F10.out 0)); (try (have F10_z := blk_lt F10.out)); (try (have F10_0 := blkc F10.out 0 rfl)); clear hT8 hb8) | (go_at_call 14; ((with_reducible refine (HN2.out _ (some ⟨w4.heap.size, 0, none⟩) 0 (below_step (below_step BW.out B4.out) (by first | exact below_drew (Below.refl _ _) | exact below_alloc (below_drew (Below.refl _ _)) _ | exact below_alloc (below_alloc (below_drew (Below.refl _ _)) _) _ | exact below_drew (below_alloc (Below.refl _ _) _) | exact below_drew (below_alloc (below_alloc (Below.refl _ _) _) _) | exact below_alloc (below_drew (below_alloc (Below.refl _ _) _)) _))).mono ?_); rintro e w8 ⟨A8, c8, rfl, hT8, hb8⟩); have HT8 := Lib.hid hT8; have G3 := Lib.hid (show Below w4.heap.size w4 w8 from below_step (by first | exact below_drew (Below.refl _ _) | exact below_alloc (below_drew (Below.refl _ _)) _ | exact below_alloc (below_alloc (below_drew (Below.refl _ _)) _) _ | exact below_drew (below_alloc (Below.refl _ _) _) | exact below_drew (below_alloc (below_alloc (Below.refl _ _) _) _) | exact below_alloc (below_drew (below_alloc (Below.refl _ _) _)) _) hb8); (try (have F10_f := blk_frozen F10.out 0)); (try (have F10_z := blk_lt F10.out)); (try (have F10_0 := blkc F10.out 0 rfl)); clear hT8 hb8))
                all_goals (go_wp2_with fail; go_meet; first | exact ⟨_, A8, c8, rfl, rfl, blk_set F10.out 0 _, tab_nil_set HT8.out _ _, G3.out.setCell (by dsimp only; omega) _⟩ | exact ⟨_, A8, c8, rfl, rfl, blk_new _ _, HT8.out.below (below_alloc (Below.refl _ _) _), below_alloc G3.out _⟩)
              · have hc1 : ¬ (c = 0) := by omega
                go_region_held3 (fun _ => True) (trivial) (first | (refine step_append_runI rfl _ _ 34 34 rfl (.slice (some ⟨w4.heap.size, 0, none⟩) 0 0) (.slice (some ad) 0 c) (by simp [Act.eval, Act.put]) (by simp [Act.eval, Act.put]) (app_none (w4.drew.alloc (.cells #[] 23)) _ 0 0 (Nat.le_refl _) _ _) ?_) | (refine step_append_runI rfl _ _ 34 34 rfl (.slice (some ⟨w4.heap.size, 0, none⟩) 0 0) (.slice (some (ad.add 0)) 0 c) (by simp [Act.eval, Act.put]) (by simp [Act.eval, Act.put]) (app_none (w4.drew.alloc (.cells #[] 23)) _ 0 0 (Nat.le_refl _) _ _) ?_) | (refine step_append_runI rfl _ _ 34 34 rfl (.slice (some ⟨w4.heap.size, 0, none⟩) 0 0) (.slice (some ad) 0 c) (by simp [Act.eval, Act.put]) (by simp [Act.eval, Act.put]) (app_none ((w4.drew.alloc (.cells #[] 23)).alloc (.cells #[.slice none 0 0] 36)) _ 0 0 (Nat.le_refl _) _ _) ?_) | (refine step_append_runI rfl _ _ 34 34 rfl (.slice (some ⟨w4.heap.size, 0, none⟩) 0 0) (.slice (some (ad.add 0)) 0 c) (by simp [Act.eval, Act.put]) (by simp [Act.eval, Act.put]) (app_none ((w4.drew.alloc (.cells #[] 23)).alloc (.cells #[.slice none 0 0] 36)) _ 0 0 (Nat.le_refl _) _ _) ?_) | (refine step_append_runI rfl _ _ 34 34 rfl (.slice (some ⟨w4.heap.size + 1, 0, none⟩) 0 0) (.slice (some ad) 0 c) (by simp [Act.eval, Act.put]) (by simp [Act.eval, Act.put]) (app_none ((w4.drew.alloc (.cells #[.slice none 0 0] 36)).alloc (.cells #[] 23)) _ 0 0 (Nat.le_refl _) _ _) ?_) | (refine step_append_runI rfl _ _ 34 34 rfl (.slice (some ⟨w4.heap.size + 1, 0, none⟩) 0 0) (.slice (some (ad.add 0)) 0 c) (by simp [Act.eval, Act.put]) (by simp [Act.eval, Act.put]) (app_none ((w4.drew.alloc (.cells #[.slice none 0 0] 36)).alloc (.cells #[] 23)) _ 0 0 (Nat.le_refl _) _ _) ?_) | (go_at_call 14; ((with_reducible refine (HN2.out _ (some ⟨w4.heap.size, 0, none⟩) 0 (below_step (below_step BW.out B4.out) (by first | exact below_drew (Below.refl _ _) | exact below_alloc (below_drew (Below.refl _ _)) _ | exact below_alloc (below_alloc (below_drew (Below.refl _ _)) _) _ | exact below_drew (below_alloc (Below.refl _ _) _) | exact below_drew (below_alloc (below_alloc (Below.refl _ _) _) _) | exact below_alloc (below_drew (below_alloc (Below.refl _ _) _)) _))).mono ?_); rintro e w8 ⟨A8, c8, rfl, hT8, hb8⟩); have HT8 := Lib.hid hT8; have G3 := Lib.hid (show Below w4.heap.size w4 w8 from below_step (by first | exact below_drew (Below.refl _ _) | exact below_alloc (below_drew (Below.refl _ _)) _ | exact below_alloc (below_alloc (below_drew (Below.refl _ _)) _) _ | exact below_drew (below_alloc (Below.refl _ _) _) | exact below_drew (below_alloc (below_alloc (Below.refl _ _) _) _) | exact below_alloc (below_drew (below_alloc (Below.refl _ _) _)) _) hb8); have f10 := blk_below (blk_new (w4.drew.alloc (.cells #[] 23)) (.cells #[.slice none 0 0] 36)) hb8; rw [show (w4.drew.alloc (.cells #[] 23)).heap.size = w4.heap.size + 1 by simp] at f10; have F10 := Lib.hid f10; clear f10; (try (have F10_f := blk_frozen F10.out 0)); (try (have F10_z := blk_lt F10.out)); (try (have F10_0 := blkc F10.out 0 rfl)); clear hT8 hb8) | (go_at_call 14; ((with_reducible refine (HN2.out _ (some ⟨w4.heap.size + 1, 0, none⟩) 0 (below_step (below_step BW.out B4.out) (by first | exact below_drew (Below.refl _ _) | exact below_alloc (below_drew (Below.refl _ _)) _ | exact below_alloc (below_alloc (below_drew (Below.refl _ _)) _) _ | exact below_drew (below_alloc (Below.refl _ _) _) | exact below_drew (below_alloc (below_alloc (Below.refl _ _) _) _) | exact below_alloc (below_drew (below_alloc (Below.refl _ _) _)) _))).mono ?_); rintro e w8 ⟨A8, c8, rfl, hT8, hb8⟩); have HT8 := Lib.hid hT8; have G3 := Lib.hid (show Below w4.heap.size w4 w8 from below_step (by first | exact below_drew (Below.refl _ _) | exact below_alloc (below_drew (Below.refl _ _)) _ | exact below_alloc (below_alloc (below_drew (Below.refl _ _)) _) _ | exact below_drew (below_alloc (Below.refl _ _) _) | exact below_drew (below_alloc (below_alloc (Below.refl _ _) _) _) | exact below_alloc (below_drew (below_alloc (Below.refl _ _) _)) _) hb8); have F10 := Lib.hid (show w8.heap[w4.heap.size]? = some (.cells #[.slice none 0 0] 36) from blk_below (blk_alloc (blk_new w4.drew (.cells #[.slice none 0 0] 36)) (.cells #[] 23)) hb8); (try (have F10_f := blk_frozen F10.out 0)); (try (have F10_z := blk_lt F10.out)); (try (have F10_0 := blkc F10.out 0 rfl)); clear hT8 hb8) | (go_at_call 14; ((with_reducible refine (HN2.out _ (some ⟨w4.heap.size, 0, none⟩) 0 (below_step (below_step BW.out B4.out) (by first | exact below_drew (Below.refl _ _) | exact below_alloc (below_drew (Below.refl _ _)) _ | exact below_alloc (below_alloc (below_drew (Below.refl _ _)) _) _ | exact below_drew (below_alloc (Below.refl _ _) _) | exact below_drew (below_alloc (below_alloc (Below.refl _ _) _) _) | exact below_alloc (below_drew (below_alloc (Below.refl _ _) _)) _))).mono ?_); rintro e w8 ⟨A8, c8, rfl, hT8, hb8⟩); have HT8 := Lib.hid hT8; have G3 := Lib.hid (show Below w4.heap.size w4 w8 from below_step (by first | exact below_drew (Below.refl _ _) | exact below_alloc (below_drew (Below.refl _ _)) _ | exact below_alloc (below_alloc (below_drew (Below.refl _ _)) _) _ | exact below_drew (below_alloc (Below.refl _ _) _) | exact below_drew (below_alloc (below_alloc (Below.refl _ _) _) _) | exact below_alloc (below_drew (below_alloc (Below.refl _ _) _)) _) hb8); (try (have F10_f := blk_frozen F10.out 0)); (try (have F10_z := blk_lt F10.out)); (try (have F10_0 := blkc F10.out 0 rfl)); clear hT8 hb8))
                all_goals (go_wp2_with fail; go_meet; first | exact ⟨_, A8, c8, rfl, rfl, blk_set F10.out 0 _, tab_nil_set HT8.out _ _, G3.out.setCell (by dsimp only; omega) _⟩ | exact ⟨_, A8, c8, rfl, rfl, blk_new _ _, HT8.out.below (below_alloc (Below.refl _ _) _), below_alloc G3.out _⟩)
          case rest =>
            obtain ⟨b10, A8, c8, rfl, rfl, f10, t8, bc⟩ := hcut
            have F10c := Lib.hid f10
            have HT8 := Lib.hid t8
            have BC := Lib.hid bc
            have F7c := Lib.hid (blk_below F7.out bc)
            have BRC := Lib.hid (below_step B4.out bc)
            clear f10 t8 bc
            obtain ⟨wo, rfl⟩ : ∃ wo : World, wo = wr := ⟨_, rfl⟩
            go_wp2_with fail
            go_loopw [70] (fun vi wq => vi = .int .i64 0 ∧ Below wc.heap.size wc wq) (fun _ _ => (0 : Nat))
            case atStart => exact ⟨rfl, Below.refl _ _⟩
            case round =>
              obtain ⟨wq, rfl⟩ : ∃ wq : World, wq = wr := ⟨_, rfl⟩
              obtain ⟨rfl, hBq⟩ := hrel
              have B := Lib.hid hBq
              have F7 := Lib.hid (blk_below F7c.out hBq)
              have F10 := Lib.hid (blk_below F10c.out hBq)
              have F7_0 := blkc F7.out 0 rfl
              have F10_0 := blkc F10.out 0 rfl
              clear hBq
              go_wp2_with (first | (go_at_call 25; ((refine (same_any A3 A8 c3 c8 [] _ (HT4.out.below (below_step_b BC.out (B.out.mono BC.out.size))).rsAt (HT8.out.below B.out).rsAt (by simp)).mono ?_); rintro e w16 ⟨rfl, hb⟩); replace B := Lib.hid (below_step B.out hb); replace F7 := Lib.hid (blk_below F7.out hb); replace F7_0 := blkc F7.out 0 rfl; clear hb) | (go_at_call 24; ((with_reducible refine (len_any A3 0 c3 _).mono ?_); rintro e w17 ⟨rfl, hb⟩); have BZ := Lib.hid hb; clear hb))
              go_ret
              exact ⟨rfl, below_step BW.out (below_step BRC.out (below_step B.out BZ.out))⟩
        obtain ⟨ad, rfl, _⟩ := HA.out 0 hp
        have hkb : b % l.length < l.length := Nat.mod_lt _ hp
        obtain ⟨k, hkd⟩ : ∃ k, k = b % l.length := ⟨_, rfl⟩
        rw [← hkd] at hkb
        have hkm : ((b : Int).tmod (l.length : Int)) = (k : Int) := by rw [hkd]; exact (Int.ofNat_tmod b l.length).symm
        clear hkd
        obtain ⟨lL, lN, lI, lE, lS⟩ := order_law l k h20 h0
        have LI := Lib.hid lI
        have LN := Lib.hid lN
        have LO := Lib.hid lL
        have HD := Lib.hid (fun W (hW : Below wr.heap.size wr W) => cells_drop (rs_cells ((HA.out.below BW.out).below hW)) k)
        have HTk := Lib.hid (fun W (hW : Below wr.heap.size wr W) => cells_take (rs_cells ((HA.out.below BW.out).below hW)) k)
        obtain ⟨l', hl'⟩ : ∃ l', l' = l.drop k ++ l.take k := ⟨_, rfl⟩
        rw [← hl'] at lE lS
        have hll : l'.length = l.length := by rw [hl', List.length_append, List.length_drop, List.length_take]; omega
        have HL' := Lib.hid hl'
        have HSM' := Lib.hid (fun r (hr : r ∈ l') => HSM.out r (by rw [hl', List.mem_append] at hr; exact hr.elim List.mem_of_mem_drop List.mem_of_mem_take))
        have HN2 := Lib.hid (fun W A (c : Nat) (hW : Below w.heap.size w W) (hT : RsAt W A l') => new_any2 A c l' W (hG.below hW) hT HSM'.out (by omega))
        unfold NewPost at HN2 HN
        rw [lE, lS] at HN2
        rw [h0] at HN
        generalize newL [] l = L at lL lN lI HN HN2 LI LO LN
        have q1 : decide ((l.length : Int) > 0) = true := decide_eq_true (by omega)
        have q2 : ((l.length : Int) == 0) = false := by rw [beq_eq_false_iff_ne]; omega
        have q3 : ¬ ((l.length : Int) = 0) := by omega
        have q4 : decide ((0 : Int) ≤ (k : Int)) = true := decide_eq_true (by omega)
        have q5 : decide ((k : Int) ≤ (l.length : Int)) = true := decide_eq_true (by omega)
        have q6 : decide ((k : Int) ≤ (c : Int)) = true := decide_eq_true (by omega)
        have q7 : k ≤ l.length := by omega
        have q8 : k ≤ c := by omega
        have q9 : ¬ (c = k) := by omega
        have q10 : decide ((l.length : Int) ≤ (c : Int)) = true := decide_eq_true (by omega)
        clear hl' lE lS lI lL lN hll e1
        have e1 : ((0 : Int) != 0) = false := by simp
        go_upto_region 17 with (go_at_call 14; ((with_reducible refine HN.out.mono ?_); rintro e w3 ⟨v3, rfl, hT3, hb⟩); obtain ⟨A3, c3, rfl⟩ := hT3.slice; have HT3 := Lib.hid hT3; have B3 := Lib.hid hb; clear hT3 hb)
        obtain ⟨w4, hw4⟩ : ∃ w4, w4 = w3.alloc (.cells #[.slice A3 L.length c3] 36) := ⟨_, rfl⟩
        rw [← hw4]
        have F7 := Lib.hid (show w4.heap[w3.heap.size]? = some (.cells #[.slice A3 L.length c3] 36 (0, 0)) by rw [hw4]; exact blk_new _ _)
        have B4 := Lib.hid (show Below wr.heap.size wr w4 by rw [hw4]; exact below_alloc B3.out _)
        have HT4 := Lib.hid (show Tab w4 (.slice A3 L.length c3) L by rw [hw4]; exact HT3.out.below (below_alloc (Below.refl _ _) _))
        clear hw4
        go_cut [10, 11] (fun v10 v11 wc => ∃ b10 A8 c8, v10 = .pointer (some ⟨b10, 0, none⟩) ∧ v11 = .int .i64 0 ∧ wc.heap[b10]? = some (.cells #[.slice A8 L.length c8] 36 (0, 0)) ∧ Tab wc (.slice A8 L.length c8) L ∧ Below w4.heap.size w4 wc)
        case first =>
          go_region_held3 (fun _ => True) (trivial) (first | (obtain ⟨v1, w6, hr1, o1, hb1, hk1⟩ := app_some (w4.drew.alloc (.cells #[] 23)) w4.heap.size (.slice (some ⟨w4.heap.size, 0, none⟩) 0 0) [] (OwnT.made w4.drew) (ad.add (k * 6)) (l.length - k) (c - k) (l.drop k) (by simp) (HD.out _ (below_step B4.out (by first | exact below_drew (Below.refl _ _) | exact below_alloc (below_drew (Below.refl _ _)) _ | exact below_alloc (below_alloc (below_drew (Below.refl _ _)) _) _))) (by simp; omega) (by first | (simp; done) | (simp; omega)); refine step_append_runI rfl _ _ 34 34 rfl (.slice (some ⟨w4.heap.size, 0, none⟩) 0 0) (.slice (some (ad.add (k * 6))) (l.length - k) (c - k)) (by simp [Act.eval, Act.put]) (by simp [Act.eval, Act.put]) hr1 ?_; have O1 := Lib.hid o1; have G1 := Lib.hid (below_step_b (by first | exact below_drew (Below.refl _ _) | exact below_alloc (below_drew (Below.refl _ _)) _ | exact below_alloc (below_alloc (below_drew (Below.refl _ _)) _) _) hb1 : Below w4.heap.size w4 w6); clear hr1 o1 hb1 hk1) | (obtain ⟨v1, w6, hr1, o1, hb1, hk1⟩ := app_some ((w4.drew.alloc (.cells #[] 23)).alloc (.cells #[.slice none 0 0] 36)) w4.heap.size (.slice (some ⟨w4.heap.size, 0, none⟩) 0 0) [] ((OwnT.made w4.drew).alloc _) (ad.add (k * 6)) (l.length - k) (c - k) (l.drop k) (by simp) (HD.out _ (below_step B4.out (by first | exact below_drew (Below.refl _ _) | exact below_alloc (below_drew (Below.refl _ _)) _ | exact below_alloc (below_alloc (below_drew (Below.refl _ _)) _) _))) (by simp; omega) (by first | (simp; done) | (simp; omega)); refine step_append_runI rfl _ _ 34 34 rfl (.slice (some ⟨w4.heap.size, 0, none⟩) 0 0) (.slice (some (ad.add (k * 6))) (l.length - k) (c - k)) (by simp [Act.eval, Act.put]) (by simp [Act.eval, Act.put]) hr1 ?_; have O1 := Lib.hid o1; have G1 := Lib.hid (below_step_b (by first | exact below_drew (Below.refl _ _) | exact below_alloc (below_drew (Below.refl _ _)) _ | exact below_alloc (below_alloc (below_drew (Below.refl _ _)) _) _) hb1 : Below w4.heap.size w4 w6); have f10 := hk1 _ _ (blk_new (w4.drew.alloc (.cells #[] 23)) (.cells #[.slice none 0 0] 36)); rw [show (w4.drew.alloc (.cells #[] 23)).heap.size = w4.heap.size + 1 by simp] at f10; have F10 := Lib.hid f10; clear f10; clear hr1 o1 hb1 hk1) | (obtain ⟨v1, w6, hr1, o1, hb1, hk1⟩ := app_some ((w4.drew.alloc (.cells #[.slice none 0 0] 36)).alloc (.cells #[] 23)) w4.heap.size (.slice (some ⟨w4.heap.size + 1, 0, none⟩) 0 0) [] (own_at1 w4 (.cells #[.slice none 0 0] 36)) (ad.add (k * 6)) (l.length - k) (c - k) (l.drop k) (by simp) (HD.out _ (below_step B4.out (by first | exact below_drew (Below.refl _ _) | exact below_alloc (below_drew (Below.refl _ _)) _ | exact below_alloc (below_alloc (below_drew (Below.refl _ _)) _) _))) (by simp; omega) (by first | (simp; done) | (simp; omega)); refine step_append_runI rfl _ _ 34 34 rfl (.slice (some ⟨w4.heap.size + 1, 0, none⟩) 0 0) (.slice (some (ad.add (k * 6))) (l.length - k) (c - k)) (by simp [Act.eval, Act.put]) (by simp [Act.eval, Act.put]) hr1 ?_; have O1 := Lib.hid o1; have G1 := Lib.hid (below_step_b (by first | exact below_drew (Below.refl _ _) | exact below_alloc (below_drew (Below.refl _ _)) _ | exact below_alloc (below_alloc (below_drew (Below.refl _ _)) _) _) hb1 : Below w4.heap.size w4 w6); have F10 := Lib.hid (show w6.heap[w4.heap.size]? = some (.cells #[.slice none 0 0] 36) from hk1 _ _ (blk_alloc (blk_new w4.drew (.cells #[.slice none 0 0] 36)) (.cells #[] 23))); clear hr1 o1 hb1 hk1) | (obtain ⟨v2, w7, hr2, o2, hb2, hk2⟩ := app_some w6 w4.heap.size v1 (l.drop k) O1.out ad k c (l.take k) (by simp; omega) (HTk.out _ (below_step B4.out G1.out)) (by simp; omega) (Nat.le_trans G1.out.size (by first | (simp; done) | (simp; omega))); rw [← HL'.out] at o2; obtain ⟨A7, c7, rfl⟩ := (OwnT.tab o2).slice; refine step_append_runI rfl _ _ 34 34 rfl v1 (.slice (some ad) k c) (by simp [Act.eval, Act.put]) (by simp [Act.eval, Act.put]) hr2 ?_; have T2 := Lib.hid (OwnT.tab o2); have G2 := Lib.hid (below_step_b G1.out hb2 : Below w4.heap.size w4 w7); (try (replace F10 := Lib.hid (hk2 _ _ F10.out))); clear hr2 o2 hb2 hk2) | (obtain ⟨v2, w7, hr2, o2, hb2, hk2⟩ := app_some (w6.alloc (.cells #[.slice none 0 0] 36)) w4.heap.size v1 (l.drop k) (O1.out.alloc _) ad k c (l.take k) (by simp; omega) (HTk.out _ (below_step B4.out (below_alloc G1.out _))) (by simp; omega) (Nat.le_trans G1.out.size (by first | (simp; done) | (simp; omega))); rw [← HL'.out] at o2; obtain ⟨A7, c7, rfl⟩ := (OwnT.tab o2).slice; refine step_append_runI rfl _ _ 34 34 rfl v1 (.slice (some ad) k c) (by simp [Act.eval, Act.put]) (by simp [Act.eval, Act.put]) hr2 ?_; have T2 := Lib.hid (OwnT.tab o2); have G2 := Lib.hid (below_step_b (below_alloc G1.out _) hb2 : Below w4.heap.size w4 w7); have F10 := Lib.hid (hk2 _ _ (blk_new w6 (.cells #[.slice none 0 0] 36))); clear hr2 o2 hb2 hk2) | (go_at_call 14; ((with_reducible refine (HN2.out w7 A7 c7 (below_step (below_step BW.out B4.out) G2.out) (Tab.rsAt T2.out)).mono ?_); rintro e w8 ⟨v8, rfl, hT8, hb8⟩); obtain ⟨A8, c8, rfl⟩ := hT8.slice; have HT8 := Lib.hid hT8; have G3 := Lib.hid (below_step G2.out hb8); (try (replace F10 := Lib.hid (blk_below F10.out hb8))); (try (have F10_f := blk_frozen F10.out 0)); (try (have F10_z := blk_lt F10.out)); (try (have F10_0 := blkc F10.out 0 rfl)); clear hT8 hb8) | (go_at_call 14; ((with_reducible refine (HN2.out (w7.alloc (.cells #[.slice none 0 0] 36)) A7 c7 (below_step (below_step BW.out B4.out) (below_alloc G2.out _)) (Tab.rsAt (T2.out.below (below_alloc (Below.refl _ _) _)))).mono ?_); rintro e w8 ⟨v8, rfl, hT8, hb8⟩); obtain ⟨A8, c8, rfl⟩ := hT8.slice; have HT8 := Lib.hid hT8; have G3 := Lib.hid (below_step (below_alloc G2.out _) hb8); have F10 := Lib.hid (blk_below (blk_new w7 (.cells #[.slice none 0 0] 36)) hb8); (try (have F10_f := blk_frozen F10.out 0)); (try (have F10_z := blk_lt F10.out)); (try (have F10_0 := blkc F10.out 0 rfl)); clear hT8 hb8))
          all_goals (go_wp2_with fail; go_meet; first | exact ⟨_, A8, c8, rfl, rfl, blk_set F10.out 0 _, HT8.out.far (tab_ne HT8.out (by rw [LN.out]; exact hp) F10.out) _, G3.out.setCell (by have := G1.out.size; have := G2.out.size; dsimp only; omega) _⟩ | exact ⟨_, A8, c8, rfl, rfl, blk_new _ _, HT8.out.below (below_alloc (Below.refl _ _) _), below_alloc G3.out _⟩)
        case rest =>
          obtain ⟨b10, A8, c8, rfl, rfl, f10, t8, bc⟩ := hcut
          have F10c := Lib.hid f10
          have HT8 := Lib.hid t8
          have BC := Lib.hid bc
          have F7c := Lib.hid (blk_below F7.out bc)
          have BRC := Lib.hid (below_step B4.out bc)
          have HTc := Lib.hid (HT4.out.below bc)
          clear f10 t8 bc q1 q2 q3 q4 q5 q6 q7 q8 q9 q10 hkm
          obtain ⟨wo, rfl⟩ : ∃ wo : World, wo = wr := ⟨_, rfl⟩
          go_wp2_with fail
          go_loopw [70] (fun vi wq => ∃ j : Nat, j ≤ l.length ∧ vi = .int .i64 j ∧ Below wc.heap.size wc wq) (fun vi _ => l.length - (intOf vi).toNat)
          case atStart => exact ⟨0, Nat.zero_le _, rfl, Below.refl _ _⟩
          case round =>
            obtain ⟨wq, rfl⟩ : ∃ wq : World, wq = wr := ⟨_, rfl⟩
            obtain ⟨j, hj, rfl, hBq⟩ := hrel
            have B := Lib.hid hBq
            have F7 := Lib.hid (blk_below F7c.out hBq)
            have F10 := Lib.hid (blk_below F10c.out hBq)
            have F7_0 := blkc F7.out 0 rfl
            have F10_0 := blkc F10.out 0 rfl
            have hz7 := blk_lt F7.out
            clear hBq
            rcases Nat.lt_or_ge j l.length with hlt | hge
            · have kj : decide ((j : Int) < (l.length : Int)) = true := decide_eq_true (by omega)
              obtain ⟨ad2, had, ha⟩ := HA.out j hlt
              obtain rfl := Option.some.inj had
              obtain ⟨a0, a1, a2, a3, a4, a5⟩ := ((ha.below BW.out).below BRC.out).below B.out
              have hm : l[j] ∈ l := List.getElem_mem hlt
              clear ha had
              generalize l[j] = r at a0 a1 a2 a3 a4 a5 hm
              have hmL := LI.out r hm
              have hvr := LO.out.1 r hmL
              obtain ⟨p1, p2⟩ := find_it L LO.out r.f r hmL (has_from r hvr)
              obtain ⟨p3, p4⟩ := find_it L LO.out r.t r hmL (has_to r hvr)
              obtain ⟨p5, p6, p7⟩ := gone_it L LO.out r hmL
              have hL20 : L.length ≤ 1000 := by rw [LN.out]; omega
              have hf1 := fun W (hW : Below wc.heap.size wc W) => find_any (.slice A3 L.length c3) L r.f W (HTc.out.below hW) hL20
              have hf2 := fun W (hW : Below wc.heap.size wc W) => find_any (.slice A3 L.length c3) L r.t W (HTc.out.below hW) hL20
              have hd3 := fun W (hW : Below wc.heap.size wc W) => drop0 (.slice A3 L.length c3) L r.f W (HTc.out.below hW) hL20 p5
              have hf4 := fun W v (hT : Tab W v (dropL L r.f)) => find_any v (dropL L r.f) r.t W hT (Nat.le_trans (dropL_len _ _) hL20)
              rw [p1, p2] at hf1
              rw [p3, p4] at hf2
              rw [p6, p7] at hf4
              unfold noR Rng.v rangeV at hf4
              unfold Rng.v rangeV at hf1 hf2
              have HF1 := Lib.hid hf1
              have HF2 := Lib.hid hf2
              have HD3 := Lib.hid hd3
              have HF4 := Lib.hid hf4
              have hne : ∀ W, (binOp BinOp.neq 23 (.agg #[.string r.f, .string r.t, .string r.n, .string r.lo, .string r.hi, .int .i64 r.m]) (.agg #[.string r.f, .string r.t, .string r.n, .string r.lo, .string r.hi, .int .i64 r.m])).run Tryz.prog W = .ok (.bool false) W := fun W => by go_simp
              clear hf1 hf2 hd3 hf4 p1 p2 p3 p4 p5 p6 p7 hmL hvr hm hL20
              go_wp2_with (first | (go_at_call 22; ((with_reducible refine (HF1.out _ (below_alloc B.out _)).mono ?_); rintro e w12 ⟨rfl, hb⟩); have F13 := Lib.hid (blk_below (blk_new wq (.cells #[.string r.f, .string r.t, .string r.n, .string r.lo, .string r.hi, .int .i64 r.m] 23)) hb); have hz13 := blk_lt F13.out; have F13_0 := blkc F13.out 0 rfl; have F13_1 := blkc F13.out 1 rfl; have F13_2 := blkc F13.out 2 rfl; have F13_3 := blkc F13.out 3 rfl; have F13_4 := blkc F13.out 4 rfl; have F13_5 := blkc F13.out 5 rfl; replace B := Lib.hid (below_step (below_alloc B.out _) hb); replace F7 := Lib.hid (blk_below (blk_alloc F7.out _) hb); replace F7_0 := blkc F7.out 0 rfl; clear hb; have hz7 := blk_lt F7.out) | (go_at_call 22; ((with_reducible refine (HF2.out _ (below_alloc B.out _)).mono ?_); rintro e w13 ⟨rfl, hb⟩); have F14 := Lib.hid (blk_below (blk_new w12 (.cells #[.string r.f, .string r.t, .string r.n, .string r.lo, .string r.hi, .int .i64 r.m] 23)) hb); have hz14 := blk_lt F14.out; have F14_0 := blkc F14.out 0 rfl; have F14_1 := blkc F14.out 1 rfl; have F14_2 := blkc F14.out 2 rfl; have F14_3 := blkc F14.out 3 rfl; have F14_4 := blkc F14.out 4 rfl; have F14_5 := blkc F14.out 5 rfl; replace B := Lib.hid (below_step (below_alloc B.out _) hb); replace F7 := Lib.hid (blk_below (blk_alloc F7.out _) hb); replace F7_0 := blkc F7.out 0 rfl; replace F13 := Lib.hid (blk_below (blk_alloc F13.out _) hb); replace F13_0 := blkc F13.out 0 rfl; replace F13_1 := blkc F13.out 1 rfl; replace F13_2 := blkc F13.out 2 rfl; replace F13_3 := blkc F13.out 3 rfl; replace F13_4 := blkc F13.out 4 rfl; replace F13_5 := blkc F13.out 5 rfl; clear hb; replace hz13 := blk_lt F13.out; replace hz7 := blk_lt F7.out) | (go_at_call 15; ((with_reducible refine (HD3.out _ (below_alloc B.out _)).mono ?_); rintro e w14 ⟨v5, rfl, hT5, hb⟩); obtain ⟨A5, c5, rfl⟩ := hT5.slice; have HT5 := Lib.hid hT5; clear hT5; have F16 := Lib.hid (blk_below (blk_new w13 (.cells #[.string r.f, .string r.t, .string r.n, .string r.lo, .string r.hi, .int .i64 r.m] 23)) hb); have hz16 := blk_lt F16.out; have F16_0 := blkc F16.out 0 rfl; have F16_1 := blkc F16.out 1 rfl; have F16_2 := blkc F16.out 2 rfl; have F16_3 := blkc F16.out 3 rfl; have F16_4 := blkc F16.out 4 rfl; have F16_5 := blkc F16.out 5 rfl; replace B := Lib.hid (below_step (below_alloc B.out _) hb); replace F7 := Lib.hid (blk_below (blk_alloc F7.out _) hb); replace F7_0 := blkc F7.out 0 rfl; replace F13 := Lib.hid (blk_below (blk_alloc F13.out _) hb); replace F13_0 := blkc F13.out 0 rfl; replace F13_1 := blkc F13.out 1 rfl; replace F13_2 := blkc F13.out 2 rfl; replace F13_3 := blkc F13.out 3 rfl; replace F13_4 := blkc F13.out 4 rfl; replace F13_5 := blkc F13.out 5 rfl; replace F14 := Lib.hid (blk_below (blk_alloc F14.out _) hb); replace F14_0 := blkc F14.out 0 rfl; replace F14_1 := blkc F14.out 1 rfl; replace F14_2 := blkc F14.out 2 rfl; replace F14_3 := blkc F14.out 3 rfl; replace F14_4 := blkc F14.out 4 rfl; replace F14_5 := blkc F14.out 5 rfl; clear hb; replace hz13 := blk_lt F13.out; replace hz14 := blk_lt F14.out; replace hz7 := blk_lt F7.out) | (go_at_call 22; ((with_reducible refine (HF4.out _ _ (HT5.out.below (below_alloc (Below.refl _ _) _))).mono ?_); rintro e w15 ⟨rfl, hb⟩); replace B := Lib.hid (below_step (below_alloc B.out _) hb); replace F7 := Lib.hid (blk_below (blk_alloc F7.out _) hb); replace F7_0 := blkc F7.out 0 rfl; replace F13 := Lib.hid (blk_below (blk_alloc F13.out _) hb); replace F13_0 := blkc F13.out 0 rfl; replace F13_1 := blkc F13.out 1 rfl; replace F13_2 := blkc F13.out 2 rfl; replace F13_3 := blkc F13.out 3 rfl; replace F13_4 := blkc F13.out 4 rfl; replace F13_5 := blkc F13.out 5 rfl; replace F14 := Lib.hid (blk_below (blk_alloc F14.out _) hb); replace F14_0 := blkc F14.out 0 rfl; replace F14_1 := blkc F14.out 1 rfl; replace F14_2 := blkc F14.out 2 rfl; replace F14_3 := blkc F14.out 3 rfl; replace F14_4 := blkc F14.out 4 rfl; replace F14_5 := blkc F14.out 5 rfl; replace F16 := Lib.hid (blk_below (blk_alloc F16.out _) hb); replace F16_0 := blkc F16.out 0 rfl; replace F16_1 := blkc F16.out 1 rfl; replace F16_2 := blkc F16.out 2 rfl; replace F16_3 := blkc F16.out 3 rfl; replace F16_4 := blkc F16.out 4 rfl; replace F16_5 := blkc F16.out 5 rfl; clear hb; replace hz13 := blk_lt F13.out; replace hz14 := blk_lt F14.out; replace hz16 := blk_lt F16.out; replace hz7 := blk_lt F7.out))
              go_roundw
              case rel => exact ⟨j + 1, by omega, by go_num, below_alloc B.out _⟩
              case measure => simp [intOf]; omega
            · obtain rfl : j = l.length := by omega
              have kj : decide ((l.length : Int) < (l.length : Int)) = false := by simp
              have kL : ((L.length : Int) == (l.length : Int)) = true := by rw [LN.out]; simp
              have kL2 : (L.length : Int) = (l.length : Int) := by rw [LN.out]
              go_wp2_with (first | (go_at_call 25; ((with_reducible refine (same_any A3 A8 c3 c8 L _ (HT4.out.below (below_step_b BC.out (B.out.mono BC.out.size))).rsAt (HT8.out.below B.out).rsAt (by rw [LN.out]; omega)).mono ?_); rintro e w16 ⟨rfl, hb⟩); replace B := Lib.hid (below_step B.out hb); replace F7 := Lib.hid (blk_below F7.out hb); replace F7_0 := blkc F7.out 0 rfl; clear hb) | (go_at_call 24; ((with_reducible refine (len_any A3 L.length c3 _).mono ?_); rintro e w17 ⟨rfl, hb⟩); have BZ := Lib.hid hb; clear hb))
              go_ret
              exact ⟨rfl, below_step BW.out (below_step BRC.out (below_step B.out BZ.out))⟩
      · have e1 : (newE [] l != 0) = true := by simpa using h0
        have hz : newL [] l = [] := newE_ne h0
        go_wp2_with (first | (go_at_call 14; ((with_reducible refine HN.out.mono ?_); rintro e w3 ⟨v3, rfl, hT3, hb⟩); rw [hz] at hT3; obtain ⟨A3, c3, rfl⟩ := hT3.slice; have B3 := Lib.hid hb; clear hT3 hb) | (go_at_call 24; ((with_reducible refine (len_any A3 0 c3 _).mono ?_); rintro e w4 ⟨rfl, hb⟩); have B4 := Lib.hid hb; clear hb))
        go_ret
        exact ⟨rfl, below_step BW.out (below_step B3.out (below_step (below_alloc (Below.refl _ _) _) B4.out))⟩

end Go.Proofs.YtiggnmhoececfaaGreatDoor
