/- What the functions of package version come to. -/
import Derived.Test.YtiggnmhoececfaaGreatDoorDigits
import Derived.Maps.AppendAt
import Derived.WalkSpells
import Derived.Laws.CopyOwn
import Derived.Deep.QuietTactic
import Derived.BigQuiet
import Derived.Deep.RegionHeld3
namespace Go.Proofs.YtiggnmhoececfaaGreatDoor
set_option linter.unusedVariables false
set_option linter.unusedSimpArgs false
open Go.RowKit Go.Proofs.YtiggnmhoececfaaGreatDoorW.PrintWords

theorem infoStr : (Tryz.prog.info? 9).map (fun i => (i.zero, i.size, i.bytes)) = some (some (.string ByteArray.empty), 1, 16) := by kernel_rfl

/-- a version's text -/
def verText (a b c : Nat) : Bytes := Lib.join [textL a 0, textL b 0, textL c 0] [46]

theorem text0 (n : Nat) : textL n 0 = Lib.decDigits n := by
  unfold textL
  rw [show (Max.max (Min.min (Max.max (0 : Int) 0) 40 - ((Lib.decDigits n).length : Int)) 0) = 0 by omega]
  rfl
theorem text0_len (n : Nat) (h : n < 18446744073709551616) : (textL n 0).length ≤ 20 := by rw [text0]; exact dec_len n h

set_option maxHeartbeats 1600000 in
set_option maxRecDepth 1000000 in
/-- version.V.Text -/
theorem vtext_any (a b c : Nat) (ha : a < 65536) (hb : b < 65536) (hc : c < 65536) (w : World) (hG : Glob w) :
    Calls Tryz.prog 68 #[.agg #[.int .u16 a, .int .u16 b, .int .u16 c]] w fun e w' => e = .returned (.string ⟨(verText a b c).toArray⟩) ∧ Below w.heap.size w w' := by
  obtain ⟨i0, hi, hz0, hz1, hz2⟩ := info_parts infoStr
  have j0 : ∀ w, (Instr.index 82 (.agg #[.int .u16 a, .int .u16 b, .int .u16 c]) (.int .i64 0)).run Tryz.prog w = .ok (.int .u16 a) w := fun _ => by kernel_rfl
  have j1 : ∀ w, (Instr.index 82 (.agg #[.int .u16 a, .int .u16 b, .int .u16 c]) (.int .i64 1)).run Tryz.prog w = .ok (.int .u16 b) w := fun _ => by kernel_rfl
  have j2 : ∀ w, (Instr.index 82 (.agg #[.int .u16 a, .int .u16 b, .int .u16 c]) (.int .i64 2)).run Tryz.prog w = .ok (.int .u16 c) w := fun _ => by kernel_rfl
  go_enter Tryz.func68, Tryz.ntmps68
  go_wp2
  go_loopw [3, 7] (fun v i wr => ∃ k : Nat, k ≤ 3 ∧ i = .int .i64 k ∧ wr.ownsRow w.heap.size 9 1 v k (strs ([textL a 0, textL b 0, textL c 0].take k)) ∧ Below w.heap.size w wr ) (fun _ i _ => 3 - (intOf i).toNat)
  case atStart => exact ⟨0, by omega, rfl, World.ownsRow_nil _ _ _ _, below_alloc (Below.refl _ _) _⟩
  case round =>
    obtain ⟨k, hk, rfl, hown, hb⟩ := hrel
    have hG1 := hG.below hb
    match k, hk with
    | 0, _ =>
      go_wp2_with (first
        | (go_at_call 72; refine (text_any a 0 (by omega) (by omega) (by omega) _ hG1).mono ?_; rintro e w1 ⟨rfl, hb1⟩; have hb2 := below_step hb hb1; have hown1 := pw_own_below hown hb1)
        | (at_builtin; refine print_append_cells (w0 := w) w.heap.size rfl (.tmp 10) (.tmp 14) 41 9 (.string ByteArray.empty) 1 16 rfl Tryz.underlying41 infoStr rfl (by decide) (by decide) u3 _ _ [.string ⟨(textL a 0).toArray⟩] rfl rfl rfl ?_ hown1 hb2 ?_ ?_ ?_; simp [Value.oneCell']; exact hb2.size; decide; intro v1 w3 hown2 hb3 _ _))
      go_roundw
      case rel => exact ⟨1, by omega, rfl, hown2, hb3⟩
      case measure => simp [intOf]
    | 1, _ =>
      go_wp2_with (first
        | (go_at_call 72; refine (text_any b 0 (by omega) (by omega) (by omega) _ hG1).mono ?_; rintro e w1 ⟨rfl, hb1⟩; have hb2 := below_step hb hb1; have hown1 := pw_own_below hown hb1)
        | (at_builtin; refine print_append_cells (w0 := w) w.heap.size rfl (.tmp 10) (.tmp 14) 41 9 (.string ByteArray.empty) 1 16 rfl Tryz.underlying41 infoStr rfl (by decide) (by decide) u3 _ _ [.string ⟨(textL b 0).toArray⟩] rfl rfl rfl ?_ hown1 hb2 ?_ ?_ ?_; simp [Value.oneCell']; exact hb2.size; decide; intro v1 w3 hown2 hb3 _ _))
      go_roundw
      case rel => exact ⟨2, by omega, rfl, hown2, hb3⟩
      case measure => simp [intOf]
    | 2, _ =>
      go_wp2_with (first
        | (go_at_call 72; refine (text_any c 0 (by omega) (by omega) (by omega) _ hG1).mono ?_; rintro e w1 ⟨rfl, hb1⟩; have hb2 := below_step hb hb1; have hown1 := pw_own_below hown hb1)
        | (at_builtin; refine print_append_cells (w0 := w) w.heap.size rfl (.tmp 10) (.tmp 14) 41 9 (.string ByteArray.empty) 1 16 rfl Tryz.underlying41 infoStr rfl (by decide) (by decide) u3 _ _ [.string ⟨(textL c 0).toArray⟩] rfl rfl rfl ?_ hown1 hb2 ?_ ?_ ?_; simp [Value.oneCell']; exact hb2.size; decide; intro v1 w3 hown2 hb3 _ _))
      go_roundw
      case rel => exact ⟨3, by omega, rfl, hown2, hb3⟩
      case measure => simp [intOf]
    | 3, _ =>
      obtain ⟨A, cp, rfl, hq, hc, hr⟩ := own_strs hown
      clear hq
      have hj := join_any A cp [textL a 0, textL b 0, textL c 0] [46] wr hr hc (by simp) (by
        have := text0_len a (by omega); have := text0_len b (by omega); have := text0_len c (by omega)
        simp [Lib.join, List.intercalate]; omega)
      have HJ := Lib.hid hj; clear hj
      go_wp2_with (go_at_call 76; refine HJ.out.mono ?_; rintro e w1 ⟨rfl, hb1⟩; have hb2 := below_step hb hb1)
      go_ret
      exact ⟨rfl, hb2⟩
/-- A part of a version: a number as it is written. -/
def okPart (t : Bytes) : Bool := isNum t && decide (numOf t ≤ 65535) && (Lib.decDigits (numOf t) == t)
/-- version.Parse: the numbers, if it is one. -/
def verParts (l : Bytes) : Option (List Nat) := if (split1 46 l).length = 3 ∧ (split1 46 l).all okPart = true then some ((split1 46 l).map numOf) else none

theorem number_le {p : Bytes} {n : Nat} (h : number p = (n, 0)) : n ≤ 18446744073709551615 := by
  unfold number at h
  split at h
  · split at h
    · simp at h; omega
    · simp at h
  · simp at h

theorem number_num {p : Bytes} {n : Nat} (h : number p = (n, 0)) : numOf p = n := by
  unfold number at h
  split at h
  · split at h
    · simp at h; exact h
    · simp at h
  · simp at h

theorem okPart_iff (p : Bytes) : okPart p = true ↔ (number p).2 = 0 ∧ (number p).1 ≤ 65535 ∧ textL (number p).1 0 = p := by
  unfold okPart number
  rw [text0]
  by_cases h : isNum p = true
  · rw [if_pos h]
    by_cases h2 : numOf p ≤ 18446744073709551615
    · rw [if_pos h2]; simp [h]
    · rw [if_neg h2]; simp [h]; omega
  · rw [if_neg h]; simp [h]

theorem ver_no {ps : List Bytes} {k : Nat} {p : Bytes} (hp : ps[k]? = some p) (h : ¬ okPart p = true) : ¬ ps.all okPart = true := by
  intro ha
  rw [List.all_eq_true] at ha
  exact h (ha p (List.mem_of_getElem? hp))

def vcells (ps : List Bytes) (k : Nat) : List Value := (List.range 3).map fun j => if j < k then .int .u16 (numOf (ps.getD j [])) else .int .u16 0
theorem vcells_length (ps : List Bytes) (k : Nat) : (vcells ps k).length = 3 := by simp [vcells]
theorem vcells_set (ps : List Bytes) (k : Nat) (hk : k < 3) : (vcells ps k).toArray.setIfInBounds k (.int .u16 (numOf (ps.getD k []))) = (vcells ps (k + 1)).toArray := by
  have : k = 0 ∨ k = 1 ∨ k = 2 := by omega
  rcases this with rfl | rfl | rfl <;> rfl

theorem numOf_wrap (n : Nat) (h : n ≤ 65535) : IntKind.u16.wrap (n : Int) = n := by
  simp [IntKind.wrap, IntKind.bits, IntKind.signed]; omega

def verVal (o : Option (List Nat)) : Value := match o with
  | some [a, b, c] => .tuple #[.agg #[.int .u16 a, .int .u16 b, .int .u16 c], .int .i64 0]
  | _ => .tuple #[.agg #[.int .u16 0, .int .u16 0, .int .u16 0], .int .i64 4]

set_option maxHeartbeats 400000 in
set_option maxRecDepth 1000000 in
/-- version.Parse -/
theorem vparse_any (s : ByteArray) (w : World) (hs : s.size < 4294967281) (hG : Glob w) :
    Calls Tryz.prog 62 #[.string s] w fun e w' => e = .returned (verVal (verParts s.data.toList)) ∧ Below w.heap.size w w' := by
  obtain ⟨ps, hps⟩ : ∃ ps, split1 46 s.data.toList = ps := ⟨_, rfl⟩
  have hsp := fun W hG => split_any s 46 W hs hG
  rw [hps] at hsp
  have HSP := Lib.hid hsp; clear hsp
  have HPS := Lib.hid hps; clear hps
  by_cases h3 : ps.length = 3
  · have h3' : ((ps.length : Int) != 3) = false := by rw [h3]; rfl
    have H3 := Lib.hid h3; clear h3
    have hG1 : ∀ o o', Glob ((w.alloc o).alloc o') := fun o o' => hG.below (below_alloc (below_alloc (Below.refl _ _) _) _)
    go_enter Tryz.func62, Tryz.ntmps62
    go_wp2_with (go_at_call 70; refine (HSP.out _ (hG1 _ _)).mono ?_; rintro e w1 ⟨rfl, rfl⟩)
    go_loopw [18] (fun i wr => ∃ k : Nat, k ≤ 3 ∧ i = .int .i64 k ∧ wr.heap[w.heap.size + 1]? = some (.cells (vcells ps k).toArray 82 (0, 0)) ∧ wr.heap[w.heap.size]? = some (.cells #[.int .u16 0, .int .u16 0, .int .u16 0] 82 (0, 0)) ∧ CellsAt wr (w.heap.size + 1 + 1) (strs ps) ∧ Below w.heap.size w wr ∧ (ps.take k).all okPart = true) (fun i _ => 3 - (intOf i).toNat)
    case atStart =>
      refine ⟨0, by omega, rfl, ?_, ?_, CellsAt.new' (by simp), below_alloc (below_alloc (below_alloc (Below.refl _ _) _) _) _, rfl⟩
      · have := blk_new (w.alloc (.cells #[.int .u16 0, .int .u16 0, .int .u16 0] 82)) (.cells #[.int .u16 0, .int .u16 0, .int .u16 0] 82)
        rw [World.size_alloc] at this
        exact blk_alloc this _
      · exact blk_alloc (blk_alloc (blk_new w _) _) _
    case round =>
      obtain ⟨k, hk, rfl, hb1, hb0, hcs, hbl, hall⟩ := hrel
      have hG2 := hG.below hbl
      by_cases hlt : k < 3
      · obtain ⟨p, hp⟩ : ∃ p, ps[k]? = some p := ⟨ps[k]'(by rw [H3.out]; exact hlt), List.getElem?_eq_getElem _⟩
        have hcell : wr.cell? ⟨w.heap.size + 1 + 1, k, none⟩ = some (.string ⟨p.toArray⟩) := hcs.get (by simp [strs, hp])
        have hps : (⟨p.toArray⟩ : ByteArray).size ≤ 140737488351232 := by
          have h1 := split1_len 46 s.data.toList p (by rw [HPS.out]; exact List.mem_of_getElem? hp)
          have h2 : s.data.toList.length = s.size := by simp
          show p.toArray.size ≤ _
          simp; omega
        have hlk : k < ps.length := by rw [H3.out]; exact hlt
        have hn := number_any ⟨p.toArray⟩
        have hpn : number (⟨p.toArray⟩ : ByteArray).data.toList = number p := rfl
        rw [hpn] at hn
        have hok := okPart_iff p
        by_cases he : (number p).2 = 0
        · obtain ⟨n, hnp⟩ : ∃ n, number p = (n, 0) := ⟨(number p).1, Prod.ext rfl he⟩
          rw [hnp] at hn hok
          have hn64 : n ≤ 18446744073709551615 := number_le hnp
          by_cases hle : n ≤ 65535
          · have htx := text_any n 0 (by omega) (by omega) (by omega)
            by_cases htp : textL n 0 = p
            · have hok' : okPart p = true := hok.2 ⟨rfl, hle, htp⟩
              have hnn : numOf p = n := number_num hnp
              have htp' : (textL n 0 == p) = true := by rw [beq_iff_eq]; exact htp
              have hle' : decide ((65535 : Int) < (n : Int)) = false := by simp; omega
              have hset := vcells_set ps k hlt
              rw [show ps.getD k [] = p by rw [List.getD_eq_getElem?_getD, hp]; rfl, hnn] at hset
              have hwr := numOf_wrap n hle
              have hold : ∃ v, (vcells ps k)[k]? = some v := ⟨_, List.getElem?_eq_getElem (by rw [vcells_length]; exact hlt)⟩
              have hsz : (ps.take (k + 1)).all okPart = true := by
                rw [List.take_succ_eq_append_getElem (by rw [H3.out]; exact hlt), List.all_append, hall]
                have : ps[k]'(by rw [H3.out]; exact hlt) = p := by have := List.getElem?_eq_some_iff.1 hp; exact this.2
                simp [this, hok']
              obtain ⟨v0, hv0⟩ := hold
              have HN := Lib.hid hn
              have HT := Lib.hid htx
              have HSET := Lib.hid hset
              have HALL := Lib.hid hsz
              have HV0 := Lib.hid hv0
              clear hn hpn he hok hnp htx hset hsz hnn htp hall hv0 hok' hp
              go_wp2_with (first
                | (go_at_call 71; go_must (refine (HN.out _ hps hG2).mono ?_); rintro e w1 ⟨rfl, hbw⟩; have hb1' := blk_below hb1 hbw; have hb0' := blk_below hb0 hbw; have hbl' := below_step hbl hbw; have hcs' := hcs.below hbw)
                | (go_at_call 72; go_must (refine (HT.out w1 (hG.below hbl')).mono ?_); rintro e w2 ⟨rfl, hbw2⟩; have hb1'' := blk_below hb1' hbw2; have hb0'' := blk_below hb0' hbw2; have hbl'' := below_step hbl' hbw2; have hcs'' := hcs'.below hbw2; have hc0 : w2.cell? ⟨w.heap.size + 1, k, none⟩ = some v0 := (blk_cell hb1'' k).trans (by simpa using HV0.out); have hf0 := blk_frozen hb1'' k))
              go_roundw
              case rel =>
                refine ⟨k + 1, by omega, by go_num, ?_, ?_, ?_, ?_, HALL.out⟩
                · have := blk_set hb1'' k (.int .u16 (n : Int))
                  rw [HSET.out] at this
                  exact this
                · exact blk_far hb0'' (p := ⟨w.heap.size + 1, k, none⟩) (by simp) _
                · exact hcs''.setCell (p := ⟨w.heap.size + 1, k, none⟩) (by simp) _
                · exact hbl''.setCell (p := ⟨w.heap.size + 1, k, none⟩) (by simp) _
              case measure => simp [intOf]; omega
            · have hv : verVal (verParts s.data.toList) = .tuple #[.agg #[.int .u16 0, .int .u16 0, .int .u16 0], .int .i64 4] := by unfold verParts; rw [HPS.out, if_neg (fun h => ver_no hp (by rw [hok]; intro h; exact htp h.2.2) h.2)]; rfl
              have htp' : (textL n 0 == p) = false := by rw [beq_eq_false_iff_ne]; exact htp
              have HV := Lib.hid hv
              have HN := Lib.hid hn
              have HT := Lib.hid htx; clear hn hpn he hv hok hnp htx
              go_wp2_with (first
                | (go_at_call 71; go_must (refine (HN.out _ hps hG2).mono ?_); rintro e w1 ⟨rfl, hbw⟩; have hb0' := blk_below hb0 hbw; have hbl' := below_step hbl hbw)
                | (go_at_call 72; go_must (refine (HT.out w1 (hG.below hbl')).mono ?_); rintro e w2 ⟨rfl, hbw2⟩; have hb0'' := blk_below hb0' hbw2; have hbl'' := below_step hbl' hbw2)
                | ((with_reducible refine gate_store (t := 82) (p := 2) (v := .tmp 40) rfl ?_); go_must (refine wpList_store_row rfl 82 (.tmp 2) (.tmp 40) rfl w.heap.size #[.int .u16 0, .int .u16 0, .int .u16 0] rfl rfl 82 _ hb0'' rfl rfl (by simp [Value.oneCell']) ?_)))
              refine bodyPost_ret (results_ct (p := 2) (u := 3) (ty := 82) rfl _ _ w.heap.size 82 #[.int .u16 0, .int .u16 0, .int .u16 0] (0, 0) _ rfl (setRow_heap _ _ _ _ _ _ hb0'') Tryz.underlying82 rfl rfl) rfl ⟨by rw [HV.out]; rfl, below_setRow hbl'' (Nat.le_refl _) _⟩
          · have hgt : (65535 : Int) < (n : Int) := by omega
            have hgt' : decide ((65535 : Int) < (n : Int)) = true := by simpa using hgt
            have hv : verVal (verParts s.data.toList) = .tuple #[.agg #[.int .u16 0, .int .u16 0, .int .u16 0], .int .i64 4] := by unfold verParts; rw [HPS.out, if_neg (fun h => ver_no hp (by rw [hok]; intro h; exact hle h.2.1) h.2)]; rfl
            have HV := Lib.hid hv
            have HN := Lib.hid hn; clear hn hpn he hv hok hnp
            go_wp2_with (first
              | (go_at_call 71; go_must (refine (HN.out _ hps hG2).mono ?_); rintro e w1 ⟨rfl, hbw⟩; have hb0' := blk_below hb0 hbw; have hbl' := below_step hbl hbw)
              | ((with_reducible refine gate_store (t := 82) (p := 2) (v := .tmp 40) rfl ?_); go_must (refine wpList_store_row rfl 82 (.tmp 2) (.tmp 40) rfl w.heap.size #[.int .u16 0, .int .u16 0, .int .u16 0] rfl rfl 82 _ hb0' rfl rfl (by simp [Value.oneCell']) ?_)))
            refine bodyPost_ret (results_ct (p := 2) (u := 3) (ty := 82) rfl _ _ w.heap.size 82 #[.int .u16 0, .int .u16 0, .int .u16 0] (0, 0) _ rfl (setRow_heap _ _ _ _ _ _ hb0') Tryz.underlying82 rfl rfl) rfl ⟨by rw [HV.out]; rfl, below_setRow hbl' (Nat.le_refl _) _⟩
        · have he' : ((number p).2 != 0) = true := by rw [bne_iff_ne]; exact he
          have hv : verVal (verParts s.data.toList) = .tuple #[.agg #[.int .u16 0, .int .u16 0, .int .u16 0], .int .i64 4] := by unfold verParts; rw [HPS.out, if_neg (fun h => ver_no hp (by rw [hok]; intro h; exact he h.1) h.2)]; rfl
          have HV := Lib.hid hv
          have HN := Lib.hid hn; clear hn hpn he hv hok
          go_wp2_with (first
            | (go_at_call 71; refine (HN.out _ hps hG2).mono ?_; rintro e w1 ⟨rfl, hbw⟩; have hb0' := blk_below hb0 hbw; have hbl' := below_step hbl hbw)
            | ((with_reducible refine gate_store (t := 82) (p := 2) (v := .tmp 40) rfl ?_); go_must (refine wpList_store_row rfl 82 (.tmp 2) (.tmp 40) rfl w.heap.size #[.int .u16 0, .int .u16 0, .int .u16 0] rfl rfl 82 _ hb0' rfl rfl (by simp [Value.oneCell']) ?_)))
          refine bodyPost_ret (results_ct (p := 2) (u := 3) (ty := 82) rfl _ _ w.heap.size 82 #[.int .u16 0, .int .u16 0, .int .u16 0] (0, 0) _ rfl (setRow_heap _ _ _ _ _ _ hb0') Tryz.underlying82 rfl rfl) rfl ⟨by rw [HV.out]; rfl, below_setRow hbl' (Nat.le_refl _) _⟩
      · obtain rfl : k = 3 := by omega
        have hall' : ps.all okPart = true := by rw [List.take_of_length_le (by rw [H3.out]; exact Nat.le_refl _)] at hall; exact hall
        have hlk : ¬ 3 < ps.length := by rw [H3.out]; omega
        obtain ⟨a, b, c, rfl⟩ : ∃ a b c, ps = [a, b, c] := by
          match ps, H3.out with
          | [a, b, c], _ => exact ⟨a, b, c, rfl⟩
        have hv : verVal (verParts s.data.toList) = .tuple #[.agg #[.int .u16 (numOf a), .int .u16 (numOf b), .int .u16 (numOf c)], .int .i64 0] := by unfold verParts; rw [HPS.out, if_pos ⟨rfl, hall'⟩]; rfl
        have HV := Lib.hid hv
        clear hv hall hall' hcs HSP HPS H3 hlt
        replace hb1 : wr.heap[w.heap.size + 1]? = some (.cells #[.int .u16 (numOf a), .int .u16 (numOf b), .int .u16 (numOf c)] 82 (0, 0)) := hb1
        go_wp2_with (first
          | ((with_reducible refine gate_ (.load 82 (.tmp 4)) rfl ?_); go_must (refine wpList_load_row rfl 82 (.tmp 4) rfl (w.heap.size + 1) rfl 82 _ (0, 0) _ hb1 Tryz.underlying82 rfl rfl ?_))
          | ((with_reducible refine gate_store (t := 82) (p := 2) (v := .tmp 46) rfl ?_); go_must (refine wpList_store_row rfl 82 (.tmp 2) (.tmp 46) rfl w.heap.size #[.int .u16 (numOf a), .int .u16 (numOf b), .int .u16 (numOf c)] rfl rfl 82 _ hb0 rfl rfl (by simp [Value.oneCell']) ?_)))
        refine bodyPost_ret (results_ct (p := 2) (u := 3) (ty := 82) rfl _ _ w.heap.size 82 #[.int .u16 (numOf a), .int .u16 (numOf b), .int .u16 (numOf c)] (0, 0) _ rfl (setRow_heap _ _ _ _ _ _ hb0) Tryz.underlying82 rfl rfl) rfl ⟨by rw [HV.out]; rfl, below_setRow hbl (Nat.le_refl _) _⟩
  · have h3' : ((ps.length : Int) == 3) = false := by rw [beq_eq_false_iff_ne]; omega
    have h4 : ((ps.length : Int) != 3) = true := by rw [bne, h3']; rfl
    have hv : verVal (verParts s.data.toList) = .tuple #[.agg #[.int .u16 0, .int .u16 0, .int .u16 0], .int .i64 4] := by unfold verParts; rw [HPS.out, if_neg (fun h => h3 h.1)]; rfl
    rw [hv]; clear hv
    have hG1 : ∀ o o', Glob ((w.alloc o).alloc o') := fun o o' => hG.below (below_alloc (below_alloc (Below.refl _ _) _) _)
    go_enter Tryz.func62, Tryz.ntmps62
    go_wp2_with (go_at_call 70; refine (HSP.out _ (hG1 _ _)).mono ?_; rintro e w1 ⟨rfl, rfl⟩)
    refine bodyPost_ret (v := .tuple #[.agg #[.int .u16 0, .int .u16 0, .int .u16 0], .int .i64 4]) (by simp [results, Tryz.results62, go_sem]) rfl ⟨rfl, ?_⟩
    exact below_alloc (below_alloc (below_alloc (Below.refl _ _) _) _) _

/-- slices.Compare, by definition -/
def lexc : List Nat → List Nat → Int
  | [], [] => 0
  | [], _ :: _ => -1
  | _ :: _, [] => 1
  | x :: l, y :: r => if x < y then -1 else if y < x then 1 else lexc l r
def cmpN (x y : Nat) : Int := if x < y then -1 else if y < x then 1 else 0

theorem nan_u16 (x : Int) (w : World) : Calls Tryz.prog 83 #[.int .u16 x] w fun e w' => e = .returned (.bool false) ∧ w = w' := by
  have h : (x != x) = false := by simp
  go_enter Tryz.func83, Tryz.ntmps83
  go_wp2
  go_ret
  exact ⟨rfl, rfl⟩

/-- cmp.Compare -/
theorem cmp_u16 (x y : Nat) (w : World) : Calls Tryz.prog 73 #[.int .u16 x, .int .u16 y] w fun e w' => e = .returned (.int .i64 (cmpN x y)) ∧ w = w' := by
  have hx := nan_u16 x w
  have hy := nan_u16 y w
  have HX := Lib.hid hx
  have HY := Lib.hid hy
  clear hx hy
  by_cases a : x < y
  · have hv : cmpN x y = -1 := by unfold cmpN; rw [if_pos a]
    rw [hv]; clear hv
    go_enter Tryz.func73, Tryz.ntmps73
    go_wp2_with fail
    refine HX.out.mono ?_
    rintro e w1 ⟨rfl, rfl⟩
    go_wp2_with fail
    refine HY.out.mono ?_
    rintro e w1 ⟨rfl, rfl⟩
    go_wp2
    go_ret
    exact ⟨rfl, rfl⟩
  · by_cases b : y < x
    · have hv : cmpN x y = 1 := by unfold cmpN; rw [if_neg a, if_pos b]
      rw [hv]; clear hv
      go_enter Tryz.func73, Tryz.ntmps73
      go_wp2_with fail
      refine HX.out.mono ?_
      rintro e w1 ⟨rfl, rfl⟩
      go_wp2_with fail
      refine HY.out.mono ?_
      rintro e w1 ⟨rfl, rfl⟩
      go_wp2
      go_ret
      exact ⟨rfl, rfl⟩
    · have hv : cmpN x y = 0 := by unfold cmpN; rw [if_neg a, if_neg b]
      rw [hv]; clear hv
      go_enter Tryz.func73, Tryz.ntmps73
      go_wp2_with fail
      refine HX.out.mono ?_
      rintro e w1 ⟨rfl, rfl⟩
      go_wp2_with fail
      refine HY.out.mono ?_
      rintro e w1 ⟨rfl, rfl⟩
      go_wp2
      go_ret
      exact ⟨rfl, rfl⟩

def u16s (l : List Nat) : List Value := l.map fun (n : Nat) => Value.int .u16 (n : Int)

set_option maxHeartbeats 800000 in
set_option maxRecDepth 1000000 in
/-- slices.Compare, at numbers in two arrays -/
theorem slices_cmp (l r : List Nat) (b b' c c' : Nat) (w : World) (hl : l.length ≤ 1000) (hr : r.length ≤ 1000) (hcl : CellsAt w b (u16s l)) (hcr : CellsAt w b' (u16s r)) :
    Calls Tryz.prog 63 #[.slice (some ⟨b, 0, none⟩) l.length c, .slice (some ⟨b', 0, none⟩) r.length c'] w fun e w' => e = .returned (.int .i64 (lexc l r)) ∧ w = w' := by
  go_enter Tryz.func63, Tryz.ntmps63
  go_wp2
  go_loop [11] (fun i => ∃ k : Nat, i = .int .i64 k ∧ k ≤ l.length ∧ k ≤ r.length ∧ lexc l r = lexc (l.drop k) (r.drop k)) (fun i => l.length - (intOf i).toNat)
  case atStart => exact ⟨0, rfl, by omega, by omega, rfl⟩
  case round =>
    obtain ⟨k, rfl, hk, hk', hlex⟩ := hrel
    by_cases hlt : k < l.length
    · by_cases hlt' : k < r.length
      · have h1 : w.cell? ⟨b, k, none⟩ = some (.int .u16 (l[k] : Nat)) := hcl.get (by simp [u16s, hlt])
        have h2 : w.cell? ⟨b', k, none⟩ = some (.int .u16 (r[k] : Nat)) := hcr.get (by simp [u16s, hlt'])
        rw [List.drop_eq_getElem_cons hlt, List.drop_eq_getElem_cons hlt', lexc] at hlex
        obtain ⟨x, hx⟩ : ∃ x, l[k] = x := ⟨_, rfl⟩
        obtain ⟨y, hy⟩ : ∃ y, r[k] = y := ⟨_, rfl⟩
        rw [hx] at h1 hlex
        rw [hy] at h2 hlex
        clear hx hy
        have hcmp := cmp_u16 x y w
        by_cases he : cmpN x y = 0
        · have hxy : ¬ x < y ∧ ¬ y < x := by
            unfold cmpN at he
            by_cases p : x < y
            · rw [if_pos p] at he; omega
            · rw [if_neg p] at he
              by_cases q : y < x
              · rw [if_pos q] at he; omega
              · exact ⟨p, q⟩
          rw [if_neg hxy.1, if_neg hxy.2] at hlex
          rw [he] at hcmp
          have HC := Lib.hid hcmp
          have HX := Lib.hid hlex
          clear hcmp hlex he hxy
          go_wp2_with (go_at_call 73; go_must (refine HC.out.mono ?_); rintro e w1 ⟨rfl, rfl⟩)
          go_round
          case rel => exact ⟨k + 1, by go_num, by omega, by omega, HX.out⟩
          case measure => simp [intOf]; omega
        · have hv : lexc l r = cmpN x y := by
            rw [hlex]
            unfold cmpN at he ⊢
            by_cases p : x < y
            · rw [if_pos p, if_pos p]
            · rw [if_neg p, if_neg p] at *
              by_cases q : y < x
              · rw [if_pos q, if_pos q]
              · rw [if_neg q] at he; exact absurd rfl he
          have he' : (cmpN x y != 0) = true := by rw [bne_iff_ne]; exact he
          have HC := Lib.hid hcmp
          have HX := Lib.hid hv
          clear hcmp hlex he hv
          go_wp2_with (go_at_call 73; go_must (refine HC.out.mono ?_); rintro e w1 ⟨rfl, rfl⟩)
          go_ret
          exact ⟨ret_int HX.out.symm, rfl⟩
      · have hv : lexc l r = 1 := by rw [hlex, List.drop_eq_getElem_cons hlt, List.drop_of_length_le (show r.length ≤ k by omega)]; rfl
        have h1 : w.cell? ⟨b, k, none⟩ = some (.int .u16 (l[k] : Nat)) := hcl.get (by simp [u16s, hlt])
        have HX := Lib.hid hv
        clear hlex hv
        go_wp2
        go_ret
        exact ⟨ret_int HX.out.symm, rfl⟩
    · obtain rfl : k = l.length := by omega
      rw [List.drop_of_length_le (Nat.le_refl _)] at hlex
      by_cases h : l.length < r.length
      · have hv : lexc l r = -1 := by rw [hlex, List.drop_eq_getElem_cons h]; rfl
        have HX := Lib.hid hv
        clear hlex hv
        go_wp2
        go_ret
        exact ⟨ret_int HX.out.symm, rfl⟩
      · have hv : lexc l r = 0 := by rw [hlex, List.drop_of_length_le (by omega)]; rfl
        have HX := Lib.hid hv
        clear hlex hv
        go_wp2
        go_ret
        exact ⟨ret_int HX.out.symm, rfl⟩

set_option maxHeartbeats 400000 in
/-- version.Cmp -/
theorem vcmp_any (a b c x y z : Nat) (w : World) :
    Calls Tryz.prog 50 #[.agg #[.int .u16 a, .int .u16 b, .int .u16 c], .agg #[.int .u16 x, .int .u16 y, .int .u16 z]] w fun e w' => e = .returned (.int .i64 (lexc [a, b, c] [x, y, z])) ∧ Below w.heap.size w w' := by
  have hc : ∀ n, Calls Tryz.prog 63 #[.slice (some ⟨w.heap.size, 0, none⟩) 3 3, .slice (some ⟨w.heap.size + 1, 0, none⟩) 3 3] (((w.alloc (.cells #[.int .u16 a, .int .u16 b, .int .u16 c] 82)).alloc (.cells #[.int .u16 x, .int .u16 y, .int .u16 z] 82)).drewN n) fun e w' => e = .returned (.int .i64 (lexc [a, b, c] [x, y, z])) ∧ w' = ((w.alloc (.cells #[.int .u16 a, .int .u16 b, .int .u16 c] 82)).alloc (.cells #[.int .u16 x, .int .u16 y, .int .u16 z] 82)).drewN n := by
    intro n
    refine (slices_cmp [a, b, c] [x, y, z] w.heap.size (w.heap.size + 1) 3 3 _ (by simp) (by simp) ?_ ?_).mono (fun e w' h => ⟨h.1, h.2.symm⟩)
    · exact (((CellsAt.new w (u16s [a, b, c]) _).below (below_alloc (Below.refl _ _) _)).below (pw_below_drewN (Below.refl _ _) n))
    · exact ((CellsAt.new' (l := u16s [x, y, z]) (by simp)).below (pw_below_drewN (Below.refl _ _) n))
  have HC := Lib.hid hc; clear hc
  go_enter Tryz.func50, Tryz.ntmps50
  go_wp2
  go_quiet ((go_at_call 63; exact Calls.quiet_of_same (HC.out _)))
  go_wp2
  go_ret
  exact ⟨rfl, pw_below_drewN (below_alloc (below_alloc (Below.refl _ _) _) _) _⟩

abbrev Ver := { t : Nat × Nat × Nat // t.1 < 65536 ∧ t.2.1 < 65536 ∧ t.2.2 < 65536 }
/-- The version of a text. -/
def verOf (l : Bytes) : Option Ver := match split1 46 l with
  | [a, b, c] => if h : okPart a = true ∧ okPart b = true ∧ okPart c = true then
      some ⟨(numOf a, numOf b, numOf c), by
        obtain ⟨h1, h2, h3⟩ := h
        simp only [okPart, Bool.and_eq_true, decide_eq_true_eq] at h1 h2 h3
        exact ⟨by show numOf a < 65536; omega, by show numOf b < 65536; omega, by show numOf c < 65536; omega⟩⟩
    else none
  | _ => none
def verRes (o : Option Ver) : Value := match o with
  | some v => .tuple #[.agg #[.int .u16 (v.1.1 : Nat), .int .u16 (v.1.2.1 : Nat), .int .u16 (v.1.2.2 : Nat)], .int .i64 0]
  | none => .tuple #[.agg #[.int .u16 0, .int .u16 0, .int .u16 0], .int .i64 4]

theorem verRes_eq (l : Bytes) : verVal (verParts l) = verRes (verOf l) := by
  unfold verParts verOf
  split
  · rename_i h
    obtain ⟨h3, ha⟩ := h
    match hs : split1 46 l, h3 with
    | [a, b, c], _ =>
      rw [hs] at ha
      simp only [List.all_cons, List.all_nil, Bool.and_true, Bool.and_eq_true] at ha
      simp only [hs]
      rw [dif_pos ha]
      rfl
  · rename_i h
    match hs : split1 46 l with
    | [a, b, c] =>
      rw [hs] at h
      simp only [hs]
      rw [dif_neg (fun h2 => h ⟨rfl, by simp [h2.1, h2.2.1, h2.2.2]⟩)]
      rfl
    | [] => simp only [hs]; rfl
    | [_] => simp only [hs]; rfl
    | [_, _] => simp only [hs]; rfl
    | _ :: _ :: _ :: _ :: _ => simp only [hs]; rfl

theorem vparse_of (s : ByteArray) (w : World) (hs : s.size < 4294967281) (hG : Glob w) :
    Calls Tryz.prog 62 #[.string s] w fun e w' => e = .returned (verRes (verOf s.data.toList)) ∧ Below w.heap.size w w' := by
  rw [← verRes_eq]
  exact vparse_any s w hs hG

def verCells (v : Ver) : List Value := [.int .u16 (v.1.1 : Nat), .int .u16 (v.1.2.1 : Nat), .int .u16 (v.1.2.2 : Nat)]
def versCells (vs : List Ver) : List Value := (vs.map verCells).flatten

theorem infoVer : (Tryz.prog.info? 82).map (fun i => (i.zero, i.size, i.bytes)) = some (some (.agg #[.int .u16 0, .int .u16 0, .int .u16 0]), 3, 6) := by kernel_rfl

set_option maxHeartbeats 800000 in
set_option maxRecDepth 1000000 in
/-- version.from, where all are versions -/
theorem from_yes (A : Option Addr) (cp : Nat) (xs : List Bytes) (vs : List Ver) (hv : xs.map verOf = vs.map some) (hn : xs.length ≤ 1000) (hx : ∀ x, x ∈ xs → x.length ≤ 1000000) (hcp : xs.length ≤ cp) (w : World) (hr : ReadsStrs w A xs) (hG : Glob w) :
    Calls Tryz.prog 49 #[.slice A xs.length cp] w fun e w' => ∃ v, e = .returned (.tuple #[v, .bool true]) ∧ w'.ownsRow w.heap.size 82 3 v vs.length (versCells vs) ∧ Below w.heap.size w w' := by
  have hlen : xs.length = vs.length := by have := congrArg List.length hv; simpa using this
  have HV := Lib.hid hv
  have HL := Lib.hid hlen
  clear hv hlen
  go_enter Tryz.func49, Tryz.ntmps49
  go_wp2
  go_loopw [4, 11] (fun v i wr => ∃ k : Nat, k ≤ xs.length ∧ i = .int .i64 k ∧ wr.ownsRow w.heap.size 82 3 v k (versCells (vs.take k)) ∧ Below w.heap.size w wr) (fun _ i _ => xs.length - (intOf i).toNat)
  case atStart => exact ⟨0, by omega, rfl, World.ownsRow_nil _ _ _ _, Below.refl _ _⟩
  case round =>
    obtain ⟨k, hk, rfl, hown, hb⟩ := hrel
    by_cases hlt : k < xs.length
    · have hltv : k < vs.length := by rw [← HL.out]; exact hlt
      obtain ⟨b, o, rfl, hbo, hcell⟩ := (hr.below hb) (fun e => by rw [e] at hlt; exact absurd hlt (by simp))
      have hc := hcell k xs[k] (List.getElem?_eq_getElem hlt)
      have hxl := hx _ (List.getElem_mem hlt)
      obtain ⟨x, hxe⟩ : ∃ x, xs[k] = x := ⟨_, rfl⟩
      obtain ⟨u, hue⟩ : ∃ u, vs[k] = u := ⟨_, rfl⟩
      have hver : verOf x = some u := by
        have := congrArg (fun l => l[k]?) HV.out
        simp only [List.getElem?_map, List.getElem?_eq_getElem hlt, List.getElem?_eq_getElem hltv, Option.map_some, Option.some.injEq] at this
        rw [hxe, hue] at this
        exact this
      rw [hxe] at hc hxl
      have hp := vparse_of ⟨x.toArray⟩ wr (by show x.toArray.size < _; simp; omega) (hG.below hb)
      rw [show (⟨x.toArray⟩ : ByteArray).data.toList = x from rfl, hver] at hp
      have hnext : versCells (vs.take (k + 1)) = versCells (vs.take k) ++ verCells u := by
        rw [List.take_succ_eq_append_getElem hltv, hue]; simp [versCells]
      have HP := Lib.hid hp
      have HX := Lib.hid hnext
      clear hp hnext hver hcell hxe hue
      go_wp2_with (first
        | (go_at_call 62; go_must (refine HP.out.mono ?_); rintro e w1 ⟨rfl, hb1⟩; simp only [verRes]; have hb2 := below_step hb hb1; have hown1 := pw_own_below hown hb1)
        | (at_builtin; go_must (refine print_append_cells (w0 := w) w.heap.size rfl (.tmp 22) (.tmp 24) 76 82 (.agg #[.int .u16 0, .int .u16 0, .int .u16 0]) 3 6 rfl Tryz.underlying76 infoVer rfl (by decide) (by decide) u4 _ _ (verCells u) rfl (by simp only [World.size_alloc]; rfl) rfl ?_ (World.ownsRow.alloc hown1 _) ?_ ?_ ?_ ?_); intro z hz; simp [verCells] at hz; rcases hz with rfl | rfl | rfl <;> rfl; exact below_alloc hb2 _; exact (below_alloc hb2 _).size; omega; intro v1 w3 hown2 hb3 _ _; rw [← HX.out] at hown2))
      go_roundw
      case rel => exact ⟨k + 1, by omega, by go_num, hown2, hb3⟩
      case measure => simp [intOf]; omega
    · obtain rfl : k = xs.length := by omega
      have hown' : wr.ownsRow w.heap.size 82 3 u4 vs.length (versCells vs) := by rw [HL.out, List.take_of_length_le (Nat.le_refl _)] at hown; exact hown
      clear hown
      go_wp2
      go_ret2
      exact ⟨_, rfl, hown', hb⟩

set_option maxHeartbeats 800000 in
set_option maxRecDepth 1000000 in
/-- version.from, where one is no version -/
theorem from_no (A : Option Addr) (cp : Nat) (xs : List Bytes) (j : Nat) (hj : j < xs.length) (hno : verOf xs[j] = none) (hyes : ∀ i (h : i < xs.length), i < j → (verOf xs[i]).isSome = true) (hn : xs.length ≤ 1000) (hx : ∀ x, x ∈ xs → x.length ≤ 1000000) (hcp : xs.length ≤ cp) (w : World) (hr : ReadsStrs w A xs) (hG : Glob w) :
    Calls Tryz.prog 49 #[.slice A xs.length cp] w fun e w' => e = .returned (.tuple #[.slice none 0 0, .bool false]) ∧ Below w.heap.size w w' := by
  have HY := Lib.hid hyes
  have HNO := Lib.hid hno
  clear hyes hno
  go_enter Tryz.func49, Tryz.ntmps49
  go_wp2
  go_loopw [4, 11] (fun v i wr => ∃ (k : Nat) (l : List Value), k ≤ j ∧ i = .int .i64 k ∧ wr.ownsRow w.heap.size 82 3 v k l ∧ Below w.heap.size w wr) (fun _ i _ => xs.length - (intOf i).toNat)
  case atStart => exact ⟨0, [], by omega, rfl, World.ownsRow_nil _ _ _ _, Below.refl _ _⟩
  case round =>
    obtain ⟨k, cl, hk, rfl, hown, hb⟩ := hrel
    have hlt : k < xs.length := by omega
    obtain ⟨b, o, rfl, hbo, hcell⟩ := (hr.below hb) (fun e => by rw [e] at hlt; exact absurd hlt (by simp))
    have hc := hcell k xs[k] (List.getElem?_eq_getElem hlt)
    have hxl := hx _ (List.getElem_mem hlt)
    obtain ⟨x, hxe⟩ : ∃ x, xs[k] = x := ⟨_, rfl⟩
    rw [hxe] at hc hxl
    have hp := vparse_of ⟨x.toArray⟩ wr (by show x.toArray.size < _; simp; omega) (hG.below hb)
    rw [show (⟨x.toArray⟩ : ByteArray).data.toList = x from rfl] at hp
    by_cases hkj : k < j
    · have hy := HY.out k hlt hkj
      rw [hxe] at hy
      obtain ⟨u, hu⟩ := Option.isSome_iff_exists.1 hy
      rw [hu] at hp
      have HP := Lib.hid hp
      clear hp hu hy hcell hxe
      go_wp2_with (first
        | (go_at_call 62; go_must (refine HP.out.mono ?_); rintro e w1 ⟨rfl, hb1⟩; simp only [verRes]; have hb2 := below_step hb hb1; have hown1 := pw_own_below hown hb1)
        | (at_builtin; go_must (refine print_append_cells (w0 := w) w.heap.size rfl (.tmp 22) (.tmp 24) 76 82 (.agg #[.int .u16 0, .int .u16 0, .int .u16 0]) 3 6 rfl Tryz.underlying76 infoVer rfl (by decide) (by decide) u4 _ _ (verCells u) rfl (by simp only [World.size_alloc]; rfl) rfl ?_ (World.ownsRow.alloc hown1 _) ?_ ?_ ?_ ?_); intro z hz; simp [verCells] at hz; rcases hz with rfl | rfl | rfl <;> rfl; exact below_alloc hb2 _; exact (below_alloc hb2 _).size; omega; intro v1 w3 hown2 hb3 _ _))
      go_roundw
      case rel => exact ⟨k + 1, _, by omega, by go_num, hown2, hb3⟩
      case measure => simp [intOf]; omega
    · obtain rfl : k = j := by omega
      rw [show verOf x = none by rw [← hxe]; exact HNO.out] at hp
      have HP := Lib.hid hp
      clear hp hcell hxe
      go_wp2_with (first
        | (go_at_call 62; go_must (refine HP.out.mono ?_); rintro e w1 ⟨rfl, hb1⟩; simp only [verRes]; have hb2 := below_step hb hb1))
      go_ret2
      exact ⟨rfl, below_alloc hb2 _⟩

end Go.Proofs.YtiggnmhoececfaaGreatDoor
