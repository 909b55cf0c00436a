/- What the functions of package digits come to. -/
import Derived.Test.YtiggnmhoececfaaGreatDoorBase
namespace Go.Proofs.YtiggnmhoececfaaGreatDoor
set_option linter.unusedVariables false
set_option linter.unusedSimpArgs false
open Go.RowKit

set_option maxRecDepth 1000000 in
/-- digits.Is -/
theorem is_any (s : ByteArray) (w : World) :
    Calls Tryz.prog 37 #[.string s] w fun e w' => e = .returned (.bool (isNum s.data.toList)) ∧ Below w.heap.size w w' := by
  go_enter Tryz.func37, Tryz.ntmps37
  go_wp2
  go_loopw [] (fun w' => ∃ (pos : Nat), w' = w.iter s pos ∧ pos ≤ s.size ∧ isDig (s.data.toList.take pos) = true) (fun w' => s.size - w'.iterPos w.heap.size)
  case atStart => exact ⟨0, rfl, by omega, rfl⟩
  case round =>
    obtain ⟨pos, rfl, hle, hd⟩ := hrel
    by_cases hp : pos < s.size
    · have hnx : ∀ ty, (Instr.next (.pointer (some ⟨w.heap.size, 0, none⟩)) true ty).run Tryz.prog (w.iter s pos) = _ := fun ty => run_next_any w s pos ty hp
      have hwd := width_pos s pos hp
      go_wp2
      · go_ret
        exact ⟨by unfold isNum; rw [isDig_no s pos hp ‹_›]; rfl, below_iter _ _ _⟩
      · obtain ⟨h1, h2⟩ : 48 ≤ ((Utf8.decode s pos).1 : Int) ∧ ((Utf8.decode s pos).1 : Int) ≤ 57 := ‹_›
        obtain ⟨e, hd'⟩ := isDig_next s pos hp h1 h2 hd
        exact ⟨⟨pos + 1, by rw [e], by omega, hd'⟩, by simp; omega⟩
      · go_ret
        exact ⟨by unfold isNum; rw [isDig_no s pos hp (.inl ‹_›)]; rfl, below_iter _ _ _⟩
    · have hnx : ∀ ty, (Instr.next (.pointer (some ⟨w.heap.size, 0, none⟩)) true ty).run Tryz.prog (w.iter s pos) = _ := fun ty => run_next_end w s pos ty hp
      go_wp2
      go_ret
      obtain rfl : pos = s.size := by omega
      rw [List.take_of_length_le (by simp)] at hd
      exact ⟨by unfold isNum; rw [hd]; simp [Lib.toList_data], below_iter _ _ _⟩

/-- digits.Number: what a text tells of a number. -/
def number (l : Bytes) : Nat × Int := if isNum l then (if numOf l ≤ 18446744073709551615 then (numOf l, 0) else (0, 7)) else (0, 4)

set_option maxRecDepth 1000000 in
set_option maxHeartbeats 400000 in
theorem number_any (s : ByteArray) (w : World) (hs : s.size ≤ 140737488351232) (hG : Glob w) :
    Calls Tryz.prog 71 #[.string s] w fun e w' => e = .returned (.tuple #[.int .u64 (number s.data.toList).1, .int .i64 (number s.data.toList).2]) ∧ Below w.heap.size w w' := by
  cases h : isNum s.data.toList with
  | false =>
    have h1 := is_any s w
    rw [h] at h1
    have e : number s.data.toList = (0, 4) := by unfold number; rw [h]; rfl
    rw [e]
    have H1 := Lib.hid h1; clear h1 h e
    go_enter Tryz.func71, Tryz.ntmps71
    go_wp2_with (go_at_call 37; refine H1.out.mono ?_; rintro e w' ⟨rfl, hb⟩)
    go_ret2
    exact ⟨rfl, hb⟩
  | true =>
    have h1 := is_any s w
    rw [h] at h1
    have hp := parse64 _ h
    by_cases hle : numOf s.data.toList ≤ 18446744073709551615
    · rw [if_pos hle] at hp
      have e : number s.data.toList = (numOf s.data.toList, 0) := by unfold number; rw [h, if_pos hle]; rfl
      rw [e]
      have HP := Lib.hid hp
      have H1 := Lib.hid h1; clear h1 h e hp
      go_enter Tryz.func71, Tryz.ntmps71
      go_wp2_with (first | (go_at_call 37; refine H1.out.mono ?_; rintro e w' ⟨rfl, hb⟩) | (go_at_call 80; refine (Tryz.strconv_ParseUint_10_at64_ok s (by omega) _ HP.out _).mono ?_; rintro e w2 ⟨rfl, hw⟩))
      go_ret2
      exact ⟨rfl, below_or_bytes hb hw⟩
    · rw [if_neg hle] at hp
      have e : number s.data.toList = (0, 7) := by unfold number; rw [h, if_neg hle]; rfl
      rw [e]
      have HP := Lib.hid hp
      have H1 := Lib.hid h1; clear h1 h e hp
      obtain ⟨te, pe, hr⟩ := hG.rng
      go_enter Tryz.func71, Tryz.ntmps71
      go_wp2_with (first | (go_at_call 37; refine H1.out.mono ?_; rintro e w' ⟨rfl, hb⟩) | (go_at_call 80; refine (Tryz.strconv_ParseUint_10_at64_range s (by omega) HP.out (.iface te pe) _ (cellBelow hb hr) (.inr ⟨_, _, rfl⟩)).mono ?_; rintro e w2 ⟨N, rfl, hN, hc, hb2⟩; have hb3 := below_step hb hb2))
      go_ret2
      exact ⟨rfl, hb3⟩

theorem fmt_small (i : Nat) (hi : i < 100) (w : World) :
    Calls Tryz.prog 95 #[.int .u64 i, .int .i64 10] w fun e w' => e = .returned (.string ⟨(Lib.decDigits i).toArray⟩) ∧ Below w.heap.size w w' := by
  go_enter Tryz.func95, Tryz.ntmps95
  go_wp2_with (go_at_call 113; refine (Tryz.internal_strconv_small i hi _).mono ?_; rintro e w' ⟨rfl, rfl⟩)
  go_ret
  exact ⟨rfl, Below.refl _ _⟩

open Go.Sort Go.Lib in
theorem holds_zero0 (w : World) (T : TypeId) (nd : Nat) (hs : nd ≤ 24) : Holds (fun (b : UInt8) => Value.int .u8 (b.toNat : Int)) (w.alloc (.cells zeros24 T)) w.heap.size 0 (Array.replicate nd (0 : UInt8)) := fun j hj => by
  have hj' : j < nd := by simpa using hj
  refine ⟨?_, World.frozen?_alloc_new _ _ _ _⟩
  rw [World.cell?_alloc_new, zeros24_at _ (by omega), getElem!_pos _ j hj]
  simp

theorem below_grow (w : World) (k : Nat) (os : Array Obj) : Below w.heap.size w (Sort.grow (w.drewN k) os) :=
  ⟨rfl, rfl, rfl, by simp [Sort.grow], fun i hi => by simp only [Sort.grow]; exact Array.getElem?_append_left hi⟩

open Go.Sort Go.Lib in
set_option maxHeartbeats 6400000 in
set_option maxRecDepth 100000 in
theorem fmt_big (u : Nat) (hu : 100 ≤ u) (hu64 : u < 18446744073709551616) (w : World) (hG : Glob w) :
    Calls Tryz.prog 95 #[.int .u64 u, .int .i64 10] w fun e w' => e = .returned (.string ⟨(Lib.decDigits u).toArray⟩) ∧ Below w.heap.size w w' := by
  have htab := hG.tab10
  have hu1 : 1 ≤ u := by omega
  have hnd20 : Lib.nDigits u ≤ 20 := by have := Lib.numDigits_eq u hu1 hu64; split at this <;> omega
  have hb3 : Lib.nDigits u ≤ 24 := by omega
  have hsl1 : ∀ W, (Instr.sliceAt 148 (.pointer (some ⟨w.heap.size, 0, none⟩)) none (some (.int .i64 (Lib.nDigits u : Int))) none).run Tryz.prog W = .ok (.slice (some ⟨w.heap.size, 0, none⟩) (Lib.nDigits u) 24) W := fun W => by
    have hal : Tryz.prog.arrayLen 148 = 24 := by simp [Program.arrayLen, Tryz.underlying148]
    rw [run_sliceAt_array_h W 148 ⟨w.heap.size, 0, none⟩ (by simp [Program.arrayLen, Program.elem, Tryz.underlying148]) .i64 (Lib.nDigits u : Int) (by omega) (by rw [hal]; omega)]
    go_simp
  have hH0 := holds_zero0 w 148 (Lib.nDigits u) (by omega)
  have hfmt := Tryz.internal_strconv_formatBase10 w.heap.size 0 24 u (Array.replicate (Lib.nDigits u) 0) (w.alloc (.cells Lib.zeros24 148)) hH0 (by rw [Array.size_replicate]; exact Lib.lt_pow_nDigits u) hu64 (by rw [Array.size_replicate]; omega)
  rw [Array.size_replicate] at hfmt
  have HH0 := Lib.hid hH0
  have HFM := Lib.hid hfmt
  clear hH0 hfmt
  have h100 : ¬ u < 100 := by omega
  go_enter Tryz.func95, Tryz.ntmps95
  go_wp2_with (first
    | (go_at_call 114; refine (Tryz.internal_strconv_numDigits u hu1 hu64 _ (Lib.tabIs_alloc htab _)).mono ?_; rintro e w' ⟨rfl, rfl⟩))
  go_at_call 115
  refine HFM.out.mono ?_
  rintro e w' ⟨rfl, k, v', dk, rfl, hF⟩
  have hcv : (convert 98 9 (.slice (some ⟨w.heap.size, 0, none⟩) (Lib.nDigits u) 24)).run Tryz.prog ((putRow (fun (b : UInt8) => Value.int .u8 (b.toNat : Int)) (w.alloc (.cells Lib.zeros24 148)) w.heap.size 0 dk).drewN k) = .ok (.string ⟨(Lib.decDigits u).toArray⟩) ((putRow (fun (b : UInt8) => Value.int .u8 (b.toNat : Int)) (w.alloc (.cells Lib.zeros24 148)) w.heap.size 0 dk).drewN k) := by
    have h := run_convert_bytes_back (P := Tryz.prog) ((putRow (fun (b : UInt8) => Value.int .u8 (b.toNat : Int)) (w.alloc (.cells Lib.zeros24 148)) w.heap.size 0 dk).drewN k) 98 9 5 ⟨w.heap.size, 0, none⟩ 24 (Lib.decDigits u) Tryz.underlying98 Tryz.underlying5 Tryz.underlying9 (fun j hj => by
      rw [Lib.row_is_numeral hF j hj, Lib.add_plain, World.cell?_drewN]
      exact cell?_putRow (fun (b : UInt8) => Value.int .u8 (b.toNat : Int)) _ w.heap.size 0 _ dk HH0.out (by rw [hF.size, Array.size_replicate]) j (by rw [hF.size]; rw [Lib.decDigits_length] at hj; exact hj))
    rw [Lib.decDigits_length] at h
    exact h
  go_wp2
  go_ret
  have e1 : ∃ os, (putRow (fun (b : UInt8) => Value.int .u8 (b.toNat : Int)) (w.alloc (.cells Lib.zeros24 148)) w.heap.size 0 dk).drewN k = grow (w.drewN k) os := by
    rw [alloc_eq_grow]
    obtain ⟨os', _, e⟩ := putRow_grow_new (fun (b : UInt8) => Value.int .u8 (b.toNat : Int)) w #[.cells Lib.zeros24 148] w.heap.size 0 dk (Nat.le_refl _)
    exact ⟨os', by rw [e]; rfl⟩
  obtain ⟨os, eo⟩ := e1
  exact ⟨rfl, by rw [eo]; exact below_grow _ _ _⟩

theorem fmt_any (u : Nat) (hu64 : u < 18446744073709551616) (w : World) (hG : Glob w) :
    Calls Tryz.prog 81 #[.int .u64 u, .int .i64 10] w fun e w' => e = .returned (.string ⟨(Lib.decDigits u).toArray⟩) ∧ Below w.heap.size w w' := by
  have h : Calls Tryz.prog 95 #[.int .u64 u, .int .i64 10] w fun e w' => e = .returned (.string ⟨(Lib.decDigits u).toArray⟩) ∧ Below w.heap.size w w' := by
    by_cases hu : u < 100
    · exact fmt_small u hu w
    · exact fmt_big u (by omega) hu64 w hG
  have H := Lib.hid h; clear h
  go_enter Tryz.func81, Tryz.ntmps81
  go_wp2_with (go_at_call 95; refine H.out.mono ?_; rintro e w' ⟨rfl, hb⟩)
  go_ret
  exact ⟨rfl, hb⟩

theorem dec_len (u : Nat) (hu64 : u < 18446744073709551616) : (Lib.decDigits u).length ≤ 20 := by
  rw [Lib.decDigits_length]
  by_cases h1 : 1 ≤ u
  · have := Lib.numDigits_eq u h1 hu64; split at this <;> omega
  · obtain rfl : u = 0 := by omega
    simp [Lib.nDigits_small]

set_option maxHeartbeats 800000 in
/-- digits.Text -/
theorem text_any (u : Nat) (wd : Int) (hu64 : u < 18446744073709551616) (h1 : -9223372036854775808 ≤ wd) (h2 : wd ≤ 9223372036854775807) (w : World) (hG : Glob w) :
    Calls Tryz.prog 72 #[.int .u64 u, .int .i64 wd] w fun e w' => e = .returned (.string ⟨(textL u wd).toArray⟩) ∧ Below w.heap.size w w' := by
  have hl := dec_len u hu64
  have hf := fmt_any u hu64 w hG
  have hr := fun c W => Tryz.strings_Repeat ⟨#[48]⟩ c W
  have HF := Lib.hid hf; clear hf
  have HR := Lib.hid hr; clear hr
  go_enter Tryz.func72, Tryz.ntmps72
  go_wp2_with (go_at_call 81; refine HF.out.mono ?_; rintro e w' ⟨rfl, hb⟩)
  obtain ⟨c, hc⟩ : ∃ c : Nat, max (min (max wd 0) 40 - ((Lib.decDigits u).length : Int)) 0 = c := ⟨(max (min (max wd 0) 40 - ((Lib.decDigits u).length : Int)) 0).toNat, by omega⟩
  have hc40 : c ≤ 40 := by omega
  have et : textL u wd = Lib.repeatL [48] c ++ Lib.decDigits u := by
    unfold textL
    rw [hc]
    congr 1
    rw [Int.toNat_natCast]
    clear hc hc40
    induction c with
    | zero => rfl
    | succ c ih => rw [List.replicate_succ, ih]; rfl
  have HT := Lib.hid et
  rw [hc]
  clear hc et
  refine (HR.out c _ (by omega) (by show 1 * c ≤ _; omega)).mono ?_
  rintro e w2 ⟨rfl, hb2⟩
  have hb3 := below_step hb hb2
  have hs : (⟨(Lib.repeatL [48] c).toArray⟩ : ByteArray).size + (⟨(Lib.decDigits u).toArray⟩ : ByteArray).size ≤ 9223372036854775807 := by
    show (Lib.repeatL [48] c).toArray.size + (Lib.decDigits u).toArray.size ≤ _
    simp [Lib.repeatL_length]
    omega
  go_wp2
  go_ret
  exact ⟨ret_str (by rw [HT.out, ByteArray.mk_append_mk]), hb3⟩
end Go.Proofs.YtiggnmhoececfaaGreatDoor
