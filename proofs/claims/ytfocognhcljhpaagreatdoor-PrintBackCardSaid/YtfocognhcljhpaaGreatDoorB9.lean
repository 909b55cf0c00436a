/- Texts taken together, trimmed. -/
import Derived.Test.YtfocognhcljhpaaGreatDoorL2
import Derived.Shelf.Strings.CaseAny
import Derived.Test.YtfocognhcljhpaaGreatDoorP1
import Derived.Test.YtfocognhcljhpaaGreatDoorL1
import Derived.Test.YtfocognhcljhpaaGreatDoorL3
import Derived.Test.YtfocognhcljhpaaGreatDoorB8
import Derived.Lib.LaidCase
namespace Go.Proofs
open Go.Shelf Go.Lib
theorem Tryz.lays159 : Go.Proofs.Lays.n159 Tryz.prog Tryz.lays159_ren := {
  mixed := by kernel_rfl
  f118 := Tryz.func153.trans (congrArg some (by kernel_rfl))
  f159 := Tryz.func147.trans (congrArg some (by kernel_rfl))
  f165 := Tryz.func148.trans (congrArg some (by kernel_rfl))
  f166 := Tryz.func44.trans (congrArg some (by kernel_rfl))
  f167 := Tryz.func47.trans (congrArg some (by kernel_rfl))
  f168 := Tryz.func154.trans (congrArg some (by kernel_rfl))
  f169 := Tryz.func45.trans (congrArg some (by kernel_rfl))
  f197 := Tryz.func152.trans (congrArg some (by kernel_rfl))
  f204 := Tryz.func150.trans (congrArg some (by kernel_rfl))
  f230 := Tryz.func149.trans (congrArg some (by kernel_rfl))
  f240 := Tryz.func75.trans (congrArg some (by kernel_rfl))
  f241 := Tryz.func151.trans (congrArg some (by kernel_rfl))
  f242 := Tryz.func159.trans (congrArg some (by kernel_rfl))
  f260 := Tryz.func158.trans (congrArg some (by kernel_rfl))
  f262 := Tryz.func156.trans (congrArg some (by kernel_rfl))
  f270 := Tryz.func155.trans (congrArg some (by kernel_rfl))
  f274 := Tryz.func162.trans (congrArg some (by kernel_rfl))
  f275 := Tryz.func163.trans (congrArg some (by kernel_rfl))
  f276 := Tryz.func98.trans (congrArg some (by kernel_rfl))
  f277 := Tryz.func157.trans (congrArg some (by kernel_rfl))
  f278 := Tryz.func161.trans (congrArg some (by kernel_rfl))
  f313 := Tryz.func160.trans (congrArg some (by kernel_rfl))
  t0 := Tryz.underlying0
  a0 := Tryz.isAgg0
  z0 := Tryz.sizeOf0
  v0 := Tryz.zeroValue0
  t3 := Tryz.underlying3
  a3 := Tryz.isAgg3
  z3 := Tryz.sizeOf3
  v3 := Tryz.zeroValue3
  t4 := Tryz.underlying4
  a4 := Tryz.isAgg4
  z4 := Tryz.sizeOf4
  v4 := Tryz.zeroValue4
  t5 := Tryz.underlying5
  a5 := Tryz.isAgg5
  z5 := Tryz.sizeOf5
  v5 := Tryz.zeroValue5
  t9 := Tryz.underlying9
  a9 := Tryz.isAgg9
  z9 := Tryz.sizeOf9
  v9 := Tryz.zeroValue9
  t20 := Tryz.underlying20
  a20 := Tryz.isAgg20
  z20 := Tryz.sizeOf20
  v20 := Tryz.zeroValue20
  t21 := Tryz.underlying21
  a21 := Tryz.isAgg21
  z21 := Tryz.sizeOf21
  v21 := Tryz.zeroValue21
  t37 := Tryz.underlying81
  a37 := Tryz.isAgg81
  z37 := Tryz.sizeOf81
  v37 := Tryz.zeroValue81
  t46 := Tryz.underlying120
  a46 := Tryz.isAgg120
  z46 := Tryz.sizeOf120
  v46 := Tryz.zeroValue120
  t51 := Tryz.underlying152
  a51 := Tryz.isAgg152
  z51 := Tryz.sizeOf152
  v51 := Tryz.zeroValue152
  t70 := Tryz.underlying80
  a70 := Tryz.isAgg80
  z70 := Tryz.sizeOf80
  v70 := Tryz.zeroValue80
  t72 := Tryz.underlying83
  a72 := Tryz.isAgg83
  z72 := Tryz.sizeOf83
  v72 := Tryz.zeroValue83
  t75 := Tryz.underlying85
  a75 := Tryz.isAgg85
  z75 := Tryz.sizeOf85
  v75 := Tryz.zeroValue85
  t76 := Tryz.underlying86
  a76 := Tryz.isAgg86
  z76 := Tryz.sizeOf86
  v76 := Tryz.zeroValue86
  t105 := Tryz.underlying156
  a105 := Tryz.isAgg156
  z105 := Tryz.sizeOf156
  v105 := Tryz.zeroValue156
  t107 := Tryz.underlying179
  a107 := Tryz.isAgg179
  z107 := Tryz.sizeOf179
  v107 := Tryz.zeroValue179
  t119 := Tryz.underlying187
  a119 := Tryz.isAgg187
  z119 := Tryz.sizeOf187
  t127 := Tryz.underlying115
  a127 := Tryz.isAgg115
  z127 := Tryz.sizeOf115
  v127 := Tryz.zeroValue115
  t138 := Tryz.underlying189
  a138 := Tryz.isAgg189
  z138 := Tryz.sizeOf189
  v138 := Tryz.zeroValue189
  t139 := Tryz.underlying190
  a139 := Tryz.isAgg190
  z139 := Tryz.sizeOf190
  v139 := Tryz.zeroValue190
  t160 := Tryz.underlying191
  a160 := Tryz.isAgg191
  z160 := Tryz.sizeOf191
  v160 := Tryz.zeroValue191
  t162 := Tryz.underlying186
  a162 := Tryz.isAgg186
  z162 := Tryz.sizeOf186
  v162 := Tryz.zeroValue186
  t164 := Tryz.underlying130
  a164 := Tryz.isAgg130
  z164 := Tryz.sizeOf130
  v164 := Tryz.zeroValue130
  t203 := Tryz.underlying172
  a203 := Tryz.isAgg172
  z203 := Tryz.sizeOf172
  v203 := Tryz.zeroValue172
  t206 := Tryz.underlying195
  a206 := Tryz.isAgg195
  z206 := Tryz.sizeOf195
  v206 := Tryz.zeroValue195
  t208 := Tryz.underlying197
  a208 := Tryz.isAgg197
  z208 := Tryz.sizeOf197
  v208 := Tryz.zeroValue197
  g3 := by kernel_rfl
  g4 := by kernel_rfl
  g13 := by kernel_rfl }
theorem Tryz.Builder_Extra_159 : Builder.Extra Tryz.prog Tryz.lays159_ren := {
  sizeBuilder := by kernel_rfl
  liesBuilder := by kernel_rfl
  t5 := Tryz.underlying5
  a5 := Tryz.isAgg5
  z5 := Tryz.sizeOf5
  v5 := Tryz.zeroValue5
  infoByte := by kernel_rfl
  cellsByte := by kernel_rfl
  sizeByte := by kernel_rfl
  neB5 := by decide }
open Go.RowKit in
theorem Tryz.strings_ToLower_ascii (s : ByteArray) (w : World) (hs : s.size ≤ 140737488355328) (hascii : ∀ (j : Nat) (b : UInt8), s.data.toList[j]? = some b → b.toNat < 128) :
    Calls Tryz.prog 147 #[.string s] w fun e w' => e = .returned (.string ⟨(Lib.toLowerA s.data.toList).toArray⟩) ∧ Below w.heap.size w w' := Any.strings_ToLower_ascii Tryz.lays159 Tryz.Builder_Extra_159 s w hs hascii
open Go.RowKit in
theorem Tryz.strings_ToLower_any (s : ByteArray) (w : World) (hs : s.size < 35184372088832) (hV : CaseVar (Tryz.lays159_ren.g 13) caseA w) (hT : Lib.Utf8Tabs (Tryz.lays159_ren.g 3) (Tryz.lays159_ren.g 4) w) :
    Calls Tryz.prog 147 #[.string s] w fun e w' => e = .returned (.string ⟨(Lib.toLowerD s.data.toList).toArray⟩) ∧ Below w.heap.size w w' := Any.strings_ToLower_any Tryz.lays159 Tryz.Builder_Extra_159 s w hs hV hT
end Go.Proofs
namespace Go.Proofs.YtfocognhcljhpaaGreatDoor
set_option linter.unusedVariables false
set_option linter.unusedSimpArgs false
open Go.RowKit Go.Lib Go.Proofs.YtfocognhcljhpaaGreatDoorW.PrintWords Go.Proofs.YtfocognhcljhpaaGreatDoorW.PrintMore Go.Proofs.YtfocognhcljhpaaGreatDoor.PPrintRows Go.Proofs.YtfocognhcljhpaaGreatDoor.Tree
def hexU : Int → Bs → Option Int
  | n, [] => some n
  | n, c :: r => match hexv c with
    | none => none
    | some v => hexU (n * 16 + v) r
theorem hexU_4 (t : Bs) (h : t.length = 4) : hexU 0 t = (unitL t).map fun n : Nat => (n : Int) := by
  match t, h with
  | [a, b, c, d], _ =>
    simp only [hexU, unitL]
    cases hexv a with
    | none => rfl
    | some a => cases hexv b with
      | none => rfl
      | some b => cases hexv c with
        | none => rfl
        | some c => cases hexv d with
          | none => rfl
          | some d =>
            simp only [Option.map_some]
            congr 1
            omega
set_option maxRecDepth 100000 in
theorem low_hex (c : UInt8) (h : c.toNat < 128) : (hexv c = none ∧ hexI (lowerB c) < 0) ∨ ∃ v, hexv c = some v ∧ hexI (lowerB c) = (v : Int) := by
  have k : ∀ y : Fin 128, (hexv (UInt8.ofNat y.1) = none ∧ hexI (lowerB (UInt8.ofNat y.1)) < 0) ∨ (hexv (UInt8.ofNat y.1) = some (hexI (lowerB (UInt8.ofNat y.1))).toNat ∧ 0 ≤ hexI (lowerB (UInt8.ofNat y.1))) := by decide
  have k2 := k ⟨c.toNat, h⟩
  simp only [UInt8.ofNat_toNat] at k2
  rcases k2 with k2 | ⟨k2, k3⟩
  · exact .inl k2
  · exact .inr ⟨_, k2, by omega⟩
theorem hexv_high (c : UInt8) (h : 128 ≤ c.toNat) : hexv c = none := by
  unfold hexv
  rw [if_neg, if_neg, if_neg]
  all_goals
    intro ⟨a, b⟩
    have a := UInt8.le_iff_toNat_le.1 a
    have b := UInt8.le_iff_toNat_le.1 b
    simp at a b
    omega
theorem hexI_none (c : UInt8) (h : 103 ≤ c.toNat) : hexI c < 0 := by
  unfold hexI
  rw [if_neg (by omega), if_neg (by omega)]
  decide
/-- Every row above ASCII leads to no digit. -/
def rowHigh (x : CaseRow) : Bool := decide (x.2.1 < 128) || decide (128 ≤ x.1 ∧ (1114111 < x.2.2.2.1 ∨ (103 ≤ (x.1 : Int) + x.2.2.2.1)))
set_option maxRecDepth 1000000 in
theorem rowsHigh : caseT.all rowHigh = true := by decide
theorem caseA_high (i : Nat) (hi : i < caseA.size) : rowHigh (caseA.getD i (0, 0, 0, 0, 0)) = true := by
  have hm : caseA.getD i (0, 0, 0, 0, 0) ∈ caseT := by
    unfold caseA at hi ⊢
    simp only [List.size_toArray] at hi
    simp [Array.getD, hi]
  exact List.all_eq_true.1 rowsHigh _ hm
theorem lower_high (r : Int) (h : 128 ≤ r) : 103 ≤ toLowerU r := by
  unfold toLowerU
  rw [if_neg (by omega)]
  unfold toR lookupGo
  cases hi : lookupIdx caseA r (caseA.size + 1) 0 caseA.size with
  | none => simp only [Option.map_none]; omega
  | some i =>
    obtain ⟨hil, hlo, hhi⟩ := lookupIdx_some caseA r _ _ _ i hi
    have hr := caseA_high i hil
    simp only [Option.map_some]
    generalize caseA.getD i (0, 0, 0, 0, 0) = x at hr hlo hhi ⊢
    obtain ⟨lo, hi2, d0, d1, d2⟩ := x
    simp only [rowHigh, Bool.or_eq_true, decide_eq_true_eq] at hr
    dsimp only at hlo hhi hr
    unfold convertR
    show 103 ≤ if d1 > 1114111 then _ else _
    split
    · dsimp only; omega
    · show 103 ≤ r + d1
      omega
theorem enc_head (x : Int) (h : 103 ≤ x) : ∃ c r, encodeRune x = c :: r ∧ 103 ≤ c.toNat := by
  unfold encodeRune encodeRuneZ
  have key : ∀ z : Int, 103 ≤ z → z < 256 → 103 ≤ (z.toNat.toUInt8).toNat := by
    intro z h1 h2
    rw [show z.toNat.toUInt8.toNat = z.toNat % 256 by simp]
    omega
  split
  · exact ⟨_, _, rfl, key _ h (by omega)⟩
  · split
    · exact ⟨_, _, rfl, key _ (by omega) (by omega)⟩
    · split
      · exact ⟨_, _, rfl, key _ (by omega) (by omega)⟩
      · split
        · exact ⟨_, _, rfl, key _ (by omega) (by omega)⟩
        · exact ⟨_, _, rfl, by decide⟩
theorem decodeL_high (c : UInt8) (r : Bs) (h : 128 ≤ c.toNat) : 128 ≤ (decodeL (c :: r)).1 := by
  rw [decodeL_N]
  rcases decodeN_shape (c :: r).length ((c :: r).getD 0 0).toNat ((c :: r).getD 1 0).toNat ((c :: r).getD 2 0).toNat ((c :: r).getD 3 0).toNat with ⟨c1, e⟩ | ⟨c1, c2, c3, cv, e⟩ | ⟨c1, c2, c3, c4, cv, cs, e⟩ | ⟨c1, c2, c3, c4, c5, cv, cw, e⟩ | e
  · have : ((c :: r).getD 0 0).toNat = c.toNat := rfl
    omega
  · rw [e]; dsimp only; omega
  · rw [e]; dsimp only; omega
  · rw [e]; dsimp only; omega
  · rw [e]; decide
theorem low_go : ∀ (l : Bs) (n : Int), l.length ≤ 4 → 0 ≤ n → n * 16 ^ l.length < 65536 → hexF n (toLowerD l) ∧ hexL n (toLowerD l) = hexU n l
  | [], n, _, _, _ => ⟨trivial, rfl⟩
  | c :: r, n, hl, h0, hn => by
    have hr : r.length ≤ 3 := by simp at hl; omega
    unfold toLowerD
    rw [mapD_step toLowerU (c :: r) (by simp)]
    by_cases hc : c.toNat < 128
    · rw [decodeL_ascii c r hc]
      dsimp only
      have hb := lower_byte ⟨c.toNat, hc⟩
      simp only [UInt8.ofNat_toNat] at hb
      rw [if_pos (toLowerU_range c.toNat (by omega)).1, hb, List.drop_succ_cons, List.drop_zero, List.singleton_append, hexF, hexL, hexU]
      rcases low_hex c hc with ⟨h1, h2⟩ | ⟨v, h1, h2⟩
      · rw [h1, if_pos h2]
        exact ⟨.inl h2, rfl⟩
      · rw [h1, if_neg (by omega), h2]
        have hv : v < 16 := by have := (hexI_lt (lowerB c)).1; omega
        have hp : n * 16 ^ (c :: r).length = (n * 16) * 16 ^ r.length := by rw [List.length_cons, Int.pow_succ, Int.mul_comm (16 ^ r.length) 16, Int.mul_assoc]
        rw [hp] at hn
        have h4 : n < 4096 := by
          have h1 : (1 : Int) ≤ 16 ^ r.length := by
            have e : r.length = 0 ∨ r.length = 1 ∨ r.length = 2 ∨ r.length = 3 := by omega
            rcases e with e | e | e | e <;> rw [e] <;> decide
          have h2 : n * 16 * 1 ≤ n * 16 * 16 ^ r.length := Int.mul_le_mul_of_nonneg_left h1 (by omega)
          omega
        have ih := low_go r (n * 16 + v) (by omega) (by omega) (by
          have e : r.length = 0 ∨ r.length = 1 ∨ r.length = 2 ∨ r.length = 3 := by omega
          rcases e with e | e | e | e <;> rw [e] at hn ⊢ <;> simp at hn ⊢ <;> omega)
        unfold toLowerD at ih
        exact ⟨.inr ⟨h4, ih.1⟩, ih.2⟩
    · have h1 := decodeL_high c r (by omega)
      have h2 := lower_high ((decodeL (c :: r)).1 : Int) (by omega)
      obtain ⟨c', r', e, h3⟩ := enc_head _ h2
      have h4 := hexI_none c' h3
      rw [if_pos (by omega), e, List.cons_append, hexF, hexL, hexU, hexv_high c (by omega), if_pos h4]
      exact ⟨.inl h4, rfl⟩
theorem enc_len (x : Int) : (encodeRune x).length ≤ 4 := by
  unfold encodeRune encodeRuneZ
  rw [List.length_map]
  repeat' split
  all_goals simp
theorem mapGo_len (f : Int → Int) : ∀ (n : Nat) (l : Bs), (mapGoD f n l).length ≤ 4 * n
  | 0, _ => by simp [mapGoD]
  | n + 1, l => by
    unfold mapGoD
    split
    · simp
    · rw [List.length_append]
      have h1 := mapGo_len f n (l.drop (decodeL l).2)
      have h2 : (if 0 ≤ f (decodeL l).1 then encodeRune (f (decodeL l).1) else []).length ≤ 4 := by
        split
        · exact enc_len _
        · simp
      omega
/-- At worlds that have the tables of unicode. -/
structure Glob (w : World) : Prop where
  cs : CaseVar (Tryz.lays159_ren.g 13) caseA w
  tabs : Lib.Utf8Tabs (Tryz.lays159_ren.g 3) (Tryz.lays159_ren.g 4) w
theorem Glob.below {w w' : World} (h : Glob w) (hb : Below w.heap.size w w') : Glob w' := ⟨CaseVar_below h.cs hb, ⟨fun c hc => cellBelow hb (h.tabs.1 c hc), fun i hi => ⟨cellBelow hb (h.tabs.2 i hi).1, cellBelow hb (h.tabs.2 i hi).2⟩⟩⟩
theorem low_ok (t : ByteArray) (h : t.data.toList.length = 4) (w : World) (hg : Glob w) : LowOk t w := by
  have hs : t.size = 4 := by simpa using h
  refine (Tryz.strings_ToLower_any t w (by omega) hg.cs hg.tabs).mono ?_
  rintro e w' ⟨rfl, hb⟩
  obtain ⟨h1, h2⟩ := low_go t.data.toList 0 (by omega) (by omega) (by rw [h]; decide)
  refine ⟨_, rfl, hb, ?_, h1, h2.trans (hexU_4 _ h)⟩
  show (toLowerD t.data.toList).toArray.size ≤ 1000
  rw [List.size_toArray]
  have := mapGo_len toLowerU t.data.toList.length t.data.toList
  unfold toLowerD mapD
  omega
/-- At a world that has the tables, and later on, as long as they stand below p. -/
theorem low_at (s : ByteArray) (w : World) (hg : Glob w) : LowAt s w.heap.size w := fun w' hb a h => low_ok _ (by rw [ext_take, List.length_take, List.length_drop]; simp; omega) w' (hg.below hb)
/-- At ASCII texts no table is asked. -/
theorem low_ascii (s : ByteArray) (ha : ∀ b ∈ s.data.toList, b.toNat < 128) (w : World) : LowAt s w.heap.size w := fun w' hb a h => by
  have h4 : (s.extract a (a + 4)).data.toList.length = 4 := by rw [ext_take, List.length_take, List.length_drop]; simp; omega
  have ha4 : ∀ b ∈ (s.extract a (a + 4)).data.toList, b.toNat < 128 := fun b hb => ha b (by rw [ext_take] at hb; exact List.mem_of_mem_drop (List.mem_of_mem_take hb))
  generalize s.extract a (a + 4) = t at h4 ha4
  have hs : t.size = 4 := by simpa using h4
  refine (Tryz.strings_ToLower_ascii t w' (by omega) (fun j b h => ha4 b (List.mem_of_getElem? h))).mono ?_
  rintro e w2 ⟨rfl, hb⟩
  rw [← toLowerD_ascii _ ha4]
  obtain ⟨h1, h2⟩ := low_go t.data.toList 0 (by omega) (by omega) (by rw [h4]; decide)
  refine ⟨_, rfl, hb, ?_, h1, h2.trans (hexU_4 _ h4)⟩
  show (toLowerD t.data.toList).toArray.size ≤ 1000
  rw [List.size_toArray]
  have := mapGo_len toLowerU t.data.toList.length t.data.toList
  unfold toLowerD mapD
  omega
end Go.Proofs.YtfocognhcljhpaaGreatDoor
namespace Go.Proofs.YtfocognhcljhpaaGreatDoor
set_option linter.unusedVariables false
set_option linter.unusedSimpArgs false
open Go.RowKit Go.Proofs.YtfocognhcljhpaaGreatDoorW.PrintWords Go.Proofs.YtfocognhcljhpaaGreatDoorW.PrintMore Go.Proofs.YtfocognhcljhpaaGreatDoor.PPrintRows Go.Proofs.YtfocognhcljhpaaGreatDoor.Tree
/-- Are nodes gone through here? -/
def lightV (l : List Node) : Bool := l.all fun n => decide (l.length ≤ 300 ∧ n.f1.size ≤ 200 ∧ n.f2.size ≤ 200)
set_option maxRecDepth 100000 in
set_option maxHeartbeats 2000000 in
theorem light_any (A : Option Addr) (c : Nat) (l : List Node) (hl : l.length ≤ 9223372036854775807) (hc : l.length ≤ c) (w : World) (hr : Kd.C kN w A l.length l) :
    Calls Tryz.prog 12 #[.slice A l.length c] w fun e w' => e = .returned (.bool (lightV l)) ∧ Below w.heap.size w w' := by
  obtain ⟨res, hres⟩ : ∃ r, lightV l = r := ⟨_, rfl⟩
  rw [hres]
  have HRS := Lib.hid hres
  have HR := Lib.hid hr
  clear hres hr
  go_enter Tryz.func12, Tryz.ntmps12
  go_wp2_with fail
  go_loopw [7] (fun vi wr => ∃ (q : Nat), q ≤ l.length ∧ vi = .int .i64 (q : Int) ∧ ((l.take q).all fun n => decide (l.length ≤ 300 ∧ n.f1.size ≤ 200 ∧ n.f2.size ≤ 200)) = true ∧ Below w.heap.size w wr) (fun vi _ => l.length - (intOf vi).toNat)
  case atStart => exact ⟨0, Nat.zero_le _, rfl, rfl, Below.refl _ _⟩
  case round =>
    obtain ⟨q, hq, rfl, hA, hB⟩ := hrel
    have B := Lib.hid hB
    have HA := Lib.hid hA
    clear hA
    by_cases hlt : q < l.length
    · have k9 : decide ((q : Int) < (l.length : Int)) = true := decide_eq_true (by omega)
      have k10 : decide (q < l.length) = true := decide_eq_true hlt
      have HLT := Lib.hid hlt
      obtain ⟨ad, rfl, d0, d1, d2, d3, d4⟩ := node_at (Kd.C_below HR.out hB) q hlt
      have htk : l.take (q + 1) = l.take q ++ [l[q]] := List.take_succ_eq_append_getElem hlt
      have hmem : l[q] ∈ l := List.getElem_mem hlt
      generalize l[q] = x at d0 d1 d2 d3 d4 htk hmem
      have HTK := Lib.hid htk
      have HMEM := Lib.hid hmem
      clear htk hmem hB
      have hmx : ∀ ats ty, Builtin.max_ ats ty #[.int .i64 (x.f1.size : Int), .int .i64 (x.f2.size : Int)] = pure (.int .i64 ((max x.f1.size x.f2.size : Nat) : Int)) := fun ats ty => by
        rw [max_two, max2_int, pure_bind]
        congr 2
        split <;> omega
      have hno : ¬ (l.length ≤ 300 ∧ x.f1.size ≤ 200 ∧ x.f2.size ≤ 200) → false = res := fun h => by
        rw [← HRS.out]
        unfold lightV
        rw [eq_comm, List.all_eq_false]
        exact ⟨x, HMEM.out, by simpa using h⟩
      have HNO := Lib.hid hno
      clear hno
      by_cases h3 : 300 < l.length
      · have k1 : decide ((300 : Int) < (l.length : Int)) = true := decide_eq_true (by omega)
        have k2 : decide (300 < l.length) = true := decide_eq_true h3
        obtain rfl := HNO.out (by omega)
        clear h3
        go_wp2_with fail
        go_ret
        exact ⟨rfl, below_alloc B.out _⟩
      · have k1 : decide ((300 : Int) < (l.length : Int)) = false := decide_eq_false (by omega)
        have k2 : decide (300 < l.length) = false := decide_eq_false h3
        by_cases h2 : 200 < max x.f1.size x.f2.size
        · have k3 : decide ((200 : Int) < ((max x.f1.size x.f2.size : Nat) : Int)) = true := decide_eq_true (by omega)
          have k4 : decide (200 < max x.f1.size x.f2.size) = true := decide_eq_true h2
          obtain rfl := HNO.out (by omega)
          generalize max x.f1.size x.f2.size = mx at *
          clear h3 h2
          go_wp2_with fail
          go_ret
          exact ⟨rfl, below_alloc B.out _⟩
        · have k3 : decide ((200 : Int) < ((max x.f1.size x.f2.size : Nat) : Int)) = false := decide_eq_false (by omega)
          have k4 : decide (200 < max x.f1.size x.f2.size) = false := decide_eq_false h2
          have hn : ((l.take (q + 1)).all fun n => decide (l.length ≤ 300 ∧ n.f1.size ≤ 200 ∧ n.f2.size ≤ 200)) = true := by
            rw [HTK.out, List.all_append, HA.out, Bool.true_and]
            simp only [List.all_cons, List.all_nil, Bool.and_true, decide_eq_true_eq]
            omega
          have HN := Lib.hid hn
          generalize max x.f1.size x.f2.size = mx at *
          clear h3 h2 hn
          go_wp2_with fail
          go_roundw
          case rel => exact ⟨q + 1, HLT.out, by go_num, HN.out, below_alloc B.out _⟩
          case measure => have := HLT.out; simp [intOf]; omega
    · obtain rfl : q = l.length := by omega
      have k9 : decide ((l.length : Int) < (l.length : Int)) = false := decide_eq_false (by omega)
      have hr2 : true = res := by
        have := HA.out
        rw [List.take_of_length_le (Nat.le_refl _)] at this
        rw [← HRS.out]
        exact this.symm
      subst hr2
      clear hB
      go_wp2_with fail
      go_ret
      exact ⟨rfl, B.out⟩
theorem light_all {l : List Node} (h : lightV l = true) : l.length ≤ 300 ∧ ∀ n ∈ l, n.f1.size ≤ 200 ∧ n.f2.size ≤ 200 := by
  unfold lightV at h
  rw [List.all_eq_true] at h
  simp only [decide_eq_true_eq] at h
  refine ⟨?_, fun n hn => (h n hn).2⟩
  cases l with
  | nil => simp
  | cons a t => exact (h a (by simp)).1
end Go.Proofs.YtfocognhcljhpaaGreatDoor
namespace Go.Proofs.YtfocognhcljhpaaGreatDoor
set_option linter.unusedVariables false
open Go.RowKit Go.Proofs.YtfocognhcljhpaaGreatDoorW.PrintWords Go.Proofs.YtfocognhcljhpaaGreatDoorW.PrintMore Go.Proofs.YtfocognhcljhpaaGreatDoor.PPrintRows Go.Proofs.YtfocognhcljhpaaGreatDoor.Tree
def aw7 : ByteArray := ⟨#[91, 49, 44, 123, 34, 97, 34, 58, 110, 117, 108, 108, 125, 93]⟩
def aw7l : List Node := [⟨6, ⟨#[]⟩, ⟨#[]⟩, -1, 4⟩, ⟨4, ⟨#[]⟩, ⟨#[49]⟩, 0, 2⟩, ⟨7, ⟨#[]⟩, ⟨#[]⟩, 0, 4⟩, ⟨1, ⟨#[97]⟩, ⟨#[]⟩, 2, 4⟩]
set_option maxRecDepth 100000 in
theorem aw7_row : rowGo aw7 (aw7.size + 1) (some []) ⟨0, [], [], false, 0⟩ = some ⟨14, aw7l, [], false, 2⟩ := by kernel_rfl
set_option maxRecDepth 100000 in
theorem aw7_parse : parseS aw7 = (0, aw7l) := by kernel_rfl
set_option maxRecDepth 100000 in
theorem aw7_num : NumOk aw7 := by
  intro a ha
  have h14 : a ≤ 14 := ha
  have : a = 0 ∨ a = 1 ∨ a = 2 ∨ a = 3 ∨ a = 4 ∨ a = 5 ∨ a = 6 ∨ a = 7 ∨ a = 8 ∨ a = 9 ∨ a = 10 ∨ a = 11 ∨ a = 12 ∨ a = 13 ∨ a = 14 := by omega
  rcases this with rfl | rfl | rfl | rfl | rfl | rfl | rfl | rfl | rfl | rfl | rfl | rfl | rfl | rfl | rfl
  all_goals exact ⟨20, by kernel_rfl⟩
end Go.Proofs.YtfocognhcljhpaaGreatDoor
namespace Go.Proofs.YtfocognhcljhpaaGreatDoor
set_option linter.unusedVariables false
set_option linter.unusedSimpArgs false
open Go.RowKit Go.Proofs.YtfocognhcljhpaaGreatDoorW.PrintWords Go.Proofs.YtfocognhcljhpaaGreatDoorW.PrintMore Go.Proofs.YtfocognhcljhpaaGreatDoor.PPrintRows Go.Proofs.YtfocognhcljhpaaGreatDoor.Tree
theorem put_euro (w : World) : Calls Tryz.prog 133 #[.int .i32 8364] w fun e w' => e = .returned (.string ⟨#[226, 130, 172]⟩) ∧ Below w.heap.size w w' := PRef.utf_Put.calls 20 8364 _ w (by kernel_rfl)
theorem count_euro (w : World) : Calls Tryz.prog 134 #[.string ⟨#[226, 130, 172]⟩] w fun e w' => e = .returned (.int .i64 1) ∧ Below w.heap.size w w' := by
  refine (count_any ⟨#[226, 130, 172]⟩ (by decide) w).mono ?_
  rintro e w' ⟨rfl, hb⟩
  exact ⟨rfl, hb⟩
set_option maxRecDepth 100000 in
set_option maxHeartbeats 2000000 in
theorem awake04_in (w : World) : Calls Tryz.prog 115 #[] w fun e w' => e = .returned (.bool true) ∧ Below w.heap.size w w' := by
  go_enter Tryz.func115, Tryz.ntmps115
  go_wp2_with (first | (go_at_call 133; go_must (refine (put_euro _).mono ?_); rintro e w1 ⟨rfl, hd⟩; have B1 := Lib.hid hd; clear hd) | (go_at_call 134; go_must (refine (count_euro _).mono ?_); rintro e w2 ⟨rfl, hb⟩; have B2 := Lib.hid (below_step B1.out hb); clear hb))
  go_ret
  exact ⟨rfl, B2.out⟩
theorem awake04_any (w : World) : Calls Tryz.prog 97 #[] w fun e w' => e = .returned (.bool true) ∧ Below w.heap.size w w' := by
  go_enter Tryz.func97, Tryz.ntmps97
  go_wp2_with (go_at_call 115; go_must (refine (awake04_in _).mono ?_); rintro e w1 ⟨rfl, hb⟩)
  go_ret
  exact ⟨rfl, hb⟩
theorem aw7_any (w : World) : Calls Tryz.prog 24 #[.string aw7] w fun e w' => ∃ g c, e = .returned (.tuple #[.slice (some ⟨g, 0, none⟩) 4 c, .int .i64 0]) ∧ RowAt w' w.heap.size (.slice (some ⟨g, 0, none⟩) 4 c) aw7l ∧ Below w.heap.size w w' := by
  refine (parse_p aw7_num (by decide) (fun x hx => ?_) w (low_ascii aw7 (by decide) w)).mono ?_
  · obtain rfl : _ = x := by injection aw7_row.symm.trans hx
    refine ⟨by decide, fun n hn => ?_⟩
    simp only [aw7l, List.mem_cons, List.not_mem_nil, or_false] at hn
    rcases hn with rfl | rfl | rfl | rfl <;> exact ⟨by decide, by decide, by decide, by decide⟩
  · rintro e w' ⟨v, rfl, hr, hb⟩
    rw [aw7_parse] at hr ⊢
    obtain ⟨A, c, rfl, _⟩ := hr.slice
    obtain ⟨ad, rfl, _⟩ := node_at (hr.C (by decide)) 0 (by decide)
    obtain ⟨g, _, rfl, _⟩ := row_addr hr
    exact ⟨g, c, rfl, hr, hb⟩
theorem aw7_eq (w : World) : (Op.equalIn 10000 48 (.agg #[.int .i64 1, .string ⟨#[97]⟩, .string ⟨#[]⟩, .int .i64 2, .int .i64 4]) (.agg #[.int .i64 1, .string ⟨#[97]⟩, .string ⟨#[]⟩, .int .i64 2, .int .i64 4])).run Tryz.prog w = .ok true w := by kernel_rfl
set_option maxRecDepth 100000 in
set_option maxHeartbeats 2000000 in
theorem awake07_in (w : World) : Calls Tryz.prog 74 #[] w fun e w' => e = .returned (.bool true) ∧ Below w.heap.size w w' := by
  go_enter Tryz.func74, Tryz.ntmps74
  go_wp2_with (go_at_call 24; go_must (refine (aw7_any _).mono ?_))
  rintro e w1 ⟨g, c, rfl, hr, hb⟩
  have R1 := Lib.hid hr
  have B1 := Lib.hid hb
  clear hr hb
  go_wp2_with (go_at_call 97; go_must (refine (awake04_any _).mono ?_))
  rintro e w2 ⟨rfl, hb⟩
  have B2 := Lib.hid (below_step B1.out hb)
  have R2 := R1.out.keep (w1 := w2) (fun k hk => hb.block k (row_lt R1.out k hk))
  obtain ⟨_, e, d0, d1, d2, d3, d4⟩ := node_at (R2.C (by decide)) 3 (by decide)
  injection e with e
  subst e
  rw [Lib.add_plain] at d0 d1 d2 d3 d4
  have c0 : w2.cell? ⟨g, 15, none⟩ = some (.int .i64 1) := d0
  have c1 : w2.cell? ⟨g, 16, none⟩ = some (.string ⟨#[97]⟩) := d1
  have c2 : w2.cell? ⟨g, 17, none⟩ = some (.string ⟨#[]⟩) := d2
  have c3 : w2.cell? ⟨g, 18, none⟩ = some (.int .i64 2) := d3
  have c4 : w2.cell? ⟨g, 19, none⟩ = some (.int .i64 4) := d4
  have heq := aw7_eq
  clear hb R2 d0 d1 d2 d3 d4
  go_wp2_with fail
  go_ret
  exact ⟨rfl, B2.out⟩
theorem awake07_any (w : World) : Calls Tryz.prog 43 #[] w fun e w' => e = .returned (.bool true) ∧ Below w.heap.size w w' := by
  go_enter Tryz.func43, Tryz.ntmps43
  go_wp2_with (go_at_call 74; go_must (refine (awake07_in _).mono ?_); rintro e w1 ⟨rfl, hb⟩)
  go_ret
  exact ⟨rfl, hb⟩
end Go.Proofs.YtfocognhcljhpaaGreatDoor
namespace Go.Proofs.YtfocognhcljhpaaGreatDoor
set_option linter.unusedVariables false
set_option linter.unusedSimpArgs false
open Go.RowKit Go.Proofs.YtfocognhcljhpaaGreatDoorW.PrintWords Go.Proofs.YtfocognhcljhpaaGreatDoorW.PrintMore Go.Proofs.YtfocognhcljhpaaGreatDoor.PPrintRows Go.Proofs.YtfocognhcljhpaaGreatDoor.Tree
theorem numOk_any (s : ByteArray) (hs : s.size ≤ 1000000000000) : NumOk s := fun a ha => by
  have hsz : (s.extract a s.size).size ≤ s.size := by rw [ByteArray.size_extract]; omega
  refine ⟨s.size + 11, ?_⟩
  rw [json_num (s.extract a s.size) (by omega) (s.size + 11) (by omega), ext_list]
def aw8 : ByteArray := ⟨#[123, 32, 34, 98, 34, 32, 58, 32, 49, 44, 32, 34, 97, 34, 32, 58, 32, 50, 32, 125]⟩
def aw8t : Tr := .mk 7 ⟨#[]⟩ ⟨#[]⟩ [.mk 4 ⟨#[98]⟩ ⟨#[49]⟩ [], .mk 4 ⟨#[97]⟩ ⟨#[50]⟩ []]
set_option maxRecDepth 100000 in
theorem aw8_parse : parseS aw8 = (0, rowT aw8t) := by kernel_rfl
set_option maxRecDepth 100000 in
theorem aw8_row : (rowGo aw8 (aw8.size + 1) (some []) ⟨0, [], [], false, 0⟩).map (fun x => x.l) = some (rowT aw8t) := by kernel_rfl
def aw8s : Tr := .mk 7 ⟨#[]⟩ ⟨#[]⟩ [.mk 4 ⟨#[97]⟩ ⟨#[50]⟩ [], .mk 4 ⟨#[98]⟩ ⟨#[49]⟩ []]
theorem ordK_nil (k : Int) : ordK k [] = [] := List.length_eq_zero_iff.1 (ordK_perm k []).length_eq
theorem aw8_srt : srt aw8t = aw8s := by
  have e : ([.mk 4 ⟨#[97]⟩ ⟨#[50]⟩ [], .mk 4 ⟨#[98]⟩ ⟨#[49]⟩ []] : List Tr) = List.mergeSort [.mk 4 ⟨#[98]⟩ ⟨#[49]⟩ [], .mk 4 ⟨#[97]⟩ ⟨#[50]⟩ []] kle :=
    sorted_one (by decide) (.swap _ _ _) (by simp only [List.pairwise_cons, List.mem_cons, List.not_mem_nil, or_false, forall_eq, List.Pairwise.nil]; refine ⟨by kernel_rfl, ?_, trivial⟩; intro a h; exact h.elim)
  unfold aw8t aw8s
  rw [srt, srts, srts, srts, srt, srt, srts, ordK_nil, e]
  rfl
theorem aw8_ok (l : List Node) (h : l = rowT aw8t ∨ l = rowT aw8s) : ∀ n ∈ l, NodeOk l.length n := by
  have h1 : ∀ n ∈ rowT aw8t, n.f3 < 3 ∧ -1 ≤ n.f3 ∧ n.f1.size ≤ 1 ∧ n.f2.size ≤ 1 := by
    intro n hn
    have e : rowT aw8t = [⟨7, ⟨#[]⟩, ⟨#[]⟩, -1, 3⟩, ⟨4, ⟨#[98]⟩, ⟨#[49]⟩, 0, 2⟩, ⟨4, ⟨#[97]⟩, ⟨#[50]⟩, 0, 3⟩] := by kernel_rfl
    rw [e] at hn
    simp only [List.mem_cons, List.not_mem_nil, or_false] at hn
    rcases hn with rfl | rfl | rfl <;> exact ⟨by decide, by decide, by decide, by decide⟩
  have h2 : ∀ n ∈ rowT aw8s, n.f3 < 3 ∧ -1 ≤ n.f3 ∧ n.f1.size ≤ 1 ∧ n.f2.size ≤ 1 := by
    intro n hn
    have e : rowT aw8s = [⟨7, ⟨#[]⟩, ⟨#[]⟩, -1, 3⟩, ⟨4, ⟨#[97]⟩, ⟨#[50]⟩, 0, 2⟩, ⟨4, ⟨#[98]⟩, ⟨#[49]⟩, 0, 3⟩] := by kernel_rfl
    rw [e] at hn
    simp only [List.mem_cons, List.not_mem_nil, or_false] at hn
    rcases hn with rfl | rfl | rfl <;> exact ⟨by decide, by decide, by decide, by decide⟩
  intro n hn
  have hl : l.length = 3 := by rcases h with rfl | rfl <;> rfl
  have h3 : n.f3 < 3 ∧ -1 ≤ n.f3 ∧ n.f1.size ≤ 1 ∧ n.f2.size ≤ 1 := by
    rcases h with rfl | rfl
    · exact h1 n hn
    · exact h2 n hn
  rw [hl]
  exact ⟨by omega, by omega, by omega, by omega⟩
set_option maxRecDepth 100000 in
theorem aw8_chk1 (A : Option Addr) (c : Nat) (hc : (rowT aw8t).length ≤ c) : ChkIs A c (rowT aw8t) 0 := fun W hW =>
  check_any A c (rowT aw8t) true 1 W hW hc (by decide) (fun _ => aw8_ok _ (.inl rfl)) ⟨60, by kernel_rfl⟩ (fun _ => ⟨60, by kernel_rfl⟩)
set_option maxRecDepth 100000 in
theorem aw8_chk2 (A : Option Addr) (c : Nat) (hc : (rowT aw8s).length ≤ c) : ChkIs A c (rowT aw8s) 0 := fun W hW =>
  check_any A c (rowT aw8s) true 1 W hW hc (by decide) (fun _ => aw8_ok _ (.inr rfl)) ⟨60, by kernel_rfl⟩ (fun _ => ⟨60, by kernel_rfl⟩)
set_option maxRecDepth 100000 in
theorem aw8_any (w : World) : Calls Tryz.prog 22 #[.string aw8] w fun e w' => e = .returned (.tuple #[.string ⟨#[123, 34, 97, 34, 58, 50, 44, 34, 98, 34, 58, 49, 125]⟩, .int .i64 0]) ∧ Below w.heap.size w w' := by
  have hq : canonV aw8t = ⟨#[123, 34, 97, 34, 58, 50, 44, 34, 98, 34, 58, 49, 125]⟩ := by unfold canonV; rw [aw8_srt]; kernel_rfl
  rw [← hq]
  refine canon_ok aw8 aw8t (by kernel_rfl) (by rw [aw8_srt]; kernel_rfl) (by kernel_rfl) (by decide) (by kernel_rfl) w ?_ aw8_chk1 (by rw [aw8_srt]; exact aw8_chk2) (by rw [aw8_srt]; decide)
  rw [← aw8_parse]
  refine parse_p (numOk_any aw8 (by decide)) (by decide) (fun x hx => ?_) w (low_ascii aw8 (by decide) w)
  have h1 := aw8_row
  rw [hx] at h1
  have h2 : x.l = rowT aw8t := Option.some.inj h1
  rw [h2]
  exact ⟨by decide, aw8_ok _ (.inl rfl)⟩
set_option maxRecDepth 100000 in
set_option maxHeartbeats 2000000 in
theorem awake08_in (w : World) : Calls Tryz.prog 11 #[] w fun e w' => e = .returned (.bool true) ∧ Below w.heap.size w w' := by
  go_enter Tryz.func11, Tryz.ntmps11
  go_wp2_with (first | (go_at_call 22; go_must (refine (aw8_any _).mono ?_); rintro e w1 ⟨rfl, hb⟩; have B1 := Lib.hid hb; clear hb) | (go_at_call 43; go_must (refine (awake07_any _).mono ?_); rintro e w2 ⟨rfl, hb⟩; have B2 := Lib.hid (below_step B1.out hb); clear hb))
  go_ret
  exact ⟨rfl, B2.out⟩
end Go.Proofs.YtfocognhcljhpaaGreatDoor
namespace Go.Proofs.YtfocognhcljhpaaGreatDoor
set_option linter.unusedVariables false
set_option linter.unusedSimpArgs false
open Go.ChangeShapes Go.WideShapes Go.ChangeAt Go.RowKit Go.Lib
theorem glob_of {W : World} (h : laidMetH Tryz.prog laidL W) : Glob W := by
  rw [MakeChecks.laidMetH_plain _ _ _ (by kernel_rfl)] at h
  have hf : (Go.Pinned.utf8First : DataW Unit) = firstData := by kernel_rfl
  have hc : (Go.Pinned.caseRanges : DataW Unit) = caseData := by kernel_rfl
  have ha : (Rows.laid_unicode_utf8_acceptRanges : DataW Unit) = acceptData := by kernel_rfl
  have r1 := Lib.laidMet.reads h (n := "unicode/utf8.first") (d := firstData) (by rw [← hf]; unfold laidL Rows.nodeBackRow Rows.laid_unicode_utf8_first; simp)
  have r2 := Lib.laidMet.reads h (n := "unicode.CaseRanges") (d := caseData) (by rw [← hc]; unfold laidL Rows.nodeBackRow Rows.laid_unicode_CaseRanges; simp)
  have r3 := Lib.laidMet.reads h (n := "unicode/utf8.acceptRanges") (d := acceptData) (by rw [← ha]; unfold laidL Rows.nodeBackRow; simp)
  exact ⟨caseVar_of_reads { Tryz.lays159 with } Tryz.lays159.t206 ⟨by kernel_rfl, by kernel_rfl, by kernel_rfl, by kernel_rfl, by kernel_rfl, by kernel_rfl⟩ r2,
    utf8Tabs_of_reads { Tryz.lays159 with } ⟨by kernel_rfl, by kernel_rfl, by kernel_rfl, by kernel_rfl, by kernel_rfl, by kernel_rfl, by kernel_rfl⟩ r1 r3⟩
end Go.Proofs.YtfocognhcljhpaaGreatDoor
namespace Go.Proofs.YtfocognhcljhpaaGreatDoor
set_option linter.unusedVariables false
set_option linter.unusedSimpArgs false
open Go.RowKit Go.Proofs.YtfocognhcljhpaaGreatDoorW.PrintWords Go.Proofs.YtfocognhcljhpaaGreatDoorW.PrintMore Go.Proofs.YtfocognhcljhpaaGreatDoor.PPrintRows Go.Proofs.YtfocognhcljhpaaGreatDoor.Tree
/-! How a quoted text is read. -/
set_option maxRecDepth 100000 in
theorem esc_cases (c : UInt8) (h : c < 32) : (∃ d, escL c.toNat = [92, d] ∧ d ≠ 117 ∧ escS d = some c) ∨ (∃ a b, escL c.toNat = [92, 117, 48, 48, a, b] ∧ unitL [48, 48, a, b] = some c.toNat) := by
  have k : ∀ y : Fin 32, ((escL y.1).length = 2 ∧ escL y.1 = [92, (escL y.1).getD 1 0] ∧ (escL y.1).getD 1 0 ≠ 117 ∧ escS ((escL y.1).getD 1 0) = some (UInt8.ofNat y.1)) ∨ (escL y.1 = [92, 117, 48, 48, (escL y.1).getD 4 0, (escL y.1).getD 5 0] ∧ unitL [48, 48, (escL y.1).getD 4 0, (escL y.1).getD 5 0] = some y.1) := by decide
  have h2 : c.toNat < 32 := by simpa using UInt8.lt_iff_toNat_lt.1 h
  rcases k ⟨c.toNat, h2⟩ with ⟨_, k1, k2, k3⟩ | ⟨k1, k2⟩
  · exact .inl ⟨_, k1, k2, by simpa using k3⟩
  · exact .inr ⟨_, _, k1, k2⟩
theorem unitL_4 (a b c d : UInt8) (r : Bs) : unitL (a :: b :: c :: d :: r) = unitL [a, b, c, d] := rfl
theorem putL_1 (n : Nat) (h : n < 32) : putL n = [UInt8.ofNat n] := by
  unfold putL Utf.putI
  rw [if_pos (by omega), if_pos (by omega)]
  rfl
theorem quote_txt : ∀ (s r : Bs) (n : Nat), s.length ≤ n → txtD (n + 1) (s.flatMap qc ++ 34 :: r) = some (s, (s.flatMap qc).length + 1, false)
  | [], r, n, _ => by rw [List.flatMap_nil, List.nil_append, txtD_end]; rfl
  | c :: s, r, n, h => by
    obtain ⟨m, rfl⟩ : ∃ m, n = m + 1 := ⟨n - 1, by simp at h; omega⟩
    have ih := quote_txt s r m (by simp at h; omega)
    rw [List.flatMap_cons, List.append_assoc]
    by_cases h1 : c = 34 ∨ c = 92
    · have e : qc c = [92, c] := by unfold qc; rw [if_pos h1]
      rw [e]
      show txtD (m + 1 + 1) (92 :: c :: (s.flatMap qc ++ 34 :: r)) = _
      rw [txtD_s _ _ _ (by rcases h1 with rfl | rfl <;> decide), show escS c = some c by rcases h1 with rfl | rfl <;> rfl]
      show thenT [c] 2 false (txtD (m + 1) _) = _
      rw [ih]
      show some ([c] ++ s, 2 + ((s.flatMap qc).length + 1), false || false) = _
      simp only [List.length_append, List.length_cons, List.length_nil, List.singleton_append, Bool.or_self]
      congr 3
      try omega
    · by_cases h2 : c < 32
      · have e : qc c = escL c.toNat := by unfold qc; rw [if_neg h1, if_pos h2]
        have hc : c.toNat < 32 := by simpa using UInt8.lt_iff_toNat_lt.1 h2
        rcases esc_cases c h2 with ⟨d, e2, hd, hs⟩ | ⟨a, b, e2, hu⟩
        · rw [e, e2]
          show txtD (m + 1 + 1) (92 :: d :: (s.flatMap qc ++ 34 :: r)) = _
          rw [txtD_s _ _ _ hd, hs]
          show thenT [c] 2 false (txtD (m + 1) _) = _
          rw [ih]
          show some ([c] ++ s, 2 + ((s.flatMap qc).length + 1), false || false) = _
          simp only [List.length_append, List.length_cons, List.length_nil, List.singleton_append, Bool.or_self]
          congr 3
          try omega
        · rw [e, e2]
          show txtD (m + 1 + 1) (92 :: 117 :: 48 :: 48 :: a :: b :: (s.flatMap qc ++ 34 :: r)) = _
          rw [txtD_u, escD_eq, unitL_4, hu]
          have h0 : surL c.toNat = 0 := by unfold surL; rw [if_neg (by omega), if_neg (by omega)]
          dsimp only
          rw [if_pos h0, putL_1 _ hc]
          show thenT [UInt8.ofNat c.toNat] (4 + 2) false (txtD (m + 1) (s.flatMap qc ++ 34 :: r)) = _
          rw [ih]
          show some ([UInt8.ofNat c.toNat] ++ s, 4 + 2 + ((s.flatMap qc).length + 1), false || false) = _
          simp only [List.length_append, List.length_cons, List.length_nil, List.singleton_append, Bool.or_self, UInt8.ofNat_toNat]
          congr 3
          try omega
      · have e : qc c = [c] := by unfold qc; rw [if_neg h1, if_neg h2]
        rw [e]
        show txtD (m + 1 + 1) (c :: (s.flatMap qc ++ 34 :: r)) = _
        rw [txtD_plain _ _ (fun h => h1 (.inl h)) h2 (fun h => h1 (.inr h)), ih]
        show some ([c] ++ s, 1 + ((s.flatMap qc).length + 1), false || false) = _
        simp only [List.length_append, List.length_cons, List.length_nil, List.singleton_append, Bool.or_self]
        congr 3
        try omega
theorem qc_len2 (c : UInt8) : 1 ≤ (qc c).length ∧ (qc c).length ≤ 6 := by
  unfold qc
  split
  · simp
  · split
    · unfold escL
      repeat' split
      all_goals simp
    · simp
theorem flat_qc_len2 : ∀ s : Bs, s.length ≤ (s.flatMap qc).length ∧ (s.flatMap qc).length ≤ 6 * s.length
  | [] => by simp
  | c :: s => by
    have h1 := flat_qc_len2 s
    have h2 := qc_len2 c
    rw [List.flatMap_cons, List.length_append, List.length_cons]
    omega
/-- A quoted text, wherever it stands, is read as it was. -/
theorem text_quote {s : ByteArray} {a : Nat} (t r : Bs) (h : s.data.toList.drop a = quoteL t ++ r) : textP s a = some (t, (quoteL t).length, false) := by
  unfold textP
  rw [h]
  show (if (34 : UInt8) = 34 then _ else _) = _
  rw [if_pos rfl]
  have hq := flat_qc_len2 t
  have e : t.flatMap qc ++ [34] ++ r = t.flatMap qc ++ 34 :: r := by simp
  show thenT [] 1 false (txtD ((t.flatMap qc ++ [34] ++ r).length + 1) (t.flatMap qc ++ [34] ++ r)) = _
  rw [e, quote_txt t r _ (by rw [List.length_append]; omega)]
  show some ([] ++ t, 1 + ((t.flatMap qc).length + 1), false || false) = _
  unfold quoteL
  simp
  omega
/-! How valid it is. -/
def vld : Nat → List Int → Bool
  | 0, l => l.isEmpty
  | f + 1, l => match Utf.firstI l with
    | none => l.isEmpty
    | some p => vld f (l.drop p.2)
theorem first_le (l : List Int) (p : Int × Nat) (h : Utf.firstI l = some p) : 1 ≤ p.2 ∧ p.2 ≤ 4 ∧ p.2 ≤ l.length ∧ (∀ r, Utf.firstI (l.take p.2 ++ r) = some p) ∧ (p.2 = 1 ∨ ∀ x ∈ l.take p.2, 128 ≤ x) := by
  unfold Utf.firstI at h
  match l, h with
  | [], h => cases h
  | a :: t, h =>
    dsimp only at h
    by_cases h1 : a < 128
    · rw [if_pos h1] at h
      cases h
      refine ⟨by simp, by simp, by simp, fun r => ?_, .inl rfl⟩
      show Utf.firstI (a :: r) = _
      unfold Utf.firstI
      dsimp only
      rw [if_pos h1]
    · rw [if_neg h1] at h
      by_cases h2 : 192 ≤ a ∧ a < 224
      · rw [if_pos h2] at h
        match t, h with
        | [], h => cases h
        | b :: t, h =>
          dsimp only at h
          split at h
          · rename_i h3
            cases h
            refine ⟨by simp, by simp, by simp, fun r => ?_, .inr fun x hx => ?_⟩
            · show Utf.firstI (a :: b :: r) = _
              unfold Utf.firstI
              dsimp only
              rw [if_neg h1, if_pos h2, if_pos h3]
            · simp at hx
              omega
          · cases h
      · rw [if_neg h2] at h
        by_cases h3 : 224 ≤ a ∧ a < 240
        · rw [if_pos h3] at h
          match t, h with
          | [], h => cases h
          | [_], h => cases h
          | b :: c :: t, h =>
            dsimp only at h
            split at h
            · rename_i h4
              cases h
              refine ⟨by simp, by simp, by simp, fun r => ?_, .inr fun x hx => ?_⟩
              · show Utf.firstI (a :: b :: c :: r) = _
                unfold Utf.firstI
                dsimp only
                rw [if_neg h1, if_neg h2, if_pos h3, if_pos h4]
              · simp at hx
                omega
            · cases h
        · rw [if_neg h3] at h
          by_cases h4 : 240 ≤ a ∧ a < 248
          · rw [if_pos h4] at h
            match t, h with
            | [], h => cases h
            | [_], h => cases h
            | [_, _], h => cases h
            | b :: c :: d :: t, h =>
              dsimp only at h
              split at h
              · rename_i h5
                cases h
                refine ⟨by simp, by simp, by simp, fun r => ?_, .inr fun x hx => ?_⟩
                · show Utf.firstI (a :: b :: c :: d :: r) = _
                  unfold Utf.firstI
                  dsimp only
                  rw [if_neg h1, if_neg h2, if_neg h3, if_pos h4, if_pos h5]
                · simp at hx
                  omega
              · cases h
          · rw [if_neg h4] at h
            cases h
theorem vld_more : ∀ (f g : Nat) (l : List Int), l.length ≤ f → l.length ≤ g → vld f l = vld g l
  | 0, 0, _, _, _ => rfl
  | 0, g + 1, l, h, _ => by
    have : l = [] := List.length_eq_zero_iff.1 (by omega)
    subst this
    rfl
  | f + 1, 0, l, _, h => by
    have : l = [] := List.length_eq_zero_iff.1 (by omega)
    subst this
    rfl
  | f + 1, g + 1, l, h1, h2 => by
    unfold vld
    cases h : Utf.firstI l with
    | none => rfl
    | some p =>
      obtain ⟨k1, _, k2, _⟩ := first_le l p h
      exact vld_more f g _ (by rw [List.length_drop]; omega) (by rw [List.length_drop]; omega)
theorem end_vld : ∀ (f a : Nat) (l : List Int), l.length ≤ f → decide (endI f a l = a + l.length) = vld f l ∧ endI f a l ≤ a + l.length
  | 0, a, l, h => by
    have : l = [] := List.length_eq_zero_iff.1 (by omega)
    subst this
    exact ⟨by simp [endI, vld], by simp [endI]⟩
  | f + 1, a, l, h => by
    unfold endI vld
    cases hf : Utf.firstI l with
    | none =>
      refine ⟨?_, by simp⟩
      cases l with
      | nil => simp
      | cons x t => simp
    | some p =>
      obtain ⟨k1, _, k2, _⟩ := first_le l p hf
      obtain ⟨i1, i2⟩ := end_vld f (a + p.2) (l.drop p.2) (by rw [List.length_drop]; omega)
      rw [List.length_drop, show a + p.2 + (l.length - p.2) = a + l.length by omega] at i1 i2
      exact ⟨i1, i2⟩
theorem valid_vld (l : Bs) (f : Nat) (h : l.length ≤ f) : validL l = vld f (ints l) := by
  have hl : (ints l).length = l.length := by simp [ints]
  have h1 := (end_vld l.length 0 (ints l) (by omega)).1
  rw [hl, Nat.zero_add] at h1
  unfold validL
  rw [h1]
  exact vld_more _ _ _ (by omega) (by omega)
theorem ints_app (a b : Bs) : ints (a ++ b) = ints a ++ ints b := by simp [ints]
theorem vld_app : ∀ (f : Nat) (a b : List Int), (a ++ b).length ≤ f → vld f a = true → vld f (a ++ b) = vld f b
  | 0, a, b, h, _ => by
    have h1 : a = [] := List.length_eq_zero_iff.1 (by rw [List.length_append] at h; omega)
    subst h1
    rfl
  | f + 1, a, b, h, hv => by
    by_cases ha : a = []
    · subst ha; rfl
    · unfold vld at hv
      cases hf : Utf.firstI a with
      | none => rw [hf] at hv; cases a with
        | nil => exact absurd rfl ha
        | cons x t => cases hv
      | some p =>
        rw [hf] at hv
        dsimp only at hv
        obtain ⟨k1, _, k2, k3, _⟩ := first_le a p hf
        have e : a ++ b = a.take p.2 ++ (a.drop p.2 ++ b) := by rw [← List.append_assoc, List.take_append_drop]
        have h3 : vld (f + 1) (a ++ b) = vld f (a.drop p.2 ++ b) := by
          rw [vld, e, k3]
          show vld f ((a.take p.2 ++ (a.drop p.2 ++ b)).drop p.2) = _
          rw [List.drop_left' (by rw [List.length_take]; omega)]
        rw [List.length_append] at h
        rw [h3, vld_app f (a.drop p.2) b (by rw [List.length_append, List.length_drop]; omega) hv]
        exact vld_more _ _ _ (by omega) (by omega)
/-- A text behind a valid one. -/
theorem valid_app (a b : Bs) (h : validL a = true) : validL (a ++ b) = validL b := by
  rw [valid_vld a (a ++ b).length (by simp)] at h
  rw [valid_vld (a ++ b) _ (Nat.le_refl _), valid_vld b (a ++ b).length (by simp), ints_app]
  exact vld_app _ _ _ (by simp [ints]) h
theorem valid_nil : validL [] = true := by kernel_rfl
theorem valid_one (c : UInt8) (h : c.toNat < 128) : validL [c] = true := by
  rw [valid_vld [c] 1 (Nat.le_refl _)]
  have e : Utf.firstI (ints [c]) = some ((c.toNat : Int), 1) := by
    show Utf.firstI [(c.toNat : Int)] = _
    unfold Utf.firstI
    dsimp only
    rw [if_pos (by omega)]
  rw [vld, e]
  simp [ints, vld]
theorem valid_ascii : ∀ l : Bs, (∀ c ∈ l, c.toNat < 128) → validL l = true
  | [], _ => valid_nil
  | c :: l, h => by
    have := valid_app [c] l (valid_one c (h c (by simp)))
    rw [List.singleton_append] at this
    rw [this]
    exact valid_ascii l (fun x hx => h x (by simp [hx]))
theorem qc_high (c : UInt8) (h : 128 ≤ c.toNat) : qc c = [c] := by
  unfold qc
  rw [if_neg, if_neg]
  · intro h2
    have h2 := UInt8.lt_iff_toNat_lt.1 h2
    simp at h2
    omega
  · rintro (rfl | rfl) <;> simp at h
set_option maxRecDepth 100000 in
theorem qc_low (c : UInt8) (h : c.toNat < 128) : (∀ x ∈ qc c, x.toNat < 128) ∧ qc c ≠ [] := by
  have k : ∀ y : Fin 128, ((qc (UInt8.ofNat y.1)).all fun x => decide (x.toNat < 128)) = true ∧ qc (UInt8.ofNat y.1) ≠ [] := by decide
  have := k ⟨c.toNat, h⟩
  simp only [UInt8.ofNat_toNat] at this
  exact ⟨fun x hx => of_decide_eq_true (List.all_eq_true.1 this.1 x hx), this.2⟩
/-- High bytes are copied. -/
theorem flat_high : ∀ (m : Nat) (r : Bs), (∀ x ∈ (r.flatMap qc ++ [34]).take m, 128 ≤ x.toNat) → m ≤ (r.flatMap qc ++ [34]).length → (r.flatMap qc ++ [34]).take m = r.take m ∧ m ≤ r.length
  | 0, r, _, _ => by simp
  | m + 1, [], h, _ => by
    have := h 34 (by simp)
    simp at this
  | m + 1, c :: r, h, hm => by
    rw [List.flatMap_cons, List.append_assoc] at h hm ⊢
    by_cases hc : c.toNat < 128
    · obtain ⟨h1, h2⟩ := qc_low c hc
      cases hq : qc c with
      | nil => exact absurd hq h2
      | cons y q =>
        rw [hq] at h h1
        have := h y (by simp)
        have := h1 y (by simp)
        omega
    · rw [qc_high c (by omega)] at h hm ⊢
      rw [List.singleton_append, List.take_succ_cons] at h ⊢
      obtain ⟨i1, i2⟩ := flat_high m r (fun x hx => h x (List.mem_cons_of_mem _ hx)) (by simp at hm ⊢; omega)
      exact ⟨by rw [i1, List.take_succ_cons], by simp; omega⟩
theorem high_flat : ∀ (m : Nat) (r : Bs), (∀ x ∈ r.take m, 128 ≤ x.toNat) → m ≤ r.length → r.flatMap qc = r.take m ++ (r.drop m).flatMap qc
  | 0, r, _, _ => by simp
  | m + 1, [], _, h => by simp at h
  | m + 1, c :: r, h, hm => by
    have hc := h c (by simp)
    rw [List.flatMap_cons, qc_high c hc, List.take_succ_cons, List.drop_succ_cons, List.singleton_append, List.cons_append, ← high_flat m r (fun x hx => h x (by simp [hx])) (by simp at hm; omega)]
theorem ints_take (l : Bs) (k : Nat) : ints (l.take k) = (ints l).take k := by simp [ints]
theorem high_ints {l : Bs} (h : ∀ x ∈ ints l, 128 ≤ x) : ∀ c ∈ l, 128 ≤ c.toNat := fun c hc => by
  have := h (c.toNat : Int) (List.mem_map_of_mem hc)
  omega
theorem vld_false {f : Nat} {l : List Int} (hne : l ≠ []) (h : Utf.firstI l = none) : vld f l = false := by
  cases l with
  | nil => exact absurd rfl hne
  | cons x t => cases f with
    | zero => rfl
    | succ f => rw [vld, h]; rfl
theorem flat_valid : ∀ (n : Nat) (s : Bs), s.length ≤ n → validL (s.flatMap qc ++ [34]) = validL s
  | 0, s, h => by
    have : s = [] := List.length_eq_zero_iff.1 (by omega)
    subst this
    exact (valid_one 34 (by decide)).trans valid_nil.symm
  | n + 1, [], _ => (valid_one 34 (by decide)).trans valid_nil.symm
  | n + 1, c :: r, h => by
    have hr : r.length ≤ n := by simp at h; omega
    by_cases hc : c.toNat < 128
    · obtain ⟨h1, _⟩ := qc_low c hc
      rw [List.flatMap_cons, List.append_assoc, valid_app _ _ (valid_ascii _ h1), flat_valid n r hr]
      have := valid_app [c] r (valid_ascii _ (by simpa using hc))
      rw [List.singleton_append] at this
      exact this.symm
    · have e1 : (c :: r).flatMap qc ++ [34] = c :: (r.flatMap qc ++ [34]) := by rw [List.flatMap_cons, qc_high c (by omega)]; rfl
      cases hf : Utf.firstI (ints (c :: r)) with
      | some p =>
        obtain ⟨k1, k2, k3, k4, k5⟩ := first_le _ p hf
        have k3 : p.2 ≤ (c :: r).length := by simpa [ints] using k3
        have hh : ∀ x ∈ (c :: r).take p.2, 128 ≤ x.toNat := by
          rcases k5 with k5 | k5
          · rw [k5]
            intro x hx
            simp at hx
            subst hx
            omega
          · rw [← ints_take] at k5
            exact high_ints k5
        have hv : validL ((c :: r).take p.2) = true := by
          rw [valid_vld _ _ (Nat.le_refl _), ints_take]
          have hl : ((c :: r).take p.2).length = p.2 := by rw [List.length_take]; omega
          obtain ⟨q, hq⟩ : ∃ q, p.2 = q + 1 := ⟨p.2 - 1, by omega⟩
          have h4 := k4 []
          rw [List.append_nil] at h4
          rw [hl, hq, vld, ← hq, h4]
          dsimp only
          rw [List.drop_take, Nat.sub_self, List.take_zero]
          cases q <;> rfl
        have e2 : (c :: r) = (c :: r).take p.2 ++ (c :: r).drop p.2 := (List.take_append_drop _ _).symm
        rw [high_flat p.2 (c :: r) hh k3, List.append_assoc, valid_app _ _ hv, flat_valid n ((c :: r).drop p.2) (by rw [List.length_drop]; simp; omega)]
        conv => rhs; rw [e2]
        rw [valid_app _ _ hv]
      | none =>
        have h1 : validL (c :: r) = false := by rw [valid_vld _ _ (Nat.le_refl _)]; exact vld_false (by simp [ints]) hf
        rw [h1, e1, valid_vld _ _ (Nat.le_refl _)]
        apply vld_false (by simp [ints])
        cases hg : Utf.firstI (ints (c :: (r.flatMap qc ++ [34]))) with
        | none => rfl
        | some p =>
          obtain ⟨k1, k2, k3, k4, k5⟩ := first_le _ p hg
          obtain ⟨q, hq⟩ : ∃ q, p.2 = q + 1 := ⟨p.2 - 1, by omega⟩
          have k3 : q ≤ (r.flatMap qc ++ [34]).length := by rw [hq] at k3; unfold ints at k3; rw [List.length_map, List.length_cons] at k3; omega
          have hh : ∀ x ∈ (r.flatMap qc ++ [34]).take q, 128 ≤ x.toNat := by
            rcases k5 with k5 | k5
            · have : q = 0 := by omega
              subst this
              intro x hx
              simp at hx
            · rw [← ints_take, hq, List.take_succ_cons] at k5
              exact fun x hx => high_ints k5 x (by simp [hx])
          obtain ⟨i1, i2⟩ := flat_high q r hh k3
          have h4 := k4 (ints (r.drop q))
          rw [← ints_take, hq, List.take_succ_cons, i1, ← ints_app, List.cons_append, List.take_append_drop, hf] at h4
          cases h4
theorem quote_valid (s : Bs) : validL (quoteL s) = validL s := by
  have h1 := valid_app [34] (s.flatMap qc ++ [34]) (valid_one 34 (by decide))
  rw [List.singleton_append] at h1
  unfold quoteL
  rw [h1, flat_valid s.length s (Nat.le_refl _)]
end Go.Proofs.YtfocognhcljhpaaGreatDoor
