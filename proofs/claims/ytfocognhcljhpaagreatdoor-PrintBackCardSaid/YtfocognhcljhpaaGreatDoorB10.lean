/- Texts taken together, trimmed. -/
import Derived.Test.YtfocognhcljhpaaGreatDoorB8
import Derived.Test.YtfocognhcljhpaaGreatDoorB9
import Derived.MapKept
namespace Go.Proofs.YtfocognhcljhpaaGreatDoor
set_option linter.unusedVariables false
set_option linter.unusedSimpArgs false
open Go.RowKit Go.Shelf Go.Proofs.YtfocognhcljhpaaGreatDoorW.PrintWords Go.Proofs.YtfocognhcljhpaaGreatDoorW.PrintMore Go.Proofs.YtfocognhcljhpaaGreatDoor.PPrintRows Go.Proofs.YtfocognhcljhpaaGreatDoor.Tree
/-- What stands behind a value: nothing, a comma, a closing sign. -/
def Sep (r : Bs) : Prop := r = [] ∨ ∃ c r', r = c :: r' ∧ (c = 44 ∨ c = 93 ∨ c = 125)
theorem sep_comma (r : Bs) : Sep (44 :: r) := .inr ⟨44, r, rfl, .inl rfl⟩
theorem sep_cls (k : Int) (r : Bs) : Sep (cls k ++ r) := by
  unfold cls
  split
  · exact .inr ⟨125, r, rfl, .inr (.inr rfl)⟩
  · exact .inr ⟨93, r, rfl, .inr (.inl rfl)⟩
theorem run_app : ∀ (u r : Bs), Sep r → runL (u ++ r) = runL u
  | [], r, h => by
    rcases h with rfl | ⟨c, r', rfl, h⟩
    · rfl
    · show runL (c :: r') = 0
      rw [runL.eq_2, if_neg]
      rcases h with rfl | rfl | rfl <;> decide
  | c :: u, r, h => by
    rw [List.cons_append, runL, runL, run_app u r h]
theorem at_app (t r : Bs) (hr : Sep r) (i : Nat) (hi : i ≤ t.length) (c : UInt8) (hc : c ≠ 44 ∧ c ≠ 93 ∧ c ≠ 125) : ((t ++ r)[i]? = some c) = (t[i]? = some c) := by
  rcases Nat.lt_or_ge i t.length with h | h
  · rw [List.getElem?_append_left h]
  · have : i = t.length := by omega
    subst this
    rw [List.getElem?_append_right (Nat.le_refl _), Nat.sub_self, List.getElem?_eq_none (Nat.le_refl t.length)]
    rcases hr with rfl | ⟨d, r', rfl, hd⟩
    · rfl
    · apply propext
      constructor
      · intro h
        have h : d = c := by simpa using h
        subst h
        rcases hd with h | h | h
        · exact absurd h hc.1
        · exact absurd h hc.2.1
        · exact absurd h hc.2.2
      · intro h; cases h
theorem drop_app (t r : Bs) (i : Nat) (hi : i ≤ t.length) : (t ++ r).drop i = t.drop i ++ r := List.drop_append_of_le_length hi
theorem frac_app (t r : Bs) (hr : Sep r) (a : Nat) (ha : a ≤ t.length) : fracL (t ++ r) a = fracL t a := by
  unfold fracL
  simp only [at_app t r hr a ha 46 (by decide)]
  split
  · rename_i h
    have hl : a < t.length := (List.getElem?_eq_some_iff.1 h).1
    rw [drop_app t r (a + 1) hl, run_app _ r hr]
  · rfl
theorem expAt_app (t r : Bs) (hr : Sep r) (a : Nat) (ha : a ≤ t.length) : expAt (t ++ r) a = expAt t a := by
  unfold expAt
  simp only [at_app t r hr a ha 43 (by decide), at_app t r hr a ha 45 (by decide)]
theorem expAt_le (t : Bs) (a : Nat) (ha : a ≤ t.length) : expAt t a ≤ t.length := by
  unfold expAt
  split
  · rename_i h
    rcases h with h | h <;> have := (List.getElem?_eq_some_iff.1 h).1 <;> omega
  · exact ha
theorem exp_app (t r : Bs) (hr : Sep r) (a : Nat) (ha : a ≤ t.length) : expL (t ++ r) a = expL t a := by
  unfold expL
  simp only [at_app t r hr a ha 101 (by decide), at_app t r hr a ha 69 (by decide)]
  by_cases h : t[a]? = some 101 ∨ t[a]? = some 69
  · rw [if_pos h, if_pos h]
    have hl : a < t.length := by rcases h with h | h <;> exact (List.getElem?_eq_some_iff.1 h).1
    rw [expAt_app t r hr (a + 1) hl, drop_app t r _ (expAt_le t (a + 1) hl), run_app _ r hr]
  · rw [if_neg h, if_neg h]
theorem run_drop_le (t : Bs) (i : Nat) (hi : i ≤ t.length) : i + runL (t.drop i) ≤ t.length := by
  have := runL_le (t.drop i)
  rw [List.length_drop] at this
  omega
theorem frac_le (t : Bs) (a : Nat) (ha : a ≤ t.length) : fracL t a ≤ t.length := by
  unfold fracL
  split
  · rename_i h
    have hl : a < t.length := (List.getElem?_eq_some_iff.1 h).1
    split
    · exact Nat.zero_le _
    · exact run_drop_le t (a + 1) hl
  · exact ha
theorem sign_le (t : Bs) : signL t ≤ t.length := by
  unfold signL
  split
  · rename_i h
    exact (List.getElem?_eq_some_iff.1 h).1
  · exact Nat.zero_le _
/-- A number in front of what may stand behind a value. -/
theorem num_app (t r : Bs) (hr : Sep r) : numL (t ++ r) = numL t := by
  have hs : signL (t ++ r) = signL t := by unfold signL; simp only [at_app t r hr 0 (Nat.zero_le _) 45 (by decide)]
  have h1 := sign_le t
  have h2 := run_drop_le t (signL t) h1
  unfold numL
  rw [hs, drop_app t r _ h1, run_app _ r hr]
  simp only [at_app t r hr _ h1 48 (by decide)]
  rw [frac_app t r hr _ h2, exp_app t r hr _ (frac_le t _ h2)]
/-- What a number begins with. -/
theorem num_head {t : Bs} (h : numL t ≠ 0) : ∃ c r, t = c :: r ∧ (c = 45 ∨ (48 ≤ c ∧ c ≤ 57)) := by
  match t with
  | [] => exact absurd rfl h
  | c :: r =>
    refine ⟨c, r, rfl, ?_⟩
    unfold numL at h
    by_cases h1 : runL ((c :: r).drop (signL (c :: r))) = 0 ∨ (1 < runL ((c :: r).drop (signL (c :: r))) ∧ (c :: r)[signL (c :: r)]? = some 48)
    · rw [if_pos h1] at h; exact absurd rfl h
    · have h2 : ¬ runL ((c :: r).drop (signL (c :: r))) = 0 := fun e => h1 (.inl e)
      unfold signL at h2
      by_cases h3 : (c :: r)[0]? = some 45
      · exact .inl (by simpa using h3)
      · rw [if_neg h3, List.drop_zero, runL] at h2
        by_cases h4 : 48 ≤ c ∧ c ≤ 57
        · exact .inr h4
        · rw [if_neg h4] at h2; exact absurd rfl h2
/-! The signs at a place. -/
section
variable {s : ByteArray}
theorem drop_more {a : Nat} {u r : Bs} (h : s.data.toList.drop a = u ++ r) : s.data.toList.drop (a + u.length) = r := by
  rw [← List.drop_drop, h, List.drop_left]
theorem space_at {a : Nat} {c : UInt8} {r : Bs} (h : s.data.toList.drop a = c :: r) (hc : isBlank c = false) : spaceP s a = a := by
  unfold spaceP
  rw [h, blanksL, if_neg (by rw [hc]; decide)]
  rfl
theorem take_at {a : Nat} {c : UInt8} {r : Bs} (h : s.data.toList.drop a = c :: r) (d : Int) : takeP s a d = decide ((c.toNat : Int) = d) := by
  unfold takeP
  have : s.data.toList[a]? = some c := by
    have := congrArg (·[0]?) h
    simpa [List.getElem?_drop] using this
  rw [this]
theorem pre_at {a : Nat} {u r : Bs} (h : s.data.toList.drop a = u ++ r) : preP s a u = true := by
  unfold preP
  rw [h]
  exact List.isPrefixOf_iff_prefix.2 (List.prefix_append _ _)
theorem pre_not {a : Nat} {c d : UInt8} {r u : Bs} (h : s.data.toList.drop a = c :: r) (hd : d ≠ c) : preP s a (d :: u) = false := by
  unfold preP
  rw [h, List.isPrefixOf, show (d == c) = false from beq_eq_false_iff_ne.2 hd, Bool.false_and]
theorem ext_at {a : Nat} {u r : Bs} (h : s.data.toList.drop a = u ++ r) : s.extract a (a + u.length) = ⟨u.toArray⟩ := by
  apply ByteArray.ext
  apply Array.toList_inj.1
  have := ext_take s a u.length
  rw [this, h, List.take_left]
end
theorem kd_app (l m : List Node) (j : Nat) (h : j < l.length) : kdAt (l ++ m) j = kdAt l j := by
  unfold kdAt
  rw [List.getElem?_append_left h]
theorem setEnd_mid (l m : List Node) (n : Node) (v : Int) : setEnd (l ++ n :: m) l.length v = l ++ { n with f4 := v } :: m := by
  unfold setEnd
  rw [List.getElem?_append_right (Nat.le_refl _), Nat.sub_self]
  simp
def parOf (st : List Nat) : Int := match st with | [] => -1 | j :: _ => (j : Int)
/-- The state behind a tree. -/
def aft (x : PS) (t : Tr) : PS := ⟨x.a + (prT quoteL t).length, x.l ++ (t.flat (parOf x.st) x.l.length).map toN, x.st, x.ln, max x.dp (x.st.length + t.depth)⟩
theorem spl_ne (t : Tr) (nm : Bool) (ho : t.ok isNumL nm = true) : ∃ c r, prT quoteL t = c :: r ∧ isBlank c = false ∧ c ≠ 93 ∧ c ≠ 125 ∧ c ≠ 44 := by
  obtain ⟨k, key, text, kids⟩ := t
  rw [Tr.ok, Bool.and_eq_true, Bool.and_eq_true] at ho
  obtain ⟨⟨h1, _⟩, _⟩ := ho
  unfold okN at h1
  rw [Bool.and_eq_true, Bool.and_eq_true] at h1
  obtain ⟨⟨h1, _⟩, h3⟩ := h1
  have h1 := of_decide_eq_true h1
  rw [prT]
  have hk : k = 1 ∨ k = 2 ∨ k = 3 ∨ k = 4 ∨ k = 5 ∨ k = 6 ∨ k = 7 := by omega
  rcases hk with rfl | rfl | rfl | rfl | rfl | rfl | rfl
  · exact ⟨110, _, rfl, by decide⟩
  · exact ⟨102, _, rfl, by decide⟩
  · exact ⟨116, _, rfl, by decide⟩
  · rw [if_pos rfl] at h3
    unfold isNumL at h3
    rw [Bool.and_eq_true] at h3
    have hn : numL text.data.toList ≠ 0 := by
      have h4 := of_decide_eq_true h3.1
      have h5 : numL text.data.toList = text.size := by simpa using h3.2
      omega
    obtain ⟨c, r, e, hc⟩ := num_head hn
    refine ⟨c, r, ?_, ?_⟩
    · rw [if_neg (by decide)]; unfold wordB; exact e
    · rcases hc with rfl | ⟨a, b⟩
      · decide
      · have a := UInt8.le_iff_toNat_le.1 a
        have b := UInt8.le_iff_toNat_le.1 b
        simp at a b
        have ne : ∀ d : UInt8, d.toNat < 48 ∨ 57 < d.toNat → c ≠ d := fun d hd e => by subst e; omega
        refine ⟨?_, ne 93 (by decide), ne 125 (by decide), ne 44 (by decide)⟩
        unfold isBlank
        rw [beq_eq_false_iff_ne.2 (ne 32 (by decide)), beq_eq_false_iff_ne.2 (ne 9 (by decide)), beq_eq_false_iff_ne.2 (ne 10 (by decide)), beq_eq_false_iff_ne.2 (ne 13 (by decide))]
        rfl
  · exact ⟨34, _, rfl, by decide⟩
  · exact ⟨91, _, rfl, by decide⟩
  · exact ⟨123, _, rfl, by decide⟩
theorem step_leaf {s : ByteArray} (x : PS) (key : Bs) (f : Nat) (k : Int) (text : ByteArray) (n : Nat) (hk : k < 6) (hsp : spaceP s x.a = x.a)
    (hv : valueS s ⟨key.toArray⟩ { x with a := x.a } = some (addS { x with a := x.a + n } k ⟨key.toArray⟩ text, false)) :
    rowGo s (f + 1) (some key) x = rowGo s f none (addS { x with a := x.a + n } k ⟨key.toArray⟩ text) := by
  rw [rowGo]
  simp only [hsp]
  have e : ({ x with a := x.a } : PS) = x := rfl
  rw [show valueS s ⟨key.toArray⟩ { a := x.a, l := x.l, st := x.st, ln := x.ln, dp := x.dp } = _ from hv]
  rfl
theorem add_leaf (x : PS) (n : Nat) (k : Int) (key text : ByteArray) (hk : k < 6) : addS { x with a := x.a + n } k key text = ⟨x.a + n, x.l ++ [⟨k, key, text, parOf x.st, (x.l.length : Int) + 1⟩], x.st, x.ln, x.dp⟩ := by
  unfold addS addN parOf
  dsimp only
  rw [if_neg (by omega), if_neg (by omega)]
  cases x.st <;> rfl
/-- A leaf. -/
theorem leaf_go {s : ByteArray} (x : PS) (k : Int) (key text : ByteArray) (nm : Bool) (r : Bs) (hok : (Tr.mk k key text []).ok isNumL nm = true) (hk : k < 6) (h : s.data.toList.drop x.a = prT quoteL (.mk k key text []) ++ r) (hr : Sep r) (hdp : x.st.length ≤ x.dp) (f : Nat) :
    rowGo s (f + 1) (some key.data.toList) x = rowGo s f none (aft x (.mk k key text [])) := by
  obtain ⟨c, u, hc, hcb, hc1, hc2, hc3⟩ := spl_ne _ nm hok
  have hd : s.data.toList.drop x.a = c :: (u ++ r) := by rw [h, hc]; rfl
  have hsp := space_at hd hcb
  have haft : ∀ (n : Nat) (tx : ByteArray), n = (prT quoteL (.mk k key text [])).length → tx = text → addS { x with a := x.a + n } k ⟨key.data.toList.toArray⟩ tx = aft x (.mk k key text []) := by
    intro n tx hn ht
    rw [add_leaf x n k _ tx hk, hn, ht]
    unfold aft
    rw [Tr.flat, flats, Tr.depth, depths, if_neg (by omega)]
    simp only [List.map_cons, List.map_nil, toN, sizes]
    congr 1
    · omega
  have fin : ∀ (n : Nat) (tx : ByteArray), n = (prT quoteL (.mk k key text [])).length → tx = text → valueS s ⟨key.data.toList.toArray⟩ { x with a := x.a } = some (addS { x with a := x.a + n } k ⟨key.data.toList.toArray⟩ tx, false) → rowGo s (f + 1) (some key.data.toList) x = rowGo s f none (aft x (.mk k key text [])) := by
    intro n tx hn ht hv
    rw [step_leaf x key.data.toList f k tx n hk hsp hv, haft n tx hn ht]
  rw [Tr.ok, Bool.and_eq_true, Bool.and_eq_true] at hok
  obtain ⟨⟨h1, _⟩, _⟩ := hok
  unfold okN at h1
  rw [Bool.and_eq_true, Bool.and_eq_true] at h1
  obtain ⟨⟨h1, _⟩, h3⟩ := h1
  have h1 := of_decide_eq_true h1
  have ht0 : k ≠ 4 → k ≠ 5 → text = ⟨#[]⟩ := fun a b => by
    rw [if_neg a, decide_eq_false b, Bool.false_or] at h3
    exact (Go.MapKept.bytes_beq _ _).1 h3
  have hkk : k = 1 ∨ k = 2 ∨ k = 3 ∨ k = 4 ∨ k = 5 := by omega
  have tkn := take_at hd
  rw [prT, if_neg (by omega)] at h hc haft fin
  rcases hkk with rfl | rfl | rfl | rfl | rfl
  · refine fin 4 ⟨#[]⟩ rfl (ht0 (by decide) (by decide)).symm ?_
    unfold valueS
    rw [if_pos (pre_at (u := [110, 117, 108, 108]) h)]
  · refine fin 5 ⟨#[]⟩ rfl (ht0 (by decide) (by decide)).symm ?_
    have hc : (102 : UInt8) = c := by unfold wordB at hc; injection hc
    subst hc
    unfold valueS
    rw [if_neg (by rw [pre_not hd (by decide)]; decide), if_pos (pre_at (u := [102, 97, 108, 115, 101]) h)]
  · refine fin 4 ⟨#[]⟩ rfl (ht0 (by decide) (by decide)).symm ?_
    have hc : (116 : UInt8) = c := by unfold wordB at hc; injection hc
    subst hc
    unfold valueS
    rw [if_neg (by rw [pre_not hd (by decide)]; decide), if_neg (by rw [pre_not hd (by decide)]; decide), if_pos (pre_at (u := [116, 114, 117, 101]) h)]
  · have hw : wordB quoteL 4 text.data.toList = text.data.toList := rfl
    rw [hw] at h hc fin
    rw [if_pos rfl] at h3
    unfold isNumL at h3
    rw [Bool.and_eq_true] at h3
    have hsz : text.data.toList.length = text.size := by simp
    have h5 : numL text.data.toList = text.data.toList.length := by rw [hsz]; simpa using h3.2
    have h4 := of_decide_eq_true h3.1
    have hn : numL text.data.toList ≠ 0 := by omega
    obtain ⟨d, u2, e, hcd⟩ := num_head hn
    rw [e] at hc
    have hdc : d = c := by injection hc
    subst hdc
    have hnum : numL (s.data.toList.drop x.a) = text.data.toList.length := by rw [h, num_app _ _ hr, h5]
    refine fin text.data.toList.length (s.extract x.a (x.a + text.data.toList.length)) rfl (by rw [ext_at h]) ?_
    have ne : ∀ c : UInt8, c.toNat < 45 ∨ 57 < c.toNat → c ≠ d := fun c0 hc0 e0 => by
      rw [e0] at hc0
      rcases hcd with e1 | ⟨a, b⟩
      · rw [e1] at hc0
        exact absurd hc0 (by decide)
      · have a := UInt8.le_iff_toNat_le.1 a
        have b := UInt8.le_iff_toNat_le.1 b
        simp at a b
        omega
    have tn : ∀ z : Nat, z < 45 ∨ 57 < z → takeP s x.a (z : Int) = false := fun z hz => by
      rw [tkn]
      apply decide_eq_false
      intro e
      rcases hcd with rfl | ⟨a, b⟩
      · have e : ((45 : Nat) : Int) = (z : Int) := e
        omega
      · have a := UInt8.le_iff_toNat_le.1 a
        have b := UInt8.le_iff_toNat_le.1 b
        simp at a b
        omega
    have t91 := tn 91 (by omega)
    have t123 := tn 123 (by omega)
    have t34 := tn 34 (by omega)
    unfold valueS
    rw [if_neg (by rw [pre_not hd (ne 110 (by decide))]; decide), if_neg (by rw [pre_not hd (ne 102 (by decide))]; decide), if_neg (by rw [pre_not hd (ne 116 (by decide))]; decide), if_neg (by rw [show takeP s x.a 91 = false from t91]; decide), if_neg (by rw [show takeP s x.a 123 = false from t123]; decide), if_neg (by rw [show takeP s x.a 34 = false from t34]; decide), hnum, if_neg (by omega)]
    rfl
  · have hw : wordB quoteL 5 text.data.toList = quoteL text.data.toList := rfl
    rw [hw] at h hc fin
    have hc : (34 : UInt8) = c := by unfold quoteL at hc; injection hc
    subst hc
    refine fin (quoteL text.data.toList).length ⟨text.data.toList.toArray⟩ rfl rfl ?_
    unfold valueS
    rw [if_neg (by rw [pre_not hd (by decide)]; decide), if_neg (by rw [pre_not hd (by decide)]; decide), if_neg (by rw [pre_not hd (by decide)]; decide), if_neg (by rw [tkn]; decide), if_neg (by rw [tkn]; decide), if_pos (by rw [tkn]; rfl)]
    show (match textP s x.a with | none => none | some (t, n, ln) => _) = _
    rw [text_quote _ _ h]
    simp
/-- A member's name and its colon; in an array nothing. -/
def nmT (k : Int) (t : Tr) : Bs := if (k == 7) = true then quoteL t.key.data.toList ++ [58] else []
theorem prK_cons (k : Int) (first : Bool) (t : Tr) (ts : List Tr) : prK quoteL (k == 7) first (t :: ts) = (if first = true then [] else [44]) ++ nmT k t ++ prT quoteL t ++ prK quoteL (k == 7) false ts := by
  rw [prK]
  rfl
theorem isB_34 : isBlank 34 = false := rfl
/-- What a kid's text begins with. -/
theorem kid_head (k : Int) (t : Tr) (ho : t.ok isNumL (k == 7) = true) (u : Bs) : ∃ c r, nmT k t ++ prT quoteL t ++ u = c :: r ∧ isBlank c = false ∧ c ≠ 93 ∧ c ≠ 125 := by
  unfold nmT
  split
  · exact ⟨34, _, rfl, by decide⟩
  · obtain ⟨c, r, e, h1, h2, h3, _⟩ := spl_ne t _ ho
    exact ⟨c, r ++ u, by rw [e]; rfl, h1, h2, h3⟩
theorem key_nil {t : Tr} (h : t.ok isNumL false = true) : t.key = ⟨#[]⟩ := by
  obtain ⟨k, key, text, kids⟩ := t
  rw [Tr.ok, Bool.and_eq_true, Bool.and_eq_true] at h
  have h1 := h.1.1
  unfold okN at h1
  rw [Bool.and_eq_true, Bool.and_eq_true, Bool.false_or] at h1
  exact (Go.MapKept.bytes_beq _ _).1 h1.1.2
theorem nameS_kd (s : ByteArray) (a : Nat) (l : List Node) (j : Nat) (st' : List Nat) (ln : Bool) (dp : Nat) (k : Int) (h : kdAt l j = k) : nameS s ⟨a, l, j :: st', ln, dp⟩ = if k = 6 then some (⟨spaceP s a, l, j :: st', ln, dp⟩, []) else
    match textP s (spaceP s a) with
    | none => none
    | some (t, n, ln2) => if takeP s (spaceP s (spaceP s a + n)) 58 then some (⟨spaceP s (spaceP s a + n) + 1, l, j :: st', ln || ln2, dp⟩, t) else none := by subst h; rfl
theorem closeS_kd (s : ByteArray) (a : Nat) (l : List Node) (j : Nat) (st' : List Nat) (ln : Bool) (dp : Nat) (k : Int) (h : kdAt l j = k) : closeS s ⟨a, l, j :: st', ln, dp⟩ = if takeP s (spaceP s a) (if k = 7 then 125 else 93) then (⟨spaceP s a + 1, setEnd l j (l.length : Int), st', ln, dp⟩, true) else (⟨spaceP s a, l, j :: st', ln, dp⟩, false) := by subst h; rfl
theorem name_at {s : ByteArray} (a : Nat) (l : List Node) (j : Nat) (st' : List Nat) (ln : Bool) (dp : Nat) (k : Int) (t : Tr) (r : Bs) (hk : k = 6 ∨ k = 7) (hkd : kdAt l j = k) (ho : t.ok isNumL (k == 7) = true) (h : s.data.toList.drop a = nmT k t ++ (prT quoteL t ++ r)) :
    nameS s ⟨a, l, j :: st', ln, dp⟩ = some (⟨a + (nmT k t).length, l, j :: st', ln, dp⟩, t.key.data.toList) := by
  rw [nameS_kd s a l j st' ln dp k hkd]
  rcases hk with rfl | rfl
  · rw [if_pos rfl]
    have e : nmT 6 t = [] := rfl
    rw [e, List.nil_append] at h
    obtain ⟨c, u, hc, hcb, _⟩ := spl_ne t _ ho
    rw [hc] at h
    rw [space_at h hcb, e, key_nil (show t.ok isNumL false = true from ho)]
    rfl
  · rw [if_neg (by decide)]
    have e : nmT 7 t = quoteL t.key.data.toList ++ [58] := rfl
    rw [e, List.append_assoc] at h
    have h1 : s.data.toList.drop a = 34 :: (t.key.data.toList.flatMap qc ++ [34] ++ ([58] ++ (prT quoteL t ++ r))) := h
    rw [space_at h1 isB_34, text_quote _ _ h]
    have h2 := drop_more h
    have h2 : s.data.toList.drop (a + (quoteL t.key.data.toList).length) = 58 :: (prT quoteL t ++ r) := h2
    dsimp only
    rw [space_at h2 (by decide), if_pos (by rw [take_at h2]; rfl), e, List.length_append, Bool.or_false]
    rfl
/-- The state behind the rest of a value's kids, and its closing sign. -/
def clo (a : Nat) (l : List Node) (j : Nat) (st' : List Nat) (ln : Bool) (dp : Nat) (k : Int) (ts : List Tr) : PS :=
  ⟨a + (prK quoteL (k == 7) false ts).length + 1, setEnd (l ++ (flats (j : Int) l.length ts).map toN) j ((l.length + sizes ts : Nat) : Int), st', ln, max dp (st'.length + 1 + depths ts)⟩
theorem cls_one (k : Int) (hk : k = 6 ∨ k = 7) : ∃ c, cls k = [c] ∧ isBlank c = false ∧ c ≠ 44 ∧ (c.toNat : Int) = if k = 7 then 125 else 93 := by
  rcases hk with rfl | rfl
  · exact ⟨93, rfl, by decide⟩
  · exact ⟨125, rfl, by decide⟩
mutual
/-- A value that is printed is read as it was. -/
theorem val_go {s : ByteArray} : ∀ (t : Tr) (nm : Bool) (x : PS) (r : Bs), t.ok isNumL nm = true → x.st.length ≤ x.dp → s.data.toList.drop x.a = prT quoteL t ++ r → Sep r →
    ∃ n, n ≤ (prT quoteL t).length ∧ ∀ f, rowGo s (f + n) (some t.key.data.toList) x = rowGo s f none (aft x t)
  | .mk k key text kids, nm, x, r, ho, hdp, h, hr => by
    by_cases hk : k < 6
    · have hkids : kids = [] := by
        rw [Tr.ok, Bool.and_eq_true, Bool.and_eq_true] at ho
        have := ho.1.2
        rw [decide_eq_false (by omega), Bool.false_or] at this
        exact List.isEmpty_iff.1 this
      subst hkids
      refine ⟨1, ?_, fun f => leaf_go x k key text nm r ho hk h hr hdp f⟩
      obtain ⟨c, u, e, _⟩ := spl_ne _ nm ho
      rw [e]
      simp
    · obtain ⟨a, l, st, ln, dp⟩ := x
      have ho2 := ho
      rw [Tr.ok, Bool.and_eq_true, Bool.and_eq_true] at ho2
      obtain ⟨⟨h1, _⟩, h2⟩ := ho2
      unfold okN at h1
      rw [Bool.and_eq_true, Bool.and_eq_true] at h1
      obtain ⟨⟨h1, _⟩, h3⟩ := h1
      have h1 := of_decide_eq_true h1
      have hk7 : k = 6 ∨ k = 7 := by omega
      have htx : text = ⟨#[]⟩ := by
        rw [if_neg (by omega), decide_eq_false (by omega), Bool.false_or] at h3
        exact (Go.MapKept.bytes_beq _ _).1 h3
      subst htx
      have hpr : prT quoteL (.mk k key ⟨#[]⟩ kids) = opn k ++ prK quoteL (k == 7) true kids ++ cls k := by rw [prT, if_pos (by omega)]
      rw [hpr] at h ⊢
      obtain ⟨o, ho1, hob, hopen⟩ : ∃ o, opn k = [o] ∧ isBlank o = false ∧ ∀ x : PS, s.data.toList.drop x.a = o :: (prK quoteL (k == 7) true kids ++ cls k ++ r) → valueS s ⟨key.data.toList.toArray⟩ x = some (addS { x with a := x.a + 1 } k key ⟨#[]⟩, true) := by
        rcases hk7 with rfl | rfl
        · refine ⟨91, rfl, rfl, fun x hx => ?_⟩
          unfold valueS
          rw [if_neg (by rw [pre_not hx (by decide)]; decide), if_neg (by rw [pre_not hx (by decide)]; decide), if_neg (by rw [pre_not hx (by decide)]; decide), if_pos (by rw [take_at hx]; rfl)]
        · refine ⟨123, rfl, rfl, fun x hx => ?_⟩
          unfold valueS
          rw [if_neg (by rw [pre_not hx (by decide)]; decide), if_neg (by rw [pre_not hx (by decide)]; decide), if_neg (by rw [pre_not hx (by decide)]; decide), if_neg (by rw [take_at hx]; decide), if_pos (by rw [take_at hx]; rfl)]
      have hd : s.data.toList.drop a = o :: (prK quoteL (k == 7) true kids ++ cls k ++ r) := by rw [h, ho1]; simp
      have hd1 : s.data.toList.drop (a + 1) = prK quoteL (k == 7) true kids ++ cls k ++ r := drop_more (u := [o]) hd
      obtain ⟨n0, hn0⟩ : ∃ n0 : Node, (⟨k, key, ⟨#[]⟩, parOf st, (l.length : Int) + 1⟩ : Node) = n0 := ⟨_, rfl⟩
      have hadd : addS { (PS.mk a l st ln dp) with a := a + 1 } k key ⟨#[]⟩ = ⟨a + 1, l ++ [n0], l.length :: st, ln, max dp (st.length + 1)⟩ := by
        unfold addS addN
        dsimp only
        rw [if_pos (by omega), if_pos (by omega), ← hn0]
        cases st <;> rfl
      have hkd : kdAt (l ++ [n0]) l.length = k := by
        unfold kdAt
        rw [List.getElem?_append_right (Nat.le_refl _), Nat.sub_self, ← hn0]
        rfl
      have hval : valueS s ⟨key.data.toList.toArray⟩ { (PS.mk a l st ln dp) with a := a } = some (⟨a + 1, l ++ [n0], l.length :: st, ln, max dp (st.length + 1)⟩, true) := by
        have := hopen (PS.mk a l st ln dp) hd
        rw [this]
        rw [← hadd]
      obtain ⟨cc, hcl, hcb, hcc, hct⟩ := cls_one k hk7
      cases kids with
      | nil =>
        have hd2 : s.data.toList.drop (a + 1) = cc :: r := by rw [hd1, prK, hcl]; rfl
        refine ⟨1, by rw [ho1, hcl]; simp, fun f => ?_⟩
        rw [rowGo]
        simp only [space_at hd hob]
        rw [show valueS s ⟨(Tr.mk k key ⟨#[]⟩ []).key.data.toList.toArray⟩ _ = _ from hval]
        have hclose : closeS s ⟨a + 1, l ++ [n0], l.length :: st, ln, max dp (st.length + 1)⟩ = (⟨a + 1 + 1, setEnd (l ++ [n0]) l.length ((l ++ [n0]).length : Int), st, ln, max dp (st.length + 1)⟩, true) := by
          rw [closeS_kd _ _ _ _ _ _ _ k hkd, space_at hd2 hcb, if_pos (by rw [take_at hd2, hct]; exact decide_eq_true rfl)]
        dsimp only
        rw [if_pos rfl, hclose, if_pos rfl]
        congr 1
        unfold aft
        rw [hpr, ho1, hcl, prK, Tr.flat, flats, Tr.depth, depths, if_pos (by omega), sizes]
        simp only [List.map_cons, List.map_nil, toN]
        rw [setEnd_mid l [] n0, ← hn0]
        simp
      | cons t ts =>
        rw [oks, Bool.and_eq_true] at h2
        rw [prK_cons, if_pos rfl, List.nil_append] at hd1
        have hd2 : s.data.toList.drop (a + 1) = nmT k t ++ (prT quoteL t ++ (prK quoteL (k == 7) false ts ++ (cls k ++ r))) := by rw [hd1]; simp only [List.append_assoc]
        obtain ⟨c, u, hc, hcb1, hc1, hc2⟩ := kid_head k t h2.1 (prK quoteL (k == 7) false ts ++ (cls k ++ r))
        have hd3 : s.data.toList.drop (a + 1) = c :: u := by rw [hd2, ← hc]; simp only [List.append_assoc]
        have hclose : closeS s ⟨a + 1, l ++ [n0], l.length :: st, ln, max dp (st.length + 1)⟩ = (⟨a + 1, l ++ [n0], l.length :: st, ln, max dp (st.length + 1)⟩, false) := by
          rw [closeS_kd _ _ _ _ _ _ _ k hkd, space_at hd3 hcb1, if_neg]
          rw [take_at hd3]
          intro e
          have e := of_decide_eq_true e
          rcases hk7 with rfl | rfl
          · exact hc1 (UInt8.toNat_inj.1 (by have e : (c.toNat : Int) = 93 := e; show c.toNat = 93; omega))
          · exact hc2 (UInt8.toNat_inj.1 (by have e : (c.toNat : Int) = 125 := e; show c.toNat = 125; omega))
        have hname := name_at (s := s) (a + 1) (l ++ [n0]) l.length st ln (max dp (st.length + 1)) k t _ hk7 hkd h2.1 hd2
        have hsep : Sep (prK quoteL (k == 7) false ts ++ (cls k ++ r)) := by
          cases ts with
          | nil => rw [prK, List.nil_append]; exact sep_cls k r
          | cons t2 ts2 => rw [prK_cons, if_neg (by decide)]; exact sep_comma _
        have hd4 : s.data.toList.drop (a + 1 + (nmT k t).length) = prT quoteL t ++ (prK quoteL (k == 7) false ts ++ (cls k ++ r)) := drop_more hd2
        obtain ⟨n1, hn1, go1⟩ := val_go t (k == 7) ⟨a + 1 + (nmT k t).length, l ++ [n0], l.length :: st, ln, max dp (st.length + 1)⟩ _ h2.1 (by dsimp only [List.length_cons]; omega) hd4 hsep
        have hd5 : s.data.toList.drop (a + 1 + (nmT k t).length + (prT quoteL t).length) = prK quoteL (k == 7) false ts ++ (cls k ++ r) := drop_more hd4
        obtain ⟨n2, hn2, go2⟩ := kids_go ts (a + 1 + (nmT k t).length + (prT quoteL t).length) (l ++ [n0] ++ (t.flat (l.length : Int) (l ++ [n0]).length).map toN) l.length st ln (max (max dp (st.length + 1)) (st.length + 1 + t.depth)) k r hk7 (by simp) (by rw [kd_app _ _ _ (by simp)]; exact hkd) h2.2 (by omega) hd5
        refine ⟨n2 + n1 + 1, ?_, fun f => ?_⟩
        · rw [prK_cons, if_pos rfl, ho1, hcl]
          simp only [List.length_append, List.length_cons, List.length_nil]
          omega
        · rw [show f + (n2 + n1 + 1) = (f + n2 + n1) + 1 by omega, rowGo]
          simp only [space_at hd hob]
          rw [show valueS s ⟨(Tr.mk k key ⟨#[]⟩ (t :: ts)).key.data.toList.toArray⟩ _ = _ from hval]
          dsimp only
          rw [if_pos rfl, hclose, if_neg Bool.false_ne_true]
          dsimp only
          rw [hname]
          dsimp only
          rw [go1 (f + n2)]
          have e2 := go2 f
          unfold aft
          dsimp only [List.length_cons, parOf]
          rw [e2]
          congr 1
          unfold clo
          rw [hpr, ho1, hcl, prK_cons, if_pos rfl, Tr.flat, flats, Tr.depth, depths, if_pos (by omega), sizes]
          have e3 : l ++ [n0] ++ (t.flat (l.length : Int) (l ++ [n0]).length).map toN ++ (flats (l.length : Int) (l ++ [n0] ++ (t.flat (l.length : Int) (l ++ [n0]).length).map toN).length ts).map toN = l ++ n0 :: ((t.flat (l.length : Int) (l.length + 1)).map toN ++ (flats (l.length : Int) (l.length + 1 + t.size) ts).map toN) := by
            simp [Tr.flat_len]
            rw [show l.length + (t.size + 1) = l.length + 1 + t.size by omega]
          rw [e3, setEnd_mid, ← hn0]
          simp only [List.map_cons, List.map_append, toN, List.length_append, List.length_cons, List.length_nil, List.length_map, Tr.flat_len]
          congr 1
          · omega
          · congr 2
            rw [show l.length + (0 + 1) + t.size + sizes ts = l.length + 1 + (t.size + sizes ts) by omega]
            cases st <;> rfl
          · omega
theorem kids_go {s : ByteArray} : ∀ (ts : List Tr) (a : Nat) (l : List Node) (j : Nat) (st' : List Nat) (ln : Bool) (dp : Nat) (k : Int) (r : Bs), (k = 6 ∨ k = 7) → j < l.length → kdAt l j = k → oks isNumL (k == 7) ts = true → st'.length + 1 ≤ dp →
    s.data.toList.drop a = prK quoteL (k == 7) false ts ++ (cls k ++ r) →
    ∃ n, n ≤ (prK quoteL (k == 7) false ts).length + 1 ∧ ∀ f, rowGo s (f + n) none ⟨a, l, j :: st', ln, dp⟩ = rowGo s f none (clo a l j st' ln dp k ts)
  | [], a, l, j, st', ln, dp, k, r, hk7, hj, hkd, _, hdp, h => by
    obtain ⟨cc, hcl, hcb, hcc, hct⟩ := cls_one k hk7
    have hd : s.data.toList.drop a = cc :: r := by rw [h, prK, hcl]; rfl
    refine ⟨1, by simp, fun f => ?_⟩
    rw [rowGo]
    dsimp only
    rw [if_neg (by simp), space_at hd hcb, if_neg]
    · have hclose : closeS s ⟨a, l, j :: st', ln, dp⟩ = (⟨a + 1, setEnd l j (l.length : Int), st', ln, dp⟩, true) := by
        rw [closeS_kd _ _ _ _ _ _ _ k hkd, space_at hd hcb, if_pos (by rw [take_at hd, hct]; exact decide_eq_true rfl)]
      rw [hclose, if_pos rfl]
      congr 1
      unfold clo
      rw [prK, flats, sizes, depths]
      simp
      omega
    · rw [take_at hd]
      intro e
      have e := of_decide_eq_true e
      exact hcc (UInt8.toNat_inj.1 (by show cc.toNat = 44; omega))
  | t :: ts, a, l, j, st', ln, dp, k, r, hk7, hj, hkd, ho, hdp, h => by
    rw [oks, Bool.and_eq_true] at ho
    rw [prK_cons, if_neg (by decide)] at h
    have hd : s.data.toList.drop a = 44 :: (nmT k t ++ prT quoteL t ++ prK quoteL (k == 7) false ts ++ (cls k ++ r)) := h
    have hd2 : s.data.toList.drop (a + 1) = nmT k t ++ (prT quoteL t ++ (prK quoteL (k == 7) false ts ++ (cls k ++ r))) := by
      have hd1 : s.data.toList.drop (a + 1) = nmT k t ++ prT quoteL t ++ prK quoteL (k == 7) false ts ++ (cls k ++ r) := drop_more (u := [44]) hd
      rw [hd1]
      simp only [List.append_assoc]
    have hname := name_at (s := s) (a + 1) l j st' ln dp k t _ hk7 hkd ho.1 hd2
    have hsep : Sep (prK quoteL (k == 7) false ts ++ (cls k ++ r)) := by
      cases ts with
      | nil => rw [prK, List.nil_append]; exact sep_cls k r
      | cons t2 ts2 => rw [prK_cons, if_neg (by decide)]; exact sep_comma _
    have hd4 : s.data.toList.drop (a + 1 + (nmT k t).length) = prT quoteL t ++ (prK quoteL (k == 7) false ts ++ (cls k ++ r)) := drop_more hd2
    obtain ⟨n1, hn1, go1⟩ := val_go t (k == 7) ⟨a + 1 + (nmT k t).length, l, j :: st', ln, dp⟩ _ ho.1 hdp hd4 hsep
    have hd5 : s.data.toList.drop (a + 1 + (nmT k t).length + (prT quoteL t).length) = prK quoteL (k == 7) false ts ++ (cls k ++ r) := drop_more hd4
    obtain ⟨n2, hn2, go2⟩ := kids_go ts (a + 1 + (nmT k t).length + (prT quoteL t).length) (l ++ (t.flat (j : Int) l.length).map toN) j st' ln (max dp (st'.length + 1 + t.depth)) k r hk7 (by simp; omega) (by rw [kd_app _ _ _ hj]; exact hkd) ho.2 (by omega) hd5
    refine ⟨n2 + n1 + 1, ?_, fun f => ?_⟩
    · rw [prK_cons, if_neg (by decide)]
      simp only [List.length_append, List.length_cons, List.length_nil]
      omega
    · rw [show f + (n2 + n1 + 1) = (f + n2 + n1) + 1 by omega, rowGo]
      dsimp only
      rw [if_neg (by simp), space_at hd (by decide), if_pos (by rw [take_at hd]; rfl), hname]
      dsimp only
      rw [go1 (f + n2)]
      have e2 := go2 f
      unfold aft
      dsimp only [List.length_cons, parOf]
      rw [e2]
      congr 1
      unfold clo
      rw [prK_cons, if_neg (by decide), flats, sizes, depths]
      simp only [List.map_append, List.length_append, List.length_cons, List.length_nil, List.length_map, Tr.flat_len, List.append_assoc]
      congr 1
      · omega
      · congr 1
        omega
      · omega
end
/-- A printed tree is as valid as its names and texts. -/
theorem valid_pr2 (a b : Bs) (h1 : validL a = true) (h2 : validL b = true) : validL (a ++ b) = true := by rw [valid_app a b h1, h2]
mutual
theorem prT_valid : ∀ (t : Tr), t.tx (fun b => validL b.data.toList) = true → validL (prT quoteL t) = true
  | .mk k key text kids, h => by
    rw [Tr.tx, Bool.and_eq_true, Bool.and_eq_true] at h
    rw [prT]
    split
    · refine valid_pr2 _ _ (valid_pr2 _ _ ?_ (prK_valid kids (k == 7) true h.2)) ?_
      · unfold opn; split <;> exact valid_one _ (by decide)
      · unfold cls; split <;> exact valid_one _ (by decide)
    · unfold wordB
      split
      · exact valid_ascii _ (by decide)
      · split
        · exact valid_ascii _ (by decide)
        · split
          · exact valid_ascii _ (by decide)
          · split
            · rw [quote_valid]; exact h.1.2
            · exact h.1.2
theorem prK_valid : ∀ (ts : List Tr) (nm first : Bool), txs (fun b => validL b.data.toList) ts = true → validL (prK quoteL nm first ts) = true
  | [], nm, first, _ => by rw [prK]; exact valid_nil
  | t :: ts, nm, first, h => by
    rw [txs, Bool.and_eq_true] at h
    rw [prK]
    have hk : validL t.key.data.toList = true := by
      obtain ⟨k, key, text, kids⟩ := t
      have := h.1
      rw [Tr.tx, Bool.and_eq_true, Bool.and_eq_true] at this
      exact this.1.1
    refine valid_pr2 _ _ (valid_pr2 _ _ (valid_pr2 _ _ ?_ ?_) (prT_valid t h.1)) (prK_valid ts nm false h.2)
    · split
      · exact valid_nil
      · exact valid_one _ (by decide)
    · split
      · exact valid_pr2 _ _ (by rw [quote_valid]; exact hk) (valid_one _ (by decide))
      · exact valid_nil
end
/-- What a tree's text is parsed as: the tree's row. -/
theorem row_print (t : Tr) (ho : t.ok isNumL false = true) (s : ByteArray) (hs : s.data.toList = prT quoteL t) : rowGo s (s.size + 1) (some []) ⟨0, [], [], false, 0⟩ = some (aft ⟨0, [], [], false, 0⟩ t) := by
  have hsz : s.size = (prT quoteL t).length := by rw [← hs]; simp
  obtain ⟨n, hn, go⟩ := val_go (s := s) t false ⟨0, [], [], false, 0⟩ [] ho (Nat.le_refl _) (by rw [List.append_nil, ← hs]; rfl) (.inl rfl)
  have hk := key_nil ho
  have e := go (s.size - n + 1)
  rw [hk, show s.size - n + 1 + n = s.size + 1 by omega] at e
  have e : rowGo s (s.size + 1) (some []) ⟨0, [], [], false, 0⟩ = rowGo s (s.size - n + 1) none (aft ⟨0, [], [], false, 0⟩ t) := e
  rw [e, rowGo]
  unfold aft
  simp
theorem aft_row (t : Tr) : (aft ⟨0, [], [], false, 0⟩ t).l = rowT t := by unfold aft rowT parOf; simp
theorem parse_print (t : Tr) (hT : TreeOk t) (s : ByteArray) (hs : s.data.toList = prT quoteL t) (hl : s.size ≤ 4096) : parseS s = (0, rowT t) := by
  have hsz : s.size = (prT quoteL t).length := by rw [← hs]; simp
  unfold parseS
  rw [if_neg (by omega), hs, prT_valid t hT.tx, if_neg (by decide), row_print t hT.ok s hs]
  have ha : (aft ⟨0, [], [], false, 0⟩ t).a = s.size := by unfold aft; dsimp only; omega
  have hlim : limitsV (aft ⟨0, [], [], false, 0⟩ t).l ((aft ⟨0, [], [], false, 0⟩ t).dp : Int) = 0 := by
    rw [aft_row]
    have h1 := chk_tree t hT.ok
    rw [if_pos hT.tx, if_neg (by have := hT.depth; omega), if_neg (by have := hT.size; omega), if_pos hT.uniq] at h1
    unfold chkP at h1
    rw [tree_laid t hT.ok, if_pos rfl, bad_tree, hT.tx, Bool.not_true, if_neg (by decide)] at h1
    have e1 : mxD ((rowT t).map toD) (rowT t).length = t.depth := by rw [rowT_D, rowT_len]; exact mxD_tree t
    rw [e1] at h1
    have e2 : (aft ⟨0, [], [], false, 0⟩ t).dp = t.depth := by unfold aft; simp
    rw [e2]
    exact h1
  have hln : (aft ⟨0, [], [], false, 0⟩ t).ln = false := rfl
  dsimp only
  rw [ha, spaceP_end (Nat.le_refl _), if_neg (by simp), hln, if_neg (show ¬ ((false : Bool) = true) by decide), if_neg (by rw [hlim]; decide), aft_row]
end Go.Proofs.YtfocognhcljhpaaGreatDoor
namespace Go.Proofs.YtfocognhcljhpaaGreatDoor
set_option linter.unusedVariables false
set_option linter.unusedSimpArgs false
open Go.RowKit Go.Shelf Go.Proofs.YtfocognhcljhpaaGreatDoorW.PrintWords Go.Proofs.YtfocognhcljhpaaGreatDoorW.PrintMore Go.Proofs.YtfocognhcljhpaaGreatDoor.PPrintRows Go.Proofs.YtfocognhcljhpaaGreatDoor.Tree
mutual
theorem ok_sh : ∀ (t : Tr) (nm : Bool), t.ok isNumL nm = true → t.sh = true
  | .mk k key text kids, nm, h => by
    rw [Tr.ok, Bool.and_eq_true, Bool.and_eq_true] at h
    rw [Tr.sh, h.1.2, oks_shs kids (k == 7) h.2]
    rfl
theorem oks_shs : ∀ (ts : List Tr) (nm : Bool), oks isNumL nm ts = true → shs ts = true
  | [], _, _ => by rw [shs]
  | t :: ts, nm, h => by
    rw [oks, Bool.and_eq_true] at h
    rw [shs, ok_sh t nm h.1, oks_shs ts nm h.2]
    rfl
end
/-- How long a kid's text is, with its comma. -/
def wK (nm : Bool) (t : Tr) : Nat := 1 + (if nm = true then (quoteL t.key.data.toList).length + 1 else 0) + (prT quoteL t).length
theorem prK_len (nm : Bool) : ∀ (ts : List Tr) (first : Bool), (prK quoteL nm first ts).length + (if first = true then (if ts = [] then 0 else 1) else 0) = (ts.map (wK nm)).sum
  | [], first => by rw [prK]; cases first <;> rfl
  | t :: ts, first => by
    have ih := prK_len nm ts false
    rw [if_neg (by decide), Nat.add_zero] at ih
    rw [prK, List.map_cons, List.sum_cons, ← ih]
    unfold wK
    cases first <;> cases nm <;> simp <;> omega
theorem sum_perm {l m : List Nat} (h : l.Perm m) : l.sum = m.sum := h.sum_nat
mutual
theorem srt_len : ∀ t : Tr, (prT quoteL (srt t)).length = (prT quoteL t).length
  | .mk k key text kids => by
    rw [srt, prT, prT]
    split
    · rename_i hk
      have h1 := prK_len (k == 7) (ordK k (srts kids)) true
      have h2 := prK_len (k == 7) kids true
      have h3 : ((ordK k (srts kids)).map (wK (k == 7))).sum = (kids.map (wK (k == 7))).sum := by
        rw [sum_perm ((ordK_perm k (srts kids)).map _), srts_wK kids]
      have h4 : (ordK k (srts kids) = []) = (kids = []) := by
        have := ordK_isEmpty k (srts kids)
        rw [srts_map] at this ⊢
        apply propext
        rw [← List.isEmpty_iff, ← List.isEmpty_iff, this]
        cases kids <;> simp
      rw [if_pos rfl] at h1 h2
      simp only [h4] at h1
      rw [h3] at h1
      simp only [List.length_append]
      omega
    · rfl
theorem srts_wK : ∀ (ts : List Tr) {nm : Bool}, ((srts ts).map (wK nm)).sum = (ts.map (wK nm)).sum
  | [], nm => by rw [srts]
  | t :: ts, nm => by
    rw [srts, List.map_cons, List.map_cons, List.sum_cons, List.sum_cons, srts_wK ts]
    unfold wK
    rw [srt_key, srt_len t]
end
theorem ordK_idem (k : Int) (l : List Tr) : ordK k (ordK k l) = ordK k l := by
  unfold ordK
  split
  · exact List.mergeSort_of_pairwise (List.pairwise_mergeSort kle_trans kle_total l)
  · rfl
mutual
theorem srt_idem : ∀ t : Tr, srt (srt t) = srt t
  | .mk k key text kids => by
    rw [srt, srt]
    have h : srts (ordK k (srts kids)) = ordK k (srts kids) := by
      rw [srts_map (ordK k (srts kids))]
      conv => rhs; rw [← List.map_id (ordK k (srts kids))]
      apply List.map_congr_left
      intro t ht
      have ht := (ordK_perm k (srts kids)).mem_iff.1 ht
      exact srts_idem kids t ht
    rw [h, ordK_idem]
theorem srts_idem : ∀ (ts : List Tr) (t : Tr), t ∈ srts ts → srt t = t
  | [], t, h => by rw [srts] at h; cases h
  | u :: ts, t, h => by
    rw [srts, List.mem_cons] at h
    rcases h with rfl | h
    · exact srt_idem u
    · exact srts_idem ts t h
end
theorem TreeOk.chk {t : Tr} (h : TreeOk t) : chkP (rowT t) = 0 := by
  rw [chk_tree t h.ok, if_pos h.tx, if_neg (by have := h.depth; omega), if_neg (by have := h.size; omega), if_pos h.uniq]
mutual
theorem prT_le : ∀ t : Tr, t.tx (fun b => decide (b.size ≤ 200)) = true → (prT quoteL t).length + 1300 ≤ 3000 * t.size
  | .mk k key text kids, h => by
    rw [Tr.tx, Bool.and_eq_true, Bool.and_eq_true] at h
    have h1 := of_decide_eq_true h.1.2
    have h2 := prK_le kids (k == 7) true h.2
    have h3 := flat_qc_len2 text.data.toList
    have h4 : text.data.toList.length = text.size := by simp
    rw [prT, Tr.size]
    split
    · have e1 : (opn k).length = 1 := by unfold opn; split <;> rfl
      have e2 : (cls k).length = 1 := by unfold cls; split <;> rfl
      simp only [List.length_append]
      omega
    · have e : (wordB quoteL k text.data.toList).length ≤ 1700 := by
        unfold wordB
        split
        · simp
        · split
          · simp
          · split
            · simp
            · split
              · unfold quoteL
                rw [List.length_cons, List.length_append]
                simp only [List.length_cons, List.length_nil]
                omega
              · omega
      omega
theorem prK_le : ∀ (ts : List Tr) (nm first : Bool), txs (fun b => decide (b.size ≤ 200)) ts = true → (prK quoteL nm first ts).length ≤ 3000 * sizes ts
  | [], nm, first, _ => by rw [prK]; simp
  | t :: ts, nm, first, h => by
    rw [txs, Bool.and_eq_true] at h
    have h1 := prT_le t h.1
    have h2 := prK_le ts nm false h.2
    have hk : t.key.size ≤ 200 := by
      obtain ⟨k, key, text, kids⟩ := t
      have := h.1
      rw [Tr.tx, Bool.and_eq_true, Bool.and_eq_true] at this
      exact of_decide_eq_true this.1.1
    have h3 := flat_qc_len2 t.key.data.toList
    have h4 : t.key.data.toList.length = t.key.size := by simp
    have h5 : (quoteL t.key.data.toList).length ≤ 1202 := by
      unfold quoteL
      rw [List.length_cons, List.length_append]
      simp only [List.length_cons, List.length_nil]
      omega
    rw [prK, sizes]
    simp only [List.length_append]
    have e1 : (if first = true then ([] : Bs) else [44]).length ≤ 1 := by split <;> simp
    have e2 : (if nm = true then quoteL t.key.data.toList ++ [58] else []).length ≤ 1203 := by
      split
      · simp; omega
      · simp
    omega
end
end Go.Proofs.YtfocognhcljhpaaGreatDoor
