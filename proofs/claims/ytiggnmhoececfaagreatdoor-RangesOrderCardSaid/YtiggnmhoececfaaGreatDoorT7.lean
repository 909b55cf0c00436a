/- Texts taken together: TabP, Neigh3, Add, New, Del, Turn, Find, RangeT, QuietR, Is, Neigh, Neigh9. -/
import Derived.Test.YtiggnmhoececfaaGreatDoorT3
import Derived.Test.YtiggnmhoececfaaGreatDoorT4
import Derived.Test.YtiggnmhoececfaaGreatDoorT6
import Derived.Deep.RegionHeld3
import Derived.RangeFuncNested
import Derived.RangeFuncBound
import Derived.RangeFuncCalls
import Derived.RangeFuncLeaves
import Derived.Sort.QuietIn
import Derived.Lib.QuietBelowIn

namespace Go.Proofs.YtiggnmhoececfaaGreatDoor
set_option linter.unusedVariables false
set_option linter.unusedSimpArgs false
open Go.RowKit

/-- ahead -/
def klt (a b : ByteArray) : Bool := decide (rcmpV a b < 0)

theorem klt_is (a b : ByteArray) : klt a b = (decide (a.size < b.size) || (decide (a.size = b.size) && bl a.data.toList b.data.toList)) := by
  unfold klt
  by_cases h : a.size = b.size
  · rw [rcmp_lt a b h, h]; simp
  · by_cases h2 : a.size < b.size
    · rw [rcmp_far_lt a b h2]; simp [h2]
    · rw [rcmp_far_gt a b (by omega)]; simp [h, h2]

theorem klt_cases (a b : ByteArray) : klt a b = true ↔ a.size < b.size ∨ (a.size = b.size ∧ bl a.data.toList b.data.toList = true) := by
  rw [klt_is]; simp

theorem klt_irrefl (a : ByteArray) : klt a a = false := by
  rw [← Bool.not_eq_true, klt_cases]
  rintro (h | ⟨_, h⟩)
  · omega
  · rw [bl_irrefl] at h; cases h

theorem klt_trans {a b c : ByteArray} (h1 : klt a b = true) (h2 : klt b c = true) : klt a c = true := by
  rw [klt_cases] at *
  rcases h1 with h1 | ⟨e1, h1⟩ <;> rcases h2 with h2 | ⟨e2, h2⟩
  · exact .inl (by omega)
  · exact .inl (by omega)
  · exact .inl (by omega)
  · exact .inr ⟨by omega, bl_trans _ _ _ h1 h2⟩

theorem klt_asymm {a b : ByteArray} (h : klt a b = true) : klt b a = false := by
  cases h2 : klt b a with
  | false => rfl
  | true => have := klt_trans h h2; rw [klt_irrefl] at this; cases this

theorem bytes_ext {a b : ByteArray} (h : a.data.toList = b.data.toList) : a = b := by
  cases a; cases b
  congr 1
  exact Array.ext' h

theorem klt_total {a b : ByteArray} (h1 : klt a b = false) (h2 : klt b a = false) : a = b := by
  rw [klt_is] at h1 h2
  simp only [Bool.or_eq_false_iff, decide_eq_false_iff_not, Bool.and_eq_false_iff] at h1 h2
  have e : a.size = b.size := by omega
  obtain ⟨_, h1⟩ := h1
  obtain ⟨_, h2⟩ := h2
  exact bytes_ext (bl_total _ _ (h1.resolve_left (by omega)) (h2.resolve_left (by omega)))

/-- ahead, and not behind -/
theorem klt_le {a b c : ByteArray} (h1 : klt a b = true) (h2 : klt c b = false) : klt a c = true := by
  cases h3 : klt b c with
  | true => exact klt_trans h1 h3
  | false => rw [← klt_total h3 h2]; exact h1
theorem le_klt {a b c : ByteArray} (h1 : klt b a = false) (h2 : klt b c = true) : klt a c = true := by
  cases h3 : klt a b with
  | true => exact klt_trans h3 h2
  | false => rw [klt_total h3 h1]; exact h2
theorem le_le {a b c : ByteArray} (h1 : klt b a = false) (h2 : klt c b = false) : klt c a = false := by
  cases h3 : klt c a with
  | false => rfl
  | true => have := klt_le h3 h1; rw [this] at h2; cases h2

theorem rcmp_neg (a b : ByteArray) : rcmpV a b < 0 ↔ klt a b = true := by unfold klt; simp
theorem rcmp_pos (a b : ByteArray) : 0 < rcmpV a b ↔ klt b a = true := by
  rw [klt_cases]
  by_cases h : a.size = b.size
  · have := rcmp_le a b h
    constructor
    · intro h0
      rw [decide_eq_false (by omega)] at this
      exact .inr ⟨h.symm, by simpa using this⟩
    · rintro (h1 | ⟨_, h1⟩)
      · omega
      · rw [h1] at this
        have := of_decide_eq_false this
        omega
  · by_cases h2 : a.size < b.size
    · rw [rcmp_far_lt a b h2]
      exact ⟨fun h => absurd h (by decide), fun h => by omega⟩
    · rw [rcmp_far_gt a b (by omega)]
      exact ⟨fun _ => .inl (by omega), fun _ => by decide⟩
theorem rcmp_le0 (a b : ByteArray) : rcmpV a b ≤ 0 ↔ klt b a = false := by
  rw [← Bool.not_eq_true, ← rcmp_pos]; omega

theorem place_is (f t c : ByteArray) : placeV f t c = if klt t c = true then -1 else if klt c f = true then 1 else 0 := by
  unfold placeV
  by_cases h : klt t c = true
  · rw [if_pos h, if_pos ((rcmp_neg _ _).2 h)]
  · rw [if_neg h, if_neg (fun k => h ((rcmp_neg _ _).1 k))]
    by_cases h2 : klt c f = true
    · rw [if_pos h2, if_pos ((rcmp_pos _ _).2 h2)]
    · rw [if_neg h2, if_neg (fun k => h2 ((rcmp_pos _ _).1 k))]

/-- A range that may be (as far as its ends go). -/
structure VR (r : Rng) : Prop where
  f : cardOk r.f = true
  t : cardOk r.t = true
  s : r.f.size = r.t.size
  o : klt r.t r.f = false

def TabOk (l : List Rng) : Prop := (∀ r ∈ l, VR r) ∧ l.Pairwise (fun x y => klt x.t y.f = true)

theorem TabOk.tail {r : Rng} {l : List Rng} (h : TabOk (r :: l)) : TabOk l := ⟨fun x hx => h.1 x (List.mem_cons_of_mem _ hx), (List.pairwise_cons.1 h.2).2⟩
theorem TabOk.nil : TabOk [] := ⟨fun _ h => absurd h List.not_mem_nil, List.Pairwise.nil⟩

/-- how many stand ahead of a card -/
def posOf : List Rng → ByteArray → Nat
  | [], _ => 0
  | r :: l, c => if klt r.t c = true then posOf l c + 1 else 0

theorem pos_le : ∀ (l : List Rng) (c : ByteArray), posOf l c ≤ l.length
  | [], _ => Nat.le_refl _
  | r :: l, c => by unfold posOf; have := pos_le l c; split <;> simp <;> omega

theorem pos_lt : ∀ (l : List Rng) (c : ByteArray) (j : Nat) (h : j < l.length), j < posOf l c → klt l[j].t c = true
  | r :: l, c, 0, _, hp => by
    unfold posOf at hp
    by_cases h : klt r.t c = true
    · exact h
    · rw [if_neg h] at hp; omega
  | r :: l, c, j + 1, hj, hp => by
    unfold posOf at hp
    by_cases h : klt r.t c = true
    · rw [if_pos h] at hp; exact pos_lt l c j (by simpa using hj) (by omega)
    · rw [if_neg h] at hp; omega

theorem pos_ge : ∀ (l : List Rng) (c : ByteArray), TabOk l → ∀ (j : Nat) (h : j < l.length), posOf l c ≤ j → klt l[j].t c = false
  | r :: l, c, hl, 0, _, hp => by
    unfold posOf at hp
    by_cases h : klt r.t c = true
    · rw [if_pos h] at hp; omega
    · simpa using h
  | r :: l, c, hl, j + 1, hj, hp => by
    have hj' : j < l.length := by simpa using hj
    unfold posOf at hp
    by_cases h : klt r.t c = true
    · rw [if_pos h] at hp; exact pos_ge l c hl.tail j hj' (by omega)
    · have h1 := (List.pairwise_cons.1 hl.2).1 l[j] (List.getElem_mem hj')
      have h2 := (hl.1 l[j] (List.mem_cons_of_mem _ (List.getElem_mem hj'))).o
      show klt l[j].t c = false
      exact le_le (by simpa using h) (le_le (klt_asymm h1) h2)

theorem bsGo_pos (l : List Rng) (c : ByteArray) (hl : TabOk l) : ∀ (d i j : Nat), j - i = d → i ≤ posOf l c → posOf l c ≤ j → j ≤ l.length → bsGo l c i j = posOf l c := by
  intro d
  induction d using Nat.strongRecOn with
  | _ d ih =>
    intro i j hd h1 h2 h3
    rw [bsGo]
    by_cases h : i < j
    · rw [dif_pos h]
      have hm : (i + j) / 2 < l.length := by omega
      have hg : l.getD ((i + j) / 2) ⟨c, c, c, c, c, 0⟩ = l[(i + j) / 2] := by simp [List.getD, hm]
      rw [hg]
      cases hk : klt l[(i + j) / 2].t c with
      | true =>
        rw [if_pos (by rw [place_is, if_pos hk]; decide)]
        have : (i + j) / 2 < posOf l c := by
          rcases Nat.lt_or_ge ((i + j) / 2) (posOf l c) with h | h
          · exact h
          · have := pos_ge l c hl _ hm h; rw [hk] at this; cases this
        exact ih _ (by omega) _ _ rfl (by omega) h2 h3
      | false =>
        have : posOf l c ≤ (i + j) / 2 := by
          rcases Nat.lt_or_ge ((i + j) / 2) (posOf l c) with h | h
          · have := pos_lt l c _ hm h; rw [hk] at this; cases this
          · exact h
        rw [if_neg (by rw [place_is, if_neg (by rw [hk]; decide)]; split <;> decide)]
        exact ih _ (by omega) _ _ rfl h1 (by omega) (by omega)
    · rw [dif_neg h]; omega

theorem bs_pos (l : List Rng) (c : ByteArray) (hl : TabOk l) : bsGo l c 0 l.length = posOf l c := bsGo_pos l c hl _ 0 _ rfl (Nat.zero_le _) (pos_le l c) (Nat.le_refl _)

/-- What Add asks of the place that it has found. -/
def clash (l : List Rng) (r : Rng) : Bool := bsHit l r.f (bsGo l r.f 0 l.length) || (if h : bsGo l r.f 0 l.length < l.length then decide (rcmpV l[bsGo l r.f 0 l.length].f r.t ≤ 0) else false)
def addE (l : List Rng) (r : Rng) : Int := if checkV r.f r.t r.n r.lo r.hi r.m = 0 then (if 64 ≤ l.length then 6 else if clash l r = true then 17 else 0) else checkV r.f r.t r.n r.lo r.hi r.m
def addL (l : List Rng) (r : Rng) : List Rng := l.take (bsGo l r.f 0 l.length) ++ [r] ++ l.drop (bsGo l r.f 0 l.length)

/-- Is a range apart from all? -/
def free (l : List Rng) (r : Rng) : Prop := ∀ x ∈ l, klt x.t r.f = true ∨ klt r.t x.f = true

theorem clash_free (l : List Rng) (r : Rng) (hl : TabOk l) (hr : klt r.t r.f = false) : clash l r = false ↔ free l r := by
  unfold clash bsHit
  rw [bs_pos l r.f hl]
  by_cases h : posOf l r.f < l.length
  · rw [dif_pos h, dif_pos h, place_is, if_neg (by rw [pos_ge l r.f hl _ h (Nat.le_refl _)]; decide)]
    have e1 : decide (rcmpV l[posOf l r.f].f r.t ≤ 0) = !(klt r.t l[posOf l r.f].f) := by
      cases hk : klt r.t l[posOf l r.f].f with
      | true => exact decide_eq_false (fun k => by rw [(rcmp_le0 _ _).1 k] at hk; cases hk)
      | false => exact decide_eq_true ((rcmp_le0 _ _).2 hk)
    rw [e1]
    constructor
    · intro hc x hx
      rw [Bool.or_eq_false_iff] at hc
      have hk : klt r.t l[posOf l r.f].f = true := by simpa using hc.2
      obtain ⟨j, hj, rfl⟩ := List.getElem_of_mem hx
      rcases Nat.lt_or_ge j (posOf l r.f) with hp | hp
      · exact .inl (pos_lt l r.f j hj hp)
      · refine .inr ?_
        rcases Nat.eq_or_lt_of_le hp with e | hlt
        · subst e; exact hk
        · have := List.pairwise_iff_getElem.1 hl.2 _ _ h hj hlt
          exact klt_trans hk (le_klt (hl.1 _ (List.getElem_mem h)).o this)
    · intro hf
      have hk : klt r.t l[posOf l r.f].f = true := by
        rcases hf _ (List.getElem_mem h) with h1 | h1
        · rw [pos_ge l r.f hl _ h (Nat.le_refl _)] at h1; cases h1
        · exact h1
      have hk2 : klt r.f l[posOf l r.f].f = true := le_klt hr hk
      rw [hk, if_pos hk2]
      rfl
  · rw [dif_neg h, dif_neg h]
    refine ⟨fun _ x hx => ?_, fun _ => rfl⟩
    obtain ⟨j, hj, rfl⟩ := List.getElem_of_mem hx
    exact .inl (pos_lt l r.f j hj (by omega))

theorem addL_ok (l : List Rng) (r : Rng) (hl : TabOk l) (hr : VR r) (hf : free l r) : TabOk (addL l r) := by
  unfold addL
  rw [bs_pos l r.f hl]
  refine ⟨fun x hx => ?_, ?_⟩
  · simp only [List.mem_append, List.mem_singleton] at hx
    rcases hx with (hx | rfl) | hx
    · exact hl.1 x (List.mem_of_mem_take hx)
    · exact hr
    · exact hl.1 x (List.mem_of_mem_drop hx)
  · have hd : ∀ x ∈ l.drop (posOf l r.f), klt r.t x.f = true := by
      intro x hx
      obtain ⟨j, hj, rfl⟩ := List.getElem_of_mem hx
      rw [List.length_drop] at hj
      rw [List.getElem_drop]
      rcases hf _ (List.getElem_mem (l := l) (n := posOf l r.f + j) (by omega)) with h | h
      · rw [pos_ge l r.f hl _ (by omega) (by omega)] at h; cases h
      · exact h
    have ht : ∀ x ∈ l.take (posOf l r.f), klt x.t r.f = true := by
      intro x hx
      obtain ⟨j, hj, rfl⟩ := List.getElem_of_mem hx
      rw [List.length_take] at hj
      rw [List.getElem_take]
      exact pos_lt l r.f _ (by omega) (by omega)
    rw [List.append_assoc, List.pairwise_append]
    refine ⟨hl.2.sublist (List.take_sublist _ _), ?_, ?_⟩
    · rw [List.singleton_append, List.pairwise_cons]
      exact ⟨hd, hl.2.sublist (List.drop_sublist _ _)⟩
    · intro x hx y hy
      simp only [List.singleton_append, List.mem_cons] at hy
      rcases hy with rfl | hy
      · exact ht x hx
      · exact klt_trans (ht x hx) (le_klt hr.o (hd y hy))

theorem addL_len (l : List Rng) (r : Rng) : (addL l r).length = l.length + 1 := by
  unfold addL; simp; omega
end Go.Proofs.YtiggnmhoececfaaGreatDoor

namespace Go.Proofs.YtiggnmhoececfaaGreatDoor
set_option linter.unusedVariables false
set_option linter.unusedSimpArgs false
open Go.RowKit Go.Proofs.YtiggnmhoececfaaGreatDoorW.PrintWords

theorem bsearch_nil (c : ByteArray) (A : Option Addr) (cap : Nat) (w : World) :
    Calls Tryz.prog 55 #[.slice A 0 cap, .string c, .func (.func 56) #[] #[]] w fun e w' =>
      e = .returned (.tuple #[.int .i64 0, .bool false]) ∧ Below w.heap.size w w' := by
  go_enter Tryz.func55, Tryz.ntmps55
  go_wp2
  go_loopw [9, 10] (fun vi vj wr => vi = .int .i64 0 ∧ vj = .int .i64 0 ∧ wr = w) (fun _ _ _ => 0)
  case atStart => exact ⟨rfl, rfl, rfl⟩
  case round =>
    obtain ⟨rfl, rfl, rfl⟩ := hrel
    go_wp2
    go_ret2
    exact ⟨rfl, Below.refl _ _⟩

theorem place_any (A : Option Addr) (n cap : Nat) (c : ByteArray) (x : Int) (hit : Bool) (w : World)
    (h : ∀ W, Below w.heap.size w W → Calls Tryz.prog 55 #[.slice A n cap, .string c, .func (.func 56) #[] #[]] W fun e w' => e = .returned (.tuple #[.int .i64 x, .bool hit]) ∧ Below W.heap.size W w') :
    Calls Tryz.prog 42 #[.agg #[.slice A n cap], .string c] w fun e w' => e = .returned (.tuple #[.int .i64 x, .bool hit]) ∧ Below w.heap.size w w' := by
  have HB := Lib.hid (below_alloc (Below.refl w.heap.size w) (.cells #[.slice A n cap] 36))
  have H1 := Lib.hid (h _ HB.out)
  go_enter Tryz.func42, Tryz.ntmps42
  go_wp2_with (go_at_call 55; go_must (refine H1.out.mono ?_); rintro e w1 ⟨rfl, hb⟩)
  go_ret2
  exact ⟨rfl, below_step HB.out hb⟩

end Go.Proofs.YtiggnmhoececfaaGreatDoor

namespace Go.Proofs.YtiggnmhoececfaaGreatDoor
set_option linter.unusedVariables false
set_option linter.unusedSimpArgs false
open Go.RowKit Go.Proofs.YtiggnmhoececfaaGreatDoorW.PrintWords

def ClonePost (l : List Rng) (w : World) (e : Ending) (w' : World) : Prop :=
  ∃ v', e = .returned v' ∧ w'.ownsRow w.heap.size 23 6 v' l.length (rcells l) ∧ Below w.heap.size w w'

set_option maxHeartbeats 2000000 in
set_option maxRecDepth 100000 in
theorem clone_any (v : Value) (l : List Rng) (w : World) (h : Tab w v l) (hl : l.length ≤ 1000) :
    Calls Tryz.prog 41 #[v] w (ClonePost l w) := by
  have q : ∀ (w : World) (a : Option Addr) (n c n' c' : Nat), (binOp .eql 34 (.slice a n c) (.slice none n' c')).run Tryz.prog w = .ok (.bool a.isNone) w := fun w a n c n' c' => Lib.run_eql_slice_nil w _ _ a n c n' c' Tryz.underlying34
  rcases h with ⟨rfl, rfl⟩ | ⟨g, cap, rfl, hc, hm, hg, hcell⟩
  · go_enter Tryz.func41, Tryz.ntmps41
    go_wp2
    go_ret
    exact ⟨_, rfl, World.ownsRow_nil _ _ _ _, Below.refl _ _⟩
  · obtain ⟨i0, hi0, hz0, hz1, hz2⟩ := info_parts info_range
    have HC := Lib.hid hcell
    have HL := Lib.hid (rcells_len l)
    have H1 := Lib.hid (rcells_oneCell l)
    unfold maxLen at hm
    clear hcell
    go_enter Tryz.func41, Tryz.ntmps41
    go_wp2_with (at_builtin; refine wpList_append_own _ rfl _ _ 34 rfl w.heap.size 23 i0 _ 6 88 Tryz.underlying34 hi0 hz0 hz1 hz2 rfl (by decide) _ _ _ rfl (World.ownsRow_made w #[] 0 (Nat.le_refl _) (Nat.zero_le _) (by simp)) ⟨g, 0, none⟩ l.length cap (rcells l) rfl HL.out (fun j u hj => by rw [Addr.add_lit, Nat.zero_add]; exact cellBelow (below_alloc (Below.refl _ w) _) (HC.out j u hj)) H1.out (by unfold maxLen; omega) (by omega) (by simp) ?_)
    intro v' w1 hown hgrow hnil
    go_wp2
    go_ret
    refine ⟨v', rfl, by simpa using hown, ?_⟩
    exact ((Below.refl _ w).alloc (Nat.le_refl _) _).grown hgrow (by simp) (by intro k hk; simp [Value.ownBlock] at hk; omega)

/-- What place answers of a table. -/
theorem place_tab (v : Value) (l : List Rng) (c : ByteArray) (w : World) (h : Tab w v l) (hl : l.length ≤ 1000) :
    Calls Tryz.prog 42 #[.agg #[v], .string c] w fun e w' => e = .returned (.tuple #[.int .i64 (bsGo l c 0 l.length : Nat), .bool (bsHit l c (bsGo l c 0 l.length))]) ∧ Below w.heap.size w w' := by
  rcases h with ⟨rfl, rfl⟩ | ⟨g, cap, rfl, hc, hm, hg, hcell⟩
  · refine place_any none 0 0 c _ _ w (fun W hW => ?_)
    have := bsearch_nil c none 0 W
    rw [show bsGo [] c 0 ([] : List Rng).length = 0 by rw [bsGo]; rfl]
    exact this
  · exact place_any _ _ _ c _ _ w (fun W hW => bsearch_any l c g cap W hl (Tab.rngs (fun j u hj => cellBelow hW (hcell j u hj))))

def AddPost (l : List Rng) (r : Rng) (w : World) (e : Ending) (w' : World) : Prop :=
  ∃ v', e = .returned (.tuple #[.agg #[v'], .int .i64 (addE l r)]) ∧ Tab w' v' (if addE l r = 0 then addL l r else []) ∧ Below w.heap.size w w' ∧ (∀ k, v'.ownBlock = some k → w.heap.size ≤ k)

set_option maxHeartbeats 2000000 in
set_option maxRecDepth 100000 in
theorem add_fault (v : Value) (f t n lo hi : ByteArray) (m E : Int) (w : World) (hG : Glob w)
    (hE : E ≠ 0) (hc : ∀ W, Glob W → Calls Tryz.prog 9 #[.agg #[.string f, .string t, .string n, .string lo, .string hi, .int .i64 m]] W fun e w' => e = .returned (.int .i64 E) ∧ Below W.heap.size W w') :
    Calls Tryz.prog 19 #[.agg #[v], .agg #[.string f, .string t, .string n, .string lo, .string hi, .int .i64 m]] w fun e w' => e = .returned (.tuple #[.agg #[.slice none 0 0], .int .i64 E]) ∧ Below w.heap.size w w' := by
  have F0 := Lib.hid (show (((w.alloc (.cells #[v] 36)).alloc (.cells #[.string f, .string t, .string n, .string lo, .string hi, .int .i64 m] 23)).alloc (.cells #[.slice none 0 0] 36)).heap[w.heap.size]? = some (.cells #[v] 36) from allocs_get w [.cells #[v] 36, .cells #[.string f, .string t, .string n, .string lo, .string hi, .int .i64 m] 23, .cells #[.slice none 0 0] 36] 0 _ rfl); have F1 := Lib.hid (show (((w.alloc (.cells #[v] 36)).alloc (.cells #[.string f, .string t, .string n, .string lo, .string hi, .int .i64 m] 23)).alloc (.cells #[.slice none 0 0] 36)).heap[w.heap.size + 1]? = some (.cells #[.string f, .string t, .string n, .string lo, .string hi, .int .i64 m] 23) from allocs_get w [.cells #[v] 36, .cells #[.string f, .string t, .string n, .string lo, .string hi, .int .i64 m] 23, .cells #[.slice none 0 0] 36] 1 _ rfl); have F2 := Lib.hid (show (((w.alloc (.cells #[v] 36)).alloc (.cells #[.string f, .string t, .string n, .string lo, .string hi, .int .i64 m] 23)).alloc (.cells #[.slice none 0 0] 36)).heap[w.heap.size + 1 + 1]? = some (.cells #[.slice none 0 0] 36) from allocs_get w [.cells #[v] 36, .cells #[.string f, .string t, .string n, .string lo, .string hi, .int .i64 m] 23, .cells #[.slice none 0 0] 36] 2 _ rfl); have B := Lib.hid (show Below w.heap.size w (((w.alloc (.cells #[v] 36)).alloc (.cells #[.string f, .string t, .string n, .string lo, .string hi, .int .i64 m] 23)).alloc (.cells #[.slice none 0 0] 36)) from allocs_below w [.cells #[v] 36, .cells #[.string f, .string t, .string n, .string lo, .string hi, .int .i64 m] 23, .cells #[.slice none 0 0] 36])
  have HC := Lib.hid hc
  have k1 : (E != 0) = true := by simpa using hE
  clear hc hE
  go_enter Tryz.func19, Tryz.ntmps19
  go_wp2_with (go_at_call 9; go_must (refine (HC.out _ (hG.below B.out)).mono ?_); rintro e w1 ⟨rfl, hb⟩; replace B := Lib.hid (below_step B.out hb); replace F0 := Lib.hid (blk_below F0.out hb); replace F0_0 := blkc F0.out 0 rfl; replace F2 := Lib.hid (blk_below F2.out hb); replace F2_0 := blkc F2.out 0 rfl; replace F2_f := blk_frozen F2.out 0; clear hb)
  have F2_0 := blkc (blk_set F2.out 0 (.slice none 0 0)) 0 rfl
  exact bodyPost_ret (v := .tuple #[.agg #[.slice none 0 0], .int .i64 E]) (by simp [results, Tryz.results19, go_sem, F2_0]) rfl ⟨rfl, B.out.setCell (by simp; omega) _⟩

set_option maxHeartbeats 2000000 in
set_option maxRecDepth 100000 in
theorem add_many (A : Option Addr) (N c : Nat) (f t n lo hi : ByteArray) (m : Int) (w : World) (hG : Glob w) (hN : 64 ≤ N)
    (hc : ∀ W, Glob W → Calls Tryz.prog 9 #[.agg #[.string f, .string t, .string n, .string lo, .string hi, .int .i64 m]] W fun e w' => e = .returned (.int .i64 0) ∧ Below W.heap.size W w') :
    Calls Tryz.prog 19 #[.agg #[.slice A N c], .agg #[.string f, .string t, .string n, .string lo, .string hi, .int .i64 m]] w fun e w' => e = .returned (.tuple #[.agg #[.slice none 0 0], .int .i64 6]) ∧ Below w.heap.size w w' := by
  have F0 := Lib.hid (show (((w.alloc (.cells #[.slice A N c] 36)).alloc (.cells #[.string f, .string t, .string n, .string lo, .string hi, .int .i64 m] 23)).alloc (.cells #[.slice none 0 0] 36)).heap[w.heap.size]? = some (.cells #[.slice A N c] 36) from allocs_get w [.cells #[.slice A N c] 36, .cells #[.string f, .string t, .string n, .string lo, .string hi, .int .i64 m] 23, .cells #[.slice none 0 0] 36] 0 _ rfl); have F1 := Lib.hid (show (((w.alloc (.cells #[.slice A N c] 36)).alloc (.cells #[.string f, .string t, .string n, .string lo, .string hi, .int .i64 m] 23)).alloc (.cells #[.slice none 0 0] 36)).heap[w.heap.size + 1]? = some (.cells #[.string f, .string t, .string n, .string lo, .string hi, .int .i64 m] 23) from allocs_get w [.cells #[.slice A N c] 36, .cells #[.string f, .string t, .string n, .string lo, .string hi, .int .i64 m] 23, .cells #[.slice none 0 0] 36] 1 _ rfl); have F2 := Lib.hid (show (((w.alloc (.cells #[.slice A N c] 36)).alloc (.cells #[.string f, .string t, .string n, .string lo, .string hi, .int .i64 m] 23)).alloc (.cells #[.slice none 0 0] 36)).heap[w.heap.size + 1 + 1]? = some (.cells #[.slice none 0 0] 36) from allocs_get w [.cells #[.slice A N c] 36, .cells #[.string f, .string t, .string n, .string lo, .string hi, .int .i64 m] 23, .cells #[.slice none 0 0] 36] 2 _ rfl); have B := Lib.hid (show Below w.heap.size w (((w.alloc (.cells #[.slice A N c] 36)).alloc (.cells #[.string f, .string t, .string n, .string lo, .string hi, .int .i64 m] 23)).alloc (.cells #[.slice none 0 0] 36)) from allocs_below w [.cells #[.slice A N c] 36, .cells #[.string f, .string t, .string n, .string lo, .string hi, .int .i64 m] 23, .cells #[.slice none 0 0] 36])
  have HC := Lib.hid hc
  have k2 : decide ((64 : Int) ≤ (N : Int)) = true := decide_eq_true (by omega)
  clear hc hN
  go_enter Tryz.func19, Tryz.ntmps19
  go_wp2_with (go_at_call 9; go_must (refine (HC.out _ (hG.below B.out)).mono ?_); rintro e w1 ⟨rfl, hb⟩; replace B := Lib.hid (below_step B.out hb); replace F0 := Lib.hid (blk_below F0.out hb); replace F0_0 := blkc F0.out 0 rfl; replace F1 := Lib.hid (blk_below F1.out hb); replace F1_0 := blkc F1.out 0 rfl; replace F1_1 := blkc F1.out 1 rfl; replace F1_2 := blkc F1.out 2 rfl; replace F1_3 := blkc F1.out 3 rfl; replace F1_4 := blkc F1.out 4 rfl; replace F1_5 := blkc F1.out 5 rfl; replace F2 := Lib.hid (blk_below F2.out hb); replace F2_0 := blkc F2.out 0 rfl; replace F2_f := blk_frozen F2.out 0; clear hb)
  have F2_0 := blkc (blk_set F2.out 0 (.slice none 0 0)) 0 rfl
  exact bodyPost_ret (v := .tuple #[.agg #[.slice none 0 0], .int .i64 6]) (by simp [results, Tryz.results19, go_sem, F2_0]) rfl ⟨rfl, B.out.setCell (by simp; omega) _⟩

set_option maxHeartbeats 2000000 in
set_option maxRecDepth 100000 in
theorem add_hit (A : Option Addr) (N c : Nat) (f t n lo hi : ByteArray) (m i : Int) (w : World) (hG : Glob w) (hN : N < 64)
    (hc : ∀ W, Glob W → Calls Tryz.prog 9 #[.agg #[.string f, .string t, .string n, .string lo, .string hi, .int .i64 m]] W fun e w' => e = .returned (.int .i64 0) ∧ Below W.heap.size W w')
    (hp : ∀ W, Below w.heap.size w W → Calls Tryz.prog 42 #[.agg #[.slice A N c], .string f] W fun e w' => e = .returned (.tuple #[.int .i64 i, .bool true]) ∧ Below W.heap.size W w') :
    Calls Tryz.prog 19 #[.agg #[.slice A N c], .agg #[.string f, .string t, .string n, .string lo, .string hi, .int .i64 m]] w fun e w' => e = .returned (.tuple #[.agg #[.slice none 0 0], .int .i64 17]) ∧ Below w.heap.size w w' := by
  have F0 := Lib.hid (show (((w.alloc (.cells #[.slice A N c] 36)).alloc (.cells #[.string f, .string t, .string n, .string lo, .string hi, .int .i64 m] 23)).alloc (.cells #[.slice none 0 0] 36)).heap[w.heap.size]? = some (.cells #[.slice A N c] 36) from allocs_get w [.cells #[.slice A N c] 36, .cells #[.string f, .string t, .string n, .string lo, .string hi, .int .i64 m] 23, .cells #[.slice none 0 0] 36] 0 _ rfl); have F1 := Lib.hid (show (((w.alloc (.cells #[.slice A N c] 36)).alloc (.cells #[.string f, .string t, .string n, .string lo, .string hi, .int .i64 m] 23)).alloc (.cells #[.slice none 0 0] 36)).heap[w.heap.size + 1]? = some (.cells #[.string f, .string t, .string n, .string lo, .string hi, .int .i64 m] 23) from allocs_get w [.cells #[.slice A N c] 36, .cells #[.string f, .string t, .string n, .string lo, .string hi, .int .i64 m] 23, .cells #[.slice none 0 0] 36] 1 _ rfl); have F2 := Lib.hid (show (((w.alloc (.cells #[.slice A N c] 36)).alloc (.cells #[.string f, .string t, .string n, .string lo, .string hi, .int .i64 m] 23)).alloc (.cells #[.slice none 0 0] 36)).heap[w.heap.size + 1 + 1]? = some (.cells #[.slice none 0 0] 36) from allocs_get w [.cells #[.slice A N c] 36, .cells #[.string f, .string t, .string n, .string lo, .string hi, .int .i64 m] 23, .cells #[.slice none 0 0] 36] 2 _ rfl); have B := Lib.hid (show Below w.heap.size w (((w.alloc (.cells #[.slice A N c] 36)).alloc (.cells #[.string f, .string t, .string n, .string lo, .string hi, .int .i64 m] 23)).alloc (.cells #[.slice none 0 0] 36)) from allocs_below w [.cells #[.slice A N c] 36, .cells #[.string f, .string t, .string n, .string lo, .string hi, .int .i64 m] 23, .cells #[.slice none 0 0] 36])
  have HC := Lib.hid hc
  have HP := Lib.hid hp
  have k2 : decide ((64 : Int) ≤ (N : Int)) = false := decide_eq_false (by omega)
  clear hc hN hp
  go_enter Tryz.func19, Tryz.ntmps19
  go_wp2_with (first | (go_at_call 9; go_must (refine (HC.out _ (hG.below B.out)).mono ?_); rintro e w1 ⟨rfl, hb⟩; replace B := Lib.hid (below_step B.out hb); replace F0 := Lib.hid (blk_below F0.out hb); replace F0_0 := blkc F0.out 0 rfl; replace F1 := Lib.hid (blk_below F1.out hb); replace F1_0 := blkc F1.out 0 rfl; replace F1_1 := blkc F1.out 1 rfl; replace F1_2 := blkc F1.out 2 rfl; replace F1_3 := blkc F1.out 3 rfl; replace F1_4 := blkc F1.out 4 rfl; replace F1_5 := blkc F1.out 5 rfl; replace F2 := Lib.hid (blk_below F2.out hb); replace F2_0 := blkc F2.out 0 rfl; replace F2_f := blk_frozen F2.out 0; clear hb) | (go_at_call 42; go_must (refine (HP.out _ B.out).mono ?_); rintro e w2 ⟨rfl, hb⟩; replace B := Lib.hid (below_step B.out hb); replace F0 := Lib.hid (blk_below F0.out hb); replace F0_0 := blkc F0.out 0 rfl; replace F1 := Lib.hid (blk_below F1.out hb); replace F1_0 := blkc F1.out 0 rfl; replace F1_1 := blkc F1.out 1 rfl; replace F1_2 := blkc F1.out 2 rfl; replace F1_3 := blkc F1.out 3 rfl; replace F1_4 := blkc F1.out 4 rfl; replace F1_5 := blkc F1.out 5 rfl; replace F2 := Lib.hid (blk_below F2.out hb); replace F2_0 := blkc F2.out 0 rfl; replace F2_f := blk_frozen F2.out 0; clear hb))
  refine wp_region_quiet_below (by kernel_rfl) (by kernel_rfl) ?_
  repeat (first | go_big_quiet_step (first | (fail)) | quiet_step (first | (fail)))
  refine wpQuiet_nil ?_
  intro _ hw'
  obtain ⟨⟨dq, osq⟩, hw''⟩ := hw'
  subst hw''
  have hb := below_regrown w2 dq osq
  generalize Go.Sort.grow (redrawn w2 dq) osq = w3 at hb ⊢
  replace B := Lib.hid (below_step B.out hb); replace F2 := Lib.hid (blk_below F2.out hb); replace F2_0 := blkc F2.out 0 rfl; replace F2_f := blk_frozen F2.out 0; clear hb
  go_wp2
  have F2_0 := blkc (blk_set F2.out 0 (.slice none 0 0)) 0 rfl
  exact bodyPost_ret (v := .tuple #[.agg #[.slice none 0 0], .int .i64 17]) (by simp [results, Tryz.results19, go_sem, F2_0]) rfl ⟨rfl, B.out.setCell (by simp; omega) _⟩

set_option maxHeartbeats 2000000 in
set_option maxRecDepth 100000 in
theorem add_clash (g N c i : Nat) (f t n lo hi xf : ByteArray) (m : Int) (w : World) (hG : Glob w) (hN : N < 64) (hi' : i < N) (hx : w.cell? ⟨g, i * 6, none⟩ = some (.string xf)) (hcmp : rcmpV xf t ≤ 0)
    (hc : ∀ W, Glob W → Calls Tryz.prog 9 #[.agg #[.string f, .string t, .string n, .string lo, .string hi, .int .i64 m]] W fun e w' => e = .returned (.int .i64 0) ∧ Below W.heap.size W w')
    (hp : ∀ W, Below w.heap.size w W → Calls Tryz.prog 42 #[.agg #[.slice (some ⟨g, 0, none⟩) N c], .string f] W fun e w' => e = .returned (.tuple #[.int .i64 i, .bool false]) ∧ Below W.heap.size W w') :
    Calls Tryz.prog 19 #[.agg #[.slice (some ⟨g, 0, none⟩) N c], .agg #[.string f, .string t, .string n, .string lo, .string hi, .int .i64 m]] w fun e w' => e = .returned (.tuple #[.agg #[.slice none 0 0], .int .i64 17]) ∧ Below w.heap.size w w' := by
  have F0 := Lib.hid (show (((w.alloc (.cells #[.slice (some ⟨g, 0, none⟩) N c] 36)).alloc (.cells #[.string f, .string t, .string n, .string lo, .string hi, .int .i64 m] 23)).alloc (.cells #[.slice none 0 0] 36)).heap[w.heap.size]? = some (.cells #[.slice (some ⟨g, 0, none⟩) N c] 36) from allocs_get w [.cells #[.slice (some ⟨g, 0, none⟩) N c] 36, .cells #[.string f, .string t, .string n, .string lo, .string hi, .int .i64 m] 23, .cells #[.slice none 0 0] 36] 0 _ rfl); have F1 := Lib.hid (show (((w.alloc (.cells #[.slice (some ⟨g, 0, none⟩) N c] 36)).alloc (.cells #[.string f, .string t, .string n, .string lo, .string hi, .int .i64 m] 23)).alloc (.cells #[.slice none 0 0] 36)).heap[w.heap.size + 1]? = some (.cells #[.string f, .string t, .string n, .string lo, .string hi, .int .i64 m] 23) from allocs_get w [.cells #[.slice (some ⟨g, 0, none⟩) N c] 36, .cells #[.string f, .string t, .string n, .string lo, .string hi, .int .i64 m] 23, .cells #[.slice none 0 0] 36] 1 _ rfl); have F2 := Lib.hid (show (((w.alloc (.cells #[.slice (some ⟨g, 0, none⟩) N c] 36)).alloc (.cells #[.string f, .string t, .string n, .string lo, .string hi, .int .i64 m] 23)).alloc (.cells #[.slice none 0 0] 36)).heap[w.heap.size + 1 + 1]? = some (.cells #[.slice none 0 0] 36) from allocs_get w [.cells #[.slice (some ⟨g, 0, none⟩) N c] 36, .cells #[.string f, .string t, .string n, .string lo, .string hi, .int .i64 m] 23, .cells #[.slice none 0 0] 36] 2 _ rfl); have B := Lib.hid (show Below w.heap.size w (((w.alloc (.cells #[.slice (some ⟨g, 0, none⟩) N c] 36)).alloc (.cells #[.string f, .string t, .string n, .string lo, .string hi, .int .i64 m] 23)).alloc (.cells #[.slice none 0 0] 36)) from allocs_below w [.cells #[.slice (some ⟨g, 0, none⟩) N c] 36, .cells #[.string f, .string t, .string n, .string lo, .string hi, .int .i64 m] 23, .cells #[.slice none 0 0] 36])
  have HC := Lib.hid hc
  have HP := Lib.hid hp
  have HX := Lib.hid hx
  have CM := Lib.hid (fun W => (rcmp_any xf t W).mono fun e w' h => (⟨h.1, by rw [h.2]; exact Below.refl _ _⟩ : e = .returned (.int .i64 (rcmpV xf t)) ∧ Below W.heap.size W w'))
  have k2 : decide ((64 : Int) ≤ (N : Int)) = false := decide_eq_false (by omega)
  have k3 : decide (rcmpV xf t ≤ 0) = true := decide_eq_true hcmp
  have k4 : decide ((i : Int) < (N : Int)) = true := decide_eq_true (by omega)
  have k5 : decide (i < N) = true := decide_eq_true hi'
  clear hc hN hp hx hcmp
  go_enter Tryz.func19, Tryz.ntmps19
  go_wp2_with (first | (go_at_call 9; go_must (refine (HC.out _ (hG.below B.out)).mono ?_); rintro e w1 ⟨rfl, hb⟩; replace B := Lib.hid (below_step B.out hb); replace F0 := Lib.hid (blk_below F0.out hb); replace F0_0 := blkc F0.out 0 rfl; replace F1 := Lib.hid (blk_below F1.out hb); replace F1_0 := blkc F1.out 0 rfl; replace F1_1 := blkc F1.out 1 rfl; replace F1_2 := blkc F1.out 2 rfl; replace F1_3 := blkc F1.out 3 rfl; replace F1_4 := blkc F1.out 4 rfl; replace F1_5 := blkc F1.out 5 rfl; replace F2 := Lib.hid (blk_below F2.out hb); replace F2_0 := blkc F2.out 0 rfl; replace F2_f := blk_frozen F2.out 0; clear hb) | (go_at_call 42; go_must (refine (HP.out _ B.out).mono ?_); rintro e w2 ⟨rfl, hb⟩; replace B := Lib.hid (below_step B.out hb); replace F0 := Lib.hid (blk_below F0.out hb); replace F0_0 := blkc F0.out 0 rfl; replace F1 := Lib.hid (blk_below F1.out hb); replace F1_0 := blkc F1.out 0 rfl; replace F1_1 := blkc F1.out 1 rfl; replace F1_2 := blkc F1.out 2 rfl; replace F1_3 := blkc F1.out 3 rfl; replace F1_4 := blkc F1.out 4 rfl; replace F1_5 := blkc F1.out 5 rfl; replace F2 := Lib.hid (blk_below F2.out hb); replace F2_0 := blkc F2.out 0 rfl; replace F2_f := blk_frozen F2.out 0; clear hb))
  have q0 := fun d os => cell_regrown F0_0 d os
  have q1 := fun d os => cell_regrown F1_1 d os
  have q2 := fun d os => cell_regrown (cellBelow B.out HX.out) d os
  refine wp_region_quiet_below (by kernel_rfl) (by kernel_rfl) ?_
  repeat (first | go_big_quiet_step (first | (go_at_call 11; with_reducible exact Calls.regrown_of (CM.out _))) | quiet_step (first | (go_at_call 11; with_reducible exact Calls.regrown_of (CM.out _))))
  refine wpQuiet_nil ?_
  intro _ hw'
  obtain ⟨⟨dq, osq⟩, hw''⟩ := hw'
  subst hw''
  have hb := below_regrown w2 dq osq
  generalize Go.Sort.grow (redrawn w2 dq) osq = w3 at hb ⊢
  replace B := Lib.hid (below_step B.out hb); replace F2 := Lib.hid (blk_below F2.out hb); replace F2_0 := blkc F2.out 0 rfl; replace F2_f := blk_frozen F2.out 0; clear hb
  go_wp2
  have F2_0 := blkc (blk_set F2.out 0 (.slice none 0 0)) 0 rfl
  exact bodyPost_ret (v := .tuple #[.agg #[.slice none 0 0], .int .i64 17]) (by simp [results, Tryz.results19, go_sem, F2_0]) rfl ⟨rfl, B.out.setCell (by simp; omega) _⟩

theorem cellFar {w : World} {a p : Addr} {v u : Value} (h : w.cell? a = some v) (hne : a.block ≠ p.block) : (w.setCell p u).cell? a = some v :=
  (World.cell?_of_block (Below.heap_setCell w p u a.block hne)).trans h

theorem own_some {w : World} {base e size n : Nat} {v : Value} {xs : List Value} (h : w.ownsRow base e size v n xs) (hn : v ≠ .slice none 0 0) : ∃ g c, v = .slice (some ⟨g, 0, none⟩) n c := by
  obtain ⟨_, ⟨rfl, _⟩ | ⟨g, cap, cur, rfl, _⟩⟩ := h
  · exact absurd rfl hn
  · exact ⟨g, cap, rfl⟩

/-- What Add leaves: the slice's cells, and this range's at place i. -/
def AddedPost (l : List Rng) (i : Nat) (vs : List Value) (w : World) (e : Ending) (w' : World) : Prop :=
  ∃ v', e = .returned (.tuple #[.agg #[v'], .int .i64 0]) ∧ w'.ownsRow w.heap.size 23 6 v' (l.length + 1) ((rcells l).take (i * 6) ++ vs ++ (rcells l).drop (i * 6)) ∧ Below w.heap.size w w'

set_option maxHeartbeats 4000000 in
set_option maxRecDepth 100000 in
theorem add_last (l : List Rng) (A : Option Addr) (c i : Nat) (f t n lo hi : ByteArray) (m : Int) (w : World) (hG : Glob w) (hN : l.length < 64) (hT : Tab w (.slice A l.length c) l) (hi0 : ¬ i < l.length) (hi1 : ¬ l.length < i)
    (hc : ∀ W, Glob W → Calls Tryz.prog 9 #[.agg #[.string f, .string t, .string n, .string lo, .string hi, .int .i64 m]] W fun e w' => e = .returned (.int .i64 0) ∧ Below W.heap.size W w')
    (hp : ∀ W, Below w.heap.size w W → Calls Tryz.prog 42 #[.agg #[.slice A l.length c], .string f] W fun e w' => e = .returned (.tuple #[.int .i64 i, .bool false]) ∧ Below W.heap.size W w') :
    Calls Tryz.prog 19 #[.agg #[.slice A l.length c], .agg #[.string f, .string t, .string n, .string lo, .string hi, .int .i64 m]] w (AddedPost l i [.string f, .string t, .string n, .string lo, .string hi, .int .i64 m] w) := by
  have F0 := Lib.hid (show (((w.alloc (.cells #[.slice A l.length c] 36)).alloc (.cells #[.string f, .string t, .string n, .string lo, .string hi, .int .i64 m] 23)).alloc (.cells #[.slice none 0 0] 36)).heap[w.heap.size]? = some (.cells #[.slice A l.length c] 36) from allocs_get w [.cells #[.slice A l.length c] 36, .cells #[.string f, .string t, .string n, .string lo, .string hi, .int .i64 m] 23, .cells #[.slice none 0 0] 36] 0 _ rfl); have F1 := Lib.hid (show (((w.alloc (.cells #[.slice A l.length c] 36)).alloc (.cells #[.string f, .string t, .string n, .string lo, .string hi, .int .i64 m] 23)).alloc (.cells #[.slice none 0 0] 36)).heap[w.heap.size + 1]? = some (.cells #[.string f, .string t, .string n, .string lo, .string hi, .int .i64 m] 23) from allocs_get w [.cells #[.slice A l.length c] 36, .cells #[.string f, .string t, .string n, .string lo, .string hi, .int .i64 m] 23, .cells #[.slice none 0 0] 36] 1 _ rfl); have F2 := Lib.hid (show (((w.alloc (.cells #[.slice A l.length c] 36)).alloc (.cells #[.string f, .string t, .string n, .string lo, .string hi, .int .i64 m] 23)).alloc (.cells #[.slice none 0 0] 36)).heap[w.heap.size + 1 + 1]? = some (.cells #[.slice none 0 0] 36) from allocs_get w [.cells #[.slice A l.length c] 36, .cells #[.string f, .string t, .string n, .string lo, .string hi, .int .i64 m] 23, .cells #[.slice none 0 0] 36] 2 _ rfl); have B := Lib.hid (show Below w.heap.size w (((w.alloc (.cells #[.slice A l.length c] 36)).alloc (.cells #[.string f, .string t, .string n, .string lo, .string hi, .int .i64 m] 23)).alloc (.cells #[.slice none 0 0] 36)) from allocs_below w [.cells #[.slice A l.length c] 36, .cells #[.string f, .string t, .string n, .string lo, .string hi, .int .i64 m] 23, .cells #[.slice none 0 0] 36])
  have HC := Lib.hid hc
  have HP := Lib.hid hp
  have HT := Lib.hid hT
  have k2 : decide ((64 : Int) ≤ (l.length : Int)) = false := decide_eq_false (by omega)
  have k4 : decide ((i : Int) < (l.length : Int)) = false := decide_eq_false (by omega)
  have k5 : decide (i < l.length) = false := decide_eq_false (by omega)
  have hl : l.length ≤ 1000 := by omega
  have hil : i ≤ l.length := by omega
  clear hc hN hp hT hi0 hi1
  go_enter Tryz.func19, Tryz.ntmps19
  go_wp2_with (first | (go_at_call 9; go_must (refine (HC.out _ (hG.below B.out)).mono ?_); rintro e w1 ⟨rfl, hb⟩; replace B := Lib.hid (below_step B.out hb); replace F0 := Lib.hid (blk_below F0.out hb); replace F0_0 := blkc F0.out 0 rfl; replace F1 := Lib.hid (blk_below F1.out hb); replace F1_0 := blkc F1.out 0 rfl; replace F1_1 := blkc F1.out 1 rfl; replace F1_2 := blkc F1.out 2 rfl; replace F1_3 := blkc F1.out 3 rfl; replace F1_4 := blkc F1.out 4 rfl; replace F1_5 := blkc F1.out 5 rfl; replace F2 := Lib.hid (blk_below F2.out hb); replace F2_0 := blkc F2.out 0 rfl; replace F2_f := blk_frozen F2.out 0; clear hb) | (go_at_call 42; go_must (refine (HP.out _ B.out).mono ?_); rintro e w2 ⟨rfl, hb⟩; replace B := Lib.hid (below_step B.out hb); replace F0 := Lib.hid (blk_below F0.out hb); replace F0_0 := blkc F0.out 0 rfl; replace F1 := Lib.hid (blk_below F1.out hb); replace F1_0 := blkc F1.out 0 rfl; replace F1_1 := blkc F1.out 1 rfl; replace F1_2 := blkc F1.out 2 rfl; replace F1_3 := blkc F1.out 3 rfl; replace F1_4 := blkc F1.out 4 rfl; replace F1_5 := blkc F1.out 5 rfl; replace F2 := Lib.hid (blk_below F2.out hb); replace F2_0 := blkc F2.out 0 rfl; replace F2_f := blk_frozen F2.out 0; clear hb))
  have q0 := fun d os => cell_regrown F0_0 d os
  refine wp_region_quiet_below (by kernel_rfl) (by kernel_rfl) ?_
  repeat (first | go_big_quiet_step (first | (fail)) | quiet_step (first | (fail)))
  refine wpQuiet_nil ?_
  intro _ hw'
  obtain ⟨⟨dq, osq⟩, hw''⟩ := hw'
  subst hw''
  have hb := below_regrown w2 dq osq
  generalize Go.Sort.grow (redrawn w2 dq) osq = w3 at hb ⊢
  replace B := Lib.hid (below_step B.out hb); replace F0 := Lib.hid (blk_below F0.out hb); replace F0_0 := blkc F0.out 0 rfl; replace F1 := Lib.hid (blk_below F1.out hb); replace F1_0 := blkc F1.out 0 rfl; replace F1_1 := blkc F1.out 1 rfl; replace F1_2 := blkc F1.out 2 rfl; replace F1_3 := blkc F1.out 3 rfl; replace F1_4 := blkc F1.out 4 rfl; replace F1_5 := blkc F1.out 5 rfl; replace F2 := Lib.hid (blk_below F2.out hb); replace F2_0 := blkc F2.out 0 rfl; replace F2_f := blk_frozen F2.out 0; clear hb
  go_wp2_with fail
  have T3 := Lib.hid (HT.out.below B.out)
  have hw3 : w.heap.size + 1 + 1 < w3.heap.size := blk_lt F2.out
  go_region_held3 (fun W => W.cell? ⟨w.heap.size, 0, none⟩ = some (.slice A l.length c) ∧ W.cell? ⟨w.heap.size + 1, 0, none⟩ = some (.string f) ∧ W.cell? ⟨w.heap.size + 1, 1, none⟩ = some (.string t) ∧ W.cell? ⟨w.heap.size + 1, 2, none⟩ = some (.string n) ∧ W.cell? ⟨w.heap.size + 1, 3, none⟩ = some (.string lo) ∧ W.cell? ⟨w.heap.size + 1, 4, none⟩ = some (.string hi) ∧ W.cell? ⟨w.heap.size + 1, 5, none⟩ = some (.int .i64 m))
    (first | exact ⟨F0_0, F1_0, F1_1, F1_2, F1_3, F1_4, F1_5⟩ | exact ⟨cellBelow (w := w3) (below_alloc (below_drew (Below.refl _ _)) _) F0_0, cellBelow (w := w3) (below_alloc (below_drew (Below.refl _ _)) _) F1_0, cellBelow (w := w3) (below_alloc (below_drew (Below.refl _ _)) _) F1_1, cellBelow (w := w3) (below_alloc (below_drew (Below.refl _ _)) _) F1_2, cellBelow (w := w3) (below_alloc (below_drew (Below.refl _ _)) _) F1_3, cellBelow (w := w3) (below_alloc (below_drew (Below.refl _ _)) _) F1_4, cellBelow (w := w3) (below_alloc (below_drew (Below.refl _ _)) _) F1_5⟩ | exact ⟨cellBelow (w := w3) (G4.out) F0_0, cellBelow (w := w3) (G4.out) F1_0, cellBelow (w := w3) (G4.out) F1_1, cellBelow (w := w3) (G4.out) F1_2, cellBelow (w := w3) (G4.out) F1_3, cellBelow (w := w3) (G4.out) F1_4, cellBelow (w := w3) (G4.out) F1_5⟩ | exact ⟨cellBelow (w := w3) (below_alloc G4.out _) F0_0, cellBelow (w := w3) (below_alloc G4.out _) F1_0, cellBelow (w := w3) (below_alloc G4.out _) F1_1, cellBelow (w := w3) (below_alloc G4.out _) F1_2, cellBelow (w := w3) (below_alloc G4.out _) F1_3, cellBelow (w := w3) (below_alloc G4.out _) F1_4, cellBelow (w := w3) (below_alloc G4.out _) F1_5⟩ | exact ⟨cellBelow (w := w3) (G5.out) F0_0, cellBelow (w := w3) (G5.out) F1_0, cellBelow (w := w3) (G5.out) F1_1, cellBelow (w := w3) (G5.out) F1_2, cellBelow (w := w3) (G5.out) F1_3, cellBelow (w := w3) (G5.out) F1_4, cellBelow (w := w3) (G5.out) F1_5⟩ | exact ⟨cellFar (cellBelow (w := w3) G5.out F0_0) (by dsimp only; omega), cellFar (cellBelow (w := w3) G5.out F1_0) (by dsimp only; omega), cellFar (cellBelow (w := w3) G5.out F1_1) (by dsimp only; omega), cellFar (cellBelow (w := w3) G5.out F1_2) (by dsimp only; omega), cellFar (cellBelow (w := w3) G5.out F1_3) (by dsimp only; omega), cellFar (cellBelow (w := w3) G5.out F1_4) (by dsimp only; omega), cellFar (cellBelow (w := w3) G5.out F1_5) (by dsimp only; omega)⟩)
    (first
      | (go_at_call 41; refine (clone_any _ l _ (T3.out.below (by first | exact below_drew (Below.refl _ _) | exact below_alloc (below_drew (Below.refl _ _)) _)) hl).mono ?_; rintro e w4 ⟨v4, rfl, hown4, hb4⟩; have G4 := Lib.hid (below_step (show Below w3.heap.size w3 _ by first | exact below_drew (Below.refl _ _) | exact below_alloc (below_drew (Below.refl _ _)) _) hb4); have O4 := Lib.hid hown4; have B4 := Lib.hid hb4; clear hown4 hb4)
      | (go_at_call 43; first
          | ((with_reducible refine (ins_any (base := w3.heap.size) v4 l.length i (rcells l) [.string f, .string t, .string n, .string lo, .string hi, .int .i64 m] w4.heap.size 23 (w4.alloc (.cells #[.string f, .string t, .string n, .string lo, .string hi, .int .i64 m] 23)) (by have := G4.out.size; simp; omega) ((own_weaken O4.out (by simp)).alloc _) (rcells_oneCell l) hil hl rfl (blk_new _ _) (fun e => by have := (O4.out.lt _ e).2; omega) (by simp [Value.oneCell'])).mono ?_); rintro e w5 ⟨v5, rfl, hown5, hgr5, hnn5⟩; obtain ⟨g5, c5, rfl⟩ := own_some hown5 hnn5; have G5 := Lib.hid ((below_alloc G4.out _).grown hgr5 (by have := G4.out.size; simp; omega) (fun k hk => (by have := (O4.out.lt k hk).1; simp at this; omega))); have O5 := Lib.hid hown5; have F5 := Lib.hid (blk_below F2.out G5.out); have F5_0 := blkc F5.out 0 rfl; have F5_f := blk_frozen F5.out 0; clear hown5 hgr5 hnn5)
          | ((with_reducible refine (ins_any (base := w3.heap.size) v4 l.length i (rcells l) [.string f, .string t, .string n, .string lo, .string hi, .int .i64 m] w3.heap.size 23 w4 G4.out.size (own_weaken O4.out (by simp)) (rcells_oneCell l) hil hl rfl (blk_below (blk_new w3.drew (.cells #[.string f, .string t, .string n, .string lo, .string hi, .int .i64 m] 23)) B4.out) (fun e => by have := (O4.out.lt _ e).1; simp at this; omega) (by simp [Value.oneCell'])).mono ?_); rintro e w5 ⟨v5, rfl, hown5, hgr5, hnn5⟩; obtain ⟨g5, c5, rfl⟩ := own_some hown5 hnn5; have G5 := Lib.hid (G4.out.grown hgr5 G4.out.size (fun k hk => (by have := (O4.out.lt k hk).1; simp at this; omega))); have O5 := Lib.hid hown5; have F5 := Lib.hid (blk_below F2.out G5.out); have F5_0 := blkc F5.out 0 rfl; have F5_f := blk_frozen F5.out 0; clear hown5 hgr5 hnn5)))
  all_goals
    go_wp2
    have F6_0 := blkc (blk_set F5.out 0 (.slice (some ⟨g5, 0, none⟩) (l.length + 1) c5)) 0 rfl
    refine bodyPost_ret (v := .tuple #[.agg #[.slice (some ⟨g5, 0, none⟩) (l.length + 1) c5], .int .i64 0]) (by simp [results, Tryz.results19, go_sem, F6_0]) rfl ⟨_, rfl, ?_, (below_step B.out G5.out).setCell (by simp; omega) _⟩
    exact own_move (own_weaken O5.out (by omega)) (fun k hk => Below.heap_setCell _ _ _ k (by have := (O5.out.lt k hk).1; dsimp only; omega))

set_option maxHeartbeats 4000000 in
set_option maxRecDepth 100000 in
theorem add_mid (l : List Rng) (g c i : Nat) (xf : ByteArray) (f t n lo hi : ByteArray) (m : Int) (w : World) (hG : Glob w) (hN : l.length < 64) (hT : Tab w (.slice (some ⟨g, 0, none⟩) l.length c) l) (hi0 : i < l.length) (hx : w.cell? ⟨g, i * 6, none⟩ = some (.string xf)) (hcmp : ¬ rcmpV xf t ≤ 0)
    (hc : ∀ W, Glob W → Calls Tryz.prog 9 #[.agg #[.string f, .string t, .string n, .string lo, .string hi, .int .i64 m]] W fun e w' => e = .returned (.int .i64 0) ∧ Below W.heap.size W w')
    (hp : ∀ W, Below w.heap.size w W → Calls Tryz.prog 42 #[.agg #[.slice (some ⟨g, 0, none⟩) l.length c], .string f] W fun e w' => e = .returned (.tuple #[.int .i64 i, .bool false]) ∧ Below W.heap.size W w') :
    Calls Tryz.prog 19 #[.agg #[.slice (some ⟨g, 0, none⟩) l.length c], .agg #[.string f, .string t, .string n, .string lo, .string hi, .int .i64 m]] w (AddedPost l i [.string f, .string t, .string n, .string lo, .string hi, .int .i64 m] w) := by
  have F0 := Lib.hid (show (((w.alloc (.cells #[.slice (some ⟨g, 0, none⟩) l.length c] 36)).alloc (.cells #[.string f, .string t, .string n, .string lo, .string hi, .int .i64 m] 23)).alloc (.cells #[.slice none 0 0] 36)).heap[w.heap.size]? = some (.cells #[.slice (some ⟨g, 0, none⟩) l.length c] 36) from allocs_get w [.cells #[.slice (some ⟨g, 0, none⟩) l.length c] 36, .cells #[.string f, .string t, .string n, .string lo, .string hi, .int .i64 m] 23, .cells #[.slice none 0 0] 36] 0 _ rfl); have F1 := Lib.hid (show (((w.alloc (.cells #[.slice (some ⟨g, 0, none⟩) l.length c] 36)).alloc (.cells #[.string f, .string t, .string n, .string lo, .string hi, .int .i64 m] 23)).alloc (.cells #[.slice none 0 0] 36)).heap[w.heap.size + 1]? = some (.cells #[.string f, .string t, .string n, .string lo, .string hi, .int .i64 m] 23) from allocs_get w [.cells #[.slice (some ⟨g, 0, none⟩) l.length c] 36, .cells #[.string f, .string t, .string n, .string lo, .string hi, .int .i64 m] 23, .cells #[.slice none 0 0] 36] 1 _ rfl); have F2 := Lib.hid (show (((w.alloc (.cells #[.slice (some ⟨g, 0, none⟩) l.length c] 36)).alloc (.cells #[.string f, .string t, .string n, .string lo, .string hi, .int .i64 m] 23)).alloc (.cells #[.slice none 0 0] 36)).heap[w.heap.size + 1 + 1]? = some (.cells #[.slice none 0 0] 36) from allocs_get w [.cells #[.slice (some ⟨g, 0, none⟩) l.length c] 36, .cells #[.string f, .string t, .string n, .string lo, .string hi, .int .i64 m] 23, .cells #[.slice none 0 0] 36] 2 _ rfl); have B := Lib.hid (show Below w.heap.size w (((w.alloc (.cells #[.slice (some ⟨g, 0, none⟩) l.length c] 36)).alloc (.cells #[.string f, .string t, .string n, .string lo, .string hi, .int .i64 m] 23)).alloc (.cells #[.slice none 0 0] 36)) from allocs_below w [.cells #[.slice (some ⟨g, 0, none⟩) l.length c] 36, .cells #[.string f, .string t, .string n, .string lo, .string hi, .int .i64 m] 23, .cells #[.slice none 0 0] 36])
  have HC := Lib.hid hc
  have HP := Lib.hid hp
  have HT := Lib.hid hT
  have k2 : decide ((64 : Int) ≤ (l.length : Int)) = false := decide_eq_false (by omega)
  have HX := Lib.hid hx
  have CM := Lib.hid (fun W => (rcmp_any xf t W).mono fun e w' h => (⟨h.1, by rw [h.2]; exact Below.refl _ _⟩ : e = .returned (.int .i64 (rcmpV xf t)) ∧ Below W.heap.size W w'))
  have k3 : decide (rcmpV xf t ≤ 0) = false := decide_eq_false hcmp
  have k4 : decide ((i : Int) < (l.length : Int)) = true := decide_eq_true (by omega)
  have k5 : decide (i < l.length) = true := decide_eq_true hi0
  have hl : l.length ≤ 1000 := by omega
  have hil : i ≤ l.length := by omega
  clear hc hN hp hT hx hcmp
  go_enter Tryz.func19, Tryz.ntmps19
  go_wp2_with (first | (go_at_call 9; go_must (refine (HC.out _ (hG.below B.out)).mono ?_); rintro e w1 ⟨rfl, hb⟩; replace B := Lib.hid (below_step B.out hb); replace F0 := Lib.hid (blk_below F0.out hb); replace F0_0 := blkc F0.out 0 rfl; replace F1 := Lib.hid (blk_below F1.out hb); replace F1_0 := blkc F1.out 0 rfl; replace F1_1 := blkc F1.out 1 rfl; replace F1_2 := blkc F1.out 2 rfl; replace F1_3 := blkc F1.out 3 rfl; replace F1_4 := blkc F1.out 4 rfl; replace F1_5 := blkc F1.out 5 rfl; replace F2 := Lib.hid (blk_below F2.out hb); replace F2_0 := blkc F2.out 0 rfl; replace F2_f := blk_frozen F2.out 0; clear hb) | (go_at_call 42; go_must (refine (HP.out _ B.out).mono ?_); rintro e w2 ⟨rfl, hb⟩; replace B := Lib.hid (below_step B.out hb); replace F0 := Lib.hid (blk_below F0.out hb); replace F0_0 := blkc F0.out 0 rfl; replace F1 := Lib.hid (blk_below F1.out hb); replace F1_0 := blkc F1.out 0 rfl; replace F1_1 := blkc F1.out 1 rfl; replace F1_2 := blkc F1.out 2 rfl; replace F1_3 := blkc F1.out 3 rfl; replace F1_4 := blkc F1.out 4 rfl; replace F1_5 := blkc F1.out 5 rfl; replace F2 := Lib.hid (blk_below F2.out hb); replace F2_0 := blkc F2.out 0 rfl; replace F2_f := blk_frozen F2.out 0; clear hb))
  have q0 := fun d os => cell_regrown F0_0 d os
  have q1 := fun d os => cell_regrown F1_1 d os
  have q2 := fun d os => cell_regrown (cellBelow B.out HX.out) d os
  refine wp_region_quiet_below (by kernel_rfl) (by kernel_rfl) ?_
  repeat (first | go_big_quiet_step (first | (go_at_call 11; with_reducible exact Calls.regrown_of (CM.out _))) | quiet_step (first | (go_at_call 11; with_reducible exact Calls.regrown_of (CM.out _))))
  refine wpQuiet_nil ?_
  intro _ hw'
  obtain ⟨⟨dq, osq⟩, hw''⟩ := hw'
  subst hw''
  have hb := below_regrown w2 dq osq
  generalize Go.Sort.grow (redrawn w2 dq) osq = w3 at hb ⊢
  replace B := Lib.hid (below_step B.out hb); replace F0 := Lib.hid (blk_below F0.out hb); replace F0_0 := blkc F0.out 0 rfl; replace F1 := Lib.hid (blk_below F1.out hb); replace F1_0 := blkc F1.out 0 rfl; replace F1_1 := blkc F1.out 1 rfl; replace F1_2 := blkc F1.out 2 rfl; replace F1_3 := blkc F1.out 3 rfl; replace F1_4 := blkc F1.out 4 rfl; replace F1_5 := blkc F1.out 5 rfl; replace F2 := Lib.hid (blk_below F2.out hb); replace F2_0 := blkc F2.out 0 rfl; replace F2_f := blk_frozen F2.out 0; clear hb
  go_wp2_with fail
  have T3 := Lib.hid (HT.out.below B.out)
  have hw3 : w.heap.size + 1 + 1 < w3.heap.size := blk_lt F2.out
  go_region_held3 (fun W => W.cell? ⟨w.heap.size, 0, none⟩ = some (.slice (some ⟨g, 0, none⟩) l.length c) ∧ W.cell? ⟨w.heap.size + 1, 0, none⟩ = some (.string f) ∧ W.cell? ⟨w.heap.size + 1, 1, none⟩ = some (.string t) ∧ W.cell? ⟨w.heap.size + 1, 2, none⟩ = some (.string n) ∧ W.cell? ⟨w.heap.size + 1, 3, none⟩ = some (.string lo) ∧ W.cell? ⟨w.heap.size + 1, 4, none⟩ = some (.string hi) ∧ W.cell? ⟨w.heap.size + 1, 5, none⟩ = some (.int .i64 m))
    (first | exact ⟨F0_0, F1_0, F1_1, F1_2, F1_3, F1_4, F1_5⟩ | exact ⟨cellBelow (w := w3) (below_alloc (below_drew (Below.refl _ _)) _) F0_0, cellBelow (w := w3) (below_alloc (below_drew (Below.refl _ _)) _) F1_0, cellBelow (w := w3) (below_alloc (below_drew (Below.refl _ _)) _) F1_1, cellBelow (w := w3) (below_alloc (below_drew (Below.refl _ _)) _) F1_2, cellBelow (w := w3) (below_alloc (below_drew (Below.refl _ _)) _) F1_3, cellBelow (w := w3) (below_alloc (below_drew (Below.refl _ _)) _) F1_4, cellBelow (w := w3) (below_alloc (below_drew (Below.refl _ _)) _) F1_5⟩ | exact ⟨cellBelow (w := w3) (G4.out) F0_0, cellBelow (w := w3) (G4.out) F1_0, cellBelow (w := w3) (G4.out) F1_1, cellBelow (w := w3) (G4.out) F1_2, cellBelow (w := w3) (G4.out) F1_3, cellBelow (w := w3) (G4.out) F1_4, cellBelow (w := w3) (G4.out) F1_5⟩ | exact ⟨cellBelow (w := w3) (below_alloc G4.out _) F0_0, cellBelow (w := w3) (below_alloc G4.out _) F1_0, cellBelow (w := w3) (below_alloc G4.out _) F1_1, cellBelow (w := w3) (below_alloc G4.out _) F1_2, cellBelow (w := w3) (below_alloc G4.out _) F1_3, cellBelow (w := w3) (below_alloc G4.out _) F1_4, cellBelow (w := w3) (below_alloc G4.out _) F1_5⟩ | exact ⟨cellBelow (w := w3) (G5.out) F0_0, cellBelow (w := w3) (G5.out) F1_0, cellBelow (w := w3) (G5.out) F1_1, cellBelow (w := w3) (G5.out) F1_2, cellBelow (w := w3) (G5.out) F1_3, cellBelow (w := w3) (G5.out) F1_4, cellBelow (w := w3) (G5.out) F1_5⟩ | exact ⟨cellFar (cellBelow (w := w3) G5.out F0_0) (by dsimp only; omega), cellFar (cellBelow (w := w3) G5.out F1_0) (by dsimp only; omega), cellFar (cellBelow (w := w3) G5.out F1_1) (by dsimp only; omega), cellFar (cellBelow (w := w3) G5.out F1_2) (by dsimp only; omega), cellFar (cellBelow (w := w3) G5.out F1_3) (by dsimp only; omega), cellFar (cellBelow (w := w3) G5.out F1_4) (by dsimp only; omega), cellFar (cellBelow (w := w3) G5.out F1_5) (by dsimp only; omega)⟩)
    (first
      | (go_at_call 41; refine (clone_any _ l _ (T3.out.below (by first | exact below_drew (Below.refl _ _) | exact below_alloc (below_drew (Below.refl _ _)) _)) hl).mono ?_; rintro e w4 ⟨v4, rfl, hown4, hb4⟩; have G4 := Lib.hid (below_step (show Below w3.heap.size w3 _ by first | exact below_drew (Below.refl _ _) | exact below_alloc (below_drew (Below.refl _ _)) _) hb4); have O4 := Lib.hid hown4; have B4 := Lib.hid hb4; clear hown4 hb4)
      | (go_at_call 43; first
          | ((with_reducible refine (ins_any (base := w3.heap.size) v4 l.length i (rcells l) [.string f, .string t, .string n, .string lo, .string hi, .int .i64 m] w4.heap.size 23 (w4.alloc (.cells #[.string f, .string t, .string n, .string lo, .string hi, .int .i64 m] 23)) (by have := G4.out.size; simp; omega) ((own_weaken O4.out (by simp)).alloc _) (rcells_oneCell l) hil hl rfl (blk_new _ _) (fun e => by have := (O4.out.lt _ e).2; omega) (by simp [Value.oneCell'])).mono ?_); rintro e w5 ⟨v5, rfl, hown5, hgr5, hnn5⟩; obtain ⟨g5, c5, rfl⟩ := own_some hown5 hnn5; have G5 := Lib.hid ((below_alloc G4.out _).grown hgr5 (by have := G4.out.size; simp; omega) (fun k hk => (by have := (O4.out.lt k hk).1; simp at this; omega))); have O5 := Lib.hid hown5; have F5 := Lib.hid (blk_below F2.out G5.out); have F5_0 := blkc F5.out 0 rfl; have F5_f := blk_frozen F5.out 0; clear hown5 hgr5 hnn5)
          | ((with_reducible refine (ins_any (base := w3.heap.size) v4 l.length i (rcells l) [.string f, .string t, .string n, .string lo, .string hi, .int .i64 m] w3.heap.size 23 w4 G4.out.size (own_weaken O4.out (by simp)) (rcells_oneCell l) hil hl rfl (blk_below (blk_new w3.drew (.cells #[.string f, .string t, .string n, .string lo, .string hi, .int .i64 m] 23)) B4.out) (fun e => by have := (O4.out.lt _ e).1; simp at this; omega) (by simp [Value.oneCell'])).mono ?_); rintro e w5 ⟨v5, rfl, hown5, hgr5, hnn5⟩; obtain ⟨g5, c5, rfl⟩ := own_some hown5 hnn5; have G5 := Lib.hid (G4.out.grown hgr5 G4.out.size (fun k hk => (by have := (O4.out.lt k hk).1; simp at this; omega))); have O5 := Lib.hid hown5; have F5 := Lib.hid (blk_below F2.out G5.out); have F5_0 := blkc F5.out 0 rfl; have F5_f := blk_frozen F5.out 0; clear hown5 hgr5 hnn5)))
  all_goals
    go_wp2
    have F6_0 := blkc (blk_set F5.out 0 (.slice (some ⟨g5, 0, none⟩) (l.length + 1) c5)) 0 rfl
    refine bodyPost_ret (v := .tuple #[.agg #[.slice (some ⟨g5, 0, none⟩) (l.length + 1) c5], .int .i64 0]) (by simp [results, Tryz.results19, go_sem, F6_0]) rfl ⟨_, rfl, ?_, (below_step B.out G5.out).setCell (by simp; omega) _⟩
    exact own_move (own_weaken O5.out (by omega)) (fun k hk => Below.heap_setCell _ _ _ k (by have := (O5.out.lt k hk).1; dsimp only; omega))

end Go.Proofs.YtiggnmhoececfaaGreatDoor

namespace Go.Proofs.YtiggnmhoececfaaGreatDoor
set_option linter.unusedVariables false
set_option linter.unusedSimpArgs false
open Go.RowKit Go.Proofs.YtiggnmhoececfaaGreatDoorW.PrintWords

/-- A range whose texts are of a size that may be looked at. -/
structure Small (r : Rng) : Prop where
  n : r.n.size ≤ 1000
  lo : r.lo.size ≤ 1000
  hi : r.hi.size ≤ 1000

theorem checkV_of (r : Rng) (h : Small r) (W : World) (hW : Glob W) : Calls Tryz.prog 9 #[r.v] W fun e w' => e = .returned (.int .i64 (checkV r.f r.t r.n r.lo r.hi r.m)) ∧ Below W.heap.size W w' :=
  check_any r.f r.t r.n r.lo r.hi r.m h.n h.lo h.hi W hW

theorem added_tab {l : List Rng} {r : Rng} {w : World} {e : Ending} {w' : World} (h : AddedPost l (bsGo l r.f 0 l.length) [.string r.f, .string r.t, .string r.n, .string r.lo, .string r.hi, .int .i64 r.m] w e w') :
    ∃ v', e = .returned (.tuple #[.agg #[v'], .int .i64 0]) ∧ Tab w' v' (addL l r) ∧ Below w.heap.size w w' ∧ (∀ k, v'.ownBlock = some k → w.heap.size ≤ k) := by
  obtain ⟨v', he, hown, hb⟩ := h
  refine ⟨v', he, Tab.of_owns (base := w.heap.size) ?_, hb, fun k hk => (hown.lt k hk).1⟩
  rw [addL_len]
  have : rcells (addL l r) = (rcells l).take (bsGo l r.f 0 l.length * 6) ++ [.string r.f, .string r.t, .string r.n, .string r.lo, .string r.hi, .int .i64 r.m] ++ (rcells l).drop (bsGo l r.f 0 l.length * 6) := by
    unfold addL
    rw [rcells_app, rcells_app, rcells_one, rcells_take, rcells_drop]
    rfl
  rw [this]
  exact hown

theorem bsGo_le (l : List Rng) (c : ByteArray) : ∀ (d i j : Nat), j - i = d → i ≤ j → bsGo l c i j ≤ j := by
  intro d
  induction d using Nat.strongRecOn with
  | _ d ih =>
    intro i j hd hij
    rw [bsGo]
    by_cases h : i < j
    · rw [dif_pos h]
      split
      · exact ih _ (by omega) _ _ rfl (by omega)
      · exact Nat.le_trans (ih _ (by omega) i ((i + j) / 2) rfl (by omega)) (by omega)
    · rw [dif_neg h]; omega

theorem add_any (v : Value) (l : List Rng) (r : Rng) (w : World) (hG : Glob w) (hT : Tab w v l) (hr : Small r) (hl : l.length ≤ 1000) :
    Calls Tryz.prog 19 #[.agg #[v], r.v] w (AddPost l r w) := by
  have hc := fun W hW => checkV_of r hr W hW
  have hp := fun W hW => place_tab v l r.f W (hT.below hW) hl
  by_cases h0 : checkV r.f r.t r.n r.lo r.hi r.m = 0
  · rw [h0] at hc
    have hsh : ∃ A c, v = .slice A l.length c := by
      rcases hT with ⟨rfl, rfl⟩ | ⟨g, cap, rfl, _⟩
      · exact ⟨none, 0, rfl⟩
      · exact ⟨_, _, rfl⟩
    obtain ⟨A, c, rfl⟩ := hsh
    by_cases h64 : 64 ≤ l.length
    · have he : addE l r = 6 := by unfold addE; rw [if_pos h0, if_pos h64]
      refine (add_many A l.length c r.f r.t r.n r.lo r.hi r.m w hG h64 hc).mono fun e w' ⟨h1, h2⟩ => ?_
      exact ⟨_, by rw [he]; exact h1, by rw [he]; exact .inl ⟨rfl, rfl⟩, h2, fun k hk => by cases hk⟩
    · cases hh : bsHit l r.f (bsGo l r.f 0 l.length) with
      | true =>
        have he : addE l r = 17 := by unfold addE clash; rw [if_pos h0, if_neg h64, hh]; rfl
        rw [hh] at hp
        refine (add_hit A l.length c r.f r.t r.n r.lo r.hi r.m _ w hG (by omega) hc hp).mono fun e w' ⟨h1, h2⟩ => ?_
        exact ⟨_, by rw [he]; exact h1, by rw [he]; exact .inl ⟨rfl, rfl⟩, h2, fun k hk => by cases hk⟩
      | false =>
        rw [hh] at hp
        have hle := bsGo_le l r.f _ 0 l.length rfl (Nat.zero_le _)
        by_cases hi : bsGo l r.f 0 l.length < l.length
        · rcases id hT with ⟨h1, h2⟩ | ⟨g, cap, h1, h2, h3, h4, h5⟩
          · rw [h2] at hi; exact absurd hi (by simp)
          · obtain ⟨rfl, rfl⟩ : A = some ⟨g, 0, none⟩ ∧ c = cap := by simpa using h1
            have hx : w.cell? ⟨g, bsGo l r.f 0 l.length * 6, none⟩ = some (.string l[bsGo l r.f 0 l.length].f) := (Tab.rngs h5 _ hi).c0
            by_cases hcmp : rcmpV l[bsGo l r.f 0 l.length].f r.t ≤ 0
            · have he : addE l r = 17 := by unfold addE clash; rw [if_pos h0, if_neg h64, hh, dif_pos hi, decide_eq_true hcmp]; rfl
              refine (add_clash g l.length c _ r.f r.t r.n r.lo r.hi _ r.m w hG (by omega) hi hx hcmp hc hp).mono fun e w' ⟨h1, h2⟩ => ?_
              exact ⟨_, by rw [he]; exact h1, by rw [he]; exact .inl ⟨rfl, rfl⟩, h2, fun k hk => by cases hk⟩
            · have he : addE l r = 0 := by unfold addE clash; rw [if_pos h0, if_neg h64, hh, dif_pos hi, decide_eq_false hcmp]; rfl
              refine (add_mid l g c _ _ r.f r.t r.n r.lo r.hi r.m w hG (by omega) hT hi hx hcmp hc hp).mono fun e w' h => ?_
              obtain ⟨v', e1, e2, e3⟩ := added_tab h
              exact ⟨v', by rw [he]; exact e1, by rw [he]; exact e2, e3⟩
        · have he : addE l r = 0 := by unfold addE clash; rw [if_pos h0, if_neg h64, hh, dif_neg hi]; rfl
          refine (add_last l A c _ r.f r.t r.n r.lo r.hi r.m w hG (by omega) hT hi (by omega) hc hp).mono fun e w' h => ?_
          obtain ⟨v', e1, e2, e3⟩ := added_tab h
          exact ⟨v', by rw [he]; exact e1, by rw [he]; exact e2, e3⟩
  · have he : addE l r = checkV r.f r.t r.n r.lo r.hi r.m := by unfold addE; rw [if_neg h0]
    refine (add_fault v r.f r.t r.n r.lo r.hi r.m _ w hG h0 hc).mono fun e w' ⟨h1, h2⟩ => ?_
    exact ⟨_, by rw [he]; exact h1, by rw [he, if_neg h0]; exact .inl ⟨rfl, rfl⟩, h2, fun k hk => by cases hk⟩

/-- What New comes to. -/
def newE : List Rng → List Rng → Int
  | _, [] => 0
  | l, r :: rs => if addE l r = 0 then newE (addL l r) rs else addE l r
def newL : List Rng → List Rng → List Rng
  | l, [] => l
  | l, r :: rs => if addE l r = 0 then newL (addL l r) rs else []

def NewPost (rs : List Rng) (w : World) (e : Ending) (w' : World) : Prop :=
  ∃ v', e = .returned (.tuple #[.agg #[v'], .int .i64 (newE [] rs)]) ∧ Tab w' v' (newL [] rs) ∧ Below w.heap.size w w'

/-- What holds between two rounds of New. -/
def NewInv (w : World) (rs : List Rng) (k : Nat) (wr : World) : Prop :=
  ∃ vt lk, wr.heap[w.heap.size + 1]? = some (.cells #[vt] 36 (0, 0)) ∧ wr.heap[w.heap.size]? = some (.cells #[.slice none 0 0] 36 (0, 0)) ∧
    Tab wr vt lk ∧ (∀ k, vt.ownBlock = some k → w.heap.size + 2 ≤ k) ∧ lk.length ≤ k ∧ newE lk (rs.drop k) = newE [] rs ∧ newL lk (rs.drop k) = newL [] rs ∧ Below w.heap.size w wr

end Go.Proofs.YtiggnmhoececfaaGreatDoor

namespace Go.Proofs.YtiggnmhoececfaaGreatDoor
set_option linter.unusedVariables false
set_option linter.unusedSimpArgs false
open Go.RowKit Go.Proofs.YtiggnmhoececfaaGreatDoorW.PrintWords

theorem zero_range : ∀ w, (zeroValue 23).run Tryz.prog w = .ok (.agg #[.string ⟨#[]⟩, .string ⟨#[]⟩, .string ⟨#[]⟩, .string ⟨#[]⟩, .string ⟨#[]⟩, .int .i64 0]) w := fun w => by kernel_rfl

theorem zero6 : (Builtin.zeroCells (Value.agg #[.string ⟨#[]⟩, .string ⟨#[]⟩, .string ⟨#[]⟩, .string ⟨#[]⟩, .string ⟨#[]⟩, .int .i64 0]).cells 1).toList = [.string ⟨#[]⟩, .string ⟨#[]⟩, .string ⟨#[]⟩, .string ⟨#[]⟩, .string ⟨#[]⟩, .int .i64 0] := by kernel_rfl

def DelPost (base : Nat) (v : Value) (n : Nat) (ys : List Value) (w : World) (e : Ending) (w' : World) : Prop :=
  ∃ v', e = .returned v' ∧ w'.ownsRow base 23 6 v' n ys ∧ w.grownBy w' v.ownBlock ∧ v' ≠ .slice none 0 0

set_option maxHeartbeats 4000000 in
set_option maxRecDepth 100000 in
theorem del_one {base : Nat} (g n i cap : Nat) (cur : Array Value) (w : World) (hbg : base ≤ g)
    (hG : w.heap[g]? = some (.cells cur 23 (0, 0))) (hc : cur.size = cap * 6) (hcap : cap ≤ maxLen) (h1c : ∀ u ∈ cur.toList.take (n * 6), u.oneCell' = true) (hi : i < n) (hroom : n ≤ cap) (hn : n ≤ 1000) :
    Calls Tryz.prog 40 #[.slice (some ⟨g, 0, none⟩) n cap, .int .i64 i, .int .i64 ((i : Int) + 1)] w
      (DelPost base (.slice (some ⟨g, 0, none⟩) n cap) (n - 1) ((cur.toList.take (n * 6)).take (i * 6) ++ (cur.toList.take (n * 6)).drop (i * 6 + 6)) w) := by
  unfold maxLen at hcap
  obtain ⟨i0, hi0, hz0, hz1, hz2⟩ := info_parts info_range
  obtain ⟨tail, htail⟩ : ∃ tail, tail = (cur.toList.take (n * 6)).drop (i * 6 + 6) := ⟨_, rfl⟩
  have e0 : cur.toList.length = cur.size := Array.length_toList
  have htl : tail.length = (n - (i + 1)) * 6 := by rw [htail, List.length_drop, List.length_take]; omega
  have htc : ∀ j u, tail[j]? = some u → w.cell? ⟨g, i * 6 + 6 + j, none⟩ = some u := fun j u hj => by
    rw [htail, List.getElem?_drop, List.getElem?_take] at hj
    split at hj
    · rw [cell_of_row w g (i * 6 + 6 + j) cur _ (0, 0) hG]; simpa using hj
    · cases hj
  obtain ⟨W1, hW1⟩ : ∃ W1, W1 = w.drew.setRow g (splice cur.toList (i * 6) tail).toArray := ⟨_, rfl⟩
  have hap : ∀ ty a, (0 < n - (i + 1) → a = (⟨g, (i + 1) * 6, none⟩ : Addr)) → ∀ c, (Builtin.append_ #[34, 34] ty #[.slice (some ⟨g, 0, none⟩) i cap, .slice (some a) (n - (i + 1)) c]).run Tryz.prog w.drew = .ok (.slice (some ⟨g, 0, none⟩) (n - 1) cap) W1 := fun ty a hA c => by
    have := run_append_room (P := Tryz.prog) w.drew 34 ty _ i0 Tryz.underlying34 hi0 g i cap cur hG a (n - (i + 1)) c tail (by rw [hz1]; exact htl)
      (fun j u hj => by
        have : j < tail.length := by
          rcases Nat.lt_or_ge j tail.length with h | h
          · exact h
          · rw [List.getElem?_eq_none h] at hj; cases hj
        rw [hA (by omega), Addr.add_lit, show (i + 1) * 6 = i * 6 + 6 by omega]
        exact htc j u hj) (fun u hu => h1c u (List.mem_of_mem_drop (htail ▸ hu))) (by omega) (by rw [hz1]; omega)
    rw [hW1, show n - 1 = i + (n - (i + 1)) by omega]
    unfold splice
    rw [hz1, List.append_assoc] at this
    exact this
  have hG1 : W1.heap[g]? = some (.cells (splice cur.toList (i * 6) tail).toArray 23 (0, 0)) := by rw [hW1]; exact setRow_heap _ _ _ _ _ _ hG
  have hl1 : (splice cur.toList (i * 6) tail).length = cap * 6 := by rw [splice_len cur.toList (i * 6) tail (by omega), e0, hc]
  obtain ⟨Z, hZ⟩ : ∃ Z, Z = (Builtin.zeroCells (Value.agg #[.string ⟨#[]⟩, .string ⟨#[]⟩, .string ⟨#[]⟩, .string ⟨#[]⟩, .string ⟨#[]⟩, .int .i64 0]).cells 1).toList := ⟨_, rfl⟩
  have hZ2 : Z = [.string ⟨#[]⟩, .string ⟨#[]⟩, .string ⟨#[]⟩, .string ⟨#[]⟩, .string ⟨#[]⟩, .int .i64 0] := by rw [hZ]; exact zero6
  have hZl : Z.length = 6 := by rw [hZ2]; rfl
  have hcl : ∀ ty c, (Builtin.clear_ #[34] ty #[.slice (some ⟨g, (n - 1) * 6, none⟩) 1 c]).run Tryz.prog W1 = .ok (.tuple #[]) (W1.setRow g (splice (splice cur.toList (i * 6) tail) ((n - 1) * 6) Z).toArray) := fun ty c => by
    have := run_clear_rowN (P := Tryz.prog) W1 34 ty _ _ g ((n - 1) * 6) 1 c _ _ Tryz.underlying34 zero_range hG1 (by omega) (by rw [← hZ, List.size_toArray]; omega) (by rw [← hZ, hZ2]; simp [Value.oneCell'])
    rw [← hZ] at this
    exact this
  have hpost : (W1.setRow g (splice (splice cur.toList (i * 6) tail) ((n - 1) * 6) Z).toArray).ownsRow base 23 6 (.slice (some ⟨g, 0, none⟩) (n - 1) cap) (n - 1) ((cur.toList.take (n * 6)).take (i * 6) ++ (cur.toList.take (n * 6)).drop (i * 6 + 6)) := by
    refine ⟨?_, .inr ⟨g, cap, _, rfl, hbg, setRow_heap _ _ _ _ _ _ hG1, by omega, by unfold maxLen; omega, ?_, ?_⟩⟩
    · simp only [List.length_append, List.length_take, List.length_drop]; omega
    · rw [List.size_toArray, splice_len _ _ _ (by omega), hl1]
    · have := del_list cur.toList tail Z (i * 6) 6 (n * 6) htail (by omega) (by omega) hZl
      rw [show n * 6 - 6 = (n - 1) * 6 by omega] at this
      exact this
  have hgr : w.grownBy (W1.setRow g (splice (splice cur.toList (i * 6) tail) ((n - 1) * 6) Z).toArray) (some g) := by
    rw [hW1]
    exact grownBy_trans (grownBy_drew w _) (grownBy_trans (grownBy_setRow _ _ _) (grownBy_setRow _ _ _))
  have HP := Lib.hid hpost
  have HR := Lib.hid hgr
  have hne : ¬ ((i : Int) = (i : Int) + 1) := by omega
  have hb1 : (0 : Int) ≤ (i : Int) + 1 := by omega
  have hin : i ≤ n := by omega
  have hin2 : (i : Int) + 1 ≤ (n : Int) := by omega
  have htn : ((i : Int) + 1).toNat = i + 1 := by omega
  have hci : ¬ (cap = i) := by omega
  have hn1 : 0 < n := by omega
  clear hpost hgr hW1 hl1 hG1 htc htl htail h1c hG hc hZ hZ2 hZl e0 hi0 hz0 hz1 hz2
  by_cases hce : cap = i + 1
  · obtain rfl : n = i + 1 := by omega
    subst hce
    have hap0 := fun ty => hap ty ⟨g, 0, none⟩ (fun h => by omega) 0
    have hcl0 := hcl
    rw [Nat.sub_self] at hap0
    rw [Nat.add_sub_cancel] at hap0 hcl0
    have hi2 : (i : Int) ≤ (i : Int) + 1 := by omega
    have hi3 : i ≤ i + 1 := by omega
    go_enter Tryz.func40, Tryz.ntmps40
    go_wp2_with fail
    go_region_law (refine step_append_runI rfl _ _ 34 34 rfl (.slice (some ⟨g, 0, none⟩) i (i + 1)) (.slice (some ⟨g, 0, none⟩) 0 0) (by simp [Act.eval, Act.put]) (by simp [Act.eval, Act.put]) (hap0 34) ?_)
    go_wp2_with fail
    go_ret
    exact ⟨_, rfl, HP.out, HR.out, by simp⟩
  · have hi3 : i ≤ cap := by omega
    have hn2 : n - (n - 1) = 1 := by omega
    have hi4 : (i : Int) ≤ (cap : Int) := by omega
    go_enter Tryz.func40, Tryz.ntmps40
    go_wp2_with fail
    go_region_law (refine step_append_runI rfl _ _ 34 34 rfl (.slice (some ⟨g, 0, none⟩) i cap) (.slice (some ⟨g, (i + 1) * 6, none⟩) (n - (i + 1)) (cap - (i + 1))) (by simp [Act.eval, Act.put]) (by simp [Act.eval, Act.put]) (hap 34 _ (fun h => rfl) (cap - (i + 1))) ?_)
    go_wp2_with fail
    go_ret
    exact ⟨_, rfl, HP.out, HR.out, by simp⟩

/-- slices.Delete of one element out of a slice of the call's own. -/
theorem del_any {base : Nat} (v : Value) (n i : Nat) (xs : List Value) (w : World) (hown : w.ownsRow base 23 6 v n xs) (h1x : ∀ u ∈ xs, u.oneCell' = true) (hi : i < n) (hn : n ≤ 1000) :
    Calls Tryz.prog 40 #[v, .int .i64 i, .int .i64 ((i : Int) + 1)] w (DelPost base v (n - 1) (xs.take (i * 6) ++ xs.drop (i * 6 + 6)) w) := by
  obtain ⟨hxl, ⟨rfl, h0⟩ | ⟨g, cap, cur, rfl, hbg, hG, hnc, hm, hcs, hx⟩⟩ := id hown
  · omega
  · have := del_one (base := base) g n i cap cur w hbg hG hcs hm (by rw [hx]; exact h1x) hi hnc hn
    rw [hx] at this
    exact this

def sameF (r : Rng) (from_ : ByteArray) : Bool := r.f.toList == from_.toList

set_option maxHeartbeats 800000 in
theorem drop1_any (r : Rng) (from_ : ByteArray) (b : Nat) (w : World) (hb : w.cell? ⟨b, 0, none⟩ = some (.string from_)) :
    Calls Tryz.prog 39 #[.agg #[.string r.f, .string r.t, .string r.n, .string r.lo, .string r.hi, .int .i64 r.m], .pointer (some ⟨b, 0, none⟩)] w fun e w' => e = .returned (.bool (sameF r from_)) ∧ Below w.heap.size w w' := by
  have hbl := World.block_lt_of_cell? w _ hb
  go_enter Tryz.func39, Tryz.ntmps39
  go_wp2
  go_ret
  exact ⟨rfl, below_alloc (Below.refl _ _) _⟩

/-- The first range that begins so. -/
def idxOf : List Rng → ByteArray → Nat → Int
  | [], _, _ => -1
  | r :: l, c, k => if sameF r c = true then k else idxOf l c (k + 1)

set_option maxHeartbeats 2000000 in
set_option maxRecDepth 100000 in
theorem idx_any (v : Value) (l : List Rng) (from_ : ByteArray) (b : Nat) (w : World) (hT : Tab w v l) (hl : l.length ≤ 1000) (hb : w.cell? ⟨b, 0, none⟩ = some (.string from_)) :
    Calls Tryz.prog 38 #[v, .func (.func 39) #[] #[.pointer (some ⟨b, 0, none⟩)]] w fun e w' => e = .returned (.int .i64 (idxOf l from_ 0)) ∧ Below w.heap.size w w' := by
  obtain ⟨A, c, rfl⟩ := hT.slice
  have HT := Lib.hid hT
  have HB := Lib.hid hb
  clear hT hb
  go_enter Tryz.func38, Tryz.ntmps38
  go_wp2
  go_loopw [8] (fun vi wr => ∃ k : Nat, k ≤ l.length ∧ vi = .int .i64 k ∧ idxOf (l.drop k) from_ k = idxOf l from_ 0 ∧ Below w.heap.size w wr) (fun vi _ => l.length - (intOf vi).toNat)
  case atStart => exact ⟨0, Nat.zero_le _, rfl, rfl, Below.refl _ _⟩
  case round =>
    obtain ⟨k, hk, rfl, hix, hB⟩ := hrel
    have B := Lib.hid hB
    clear hB
    by_cases hlt : k < l.length
    · have k9 : decide ((k : Int) < (l.length : Int)) = true := decide_eq_true (by omega)
      have hcells : ∃ g, A = some ⟨g, 0, none⟩ ∧ RngAt w g k l[k] := by
        rcases HT.out with ⟨h1, h2⟩ | ⟨g, cap, h1, _, _, _, h5⟩
        · rw [h2] at hlt; exact absurd hlt (by simp)
        · exact ⟨g, by simp at h1; exact h1.1, Tab.rngs h5 k hlt⟩
      obtain ⟨g, rfl, hr⟩ := hcells
      obtain ⟨c0, c1, c2, c3, c4, c5⟩ := hr.below B.out
      have hd : l.drop k = l[k] :: l.drop (k + 1) := List.drop_eq_getElem_cons hlt
      rw [hd, idxOf] at hix
      have HD := Lib.hid (fun W hW => drop1_any l[k] from_ b W (cellBelow hW (cellBelow B.out HB.out)))
      generalize hrk : l[k] = r at hix HD c0 c1 c2 c3 c4 c5
      clear hd hr hrk
      cases hs : sameF r from_ with
      | true =>
        rw [hs, if_pos rfl] at hix
        rw [hs] at HD
        have HIX := Lib.hid hix
        clear hix hs
        go_wp2_with (go_at_call 39; go_must (refine (HD.out _ (Below.refl _ _)).mono ?_); rintro e w1 ⟨rfl, hb⟩)
        go_ret
        exact ⟨by rw [← HIX.out]; rfl, below_step B.out hb⟩
      | false =>
        rw [hs, if_neg (by decide)] at hix
        rw [hs] at HD
        have HIX := Lib.hid hix
        clear hix hs
        go_wp2_with (go_at_call 39; go_must (refine (HD.out _ (Below.refl _ _)).mono ?_); rintro e w1 ⟨rfl, hb⟩)
        go_roundw
        case rel => exact ⟨k + 1, by omega, by go_num, HIX.out, below_step B.out hb⟩
        case measure => simp [intOf]; omega
    · obtain rfl : k = l.length := by omega
      have k9 : decide ((l.length : Int) < (l.length : Int)) = false := by simp
      rw [List.drop_of_length_le (Nat.le_refl _)] at hix
      have HIX := Lib.hid hix
      clear hix
      go_wp2
      go_ret
      exact ⟨by rw [← HIX.out]; rfl, B.out⟩

/-- What Drop leaves. -/
def dropL (l : List Rng) (from_ : ByteArray) : List Rng := if 0 ≤ idxOf l from_ 0 then l.take (idxOf l from_ 0).toNat ++ l.drop ((idxOf l from_ 0).toNat + 1) else []
def dropE (l : List Rng) (from_ : ByteArray) : Int := if 0 ≤ idxOf l from_ 0 then 0 else 16
def DropPost (l : List Rng) (from_ : ByteArray) (w : World) (e : Ending) (w' : World) : Prop :=
  ∃ v', e = .returned (.tuple #[.agg #[v'], .int .i64 (dropE l from_)]) ∧ Tab w' v' (dropL l from_) ∧ Below w.heap.size w w' ∧ (∀ k, v'.ownBlock = some k → w.heap.size ≤ k)

theorem idxOf_lt : ∀ (l : List Rng) (c : ByteArray) (k : Nat), idxOf l c k = -1 ∨ ((k : Int) ≤ idxOf l c k ∧ idxOf l c k < k + l.length)
  | [], _, _ => .inl rfl
  | r :: l, c, k => by
    unfold idxOf
    by_cases h : sameF r c = true
    · rw [if_pos h]; exact .inr ⟨Int.le_refl _, by simp; omega⟩
    · rw [if_neg h]
      rcases idxOf_lt l c (k + 1) with h2 | ⟨h2, h3⟩
      · exact .inl h2
      · exact .inr ⟨by omega, by simp; omega⟩

set_option maxHeartbeats 4000000 in
set_option maxRecDepth 100000 in
theorem drop_none (A : Option Addr) (c : Nat) (l : List Rng) (from_ : ByteArray) (w : World) (hT : Tab w (.slice A l.length c) l) (hl : l.length ≤ 1000) (h : idxOf l from_ 0 < 0) :
    Calls Tryz.prog 15 #[.agg #[.slice A l.length c], .string from_] w (DropPost l from_ w) := by
  have F0 := Lib.hid (show (((w.alloc (.cells #[.slice A l.length c] 36)).alloc (.cells #[.string from_] 9)).alloc (.cells #[.slice none 0 0] 36)).heap[w.heap.size]? = some (.cells #[.slice A l.length c] 36) from allocs_get w [.cells #[.slice A l.length c] 36, .cells #[.string from_] 9, .cells #[.slice none 0 0] 36] 0 _ rfl); have F1 := Lib.hid (show (((w.alloc (.cells #[.slice A l.length c] 36)).alloc (.cells #[.string from_] 9)).alloc (.cells #[.slice none 0 0] 36)).heap[w.heap.size + 1]? = some (.cells #[.string from_] 9) from allocs_get w [.cells #[.slice A l.length c] 36, .cells #[.string from_] 9, .cells #[.slice none 0 0] 36] 1 _ rfl); have F2 := Lib.hid (show (((w.alloc (.cells #[.slice A l.length c] 36)).alloc (.cells #[.string from_] 9)).alloc (.cells #[.slice none 0 0] 36)).heap[w.heap.size + 1 + 1]? = some (.cells #[.slice none 0 0] 36) from allocs_get w [.cells #[.slice A l.length c] 36, .cells #[.string from_] 9, .cells #[.slice none 0 0] 36] 2 _ rfl); have B := Lib.hid (show Below w.heap.size w (((w.alloc (.cells #[.slice A l.length c] 36)).alloc (.cells #[.string from_] 9)).alloc (.cells #[.slice none 0 0] 36)) from allocs_below w [.cells #[.slice A l.length c] 36, .cells #[.string from_] 9, .cells #[.slice none 0 0] 36])
  have F1_0 := blkc F1.out 0 rfl
  have HI := Lib.hid (idx_any _ l from_ _ _ (hT.below B.out) hl F1_0)
  have hE : dropE l from_ = 16 := by unfold dropE; rw [if_neg (by omega)]
  have hL : dropL l from_ = [] := by unfold dropL; rw [if_neg (by omega)]
  unfold DropPost
  rw [hE, hL]
  have k1 : decide (idxOf l from_ 0 < 0) = true := decide_eq_true h
  clear hT hE hL h
  go_enter Tryz.func15, Tryz.ntmps15
  go_wp2_with (go_at_call 38; go_must (refine HI.out.mono ?_); rintro e w1 ⟨rfl, hb⟩; replace B := Lib.hid (below_step B.out hb); replace F0 := Lib.hid (blk_below F0.out hb); replace F0_0 := blkc F0.out 0 rfl; replace F2 := Lib.hid (blk_below F2.out hb); replace F2_0 := blkc F2.out 0 rfl; replace F2_f := blk_frozen F2.out 0; clear hb)
  have F2_0 := blkc (blk_set F2.out 0 (.slice none 0 0)) 0 rfl
  exact bodyPost_ret (v := .tuple #[.agg #[.slice none 0 0], .int .i64 16]) (by simp [results, Tryz.results15, go_sem, F2_0]) rfl ⟨_, rfl, .inl ⟨rfl, rfl⟩, B.out.setCell (by simp; omega) _, fun k hk => by cases hk⟩

set_option maxHeartbeats 4000000 in
set_option maxRecDepth 100000 in
theorem drop_some (A : Option Addr) (c i : Nat) (l : List Rng) (from_ : ByteArray) (w : World) (hT : Tab w (.slice A l.length c) l) (hl : l.length ≤ 1000) (h : idxOf l from_ 0 = i) (hi : i < l.length) :
    Calls Tryz.prog 15 #[.agg #[.slice A l.length c], .string from_] w (DropPost l from_ w) := by
  have F0 := Lib.hid (show (((w.alloc (.cells #[.slice A l.length c] 36)).alloc (.cells #[.string from_] 9)).alloc (.cells #[.slice none 0 0] 36)).heap[w.heap.size]? = some (.cells #[.slice A l.length c] 36) from allocs_get w [.cells #[.slice A l.length c] 36, .cells #[.string from_] 9, .cells #[.slice none 0 0] 36] 0 _ rfl); have F1 := Lib.hid (show (((w.alloc (.cells #[.slice A l.length c] 36)).alloc (.cells #[.string from_] 9)).alloc (.cells #[.slice none 0 0] 36)).heap[w.heap.size + 1]? = some (.cells #[.string from_] 9) from allocs_get w [.cells #[.slice A l.length c] 36, .cells #[.string from_] 9, .cells #[.slice none 0 0] 36] 1 _ rfl); have F2 := Lib.hid (show (((w.alloc (.cells #[.slice A l.length c] 36)).alloc (.cells #[.string from_] 9)).alloc (.cells #[.slice none 0 0] 36)).heap[w.heap.size + 1 + 1]? = some (.cells #[.slice none 0 0] 36) from allocs_get w [.cells #[.slice A l.length c] 36, .cells #[.string from_] 9, .cells #[.slice none 0 0] 36] 2 _ rfl); have B := Lib.hid (show Below w.heap.size w (((w.alloc (.cells #[.slice A l.length c] 36)).alloc (.cells #[.string from_] 9)).alloc (.cells #[.slice none 0 0] 36)) from allocs_below w [.cells #[.slice A l.length c] 36, .cells #[.string from_] 9, .cells #[.slice none 0 0] 36])
  have F1_0 := blkc F1.out 0 rfl
  have HI := Lib.hid (idx_any _ l from_ _ _ (hT.below B.out) hl F1_0)
  have hE : dropE l from_ = 0 := by unfold dropE; rw [if_pos (by omega)]
  have hL : dropL l from_ = l.take i ++ l.drop (i + 1) := by unfold dropL; rw [if_pos (by omega), h]; rfl
  unfold DropPost
  rw [hE, hL]
  rw [h] at HI
  have HT := Lib.hid hT
  have k1 : decide ((i : Int) < 0) = false := decide_eq_false (by omega)
  have hil : (l.take i ++ l.drop (i + 1)).length = l.length - 1 := by simp; omega
  have hrc : (rcells l).take (i * 6) ++ (rcells l).drop (i * 6 + 6) = rcells (l.take i ++ l.drop (i + 1)) := by
    rw [rcells_app, rcells_take, show i * 6 + 6 = (i + 1) * 6 by omega, rcells_drop]
  have HIL := Lib.hid hil
  have HRC := Lib.hid hrc
  clear hT hE hL h hil hrc
  go_enter Tryz.func15, Tryz.ntmps15
  go_wp2_with (first | (go_at_call 38; go_must (refine HI.out.mono ?_); rintro e w1 ⟨rfl, hb⟩; have B1 := Lib.hid (show w.heap.size + 3 ≤ w1.heap.size by have := hb.size; simp at this; omega); replace B := Lib.hid (below_step B.out hb); replace F0 := Lib.hid (blk_below F0.out hb); replace F0_0 := blkc F0.out 0 rfl; replace F2 := Lib.hid (blk_below F2.out hb); replace F2_0 := blkc F2.out 0 rfl; replace F2_f := blk_frozen F2.out 0; clear hb) | (go_at_call 41; go_must (refine (clone_any _ l _ (HT.out.below B.out) hl).mono ?_); rintro e w2 ⟨v2, rfl, hown, hb⟩; have O2 := Lib.hid hown; have B2 := Lib.hid hb; clear hown hb) | (go_at_call 40; go_must (refine (del_any v2 l.length i (rcells l) _ O2.out (rcells_oneCell l) hi hl).mono ?_); rintro e w3 ⟨v3, rfl, hown, hgr, hnn⟩; obtain ⟨g3, c3, rfl⟩ := own_some hown hnn; have O3 := Lib.hid hown; have hb := B2.out.grown hgr (B2.out.size) (fun k hk => (O2.out.lt k hk).1); replace B := Lib.hid (below_step B.out hb); replace F2 := Lib.hid (blk_below F2.out hb); replace F2_0 := blkc F2.out 0 rfl; replace F2_f := blk_frozen F2.out 0; clear hb; clear hown hgr hnn))
  have F2_0 := blkc (blk_set F2.out 0 (.slice (some ⟨g3, 0, none⟩) (l.length - 1) c3)) 0 rfl
  have hbg : ∀ k, Value.ownBlock (.slice (some ⟨g3, 0, none⟩) (l.length - 1) c3) = some k → w.heap.size + 3 ≤ k := fun k hk => by
    have := (O3.out.lt k hk).1
    have h1 := B1.out
    omega
  refine bodyPost_ret (v := .tuple #[.agg #[.slice (some ⟨g3, 0, none⟩) (l.length - 1) c3], .int .i64 0]) (by simp [results, Tryz.results15, go_sem, F2_0]) rfl ⟨_, rfl, ?_, B.out.setCell (by simp; omega) _, fun k hk => by have := hbg k hk; omega⟩
  refine Tab.of_owns (base := w.heap.size) ?_
  rw [HIL.out, ← HRC.out]
  exact own_move (own_weaken O3.out (by have := B1.out; omega)) (fun k hk => Below.heap_setCell _ _ _ k (by have := hbg k hk; dsimp only; omega))

theorem drop_any (v : Value) (l : List Rng) (from_ : ByteArray) (w : World) (hT : Tab w v l) (hl : l.length ≤ 1000) :
    Calls Tryz.prog 15 #[.agg #[v], .string from_] w (DropPost l from_ w) := by
  obtain ⟨A, c, rfl⟩ := hT.slice
  rcases idxOf_lt l from_ 0 with h | ⟨h1, h2⟩
  · exact drop_none A c l from_ w hT hl (by omega)
  · exact drop_some A c (idxOf l from_ 0).toNat l from_ w hT hl (by omega) (by omega)

end Go.Proofs.YtiggnmhoececfaaGreatDoor

namespace Go.Proofs.YtiggnmhoececfaaGreatDoor
set_option linter.unusedVariables false
set_option linter.unusedSimpArgs false
open Go.RowKit Go.Proofs.YtiggnmhoececfaaGreatDoorW.PrintWords

def turnE (l : List Rng) (r : Rng) : Int := if dropE l r.f = 0 then addE (dropL l r.f) r else dropE l r.f
def turnL (l : List Rng) (r : Rng) : List Rng := if dropE l r.f = 0 then (if addE (dropL l r.f) r = 0 then addL (dropL l r.f) r else []) else []
def TabPost (E : Int) (l : List Rng) (w : World) (e : Ending) (w' : World) : Prop :=
  ∃ v', e = .returned (.tuple #[.agg #[v'], .int .i64 E]) ∧ Tab w' v' l ∧ Below w.heap.size w w' ∧ (∀ k, v'.ownBlock = some k → w.heap.size ≤ k)

theorem dropL_len (l : List Rng) (c : ByteArray) : (dropL l c).length ≤ l.length := by
  unfold dropL
  split
  · simp; omega
  · simp

set_option maxHeartbeats 4000000 in
set_option maxRecDepth 100000 in
theorem turn_fault (A : Option Addr) (c : Nat) (l : List Rng) (f t n lo hi : ByteArray) (m E : Int) (w : World)
    (HD : ∀ W, Below w.heap.size w W → Calls Tryz.prog 15 #[.agg #[.slice A l.length c], .string f] W (TabPost E [] W)) (hE : E ≠ 0) :
    Calls Tryz.prog 17 #[.agg #[.slice A l.length c], .agg #[.string f, .string t, .string n, .string lo, .string hi, .int .i64 m]] w (TabPost E [] w) := by
  have F0 := Lib.hid (show (((w.alloc (.cells #[.slice A l.length c] 36)).alloc (.cells #[.string f, .string t, .string n, .string lo, .string hi, .int .i64 m] 23)).alloc (.cells #[.slice none 0 0] 36)).heap[w.heap.size]? = some (.cells #[.slice A l.length c] 36) from allocs_get w [.cells #[.slice A l.length c] 36, .cells #[.string f, .string t, .string n, .string lo, .string hi, .int .i64 m] 23, .cells #[.slice none 0 0] 36] 0 _ rfl); have F1 := Lib.hid (show (((w.alloc (.cells #[.slice A l.length c] 36)).alloc (.cells #[.string f, .string t, .string n, .string lo, .string hi, .int .i64 m] 23)).alloc (.cells #[.slice none 0 0] 36)).heap[w.heap.size + 1]? = some (.cells #[.string f, .string t, .string n, .string lo, .string hi, .int .i64 m] 23) from allocs_get w [.cells #[.slice A l.length c] 36, .cells #[.string f, .string t, .string n, .string lo, .string hi, .int .i64 m] 23, .cells #[.slice none 0 0] 36] 1 _ rfl); have F2 := Lib.hid (show (((w.alloc (.cells #[.slice A l.length c] 36)).alloc (.cells #[.string f, .string t, .string n, .string lo, .string hi, .int .i64 m] 23)).alloc (.cells #[.slice none 0 0] 36)).heap[w.heap.size + 1 + 1]? = some (.cells #[.slice none 0 0] 36) from allocs_get w [.cells #[.slice A l.length c] 36, .cells #[.string f, .string t, .string n, .string lo, .string hi, .int .i64 m] 23, .cells #[.slice none 0 0] 36] 2 _ rfl); have B := Lib.hid (show Below w.heap.size w (((w.alloc (.cells #[.slice A l.length c] 36)).alloc (.cells #[.string f, .string t, .string n, .string lo, .string hi, .int .i64 m] 23)).alloc (.cells #[.slice none 0 0] 36)) from allocs_below w [.cells #[.slice A l.length c] 36, .cells #[.string f, .string t, .string n, .string lo, .string hi, .int .i64 m] 23, .cells #[.slice none 0 0] 36])
  have H1 := Lib.hid (HD _ B.out)
  have k1 : (E != 0) = true := by simpa using hE
  clear HD hE
  go_enter Tryz.func17, Tryz.ntmps17
  go_wp2_with (go_at_call 15; ((with_reducible refine H1.out.mono ?_); rintro e w1 ⟨v1, rfl, hT, hb, hfr⟩); obtain ⟨A1, c1, rfl⟩ := hT.slice; replace B := Lib.hid (below_step B.out hb); replace F0 := Lib.hid (blk_below F0.out hb); replace F0_0 := blkc F0.out 0 rfl; replace F1 := Lib.hid (blk_below F1.out hb); replace F1_0 := blkc F1.out 0 rfl; replace F2 := Lib.hid (blk_below F2.out hb); replace F2_0 := blkc F2.out 0 rfl; replace F2_f := blk_frozen F2.out 0; clear hb; have hz2 := blk_lt F2.out; clear hT hfr)
  have F2_1 := blkc (blk_alloc (blk_set F2.out 0 (.slice none 0 0)) (.cells #[.slice A1 0 c1] 36)) 0 rfl
  exact bodyPost_ret (v := .tuple #[.agg #[.slice none 0 0], .int .i64 E]) (by simp [results, Tryz.results17, go_sem, F2_1]) rfl ⟨_, rfl, .inl ⟨rfl, rfl⟩, below_alloc (B.out.setCell (by dsimp only; omega) _) _, fun k hk => by cases hk⟩

set_option maxHeartbeats 4000000 in
set_option maxRecDepth 100000 in
theorem turn_on (A : Option Addr) (c : Nat) (l l1 l2 : List Rng) (f t n lo hi : ByteArray) (m E : Int) (w : World) (hG : Glob w)
    (HD : ∀ W, Below w.heap.size w W → Calls Tryz.prog 15 #[.agg #[.slice A l.length c], .string f] W (TabPost 0 l1 W))
    (HA : ∀ W v, Glob W → Tab W v l1 → Calls Tryz.prog 19 #[.agg #[v], .agg #[.string f, .string t, .string n, .string lo, .string hi, .int .i64 m]] W (TabPost E l2 W)) :
    Calls Tryz.prog 17 #[.agg #[.slice A l.length c], .agg #[.string f, .string t, .string n, .string lo, .string hi, .int .i64 m]] w (TabPost E l2 w) := by
  have F0 := Lib.hid (show (((w.alloc (.cells #[.slice A l.length c] 36)).alloc (.cells #[.string f, .string t, .string n, .string lo, .string hi, .int .i64 m] 23)).alloc (.cells #[.slice none 0 0] 36)).heap[w.heap.size]? = some (.cells #[.slice A l.length c] 36) from allocs_get w [.cells #[.slice A l.length c] 36, .cells #[.string f, .string t, .string n, .string lo, .string hi, .int .i64 m] 23, .cells #[.slice none 0 0] 36] 0 _ rfl); have F1 := Lib.hid (show (((w.alloc (.cells #[.slice A l.length c] 36)).alloc (.cells #[.string f, .string t, .string n, .string lo, .string hi, .int .i64 m] 23)).alloc (.cells #[.slice none 0 0] 36)).heap[w.heap.size + 1]? = some (.cells #[.string f, .string t, .string n, .string lo, .string hi, .int .i64 m] 23) from allocs_get w [.cells #[.slice A l.length c] 36, .cells #[.string f, .string t, .string n, .string lo, .string hi, .int .i64 m] 23, .cells #[.slice none 0 0] 36] 1 _ rfl); have F2 := Lib.hid (show (((w.alloc (.cells #[.slice A l.length c] 36)).alloc (.cells #[.string f, .string t, .string n, .string lo, .string hi, .int .i64 m] 23)).alloc (.cells #[.slice none 0 0] 36)).heap[w.heap.size + 1 + 1]? = some (.cells #[.slice none 0 0] 36) from allocs_get w [.cells #[.slice A l.length c] 36, .cells #[.string f, .string t, .string n, .string lo, .string hi, .int .i64 m] 23, .cells #[.slice none 0 0] 36] 2 _ rfl); have B := Lib.hid (show Below w.heap.size w (((w.alloc (.cells #[.slice A l.length c] 36)).alloc (.cells #[.string f, .string t, .string n, .string lo, .string hi, .int .i64 m] 23)).alloc (.cells #[.slice none 0 0] 36)) from allocs_below w [.cells #[.slice A l.length c] 36, .cells #[.string f, .string t, .string n, .string lo, .string hi, .int .i64 m] 23, .cells #[.slice none 0 0] 36])
  have H1 := Lib.hid (HD _ B.out)
  have H2 := Lib.hid HA
  clear HD HA
  go_enter Tryz.func17, Tryz.ntmps17
  go_wp2_with (first | (go_at_call 15; ((with_reducible refine H1.out.mono ?_); rintro e w1 ⟨v1, rfl, hT, hb, hfr⟩); obtain ⟨A1, c1, rfl⟩ := hT.slice; have HT1 := Lib.hid hT; replace B := Lib.hid (below_step B.out hb); replace F0 := Lib.hid (blk_below F0.out hb); replace F0_0 := blkc F0.out 0 rfl; replace F1 := Lib.hid (blk_below F1.out hb); replace F1_0 := blkc F1.out 0 rfl; replace F1_1 := blkc F1.out 1 rfl; replace F1_2 := blkc F1.out 2 rfl; replace F1_3 := blkc F1.out 3 rfl; replace F1_4 := blkc F1.out 4 rfl; replace F1_5 := blkc F1.out 5 rfl; replace F2 := Lib.hid (blk_below F2.out hb); replace F2_0 := blkc F2.out 0 rfl; replace F2_f := blk_frozen F2.out 0; clear hb; have hz2 := blk_lt F2.out; have hz1 := blk_lt F1.out; clear hT hfr) | (go_at_call 19; ((refine (H2.out _ _ (hG.below (below_alloc B.out _)) (HT1.out.below (below_alloc (Below.refl _ _) _))).mono ?_); rintro e w2 ⟨v2, rfl, hT2, hb, hfr2⟩); obtain ⟨A2, c2, rfl⟩ := hT2.slice; have HT2 := Lib.hid hT2; have HF2 := Lib.hid hfr2; replace B := Lib.hid (below_step (below_alloc B.out _) hb); replace F2 := Lib.hid (blk_below (blk_alloc F2.out _) hb); replace F2_0 := blkc F2.out 0 rfl; replace F2_f := blk_frozen F2.out 0; clear hb; clear hT2 hfr2))
  have F2_1 := blkc (blk_set F2.out 0 (.slice A2 l2.length c2)) 0 rfl
  have hw2 : w.heap.size + 3 ≤ (w1.alloc (.cells #[.slice A1 l1.length c1] 36)).heap.size := by simp; omega
  refine bodyPost_ret (v := .tuple #[.agg #[.slice A2 l2.length c2], .int .i64 E]) (by simp [results, Tryz.results17, go_sem, F2_1]) rfl ⟨_, rfl, HT2.out.far (fun e => by have := HF2.out _ e; dsimp only at this; omega) _, B.out.setCell (by simp; omega) _, fun k hk => by have := HF2.out k hk; omega⟩

theorem turn_any (v : Value) (l : List Rng) (r : Rng) (w : World) (hG : Glob w) (hT : Tab w v l) (hr : Small r) (hl : l.length ≤ 1000) :
    Calls Tryz.prog 17 #[.agg #[v], r.v] w (TabPost (turnE l r) (turnL l r) w) := by
  obtain ⟨A, c, rfl⟩ := hT.slice
  have HD := fun W hW => drop_any _ l r.f W (hT.below hW) hl
  by_cases h0 : dropE l r.f = 0
  · have e1 : turnE l r = addE (dropL l r.f) r := by unfold turnE; rw [if_pos h0]
    have e2 : turnL l r = if addE (dropL l r.f) r = 0 then addL (dropL l r.f) r else [] := by unfold turnL; rw [if_pos h0]
    rw [e1, e2]
    refine turn_on A c l (dropL l r.f) _ r.f r.t r.n r.lo r.hi r.m _ w hG (fun W hW => ?_) (fun W v hW hv => add_any v (dropL l r.f) r W hW hv hr (Nat.le_trans (dropL_len _ _) hl))
    have := HD W hW
    unfold DropPost at this
    rw [h0] at this
    exact this
  · have e1 : turnE l r = dropE l r.f := by unfold turnE; rw [if_neg h0]
    have e2 : turnL l r = [] := by unfold turnL; rw [if_neg h0]
    rw [e1, e2]
    refine turn_fault A c l r.f r.t r.n r.lo r.hi r.m _ w (fun W hW => ?_) h0
    have := HD W hW
    unfold DropPost at this
    have e3 : dropL l r.f = [] := by
      unfold dropE at h0
      unfold dropL
      by_cases h : 0 ≤ idxOf l r.f 0
      · rw [if_pos h] at h0; exact absurd rfl h0
      · rw [if_neg h]
    rw [e3] at this
    exact this

end Go.Proofs.YtiggnmhoececfaaGreatDoor

namespace Go.Proofs.YtiggnmhoececfaaGreatDoor
set_option linter.unusedVariables false
set_option linter.unusedSimpArgs false
open Go.RowKit Go.Proofs.YtiggnmhoececfaaGreatDoorW.PrintWords

def noR : Rng := ⟨⟨#[]⟩, ⟨#[]⟩, ⟨#[]⟩, ⟨#[]⟩, ⟨#[]⟩, 0⟩
/-- What Find comes to. -/
def findB (l : List Rng) (c : ByteArray) : Bool := if h : bsGo l c 0 l.length < l.length then bsHit l c (bsGo l c 0 l.length) && hasV l[bsGo l c 0 l.length].f l[bsGo l c 0 l.length].t c else false
def findR (l : List Rng) (c : ByteArray) : Rng := if h : bsGo l c 0 l.length < l.length then (if findB l c = true then l[bsGo l c 0 l.length] else noR) else noR

/-- Six stores: a range is laid over another one. -/
def set6 (w : World) (g : Nat) (a b c d e f : Value) : World :=
  ((((((w.setCell ⟨g, 0, none⟩ a).setCell ⟨g, 1, none⟩ b).setCell ⟨g, 2, none⟩ c).setCell ⟨g, 3, none⟩ d).setCell ⟨g, 4, none⟩ e).setCell ⟨g, 5, none⟩ f)
theorem set6_blk {w : World} {g : Nat} {T : TypeId} {a0 b0 c0 d0 e0 f0 : Value} (h : w.heap[g]? = some (.cells #[a0, b0, c0, d0, e0, f0] T (0, 0))) (a b c d e f : Value) :
    (set6 w g a b c d e f).heap[g]? = some (.cells #[a, b, c, d, e, f] T (0, 0)) :=
  blk_set (blk_set (blk_set (blk_set (blk_set (blk_set h 0 a) 1 b) 2 c) 3 d) 4 e) 5 f
theorem set6_below {w0 w : World} {B g : Nat} (h : Below B w0 w) (hg : B ≤ g) (a b c d e f : Value) : Below B w0 (set6 w g a b c d e f) :=
  (((((h.setCell hg _).setCell hg _).setCell hg _).setCell hg _).setCell hg _).setCell hg _

set_option maxHeartbeats 4000000 in
set_option maxRecDepth 100000 in
theorem find_not (v : Value) (c : ByteArray) (i : Int) (w : World) (A : Option Addr) (n cap : Nat) (hv : v = .slice A n cap)
    (HP : ∀ W, Below w.heap.size w W → Calls Tryz.prog 42 #[.agg #[.slice A n cap], .string c] W fun e w' => e = .returned (.tuple #[.int .i64 i, .bool false]) ∧ Below W.heap.size W w') :
    Calls Tryz.prog 22 #[.agg #[.slice A n cap], .string c] w fun e w' => e = .returned (.tuple #[noR.v, .bool false]) ∧ Below w.heap.size w w' := by
  have F0 := Lib.hid (show ((w.alloc (.cells #[.slice A n cap] 36)).alloc (.cells #[.string ⟨#[]⟩, .string ⟨#[]⟩, .string ⟨#[]⟩, .string ⟨#[]⟩, .string ⟨#[]⟩, .int .i64 0] 23)).heap[w.heap.size]? = some (.cells #[.slice A n cap] 36) from allocs_get w [.cells #[.slice A n cap] 36, .cells #[.string ⟨#[]⟩, .string ⟨#[]⟩, .string ⟨#[]⟩, .string ⟨#[]⟩, .string ⟨#[]⟩, .int .i64 0] 23] 0 _ rfl); have F1 := Lib.hid (show ((w.alloc (.cells #[.slice A n cap] 36)).alloc (.cells #[.string ⟨#[]⟩, .string ⟨#[]⟩, .string ⟨#[]⟩, .string ⟨#[]⟩, .string ⟨#[]⟩, .int .i64 0] 23)).heap[w.heap.size + 1]? = some (.cells #[.string ⟨#[]⟩, .string ⟨#[]⟩, .string ⟨#[]⟩, .string ⟨#[]⟩, .string ⟨#[]⟩, .int .i64 0] 23) from allocs_get w [.cells #[.slice A n cap] 36, .cells #[.string ⟨#[]⟩, .string ⟨#[]⟩, .string ⟨#[]⟩, .string ⟨#[]⟩, .string ⟨#[]⟩, .int .i64 0] 23] 1 _ rfl); have B := Lib.hid (show Below w.heap.size w ((w.alloc (.cells #[.slice A n cap] 36)).alloc (.cells #[.string ⟨#[]⟩, .string ⟨#[]⟩, .string ⟨#[]⟩, .string ⟨#[]⟩, .string ⟨#[]⟩, .int .i64 0] 23)) from allocs_below w [.cells #[.slice A n cap] 36, .cells #[.string ⟨#[]⟩, .string ⟨#[]⟩, .string ⟨#[]⟩, .string ⟨#[]⟩, .string ⟨#[]⟩, .int .i64 0] 23])
  have H1 := Lib.hid (HP _ B.out)
  clear HP
  go_enter Tryz.func22, Tryz.ntmps22
  go_wp2_with (go_at_call 42; go_must (refine H1.out.mono ?_); rintro e w1 ⟨rfl, hb⟩; replace B := Lib.hid (below_step B.out hb); replace F0 := Lib.hid (blk_below F0.out hb); replace F0_0 := blkc F0.out 0 rfl; replace F1 := Lib.hid (blk_below F1.out hb); replace F1_0 := blkc F1.out 0 rfl; replace F1_1 := blkc F1.out 1 rfl; replace F1_2 := blkc F1.out 2 rfl; replace F1_3 := blkc F1.out 3 rfl; replace F1_4 := blkc F1.out 4 rfl; replace F1_5 := blkc F1.out 5 rfl; replace F1_f := fun j => blk_frozen F1.out j; clear hb)
  have G := set6_blk F1.out (.string ⟨#[]⟩) (.string ⟨#[]⟩) (.string ⟨#[]⟩) (.string ⟨#[]⟩) (.string ⟨#[]⟩) (.int .i64 0)
  have g0 := blkc G 0 rfl
  have g1 := blkc G 1 rfl
  have g2 := blkc G 2 rfl
  have g3 := blkc G 3 rfl
  have g4 := blkc G 4 rfl
  have g5 := blkc G 5 rfl
  have hB := set6_below B.out (show w.heap.size ≤ w.heap.size + 1 by omega) (.string ⟨#[]⟩) (.string ⟨#[]⟩) (.string ⟨#[]⟩) (.string ⟨#[]⟩) (.string ⟨#[]⟩) (.int .i64 0)
  unfold set6 at g0 g1 g2 g3 g4 g5 hB
  exact bodyPost_ret (v := .tuple #[.agg #[.string ⟨#[]⟩, .string ⟨#[]⟩, .string ⟨#[]⟩, .string ⟨#[]⟩, .string ⟨#[]⟩, .int .i64 0], .bool false]) (by simp [results, Tryz.results22, go_sem, g0, g1, g2, g3, g4, g5]) rfl ⟨rfl, hB⟩

set_option maxHeartbeats 4000000 in
set_option maxRecDepth 100000 in
theorem find_lacks (c : ByteArray) (i g n cap : Nat) (r : Rng) (w : World) (hi : i < n) (hr : RngAt w g i r)
    (HP : ∀ W, Below w.heap.size w W → Calls Tryz.prog 42 #[.agg #[.slice (some ⟨g, 0, none⟩) n cap], .string c] W fun e w' => e = .returned (.tuple #[.int .i64 i, .bool true]) ∧ Below W.heap.size W w')
    (HH : ∀ W, Calls Tryz.prog 12 #[.agg #[.string r.f, .string r.t, .string r.n, .string r.lo, .string r.hi, .int .i64 r.m], .string c] W fun e w' => e = .returned (.bool false) ∧ Below W.heap.size W w') :
    Calls Tryz.prog 22 #[.agg #[.slice (some ⟨g, 0, none⟩) n cap], .string c] w fun e w' => e = .returned (.tuple #[.agg #[.string ⟨#[]⟩, .string ⟨#[]⟩, .string ⟨#[]⟩, .string ⟨#[]⟩, .string ⟨#[]⟩, .int .i64 0], .bool false]) ∧ Below w.heap.size w w' := by
  have F0 := Lib.hid (show ((w.alloc (.cells #[.slice (some ⟨g, 0, none⟩) n cap] 36)).alloc (.cells #[.string ⟨#[]⟩, .string ⟨#[]⟩, .string ⟨#[]⟩, .string ⟨#[]⟩, .string ⟨#[]⟩, .int .i64 0] 23)).heap[w.heap.size]? = some (.cells #[.slice (some ⟨g, 0, none⟩) n cap] 36) from allocs_get w [.cells #[.slice (some ⟨g, 0, none⟩) n cap] 36, .cells #[.string ⟨#[]⟩, .string ⟨#[]⟩, .string ⟨#[]⟩, .string ⟨#[]⟩, .string ⟨#[]⟩, .int .i64 0] 23] 0 _ rfl); have F1 := Lib.hid (show ((w.alloc (.cells #[.slice (some ⟨g, 0, none⟩) n cap] 36)).alloc (.cells #[.string ⟨#[]⟩, .string ⟨#[]⟩, .string ⟨#[]⟩, .string ⟨#[]⟩, .string ⟨#[]⟩, .int .i64 0] 23)).heap[w.heap.size + 1]? = some (.cells #[.string ⟨#[]⟩, .string ⟨#[]⟩, .string ⟨#[]⟩, .string ⟨#[]⟩, .string ⟨#[]⟩, .int .i64 0] 23) from allocs_get w [.cells #[.slice (some ⟨g, 0, none⟩) n cap] 36, .cells #[.string ⟨#[]⟩, .string ⟨#[]⟩, .string ⟨#[]⟩, .string ⟨#[]⟩, .string ⟨#[]⟩, .int .i64 0] 23] 1 _ rfl); have B := Lib.hid (show Below w.heap.size w ((w.alloc (.cells #[.slice (some ⟨g, 0, none⟩) n cap] 36)).alloc (.cells #[.string ⟨#[]⟩, .string ⟨#[]⟩, .string ⟨#[]⟩, .string ⟨#[]⟩, .string ⟨#[]⟩, .int .i64 0] 23)) from allocs_below w [.cells #[.slice (some ⟨g, 0, none⟩) n cap] 36, .cells #[.string ⟨#[]⟩, .string ⟨#[]⟩, .string ⟨#[]⟩, .string ⟨#[]⟩, .string ⟨#[]⟩, .int .i64 0] 23])
  have H1 := Lib.hid (HP _ B.out)
  have H2 := Lib.hid HH
  have HR := Lib.hid (hr.below B.out)
  have k1 : decide ((i : Int) < (n : Int)) = true := decide_eq_true (by omega)
  clear HP HH hr
  go_enter Tryz.func22, Tryz.ntmps22
  go_wp2_with (first | (go_at_call 42; go_must (refine H1.out.mono ?_); rintro e w1 ⟨rfl, hb⟩; obtain ⟨c0, c1, c2, c3, c4, c5⟩ := HR.out.below hb; replace HR := Lib.hid (HR.out.below hb); replace B := Lib.hid (below_step B.out hb); replace F0 := Lib.hid (blk_below F0.out hb); replace F0_0 := blkc F0.out 0 rfl; replace F1 := Lib.hid (blk_below F1.out hb); replace F1_0 := blkc F1.out 0 rfl; replace F1_1 := blkc F1.out 1 rfl; replace F1_2 := blkc F1.out 2 rfl; replace F1_3 := blkc F1.out 3 rfl; replace F1_4 := blkc F1.out 4 rfl; replace F1_5 := blkc F1.out 5 rfl; replace F1_f := fun j => blk_frozen F1.out j; clear hb) | (go_at_call 12; go_must (refine (H2.out _).mono ?_); rintro e w2 ⟨rfl, hb⟩; obtain ⟨e0, e1, e2, e3, e4, e5⟩ := HR.out.below hb; replace B := Lib.hid (below_step B.out hb); replace F0 := Lib.hid (blk_below F0.out hb); replace F0_0 := blkc F0.out 0 rfl; replace F1 := Lib.hid (blk_below F1.out hb); replace F1_0 := blkc F1.out 0 rfl; replace F1_1 := blkc F1.out 1 rfl; replace F1_2 := blkc F1.out 2 rfl; replace F1_3 := blkc F1.out 3 rfl; replace F1_4 := blkc F1.out 4 rfl; replace F1_5 := blkc F1.out 5 rfl; replace F1_f := fun j => blk_frozen F1.out j; clear hb))
  have G := set6_blk F1.out (.string ⟨#[]⟩) (.string ⟨#[]⟩) (.string ⟨#[]⟩) (.string ⟨#[]⟩) (.string ⟨#[]⟩) (.int .i64 0)
  have g0 := blkc G 0 rfl
  have g1 := blkc G 1 rfl
  have g2 := blkc G 2 rfl
  have g3 := blkc G 3 rfl
  have g4 := blkc G 4 rfl
  have g5 := blkc G 5 rfl
  have hB := set6_below B.out (show w.heap.size ≤ w.heap.size + 1 by omega) (.string ⟨#[]⟩) (.string ⟨#[]⟩) (.string ⟨#[]⟩) (.string ⟨#[]⟩) (.string ⟨#[]⟩) (.int .i64 0)
  unfold set6 at g0 g1 g2 g3 g4 g5 hB
  exact bodyPost_ret (v := .tuple #[.agg #[.string ⟨#[]⟩, .string ⟨#[]⟩, .string ⟨#[]⟩, .string ⟨#[]⟩, .string ⟨#[]⟩, .int .i64 0], .bool false]) (by simp [results, Tryz.results22, go_sem, g0, g1, g2, g3, g4, g5]) rfl ⟨rfl, hB⟩

set_option maxHeartbeats 4000000 in
set_option maxRecDepth 100000 in
theorem find_has (c : ByteArray) (i g n cap : Nat) (r : Rng) (w : World) (hi : i < n) (hr : RngAt w g i r)
    (HP : ∀ W, Below w.heap.size w W → Calls Tryz.prog 42 #[.agg #[.slice (some ⟨g, 0, none⟩) n cap], .string c] W fun e w' => e = .returned (.tuple #[.int .i64 i, .bool true]) ∧ Below W.heap.size W w')
    (HH : ∀ W, Calls Tryz.prog 12 #[.agg #[.string r.f, .string r.t, .string r.n, .string r.lo, .string r.hi, .int .i64 r.m], .string c] W fun e w' => e = .returned (.bool true) ∧ Below W.heap.size W w') :
    Calls Tryz.prog 22 #[.agg #[.slice (some ⟨g, 0, none⟩) n cap], .string c] w fun e w' => e = .returned (.tuple #[.agg #[.string r.f, .string r.t, .string r.n, .string r.lo, .string r.hi, .int .i64 r.m], .bool true]) ∧ Below w.heap.size w w' := by
  have F0 := Lib.hid (show ((w.alloc (.cells #[.slice (some ⟨g, 0, none⟩) n cap] 36)).alloc (.cells #[.string ⟨#[]⟩, .string ⟨#[]⟩, .string ⟨#[]⟩, .string ⟨#[]⟩, .string ⟨#[]⟩, .int .i64 0] 23)).heap[w.heap.size]? = some (.cells #[.slice (some ⟨g, 0, none⟩) n cap] 36) from allocs_get w [.cells #[.slice (some ⟨g, 0, none⟩) n cap] 36, .cells #[.string ⟨#[]⟩, .string ⟨#[]⟩, .string ⟨#[]⟩, .string ⟨#[]⟩, .string ⟨#[]⟩, .int .i64 0] 23] 0 _ rfl); have F1 := Lib.hid (show ((w.alloc (.cells #[.slice (some ⟨g, 0, none⟩) n cap] 36)).alloc (.cells #[.string ⟨#[]⟩, .string ⟨#[]⟩, .string ⟨#[]⟩, .string ⟨#[]⟩, .string ⟨#[]⟩, .int .i64 0] 23)).heap[w.heap.size + 1]? = some (.cells #[.string ⟨#[]⟩, .string ⟨#[]⟩, .string ⟨#[]⟩, .string ⟨#[]⟩, .string ⟨#[]⟩, .int .i64 0] 23) from allocs_get w [.cells #[.slice (some ⟨g, 0, none⟩) n cap] 36, .cells #[.string ⟨#[]⟩, .string ⟨#[]⟩, .string ⟨#[]⟩, .string ⟨#[]⟩, .string ⟨#[]⟩, .int .i64 0] 23] 1 _ rfl); have B := Lib.hid (show Below w.heap.size w ((w.alloc (.cells #[.slice (some ⟨g, 0, none⟩) n cap] 36)).alloc (.cells #[.string ⟨#[]⟩, .string ⟨#[]⟩, .string ⟨#[]⟩, .string ⟨#[]⟩, .string ⟨#[]⟩, .int .i64 0] 23)) from allocs_below w [.cells #[.slice (some ⟨g, 0, none⟩) n cap] 36, .cells #[.string ⟨#[]⟩, .string ⟨#[]⟩, .string ⟨#[]⟩, .string ⟨#[]⟩, .string ⟨#[]⟩, .int .i64 0] 23])
  have H1 := Lib.hid (HP _ B.out)
  have H2 := Lib.hid HH
  have HR := Lib.hid (hr.below B.out)
  have k1 : decide ((i : Int) < (n : Int)) = true := decide_eq_true (by omega)
  clear HP HH hr
  go_enter Tryz.func22, Tryz.ntmps22
  go_wp2_with (first | (go_at_call 42; go_must (refine H1.out.mono ?_); rintro e w1 ⟨rfl, hb⟩; obtain ⟨c0, c1, c2, c3, c4, c5⟩ := HR.out.below hb; replace HR := Lib.hid (HR.out.below hb); replace B := Lib.hid (below_step B.out hb); replace F0 := Lib.hid (blk_below F0.out hb); replace F0_0 := blkc F0.out 0 rfl; replace F1 := Lib.hid (blk_below F1.out hb); replace F1_0 := blkc F1.out 0 rfl; replace F1_1 := blkc F1.out 1 rfl; replace F1_2 := blkc F1.out 2 rfl; replace F1_3 := blkc F1.out 3 rfl; replace F1_4 := blkc F1.out 4 rfl; replace F1_5 := blkc F1.out 5 rfl; replace F1_f := fun j => blk_frozen F1.out j; clear hb) | (go_at_call 12; go_must (refine (H2.out _).mono ?_); rintro e w2 ⟨rfl, hb⟩; obtain ⟨e0, e1, e2, e3, e4, e5⟩ := HR.out.below hb; replace B := Lib.hid (below_step B.out hb); replace F0 := Lib.hid (blk_below F0.out hb); replace F0_0 := blkc F0.out 0 rfl; replace F1 := Lib.hid (blk_below F1.out hb); replace F1_0 := blkc F1.out 0 rfl; replace F1_1 := blkc F1.out 1 rfl; replace F1_2 := blkc F1.out 2 rfl; replace F1_3 := blkc F1.out 3 rfl; replace F1_4 := blkc F1.out 4 rfl; replace F1_5 := blkc F1.out 5 rfl; replace F1_f := fun j => blk_frozen F1.out j; clear hb))
  have G := set6_blk F1.out (.string r.f) (.string r.t) (.string r.n) (.string r.lo) (.string r.hi) (.int .i64 r.m)
  have g0 := blkc G 0 rfl
  have g1 := blkc G 1 rfl
  have g2 := blkc G 2 rfl
  have g3 := blkc G 3 rfl
  have g4 := blkc G 4 rfl
  have g5 := blkc G 5 rfl
  have hB := set6_below B.out (show w.heap.size ≤ w.heap.size + 1 by omega) (.string r.f) (.string r.t) (.string r.n) (.string r.lo) (.string r.hi) (.int .i64 r.m)
  unfold set6 at g0 g1 g2 g3 g4 g5 hB
  exact bodyPost_ret (v := .tuple #[.agg #[.string r.f, .string r.t, .string r.n, .string r.lo, .string r.hi, .int .i64 r.m], .bool true]) (by simp [results, Tryz.results22, go_sem, g0, g1, g2, g3, g4, g5]) rfl ⟨rfl, hB⟩

theorem find_any (v : Value) (l : List Rng) (c : ByteArray) (w : World) (hT : Tab w v l) (hl : l.length ≤ 1000) :
    Calls Tryz.prog 22 #[.agg #[v], .string c] w fun e w' => e = .returned (.tuple #[(findR l c).v, .bool (findB l c)]) ∧ Below w.heap.size w w' := by
  have hp := fun W hW => place_tab v l c W (hT.below hW) hl
  obtain ⟨A, cap, rfl⟩ := hT.slice
  by_cases hi : bsGo l c 0 l.length < l.length
  · cases hh : bsHit l c (bsGo l c 0 l.length) with
    | false =>
      have e1 : findB l c = false := by unfold findB; rw [dif_pos hi, hh]; rfl
      have e2 : findR l c = noR := by unfold findR; rw [dif_pos hi, e1]; rfl
      rw [hh] at hp
      rw [e1, e2]
      exact find_not _ c _ w A l.length cap rfl hp
    | true =>
      rw [hh] at hp
      rcases id hT with ⟨h1, h2⟩ | ⟨g, cap', h1, _, _, _, h5⟩
      · rw [h2] at hi; exact absurd hi (by simp)
      · obtain ⟨rfl, rfl⟩ : A = some ⟨g, 0, none⟩ ∧ cap = cap' := by simpa using h1
        have hr := Tab.rngs h5 _ hi
        have hH := fun W => has_any l[bsGo l c 0 l.length].f l[bsGo l c 0 l.length].t l[bsGo l c 0 l.length].n l[bsGo l c 0 l.length].lo l[bsGo l c 0 l.length].hi c l[bsGo l c 0 l.length].m W
        cases hv : hasV l[bsGo l c 0 l.length].f l[bsGo l c 0 l.length].t c with
        | false =>
          have e1 : findB l c = false := by unfold findB; rw [dif_pos hi, hh, hv]; rfl
          have e2 : findR l c = noR := by unfold findR; rw [dif_pos hi, e1]; rfl
          rw [hv] at hH
          rw [e1, e2]
          exact find_lacks c _ g l.length cap _ w hi hr hp hH
        | true =>
          have e1 : findB l c = true := by unfold findB; rw [dif_pos hi, hh, hv]; rfl
          have e2 : findR l c = l[bsGo l c 0 l.length] := by unfold findR; rw [dif_pos hi, e1]; rfl
          rw [hv] at hH
          rw [e1, e2]
          exact find_has c _ g l.length cap _ w hi hr hp hH
  · have e1 : findB l c = false := by unfold findB; rw [dif_neg hi]
    have e2 : findR l c = noR := by unfold findR; rw [dif_neg hi]
    have hh : bsHit l c (bsGo l c 0 l.length) = false := by unfold bsHit; rw [dif_neg hi]
    rw [hh] at hp
    rw [e1, e2]
    exact find_not _ c _ w A l.length cap rfl hp

end Go.Proofs.YtiggnmhoececfaaGreatDoor

namespace Go.Proofs.YtiggnmhoececfaaGreatDoor
set_option linter.unusedVariables false
set_option linter.unusedSimpArgs false
open Go.RowKit

/-- What an iterator over a list does: T: what may come behind what has come; J between two rounds, Jx where a round has said 'no more'; Kp is kept by a round; Mv is what the iterator does by itself. -/
def SeqT {α : Type} (n : Nat) (P : Program) (g : Nat) (lb : Array Value) (encs : α → Array Value) (Kp Mv : World → World → Prop) (T : List α → α → Prop) (S Sp : List α → Prop) (w : World) : Prop :=
  ∀ (l : Nat) (J Jx : List α → World → Prop) (W : World), Below w.heap.size w W → (∀ s A B, J s A → Mv A B → J s B) → (∀ s A B, Jx s A → Mv A B → Jx s B) →
    (∀ pre x W1, J pre W1 → T pre x → YieldAt Fence.wide (n - 1) P l (encs x) W1 fun e W' =>
      (e = .returned (.bool true) ∧ J (pre ++ [x]) W' ∧ Kp W1 W') ∨ (e = .returned (.bool false) ∧ Jx (pre ++ [x]) W')) →
    J [] W →
    CallsIn Fence.wide n P g (#[.func (.yield l) #[] #[]] ++ lb) W fun e W' => (∃ v, e = .returned v) ∧ ((∃ xs, S xs ∧ J xs W') ∨ (∃ pre, Sp pre ∧ Jx pre W'))

variable {P : Program}

theorem range_t {α : Type} {n : Nat} {g : Operand} {ps : Array Tmp} {assign body : Code} {Q : Exit → Act → World → Prop} {a : Act} {w : World}
    (h1 : 1 ≤ n) {gf : Nat} {lb : Array Value} (hg : a.eval g = .func (.func gf) #[] lb) (eg : ∀ args w, (callFunc gf args).run P w = .ok (.enter gf args) w)
    {encs : α → Array Value} {Kp Mv : World → World → Prop} {T : List α → α → Prop} {S Sp : List α → Prop} {w0 : World} (hseq : SeqT (n - 1) P gf lb encs Kp Mv T S Sp w0) (hb0 : Below w0.heap.size w0 w)
    (hKt : ∀ {A B C : World}, Kp A B → Kp B C → Kp A C) (hKb : ∀ (W : World) (l : Nat) (o o' : Obj), w.heap.size ≤ l → W.heap[l]? = some o → o.isCells = false → o.isWalk = false → Kp W (W.putObj l o'))
    (hMv : ∀ (A B : World), Mv A B → ∀ (k : Nat) (o : Obj), w.heap.size ≤ k → A.heap[k]? = some o → o.isCells = false → o.isWalk = false → B.heap[k]? = some o)
    (hps : ∀ x, (encs x).size = ps.size)
    (I : List α → World → Prop) (Ix : Code → List α → World → Prop) (hI : OwnFrom w.heap.size I) (hIx : ∀ c, OwnFrom w.heap.size (Ix c)) (hIm : ∀ s A B, I s A → Mv A B → I s B) (hIxm : ∀ c s A B, Ix c s A → Mv A B → Ix c s B) (h0 : I [] w)
    (Ax : α → Act → World → Prop) (hAx : ∀ x a', OwnFrom w.heap.size (fun (_ : Unit) W => Ax x a' W))
    (hassign : ∀ (l : Nat) (pre : List α) (x : α) (W : World) (K : Act → World → Prop), I pre W → (∀ a' W', KeepsFrom w.heap.size W W' → Kp W W' → I pre W' → Ax x a' W' → K a' W') →
      assign.wpIn (Fence.wide.inRound l) (n - 1 - 1) P (Exit.then K (fun _ _ _ => False)) { tmps := (ps.zip (encs x)).foldl (fun t (p, v) => t.setIfInBounds p v) a.tmps, defers := [] } W)
    (hbody : ∀ (l : Nat) (pre : List α) (x : α) (a' : Act) (W : World), w.heap.size ≤ l → (∃ r, W.heap[l]? = some (.loop r)) → I pre W → Ax x a' W → T pre x → body.wpIn (Fence.wide.inRound l) (n - 1 - 1) P (roundM w.heap.size Kp I Ix (pre ++ [x]) W) a' W)
    (hdone : ∀ (D : Nat) (xs : List α) (W : World), w.heap.size ≤ D → S xs → I xs W → W.heap[D]? = some (.deferred (some [])) → Q .normal { a with defers := { target := .collected D, args := #[] } :: a.defers } W)
    (hstop : ∀ (D : Nat) (c : Code) (pre : List α) (W : World), w.heap.size ≤ D → Sp pre → Ix c pre W → W.heap[D]? = some (.deferred (some [])) → c.wpIn Fence.wide n P Q { a with defers := { target := .collected D, args := #[] } :: a.defers } W) :
    (Code.rangeFunc g ps assign body).wpIn Fence.wide n P Q a w := by
  refine wpIn_rangeFunc ?_
  intro fn hfn
  show ∃ l mark w₁ d w₁' f args w₂, (Instr.enterLoop fn a.tmps ps assign body none).run P w = .ok (l, mark) w₁ ∧ _
  obtain ⟨rec, hrec⟩ : ∃ rec : LoopState → Option Code → Loop, rec = fun st pe => { state := st, pending := pe, fn, tmps := a.tmps, params := ps, assign, body, defers := w.heap.size } := ⟨_, rfl⟩
  obtain ⟨W1, hW1⟩ : ∃ W1, (w.alloc (.deferred (some []))).alloc (.loop (rec .ready none)) = W1 := ⟨_, rfl⟩
  have hL1 : W1.heap[w.heap.size + 1]? = some (.loop (rec .ready none)) := by
    rw [← hW1]; have := World.alloc_heap_new (w.alloc (.deferred (some []))) (.loop (rec .ready none)); rwa [World.size_alloc] at this
  have hK1 : W1.heap[w.heap.size]? = some (.deferred (some [])) := by
    rw [← hW1]; exact (Below.heap_alloc _ _ _ (by simp)).trans (World.alloc_heap_new w _)
  have hI1 : I [] W1 := by rw [← hW1]; exact hI.alloc _ (hI.alloc _ h0)
  have hb1 : Below w0.heap.size w0 W1 := by
    rw [← hW1]; exact hb0.trans ((((Below.refl _ w).alloc (Nat.le_refl _) _).alloc (by simp) _).mono hb0.size)
  refine ⟨w.heap.size + 1, [{ target := .collected w.heap.size, args := #[] }], W1, { target := .fn (.func gf) lb, args := #[.func (.yield (w.heap.size + 1)) #[] #[]] }, W1, gf,
    #[.func (.yield (w.heap.size + 1)) #[] #[]] ++ lb, W1, ?_, ?_, fun _ _ => trivial, ?_, fun _ => h1, ?_⟩
  · rw [← hW1, hrec]; exact run_enterLoop_outer _ _ _ _ _
  · simp only [resolve, hg]
    simp [go_sem]
  · simp [invoke, go_sem, eg]
  · refine (hseq (w.heap.size + 1)
      (fun pre W => I pre W ∧ W.heap[w.heap.size + 1]? = some (.loop (rec .ready none)) ∧ W.heap[w.heap.size]? = some (.deferred (some [])))
      (fun pre W => ∃ c, Ix c pre W ∧ W.heap[w.heap.size + 1]? = some (.loop (rec .done (some c))) ∧ W.heap[w.heap.size]? = some (.deferred (some [])))
      W1 hb1
      (fun s A B hs hm => ⟨hIm s A B hs.1 hm, hMv A B hm _ _ (by omega) hs.2.1 rfl rfl, hMv A B hm _ _ (Nat.le_refl _) hs.2.2 rfl rfl⟩)
      (fun s A B hs hm => by
        obtain ⟨c, hc, hl, hk⟩ := hs
        exact ⟨c, hIxm c s A B hc hm, hMv A B hm _ _ (by omega) hl rfl rfl, hMv A B hm _ _ (Nat.le_refl _) hk rfl rfl⟩)
      ?_ ⟨hI1, hL1, hK1⟩).mono ?_
    · rintro pre x W ⟨hi, hl, hk⟩ hlen
      have hy := run_yield (P := P) (args := encs x) hl (by rw [hrec]; exact hps x)
      rw [hrec] at hy
      refine ⟨fn, _, assign, body, hy, roundIn_of_wpIn hfn (hassign _ pre x W _ hi ?_)⟩
      clear hy
      intro a' W2 hkf hkp hi2 hax
      have hl2 := hkf.same _ _ (by omega) hl rfl
      have hk2 := hkf.same _ _ (Nat.le_refl _) hk rfl
      refine ⟨_, run_beginRound hl2 (by rw [hrec]), ?_⟩
      have hl3 : (W2.putObj (w.heap.size + 1) (.loop { rec .ready none with state := .busy })).heap[w.heap.size + 1]? = some (.loop { rec .ready none with state := .busy }) := World.putObj_heap_same (Array.getElem?_eq_some_iff.1 hl2).1
      have hk3 : (W2.putObj (w.heap.size + 1) (.loop { rec .ready none with state := .busy })).heap[w.heap.size]? = some (.deferred (some [])) := (World.putObj_heap_other (by omega)).trans hk2
      have hkp3 : Kp W (W2.putObj (w.heap.size + 1) (.loop { rec .ready none with state := .busy })) := hKt hkp (hKb _ _ _ _ (by omega) hl2 rfl rfl)
      refine wpIn_mono (hbody _ pre x a' _ (by omega) ⟨_, hl3⟩ (hI.putObj _ hi2 (by omega) hl2 rfl) ((hAx x a').putObj (s := ()) _ hax (by omega) hl2 rfl) hlen) ?_
      have fin : ∀ (jump : Option Code) (W3 : World), KeepsFrom w.heap.size (W2.putObj (w.heap.size + 1) (.loop { rec .ready none with state := .busy })) W3 →
          (Instr.endRound (w.heap.size + 1) jump).run P W3 = .ok (.bool jump.isNone) (W3.putObj (w.heap.size + 1) (.loop (rec (if jump.isNone then .ready else .done) jump))) ∧
          W3.heap[w.heap.size + 1]? = some (.loop { rec .ready none with state := .busy }) ∧
          (W3.putObj (w.heap.size + 1) (.loop (rec (if jump.isNone then .ready else .done) jump))).heap[w.heap.size + 1]? = some (.loop (rec (if jump.isNone then .ready else .done) jump)) ∧
          (W3.putObj (w.heap.size + 1) (.loop (rec (if jump.isNone then .ready else .done) jump))).heap[w.heap.size]? = some (.deferred (some [])) := fun jump W3 hkw => by
        have hlw := hkw.same _ _ (by omega) hl3 rfl
        have := run_endRound (P := P) jump hlw
        rw [hrec] at this ⊢
        exact ⟨this, by rw [hrec] at hlw; exact hlw, World.putObj_heap_same (Array.getElem?_eq_some_iff.1 hlw).1, (World.putObj_heap_other (by omega)).trans (hkw.same _ _ (Nat.le_refl _) hk3 rfl)⟩
      rintro e a3 W3 hp
      cases e with
      | normal =>
        obtain ⟨hkw, hkpw, hiw⟩ := hp
        obtain ⟨hr, hlw, hl4, hk4⟩ := fin none W3 hkw
        exact ⟨_, _, hr, .inl ⟨rfl, ⟨hI.putObj _ hiw (by omega) hlw rfl, hl4, hk4⟩, hKt (hKt hkp3 hkpw) (hKb _ _ _ _ (by omega) hlw rfl rfl)⟩⟩
      | ret =>
        obtain ⟨hkw, hiw⟩ := hp
        obtain ⟨hr, hlw, hl4, hk4⟩ := fin (some .ret) W3 hkw
        exact ⟨_, _, hr, .inr ⟨rfl, .ret, (hIx _).putObj _ hiw (by omega) hlw rfl, hl4, hk4⟩⟩
      | exit id =>
        obtain ⟨hkw, hiw⟩ := hp
        obtain ⟨hr, hlw, hl4, hk4⟩ := fin (some (.exit id)) W3 hkw
        exact ⟨_, _, hr, .inr ⟨rfl, .exit id, (hIx _).putObj _ hiw (by omega) hlw rfl, hl4, hk4⟩⟩
      | goto t =>
        obtain ⟨hkw, hiw⟩ := hp
        obtain ⟨hr, hlw, hl4, hk4⟩ := fin (some (.goto t)) W3 hkw
        exact ⟨_, _, hr, .inr ⟨rfl, .goto t, (hIx _).putObj _ hiw (by omega) hlw rfl, hl4, hk4⟩⟩
      | panic ch => exact hp.elim
      | outgrown => exact hp.elim
    · rintro e W2 ⟨⟨v, rfl⟩, (⟨xs, hS, hi, hl, hk⟩ | ⟨pre, hSp, c, hi, hl, hk⟩)⟩
      · exact ⟨none, _, by have := run_endLoop (P := P) hl (by rw [hrec]; simp); rw [hrec] at this; exact this, hdone _ xs _ (Nat.le_refl _) hS (hI.putObj _ hi (by omega) hl rfl) ((World.putObj_heap_other (by omega)).trans hk)⟩
      · exact ⟨some c, _, by have := run_endLoop (P := P) hl (by rw [hrec]; simp); rw [hrec] at this; exact this, hstop _ c pre _ (Nat.le_refl _) hSp ((hIx c).putObj _ hi (by omega) hl rfl) ((World.putObj_heap_other (by omega)).trans hk)⟩

end Go.Proofs.YtiggnmhoececfaaGreatDoor

namespace Go.Proofs.YtiggnmhoececfaaGreatDoor
set_option linter.unusedVariables false
set_option linter.unusedSimpArgs false
open Go.RowKit Go.Sort

section
variable {F : Fence} {n : Nat} {P : Program} {ops : Array Oper} {md : Region.Mode} {C : World → Prop}

def notDefer (o : Oper) : Bool := match o.op with | .defer _ => false | _ => true
theorem notDefer_spec {o : Oper} (h : notDefer o = true) : ∀ c, o.op ≠ .defer c := fun c e => by
  unfold notDefer at h
  rw [e] at h
  cases h

theorem wpIn_of_quietR {o : Oper} {a : Act} {K : Act → Prop} {K' : Act → World → Prop} {Q' : Exit → Act → World → Prop} {w : World} (hnd : notDefer o = true) (hw : C w) (h : ∀ a w', C w' → K a → K' a w')
    (ha : o.askedIn F P a C) (hh : o.quietIn F n P a C K) : o.wpIn F n P a w K' Q' := by
  obtain ⟨v, h1, h2⟩ := hh
  have h3 := h1 w hw
  unfold Oper.quietAtIn at h3
  unfold Oper.wpIn
  refine ⟨ha w hw, ?_⟩
  rw [Oper.semAt_eq _ _ _ (notDefer_spec hnd)]
  generalize (execOp a.eval o).run P w = r at *
  cases r with
  | ok x w' =>
    cases x <;> simp only [Oper.quietUponIn] at h3 <;> simp only [Oper.uponIn]
    case value u =>
      obtain ⟨e1, e2⟩ := h3
      rw [e1, e2]
      exact h _ _ hw h2
    case skip =>
      obtain ⟨e1, e2⟩ := h3
      rw [e1, ← e2]
      exact h _ _ hw h2
    case enter f args =>
      obtain ⟨e1, hd, hc⟩ := h3
      rw [e1]
      exact ⟨hd, hc.mono fun e w'' ⟨he, hw''⟩ => by subst he; exact h _ _ hw'' h2⟩
  | halt x w' => simp only [Oper.quietUponIn] at h3

theorem wpOpIn_of_qOpInR {i : Nat} {a : Act} {K : Act → Prop} {K' : Act → World → Prop} {Q' : Exit → Act → World → Prop} {w : World} (hnd : ops.all notDefer = true) (hC : C w) (h : ∀ a w', C w' → K a → K' a w')
    (hh : qOpIn F n P ops C i K a) : wpOpIn F n P ops Q' i K' a w := by
  unfold qOpIn at hh
  unfold wpOpIn
  split
  · rename_i ho; simp only [ho] at hh; exact h _ _ hC hh
  · rename_i o ho
    simp only [ho] at hh
    obtain ⟨ha, hh⟩ := hh
    have hn : notDefer o = true := by
      rw [Array.all_eq_true_iff_forall_mem] at hnd
      exact hnd o (Array.mem_of_getElem? ho)
    split
    · rename_i hw; simp only [hw, if_true] at hh; exact wpIn_of_quietR hn hC h ha hh
    · rename_i hw; simp only [hw] at hh; exact ⟨ha w hC, h _ _ hC hh⟩

theorem wpAnyIn_of_quietR {Q : Act → Prop} {Q' : Exit → Act → World → Prop} (hnd : ops.all notDefer = true) (hQ : ∀ a w, C w → Q a → Q' .normal a w) : ∀ (fuel : Nat) (listed : Array Bool) (a : Act) (w : World), C w →
    wpAnyQIn F n P md ops C Q fuel listed a → wpAnyIn F n P md ops Q' fuel listed a w
  | 0, _, _, _, hw, h => ⟨h.1, hQ _ _ hw h.2⟩
  | fuel + 1, _, _, _, hw, h => ⟨fun h0 => hQ _ _ hw (h.1 h0), fun i hi => wpOpIn_of_qOpInR hnd hw (fun a' w' hw' => wpAnyIn_of_quietR hnd hQ fuel _ a' w' hw') (h.2 i hi)⟩

theorem wpIn_region_quietR {id : Nat} {Q : Exit → Act → World → Prop} {a : Act} {w : World} (hnd : ops.all notDefer = true) (hm : P.follows .mixedOrders = true) (hB : Region.lexB .any ops = true) (hC : C { w with drawn := w.drawn + 1 })
    (h : wpQuietIn F n P ops C (fun a' => ∀ w', C w' → Q .normal a' w') ops.toList a) : (Code.region id ops true).wpIn F n P Q a w := by
  simp only [Region.lexB, Bool.and_eq_true] at hB
  refine wpIn_region_any hm (wpAnyIn_of_quietR (Q := fun a' => ∀ w', C w' → Q .normal a' w') hnd (fun _ w' hw' h => h w' hw') _ _ _ _ hC ?_)
  have := wpAnyQIn_lex (F := F) (n := n) (C := C) (md := .any) hB.1 ops.toList 0 (Array.replicate ops.size false) a (by simp) (by simpa using hB.2) h
  simpa using this

/-- .. at the class 'w behind some draws'. -/
theorem wpIn_region_quietR_lit {id : Nat} {Q : Exit → Act → World → Prop} {a : Act} {w : World} {l : List Oper} (hnd : l.toArray.all notDefer = true) (hm : P.follows .mixedOrders = true) (hB : Region.lexB .any l.toArray = true)
    (h : wpQuietIn F n P l.toArray (fun w' => ∃ n, w' = w.drewN n) (fun a' => ∀ w', (∃ n, w' = w.drewN n) → Q .normal a' w') l a) : (Code.region id l.toArray true).wpIn F n P Q a w :=
  wpIn_region_quietR (C := fun w' => ∃ n, w' = w.drewN n) hnd hm hB ⟨1, rfl⟩ (by simpa using h)

end

end Go.Proofs.YtiggnmhoececfaaGreatDoor

namespace Go.Proofs.YtiggnmhoececfaaGreatDoor
set_option linter.unusedVariables false
set_option linter.unusedSimpArgs false
open Go.RowKit Go.Shelf Go.Proofs.YtiggnmhoececfaaGreatDoorW.PrintWords
attribute [local go_sem] Oper.semAt_some

theorem results_bool {fn : Func} {p : Tmp} {ty : TypeId} {P : Program} (h : fn.results = #[.cell p ty]) (tmps : Array Value) (w : World) (g : Nat) (b : Bool)
    (hp : tmps.getD p undef = .pointer (some ⟨g, 0, none⟩)) (hg : w.cell? ⟨g, 0, none⟩ = some (.bool b)) (hu : P.underlying ty = some .bool) :
    (results fn tmps).run P w = .ok (.bool b) w := by
  have hp' : tmps[p]?.getD undef = .pointer (some ⟨g, 0, none⟩) := by simpa using hp
  have hagg : (isAgg ty).run P w = .ok false w := by
    unfold isAgg
    rw [Sem.run_bind, run_underlying hu w]
    rfl
  simp [results, h, hp', asAddr, loadVar, Sem.run_bind, Result.andThen, hagg, hg]

def pairEnc (x : Nat × Rng) : Array Value := #[.int .i64 x.1, .agg #[.string x.2.f, .string x.2.t, .string x.2.n, .string x.2.lo, .string x.2.hi, .int .i64 x.2.m]]
def numbered (l : List Rng) : List (Nat × Rng) := l.zipIdx.map fun p => (p.2, p.1)
theorem numbered_len (l : List Rng) : (numbered l).length = l.length := by simp [numbered]
theorem numbered_take (l : List Rng) (k : Nat) (h : k < l.length) : (numbered l).take (k + 1) = (numbered l).take k ++ [(k, l[k])] := by
  rw [List.take_succ_eq_append_getElem (by rw [numbered_len]; exact h)]
  simp [numbered]

set_option maxRecDepth 100000 in
set_option maxHeartbeats 4000000 in
theorem all1_in (l Bs : Nat) (A : Option Addr) (b cap : Nat) (zs : List Rng) (hA : zs ≠ [] → A = some ⟨b, 0, none⟩) (hreach : zs.length ≤ 1000) (J Jx : List (Nat × Rng) → World → Prop)
    (hY : ∀ pre x W, J pre W → pre ++ [x] <+: numbered zs → YieldAt Fence.wide 8 Tryz.prog l (pairEnc x) W fun e W' =>
      (e = .returned (.bool true) ∧ J (pre ++ [x]) W' ∧ W'.heap[b]? = W.heap[b]?) ∨ (e = .returned (.bool false) ∧ Jx (pre ++ [x]) W'))
    (hJ : ∀ pre (A B : World), J pre A → Below A.heap.size A B → J pre B)
    (W : World) (hBs : W.cell? ⟨Bs, 0, none⟩ = some (.slice A zs.length cap)) (hb : b < W.heap.size) (hc : RngsAt W b zs) (h0 : J [] W) :
    CallsIn Fence.wide 9 Tryz.prog 66 #[.func (.yield l) #[] #[], .pointer (some ⟨Bs, 0, none⟩)] W fun e W' => (∃ v, e = .returned v) ∧
      ((∃ ys, ys = numbered zs ∧ J ys W') ∨ (∃ pre, pre <+: numbered zs ∧ Jx pre W')) := by
  refine callsIn_of_wp Tryz.func66 rfl trivial ?_ rfl
  simp only [Tryz.ntmps66, List.size_toArray, List.length_cons, List.length_nil, Nat.reduceAdd, Nat.reduceSub, Array.replicate_succ, Array.replicate_zero, List.push_toArray, List.append_toArray, List.nil_append, List.cons_append]
  gi_wp2
  gi_loopw [7] (fun i wr => ∃ k : Nat, k ≤ zs.length ∧ i = .int .i64 k ∧ J ((numbered zs).take k) wr ∧ wr.heap[b]? = W.heap[b]?)
    (fun i _ => zs.length - (intOf i).toNat)
  case atStart => exact ⟨0, Nat.zero_le _, rfl, h0, rfl⟩
  case round =>
    obtain ⟨k, hk, rfl, hJs, hnx⟩ := hrel
    by_cases hlt : k < zs.length
    · obtain rfl := hA (fun e => by rw [e] at hlt; exact absurd hlt (by simp))
      obtain ⟨c0, c1, c2, c3, c4, c5⟩ := hc k hlt
      have tr : ∀ o v, W.cell? ⟨b, o, none⟩ = some v → wr.cell? ⟨b, o, none⟩ = some v := fun o v h => (World.cell?_of_block (a := ⟨b, o, none⟩) hnx).trans h
      replace c0 := tr _ _ c0
      replace c1 := tr _ _ c1
      replace c2 := tr _ _ c2
      replace c3 := tr _ _ c3
      replace c4 := tr _ _ c4
      replace c5 := tr _ _ c5
      have hts := numbered_take zs k hlt
      have hbk : b < wr.heap.size := World.block_lt_of_cell? wr _ c0
      obtain ⟨fn, tmps, assign, body, hy, hR⟩ := hY ((numbered zs).take k) (k, zs[k]) (wr.alloc (.cells #[.string zs[k].f, .string zs[k].t, .string zs[k].n, .string zs[k].lo, .string zs[k].hi, .int .i64 zs[k].m] 23)) (hJ _ _ _ hJs (below_alloc (Below.refl _ _) _)) (by rw [← hts]; exact List.take_prefix _ _)
      dsimp only [pairEnc] at hy
      have HN := Lib.hid hnx
      have HTS := Lib.hid hts
      have HP := Lib.hid (show (numbered zs).take k ++ [(k, zs[k])] <+: numbered zs by rw [← hts]; exact List.take_prefix _ _)
      generalize zs[k] = r at *
      clear hnx hc hts tr hA
      gi_wp2
      refine hR.mono ?_
      rintro e W3 (⟨rfl, hJ3, hk3⟩ | ⟨rfl, hJx3⟩)
      · have hk4 : W3.heap[b]? = W.heap[b]? := hk3.trans ((Below.heap_alloc _ _ _ hbk).trans HN.out)
        have HK := Lib.hid hk4
        clear hk4 hk3
        gi_wp2
        go_roundw
        case rel => exact ⟨k + 1, by omega, by go_num, by rw [HTS.out]; exact hJ3, HK.out⟩
        case measure => simp [intOf]; omega
      · gi_wp2
        refine bodyPost_ret (results_none rfl _ _ _) rfl ?_
        exact ⟨⟨_, rfl⟩, .inr ⟨_, HP.out, hJx3⟩⟩
    · obtain rfl : k = zs.length := by omega
      rw [List.take_of_length_le (by rw [numbered_len]; exact Nat.le_refl _)] at hJs
      clear hnx
      gi_wp2
      go_end0
      exact ⟨⟨_, rfl⟩, .inl ⟨_, rfl, hJs⟩⟩

theorem all_any (A : Option Addr) (n c : Nat) (w : World) :
    Calls Tryz.prog 46 #[.agg #[.slice A n c]] w fun e w' => e = .returned (.func (.func 66) #[] #[.pointer (some ⟨w.heap.size + 1, 0, none⟩)]) ∧
      w' = (w.alloc (.cells #[.slice A n c] 36)).alloc (.cells #[.slice A n c] 34) := by
  have h := fun W => (show Calls Tryz.prog 59 #[.slice A n c] W fun e w' => e = .returned (.func (.func 66) #[] #[.pointer (some ⟨W.heap.size, 0, none⟩)]) ∧ w' = W.alloc (.cells #[.slice A n c] 34) by
    go_enter Tryz.func59, Tryz.ntmps59
    go_wp2
    go_ret
    exact ⟨rfl, rfl⟩)
  go_enter Tryz.func46, Tryz.ntmps46
  go_wp2_with (go_at_call 59; go_must (refine (h _).mono ?_); rintro e w1 ⟨rfl, rfl⟩)
  go_ret
  exact ⟨by simp, rfl⟩

theorem len_any (A : Option Addr) (n c : Nat) (w : World) :
    Calls Tryz.prog 24 #[.agg #[.slice A n c]] w fun e w' => e = .returned (.int .i64 n) ∧ Below w.heap.size w w' := by
  go_enter Tryz.func24, Tryz.ntmps24
  go_wp2
  go_ret
  exact ⟨rfl, below_alloc (Below.refl _ _) _⟩

theorem seq_all (Bs b cap : Nat) (A : Option Addr) (zs : List Rng) (w0 : World) (hA : zs ≠ [] → A = some ⟨b, 0, none⟩) (hreach : zs.length ≤ 1000) (hBs : w0.heap[Bs]? = some (.cells #[.slice A zs.length cap] 34 (0, 0))) (hb : b < w0.heap.size) (hc : RngsAt w0 b zs) :
    SeqT 9 Tryz.prog 66 #[.pointer (some ⟨Bs, 0, none⟩)] pairEnc (fun A B => B.heap[b]? = A.heap[b]?) (fun A B => Below A.heap.size A B) (fun pre x => pre ++ [x] <+: numbered zs) (fun ys => ys = numbered zs) (fun pre => pre <+: numbered zs) w0 := by
  intro l J Jx W hW hJ _ hY h0
  have hbs := hW.block Bs (blk_lt hBs)
  exact all1_in l Bs A b cap zs hA hreach J Jx hY hJ W (blk_cell (hbs.trans hBs) 0) (Nat.lt_of_lt_of_le hb hW.size) (hc.below hW) h0

theorem numbered_next {zs : List Rng} {pre : List (Nat × Rng)} {x : Nat × Rng} (h : pre ++ [x] <+: numbered zs) : ∃ hlt : pre.length < zs.length, x = (pre.length, zs[pre.length]) := by
  have hlt : pre.length < zs.length := by have := h.length_le; rw [numbered_len, List.length_append] at this; simp at this; omega
  refine ⟨hlt, ?_⟩
  obtain ⟨t, ht⟩ := h
  have : (numbered zs)[pre.length]? = some x := by rw [← ht]; simp
  simp [numbered, hlt] at this
  exact this.symm

theorem eql_all (lb : Array Value) (w : World) : (binOp BinOp.eql 73 (.func (.func 66) #[] lb) .nilFunc).run Tryz.prog w = .ok (.bool false) w := by kernel_rfl

set_option maxRecDepth 100000 in
set_option maxHeartbeats 8000000 in
theorem is_same (A A' : Option Addr) (c c' : Nat) (L : List Rng) (w : World) (hv : Tab w (.slice A L.length c) L) (hu : Tab w (.slice A' L.length c') L) (hl : L.length ≤ 1000) :
    Calls Tryz.prog 21 #[.agg #[.slice A L.length c], .slice A' L.length c'] w fun e w' => e = .returned (.bool true) ∧ Below w.heap.size w w' := by
  refine (callsIn_wide (n := 10)).1 ?_
  refine callsIn_of_wp_marks Tryz.func21 rfl trivial ?_ rfl
  simp only [Tryz.ntmps21, List.size_toArray, List.length_cons, List.length_nil, Nat.reduceAdd, Nat.reduceSub, Array.replicate_succ, Array.replicate_zero, List.push_toArray, List.append_toArray, List.nil_append, List.cons_append]
  have hq := eql_all
  gi_wp2_with (refine ⟨trivial, ?_⟩; gi_at_call 46; go_must (refine ((callsIn_wide (n := 9)).2 (all_any _ _ _ _)).mono ?_); rintro e w1 ⟨rfl, hw1⟩; have HW1 := Lib.hid hw1; clear hw1)
  obtain ⟨b, hA, hbw, hRc⟩ : ∃ b, (L ≠ [] → A = some ⟨b, 0, none⟩) ∧ b < w.heap.size + 1 ∧ (L ≠ [] → b < w.heap.size ∧ RngsAt w b L) := by
    rcases hv with ⟨_, h2⟩ | ⟨g, cap, h1, _, _, h4, h5⟩
    · exact ⟨w.heap.size, fun h => absurd h2 h, by omega, fun h => absurd h2 h⟩
    · exact ⟨g, fun _ => by simp at h1; exact h1.1, by omega, fun _ => ⟨h4, Tab.rngs h5⟩⟩
  have hw1 : w1 = allocs w [.cells #[.slice A L.length c] 36, .cells #[.slice A' L.length c'] 42, .cells #[.bool false] 4, .cells #[.slice A L.length c] 36, .cells #[.slice A L.length c] 34] := HW1.out
  have hsz : w1.heap.size = w.heap.size + 5 := by rw [hw1, allocs_size]; rfl
  have hbel : Below w.heap.size w w1 := by rw [hw1]; exact allocs_below _ _
  obtain ⟨w2, hw2⟩ : ∃ w2, w2 = w1.alloc (.cells #[.int .i64 0] 3) := ⟨_, rfl⟩
  have hsz2 : w2.heap.size = w1.heap.size + 1 := by rw [hw2]; simp
  have hbel2 : Below w.heap.size w w2 := by rw [hw2]; exact below_alloc hbel _
  have g0 : w2.heap[w.heap.size]? = some (.cells #[.slice A L.length c] 36 (0, 0)) := by rw [hw2]; refine blk_alloc ?_ _; rw [hw1]; exact allocs_get w _ 0 _ rfl
  have g1 : w2.heap[w.heap.size + 1]? = some (.cells #[.slice A' L.length c'] 42 (0, 0)) := by rw [hw2]; refine blk_alloc ?_ _; rw [hw1]; exact allocs_get w _ 1 _ rfl
  have g2 : w2.heap[w.heap.size + 1 + 1]? = some (.cells #[.bool false] 4 (0, 0)) := by rw [hw2]; refine blk_alloc ?_ _; rw [hw1]; exact allocs_get w _ 2 _ rfl
  have g4 : w2.heap[w.heap.size + 1 + 1 + 1 + 1]? = some (.cells #[.slice A L.length c] 34 (0, 0)) := by rw [hw2]; refine blk_alloc ?_ _; rw [hw1]; exact allocs_get w _ 4 _ rfl
  have g5 : w2.heap[w1.heap.size]? = some (.cells #[.int .i64 (([] : List (Nat × Rng)).length : Nat)] 3 (0, 0)) := by rw [hw2]; exact blk_new w1 _
  have hR2 : RngsAt w2 b L := fun j hj => by
    have hne : L ≠ [] := fun e => by rw [e] at hj; exact absurd hj (by simp)
    exact ((hRc hne).2.below hbel2) j hj
  have hz1 : w.heap.size + 5 ≤ w1.heap.size := by omega
  have hz2 : w1.heap.size < w2.heap.size := by omega
  have hseq := seq_all (w.heap.size + 1 + 1 + 1 + 1) b c A L w2 hA hl g4 (by omega) hR2
  have HU := Lib.hid hu
  rw [← hw2]
  clear hw1 HW1 hw2 hv hu hRc hq hR2 g4 hsz hsz2
  refine range_t (by omega) (gf := 66) (lb := #[.pointer (some ⟨w.heap.size + 1 + 1 + 1 + 1, 0, none⟩)]) rfl (enters_of Tryz.func66 (by kernel_rfl) rfl)
    hseq (Below.refl _ _) (fun h k => k.trans h) (fun W l o o' hl ho _ _ => World.putObj_heap_other (by omega)) (fun X Y h k o _ ho _ _ => (h.block k (blk_lt ho)).trans ho) (fun _ => rfl)
    (fun pre W => pre <+: numbered L ∧ W.heap[w.heap.size]? = some (.cells #[.slice A L.length c] 36 (0, 0)) ∧ W.heap[w.heap.size + 1]? = some (.cells #[.slice A' L.length c'] 42 (0, 0)) ∧ W.heap[w.heap.size + 1 + 1]? = some (.cells #[.bool false] 4 (0, 0)) ∧ W.heap[w1.heap.size]? = some (.cells #[.int .i64 (pre.length : Nat)] 3 (0, 0)) ∧ Below w.heap.size w W ∧ w2.heap.size ≤ W.heap.size)
    (fun _ _ _ => False)
    (OwnFrom.and (fun _ _ _ _ hs _ _ => hs) (OwnFrom.and (ownFrom_blk _ _ _ _) (OwnFrom.and (ownFrom_blk _ _ _ _) (OwnFrom.and (ownFrom_blk _ _ _ _) (OwnFrom.and (ownFrom_blk _ _ (fun (pre : List (Nat × Rng)) => #[.int .i64 (pre.length : Nat)]) _) (OwnFrom.and (ownFrom_below (Nat.le_refl _) (by omega)) (fun s A B row hs hg hr => Nat.le_trans hs hg.size)))))))
    (fun _ _ _ _ _ hs _ _ => hs)
    (fun s X Y h k => ⟨h.1, blk_below h.2.1 k, blk_below h.2.2.1 k, blk_below h.2.2.2.1 k, blk_below h.2.2.2.2.1 k, below_step h.2.2.2.2.2.1 k, Nat.le_trans h.2.2.2.2.2.2 k.size⟩)
    (fun _ _ _ _ h _ => h)
    ⟨List.nil_prefix, g0, g1, g2, g5, hbel2, Nat.le_refl _⟩
    (fun x a' W => ∃ Bx, w2.heap.size ≤ Bx ∧ W.heap[Bx]? = some (.cells #[.string x.2.f, .string x.2.t, .string x.2.n, .string x.2.lo, .string x.2.hi, .int .i64 x.2.m] 23 (0, 0)) ∧ a' = { tmps := #[.agg #[.slice A L.length c], .slice A' L.length c', .pointer (some ⟨w.heap.size, 0, none⟩), .pointer (some ⟨w.heap.size + 1, 0, none⟩), .pointer (some ⟨w.heap.size + 1 + 1, 0, none⟩), .func (.func 66) #[] #[.pointer (some ⟨w.heap.size + 1 + 1 + 1 + 1, 0, none⟩)], .pointer (some ⟨w1.heap.size, 0, none⟩), .int .i64 x.1, .pointer (some ⟨Bx, 0, none⟩), .agg #[.slice A L.length c], .func (.func 66) #[] #[.pointer (some ⟨w.heap.size + 1 + 1 + 1 + 1, 0, none⟩)], .func (.func 66) #[] #[.pointer (some ⟨w.heap.size + 1 + 1 + 1 + 1, 0, none⟩)], .bool false, .func (.func 66) #[] #[.pointer (some ⟨w.heap.size + 1 + 1 + 1 + 1, 0, none⟩)], .int .i64 x.1, .agg #[.string x.2.f, .string x.2.t, .string x.2.n, .string x.2.lo, .string x.2.hi, .int .i64 x.2.m], undef, undef, undef, undef, undef, undef, undef, undef, undef, undef, undef, undef, undef, undef, undef, undef, undef, undef, undef, undef, undef, undef, undef, undef, undef, undef, undef, undef, undef], defers := [] })
    (fun x a' s X Y row hs hg hr => by
      obtain ⟨Bx, h1, h2, h3⟩ := hs
      exact ⟨Bx, h1, ownFrom_blk _ Bx (fun (_ : Unit) => _) _ () X Y row h2 hg hr, h3⟩)
    ?assign ?body ?done ?stop
  case assign =>
    rintro l pre x W K ⟨ip, i0, i1, i2, i5, ib, is⟩ hK
    have e1 : (pairEnc x) = #[.int .i64 x.1, .agg #[.string x.2.f, .string x.2.t, .string x.2.n, .string x.2.lo, .string x.2.hi, .int .i64 x.2.m]] := rfl
    rw [e1]
    clear e1
    have hb3 : b < W.heap.size := by omega
    gi_wp2
    exact hK _ _ ((KeepsOthers.alloc _ _).from _) (Below.heap_alloc _ _ _ hb3) ⟨ip, blk_alloc i0 _, blk_alloc i1 _, blk_alloc i2 _, blk_alloc i5 _, below_alloc ib _, by simp; omega⟩ ⟨W.heap.size, is, blk_new _ _, rfl⟩
  case body =>
    rintro l pre x a' W hl ⟨r, hr⟩ ⟨ip, i0, i1, i2, i5, ib, is⟩ ⟨Bx, hBx, bX, rfl⟩ hT
    obtain ⟨hlt, hx⟩ := numbered_next hT
    have hU : ∃ gU, A' = some ⟨gU, 0, none⟩ ∧ RngAt w gU pre.length L[pre.length] := by
      rcases HU.out with ⟨_, h2⟩ | ⟨g, cap, h1, _, _, h4, h5⟩
      · rw [h2] at hlt; exact absurd hlt (by simp)
      · exact ⟨g, by simp at h1; exact h1.1, Tab.rngs h5 _ hlt⟩
    obtain ⟨gU, rfl, hRU⟩ := hU
    obtain ⟨u0, u1, u2, u3, u4, u5⟩ := hRU.below ib
    generalize hLr : L[pre.length] = R at hx u0 u1 u2 u3 u4 u5
    subst hx
    have x0 := blkc bX 0 rfl
    have x1 := blkc bX 1 rfl
    have x2 := blkc bX 2 rfl
    have x3 := blkc bX 3 rfl
    have x4 := blkc bX 4 rfl
    have x5 := blkc bX 5 rfl
    have j5 := blkc i5 0 rfl
    have f5 := blk_frozen i5 0
    have j1 := blkc i1 0 rfl
    have k1 : ((pre.length : Int) != (pre.length : Int)) = false := by simp
    have k2 : decide ((L.length : Int) ≤ (pre.length : Int)) = false := decide_eq_false (by omega)
    have k3 : decide (L.length ≤ pre.length) = false := decide_eq_false (by omega)
    have k4 : (pre.length : Int) < (L.length : Int) := by omega
    have hne : ∀ W, (binOp BinOp.neq 29 (.agg #[.string R.f, .string R.t, .string R.n, .string R.lo, .string R.hi, .int .i64 R.m]) (.agg #[.string R.f, .string R.t, .string R.n, .string R.lo, .string R.hi, .int .i64 R.m])).run Tryz.prog W = .ok (.bool false) W := fun W => by go_simp
    have I0 := Lib.hid i0
    clear hr hLr i0 HU hRU hseq
    dsimp only
    gi_wp2
    refine wpIn_region_quietR_lit (by kernel_rfl) (by kernel_rfl) (by kernel_rfl) ?_
    repeat (gi_big_quiet_step (fail))
    refine wpQuietIn_nil ?_
    intro _ hw'
    obtain ⟨nq, hw''⟩ := hw'
    subst hw''
    gi_wp2
    refine ⟨(keepsFrom_below (pw_below_drewN (Below.refl _ _) nq)).trans ((KeepsOthers.setCell _ _ _).from _), Below.heap_setCell _ _ _ _ (by dsimp only; omega), hT, blk_far (blk_drewN I0.out nq) (by dsimp only; omega) _, blk_far (blk_drewN i1 nq) (by dsimp only; omega) _, blk_far (blk_drewN i2 nq) (by dsimp only; omega) _, ?_, (pw_below_drewN ib nq).setCell (by dsimp only; omega) _, by simpa [World.setCell] using is⟩
    rw [List.length_append]
    exact blk_set (blk_drewN i5 nq) 0 _
  case done =>
    rintro D ys W hD rfl ⟨ip, i0, i1, i2, i5, ib, is⟩ hK
    rw [numbered_len] at i5
    have HK := Lib.hid hK
    have I0 := Lib.hid i0
    have I1 := Lib.hid i1
    have I2 := Lib.hid i2
    have I5 := Lib.hid i5
    have IB := Lib.hid ib
    have hzz : w.heap.size + 1 + 1 < W.heap.size := blk_lt i2
    clear i0 i1 i2 i5 ib hK hseq HU is ip
    have a0 := blkc I0.out 0 rfl
    have a1 := blkc I1.out 0 rfl
    have a2 := blkc I2.out 0 rfl
    have a5 := blkc I5.out 0 rfl
    have a6 := blk_frozen I2.out 0
    have HL := Lib.hid (fun W => len_any A L.length c W)
    gi_wp2
    refine wpIn_wide.2 ?_
    go_region_held3 (fun W' => W'.cell? ⟨w.heap.size, 0, none⟩ = some (.slice A L.length c) ∧ W'.cell? ⟨w.heap.size + 1, 0, none⟩ = some (.slice A' L.length c') ∧ W'.cell? ⟨w1.heap.size, 0, none⟩ = some (.int .i64 L.length))
      (first | exact ⟨a0, a1, a5⟩ | exact ⟨cellBelow H1.out a0, cellBelow H1.out a1, cellBelow H1.out a5⟩ | exact ⟨cellFar (cellBelow H1.out a0) (by dsimp only; omega), cellFar (cellBelow H1.out a1) (by dsimp only; omega), cellFar (cellBelow H1.out a5) (by dsimp only; omega)⟩)
      (first | (go_at_call 24; ((with_reducible refine (HL.out _).mono ?_); rintro e w3 ⟨rfl, hb⟩); have H1 := Lib.hid (show Below W.heap.size W w3 from ⟨hb.os, hb.tape, hb.output, hb.size, hb.block⟩); have b2 := Lib.hid (blk_below I2.out H1.out); have b2_0 := blkc b2.out 0 rfl; have b2_f := blk_frozen b2.out 0; clear hb))
    gi_wp2
    have hK2 : (w3.setCell ⟨w.heap.size + 1 + 1, 0, none⟩ (.bool true)).heap[D]? = some (.deferred (some [])) := (Below.heap_setCell _ _ _ D (by dsimp only; omega)).trans ((H1.out.block D (blk_lt HK.out)).trans HK.out)
    refine ⟨by simp, .inl ⟨_, _, rfl, run_takeDeferred hK2, ?_⟩⟩
    refine ⟨_, results_bool rfl _ _ (w.heap.size + 1 + 1) true rfl ?_ Tryz.underlying4, rfl, ?_⟩
    · exact blk_cell ((World.putObj_heap_other (by omega)).trans (blk_set b2.out 0 (.bool true))) 0
    · exact ((below_step IB.out H1.out).setCell (by dsimp only; omega) _).trans (belowK_b (w := w) (Nat.le_refl _) (w3.setCell ⟨w.heap.size + 1 + 1, 0, none⟩ (.bool true)) D _ _ (by omega) hK2 rfl rfl)
  case stop =>
    rintro D c pre W _ _ h _
    exact h.elim

end Go.Proofs.YtiggnmhoececfaaGreatDoor

namespace Go.Proofs.YtiggnmhoececfaaGreatDoor
set_option linter.unusedVariables false
set_option linter.unusedSimpArgs false
open Go.RowKit Go.Proofs.YtiggnmhoececfaaGreatDoorW.PrintWords Go.Proofs.YtiggnmhoececfaaGreatDoorW.PrintMore

end Go.Proofs.YtiggnmhoececfaaGreatDoor

namespace Go.Proofs.YtiggnmhoececfaaGreatDoor
set_option linter.unusedVariables false
set_option linter.unusedSimpArgs false
open Go.RowKit Go.Proofs.YtiggnmhoececfaaGreatDoorW.PrintWords Go.Proofs.YtiggnmhoececfaaGreatDoorW.PrintMore

theorem light_small (r : Rng) (h : lightV r.f r.t r.n r.lo r.hi = true) : Small r := by
  simp only [lightV, Bool.and_eq_true, decide_eq_true_eq] at h
  exact ⟨by omega, by omega, by omega⟩

theorem chk_less (p q s l nm wi : Bool) (m : Int) (h : chk p q s l nm wi m = 0) : l = false := by
  unfold chk at h
  cases p
  · simp at h
  · cases q
    · simp at h
    · cases s
      · simp at h
      · cases l
        · rfl
        · simp at h

/-- What a range that may be has. -/
theorem VR.of_check (r : Rng) (h : checkV r.f r.t r.n r.lo r.hi r.m = 0) : VR r := by
  obtain ⟨h1, h2, h3⟩ := chk_zero _ _ _ _ _ _ _ h
  have h4 := chk_less _ _ _ _ _ _ _ h
  have h3 := of_decide_eq_true h3
  refine ⟨h1, h2, h3, ?_⟩
  rw [klt_is, decide_eq_false (by omega), decide_eq_true h3.symm]
  rw [ByteArray.toList_eq, ByteArray.toList_eq, bl_eq] at h4
  rw [h4]
  rfl

end Go.Proofs.YtiggnmhoececfaaGreatDoor
