/- What every contract takes of the world: the library's tables are as they are laid. -/
import Derived.Test.YtiggnmhoececfaaGreatDoorPlain
import Derived.Test.YtiggnmhoececfaaGreatDoorShelf
import Derived.Test.YtiggnmhoececfaaGreatDoorWWords
import Derived.WalkSmall
import Derived.WalkLawsBesides
import Derived.WalkSpells
namespace Go.Proofs.YtiggnmhoececfaaGreatDoor
set_option linter.unusedVariables false
set_option linter.unusedSimpArgs false
open Go.RowKit

theorem cellBelow {w w1 : World} (h : Below w.heap.size w w1) {a : Addr} {v : Value} (hc : w.cell? a = some v) : w1.cell? a = some v := (h.cell (World.block_lt_of_cell? w a hc)).trans hc

/-- The library's package-level variables, as they are laid. -/
structure Glob (w : World) : Prop where
  tab10 : Lib.TabIs Tryz.prog w "internal/strconv.uint64pow10" .u64 Lib.pow10Tab
  max : ∃ m, w.cell? ⟨0, 0, none⟩ = some (.int .i64 m)
  synt : ∃ te pe, w.cell? ⟨1, 0, none⟩ = some (.iface te pe)
  rng : ∃ te pe, w.cell? ⟨2, 0, none⟩ = some (.iface te pe)
  big : 8 ≤ w.heap.size

theorem tabBelow {w w1 : World} (h : Below w.heap.size w w1) (hs : 8 ≤ w.heap.size) (ht : Lib.TabIs Tryz.prog w "internal/strconv.uint64pow10" .u64 Lib.pow10Tab) : Lib.TabIs Tryz.prog w1 "internal/strconv.uint64pow10" .u64 Lib.pow10Tab := by
  have hg : Tryz.prog.globalNamed "internal/strconv.uint64pow10" = some 3 := by kernel_rfl
  unfold Lib.TabIs at ht ⊢
  exact var?_below h hg (by omega) ht

theorem Glob.below {w w1 : World} (g : Glob w) (h : Below w.heap.size w w1) : Glob w1 :=
  ⟨tabBelow h g.big g.tab10, g.max.imp fun _ hm => cellBelow h hm, let ⟨a, b, hc⟩ := g.synt; ⟨a, b, cellBelow h hc⟩, let ⟨a, b, hc⟩ := g.rng; ⟨a, b, cellBelow h hc⟩, Nat.le_trans g.big h.size⟩

open Go.Proofs.YtiggnmhoececfaaGreatDoorW.PrintWords

theorem below_step {w w1 w2 : World} (h : Below w.heap.size w w1) (k : Below w1.heap.size w1 w2) : Below w.heap.size w w2 := h.trans (k.mono h.size)

theorem below_or_bytes {w W W2 : World} {e : TypeId} {s : ByteArray} (h : Below w.heap.size w W) (k : W2 = W ∨ W2 = Lib.bytesWorld W e s) : Below w.heap.size w W2 := by
  rcases k with rfl | rfl
  · exact h
  · exact bytes_below h h.size _ _

/-- Texts in a row of memory. -/
def strs (l : List Bytes) : List Value := l.map fun x => Value.string ⟨x.toArray⟩
theorem strs_length (l : List Bytes) : (strs l).length = l.length := by simp [strs]

/-- A slice of texts that is read: its cells hold them. -/
def ReadsStrs (w : World) (A : Option Addr) (xs : List Bytes) : Prop := xs ≠ [] → ∃ b o, A = some ⟨b, o, none⟩ ∧ b < w.heap.size ∧ ∀ j x, xs[j]? = some x → w.cell? ⟨b, o + j, none⟩ = some (.string ⟨x.toArray⟩)

theorem ReadsStrs.below {w w1 : World} {A : Option Addr} {xs : List Bytes} (h : ReadsStrs w A xs) (hb : Below w.heap.size w w1) : ReadsStrs w1 A xs := fun h0 =>
  let ⟨b, o, e, hlt, hc⟩ := h h0; ⟨b, o, e, Nat.lt_of_lt_of_le hlt hb.size, fun j x hx => cellBelow hb (hc j x hx)⟩

theorem own_strs {w : World} {base : Nat} {e : TypeId} {v : Value} {n : Nat} {xs : List Bytes} (h : w.ownsRow base e 1 v n (strs xs)) :
    ∃ A c, v = .slice A n c ∧ n = xs.length ∧ n ≤ c ∧ ReadsStrs w A xs := by
  have hn : n = xs.length := by have := h.1; rw [strs_length] at this; omega
  have hlt := h.lt
  have hcl := fun g hg => h.cells (g := g) hg
  obtain ⟨hl, ⟨rfl, h0⟩ | ⟨g, cap, cur, rfl, hb, hh, hc, hm, hs, hx⟩⟩ := h
  · exact ⟨none, 0, by rw [h0], hn, by omega, fun hne => absurd (List.length_eq_zero_iff.1 (by omega)) hne⟩
  · refine ⟨_, cap, rfl, hn, hc, fun _ => ⟨g, 0, rfl, (hlt g rfl).2, fun j x hj => ?_⟩⟩
    have := hcl g rfl j (.string ⟨x.toArray⟩) (by simp [strs, hj])
    rw [Lib.add_plain] at this
    exact this

/-- strings.Join -/
theorem join_any (A : Option Addr) (c : Nat) (xs : List Bytes) (sep : Bytes) (w : World) (hr : ReadsStrs w A xs) (hc : xs.length ≤ c) (hN : xs.length ≤ 140737488355328) (hlen : (Lib.join xs sep).length ≤ 140737488355328) :
    Calls Tryz.prog 76 #[.slice A xs.length c, .string ⟨sep.toArray⟩] w fun e w' => e = .returned (.string ⟨(Lib.join xs sep).toArray⟩) ∧ Below w.heap.size w w' := by
  by_cases h0 : xs = []
  · subst h0
    exact (Tryz.strings_Join_none A c ⟨sep.toArray⟩ w).mono fun e w' ⟨he, hw⟩ => by rw [hw]; exact ⟨by rw [he]; rfl, Below.refl _ _⟩
  · obtain ⟨b, o, rfl, hlt, hcell⟩ := hr h0
    have e1 : (xs.map fun x => (⟨x.toArray⟩ : ByteArray)).map (fun s => s.data.toList) = xs := by
      rw [List.map_map]
      conv => rhs; rw [← List.map_id xs]
      apply List.map_congr_left
      intro x _
      rfl
    have := Tryz.strings_Join b o c (xs.map fun x => ⟨x.toArray⟩) ⟨sep.toArray⟩ w (fun j x hj => by
      rw [List.getElem?_map, Option.map_eq_some_iff] at hj
      obtain ⟨y, hy, rfl⟩ := hj
      exact hcell j y hy) hlt (by rw [List.length_map]; exact hN) (by rw [List.length_map]; exact hc) (by rw [e1]; exact hlen)
    rw [e1, List.length_map] at this
    exact this

/-- The cells of block b, from its first on. -/
def CellsAt (w : World) (b : Nat) (l : List Value) : Prop := b < w.heap.size ∧ ∀ j u, l[j]? = some u → w.cell? ⟨b, j, none⟩ = some u
theorem CellsAt.get {w : World} {b : Nat} {l : List Value} (h : CellsAt w b l) {j : Nat} {u : Value} (hj : l[j]? = some u) : w.cell? ⟨b, j, none⟩ = some u := h.2 j u hj
theorem CellsAt.below {w w1 : World} {b : Nat} {l : List Value} (h : CellsAt w b l) (hb : Below w.heap.size w w1) : CellsAt w1 b l := ⟨Nat.lt_of_lt_of_le h.1 hb.size, fun j u hj => cellBelow hb (h.2 j u hj)⟩
theorem CellsAt.setCell {w : World} {b : Nat} {l : List Value} (h : CellsAt w b l) {p : Addr} (hp : p.block ≠ b) (v : Value) : CellsAt (w.setCell p v) b l :=
  ⟨by simpa [World.setCell] using h.1, fun j u hj => by rw [World.cell?_setCell_other _ _ _ _ (by intro e; subst e; exact hp rfl)]; exact h.2 j u hj⟩
theorem CellsAt.new (w : World) (l : List Value) (T : TypeId) : CellsAt (w.alloc (.cells l.toArray T)) w.heap.size l :=
  ⟨by simp, fun j u hj => by rw [World.cell?_alloc_new]; simpa using hj⟩

theorem CellsAt.new' {w : World} {l : List Value} {T : TypeId} {n : Nat} (h : n = w.heap.size) : CellsAt (w.alloc (.cells l.toArray T)) n l := by subst h; exact CellsAt.new _ _ _

theorem ReadsStrs.of_cells {w : World} {b : Nat} {xs : List Bytes} (h : CellsAt w b (strs xs)) : ReadsStrs w (some ⟨b, 0, none⟩) xs := fun _ => ⟨b, 0, rfl, h.1, fun j x hj => by rw [Nat.zero_add]; exact h.get (by simp [strs, hj])⟩

/-- strings.Split, at one byte -/
theorem split_any (s : ByteArray) (c : UInt8) (w : World) (hs : s.size < 4294967281) (hG : Glob w) :
    Calls Tryz.prog 70 #[.string s, .string ⟨#[c]⟩] w fun e w' => e = .returned (.slice (some ⟨w.heap.size, 0, none⟩) (split1 c s.data.toList).length (split1 c s.data.toList).length) ∧ w' = w.alloc (.cells (strs (split1 c s.data.toList)).toArray 9) := by
  obtain ⟨m, hm⟩ := hG.max
  refine (Tryz.strings_Split s ⟨#[c]⟩ m w hs hm (Nat.le_refl 1)).mono ?_
  rintro e w' ⟨rfl, rfl⟩
  have e1 := splitB_one c _ s rfl
  have e2 : (split1 c s.data.toList).length = Lib.countB s ⟨#[c]⟩ + 1 := by
    rw [← e1, List.length_map, Lib.splitB_all ⟨#[c]⟩ (Nat.le_refl 1) 0 _ s rfl]
  refine ⟨by rw [e2], ?_⟩
  rw [← e1, strs, List.map_map]
  rfl

/-- New blocks, one behind the other. -/
def allocs (w : World) (os : List Obj) : World := os.foldl World.alloc w
theorem allocs_size (w : World) (os : List Obj) : (allocs w os).heap.size = w.heap.size + os.length := by
  induction os generalizing w with
  | nil => rfl
  | cons o os ih => show (allocs (w.alloc o) os).heap.size = _; rw [ih]; simp; omega
theorem allocs_below (w : World) (os : List Obj) : Below w.heap.size w (allocs w os) := by
  induction os generalizing w with
  | nil => exact Below.refl _ _
  | cons o os ih => exact below_step (below_alloc (Below.refl _ _) o) (ih _)
theorem allocs_get (w : World) (os : List Obj) (i : Nat) (o : Obj) (h : os[i]? = some o) : (allocs w os).heap[w.heap.size + i]? = some o := by
  induction os generalizing w i with
  | nil => simp at h
  | cons o' os ih =>
    cases i with
    | zero =>
      simp at h
      subst h
      exact ((allocs_below (w.alloc o') os).block w.heap.size (by simp)).trans (blk_new w o')
    | succ i =>
      have := ih (w.alloc o') i (by simpa using h)
      rw [World.size_alloc] at this
      show (allocs (w.alloc o') os).heap[w.heap.size + (i + 1)]? = _
      rw [show w.heap.size + (i + 1) = w.heap.size + 1 + i by omega]
      exact this

theorem blk3 {w : World} {b : Nat} {x y z : Value} {T : TypeId} (h : w.heap[b]? = some (.cells #[x, y, z] T (0, 0))) :
    w.cell? ⟨b, 0, none⟩ = some x ∧ w.cell? ⟨b, 1, none⟩ = some y ∧ w.cell? ⟨b, 2, none⟩ = some z ∧ w.frozen? ⟨b, 0, none⟩ = false ∧ w.frozen? ⟨b, 1, none⟩ = false ∧ w.frozen? ⟨b, 2, none⟩ = false :=
  ⟨blk_cell h 0, blk_cell h 1, blk_cell h 2, blk_frozen h 0, blk_frozen h 1, blk_frozen h 2⟩

end Go.Proofs.YtiggnmhoececfaaGreatDoor
