/- What the three rows share: a world for the witness, and what the listed variables give. -/
import Derived.Test.YtiggnmhoececfaaGreatDoorCards
import Derived.Test.YtiggnmhoececfaaGreatDoorTie
import Derived.Test.YtiggnmhoececfaaGreatDoorBase
import Derived.WalkKit
import Derived.ProofKit
import Derived.OpenShut
import Derived.ShutString
import Derived.Below
import Derived.SizedLaws
import Derived.LaidMore
import Derived.Deep.DeepWitnessRowRef
import Derived.Lib.LaidU8
import Derived.LaidLaws
import Derived.LaidSub
import Derived.Shelf.Vars
import Derived.Lib.SmallJoins
namespace Go.Proofs.YtiggnmhoececfaaGreatDoor
set_option linter.unusedVariables false
set_option linter.unusedSimpArgs false
open Go.ChangeShapes Go.WideShapes Go.ChangeAt Go.RowKit
open Go.ChangeMaps (open_string shut_string)

theorem own : ownKnob Tryz.prog.godebug = none := by kernel_rfl
theorem laidOut : laidOutB Tryz.prog = true := by kernel_rfl

def laidL : List (String × DataW Unit) := Rows.rangesCheckRow.laid

def litsOf : DataW Unit → Array Value
  | .agg ds => (ds.map fun
    | .lit (.int k n) => Value.int k n
    | _ => .nilIface).toArray
  | _ => #[]

/-- The door's own heap, and Go's own table of first bytes. -/
noncomputable def rowWorld (os : Os) : World :=
  { World.doorLaid Tryz.prog 72 os with heap := (World.doorLaid Tryz.prog 72 os).heap.modify 4 fun
      | .cells _ t frozen => .cells (litsOf Go.Pinned.utf8First) t frozen
      | o => o }

set_option maxRecDepth 100000 in
theorem row_met (os : Os) (args : Array Value) : laidMetH Tryz.prog laidL ((rowWorld os).forCall (fun _ _ => 0) ⟨#[], args, []⟩).memory :=
  laidMetH_of_parts3 (fuel := 8) (laidMet_of_run' 8 (by kernel_rfl) (by kernel_rfl)) (by kernel_rfl) (by kernel_rfl)

theorem reads_of {W : World} (h : laidMetH Tryz.prog laidL W) {n : String} {d : DataW Unit} (hm : (n, d) ∈ laidL) : Lib.VarReads Tryz.prog W n d := by
  rw [MakeChecks.laidMetH_plain _ _ _ (by kernel_rfl)] at h
  exact Lib.laidMet.reads h hm

theorem sent_of {W : World} {n : String} {name : String} {d : DataW Unit} {g : Nat} (hg : Tryz.prog.globalNamed n = some g) (ht : (Tryz.prog.globals[g]?).map (·.type) = some 116)
    (h : Lib.VarReads Tryz.prog W n (.iface name d)) : ∃ te pe, W.cell? ⟨g, 0, none⟩ = some (.iface te pe) := by
  obtain ⟨g', t, cs, fuel, p, hg', ht', hv, hd⟩ := h
  obtain rfl := Option.some.inj (hg.symm.trans hg')
  obtain rfl := Option.some.inj (ht.symm.trans ht')
  obtain ⟨_, u, v, hcs, _, _⟩ := iface_of_trod Tryz.underlying116 hd
  have h0 := World.var?_cell hg hv 0
  rw [Array.eq_one_of_toList hcs] at h0
  exact ⟨u, v, by simpa using h0⟩

theorem glob_of {W : World} (h : laidMetH Tryz.prog laidL W) (hs : W.ShapedOpen Tryz.prog) : Glob W := by
  refine ⟨?_, ?_, ?_, ?_, ?_⟩
  · obtain ⟨g', t, cs, fuel, p, hg', ht', hv, hd⟩ := reads_of h (n := "internal/strconv.uint64pow10") (d := Rows.laid_internal_strconv_uint64pow10) (by unfold laidL Rows.rangesCheckRow; simp)
    rw [show (Rows.laid_internal_strconv_uint64pow10 : DataW Unit) = Lib.tabData .u64 Lib.pow10Tab by rfl] at hd
    obtain rfl := Option.some.inj ((show Tryz.prog.globalNamed "internal/strconv.uint64pow10" = some 3 by kernel_rfl).symm.trans hg')
    obtain rfl := Option.some.inj ((show (Tryz.prog.globals[3]?).map (·.type) = some 167 by kernel_rfl).symm.trans ht')
    unfold Lib.TabIs
    rw [hv, ← Lib.cells_of_tab Tryz.underlying167 Tryz.underlying83 (by kernel_rfl) (by kernel_rfl) hd]
  · exact cell_of_shapedOpen_int (zero := #[.int .i64 0]) (t := 3) hs (of_decide_eq_true (by kernel_rfl)) (by kernel_rfl) rfl (by kernel_rfl) (by kernel_rfl) Tryz.underlying3
  · exact sent_of (by kernel_rfl) (by kernel_rfl) (reads_of h (n := "strconv.ErrSyntax") (d := Rows.laid_strconv_ErrSyntax) (by unfold laidL Rows.rangesCheckRow; simp))
  · exact sent_of (by kernel_rfl) (by kernel_rfl) (reads_of h (n := "strconv.ErrRange") (d := Rows.laid_strconv_ErrRange) (by unfold laidL Rows.rangesCheckRow; simp))
  · obtain ⟨o, _, hh, _⟩ := hs.2 Tryz.prog.globals.size (Nat.le_refl _) (of_decide_eq_true (by kernel_rfl))
    have h8 : 7 ≤ Tryz.prog.globals.size := of_decide_eq_true (by kernel_rfl)
    have := (Array.getElem?_eq_some_iff.1 hh).1
    omega

end Go.Proofs.YtiggnmhoececfaaGreatDoor
