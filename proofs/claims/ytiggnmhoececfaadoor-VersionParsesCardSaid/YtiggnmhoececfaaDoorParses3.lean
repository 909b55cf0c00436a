/- VersionParses, at every input. -/
import Derived.Test.YtiggnmhoececfaaDoorParses2
namespace Go.Proofs.YtiggnmhoececfaaDoor
open Go.RowKit Go.Proofs.YtiggnmhoececfaaDoorW.PrintWords

theorem bytes_of (s : ByteArray) : (⟨s.data.toList.toArray⟩ : ByteArray) = s := by
  cases s; simp

theorem parses_any (s : ByteArray) (a b : Ver) (hs : s.size ≤ 140737488351232) (w : World) (hG : Glob w) :
    Calls Tryd.prog 3 #[.string s, verV a.1.1 a.1.2.1 a.1.2.2, verV b.1.1 b.1.2.1 b.1.2.2] w fun e w' => e = .returned (.bool true) ∧ Below w.heap.size w w' := by
  by_cases hlong : 100 < s.size
  · exact parses_long s a b hlong hs w hG
  · have hr := ref_parse s (by omega) 5000 (by omega) (by omega)
    have hlen := ref_len s.data.toList
    have hsz : s.data.toList.length = s.size := by simp
    have xa : isText (verV a.1.1 a.1.2.1 a.1.2.2) (verText a.1.1 a.1.2.1 a.1.2.2) := fun W hW => vtext_any _ _ _ a.2.1 a.2.2.1 a.2.2.2 W hW
    have pa : isParse ⟨(verText a.1.1 a.1.2.1 a.1.2.2).toArray⟩ (.tuple #[verV a.1.1 a.1.2.1 a.1.2.2, .int .i64 0]) := fun W hW => by
      have := vparse_of ⟨(verText a.1.1 a.1.2.1 a.1.2.2).toArray⟩ W (by
        have h := verText_le62 a.1.1 a.1.2.1 a.1.2.2 a.2.1 a.2.2.1 a.2.2.2
        show (verText a.1.1 a.1.2.1 a.1.2.2).toArray.size < _
        rw [List.size_toArray]; omega) hW
      rw [List.toList_toArray, verOf_text _ _ _ a.2.1 a.2.2.1 a.2.2.2] at this
      exact this
    have cab := fun W => vcmp_any a.1.1 a.1.2.1 a.1.2.2 b.1.1 b.1.2.1 b.1.2.2 W
    have hx := ref_cmp a.1.1 a.1.2.1 a.1.2.2 b.1.1 b.1.2.1 b.1.2.2 5000 (by omega)
    cases hv : verOf s.data.toList with
    | none =>
      have hno := ref_no _ hv
      generalize refP [] (split1 46 s.data.toList) = r at hr hlen hno
      obtain ⟨r1, r2⟩ := r
      obtain rfl : r2 = false := hno
      exact parses_none s a b r1 (by omega) hv hr (by show r1.length ≤ 1000; have : r1.length ≤ s.data.toList.length + 1 := hlen; omega) _ xa pa _ cab hx w hG
    | some v =>
      rw [ref_yes _ v hv] at hr
      refine parses_some s a b v (by omega) hv hr (fun W hW => ?_) _ xa pa _ cab hx w hG
      have := vtext_any _ _ _ v.2.1 v.2.2.1 v.2.2.2 W hW
      rw [text_of_ver _ v hv, bytes_of] at this
      exact this

end Go.Proofs.YtiggnmhoececfaaDoor
