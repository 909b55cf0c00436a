/- cashierlaw09.NodeLays: its loop, and what comes behind. -/
import Derived.Test.YtfocognhcljhpaaGreatDoorL9
import Derived.Test.YtfocognhcljhpaaGreatDoorL10
namespace Go.Proofs.YtfocognhcljhpaaGreatDoor
set_option linter.unusedVariables false
set_option linter.unusedSimpArgs false
open Go.RowKit Go.Shelf Go.Proofs.YtfocognhcljhpaaGreatDoorW.PrintWords Go.Proofs.YtfocognhcljhpaaGreatDoorW.PrintLast Go.Proofs.YtfocognhcljhpaaGreatDoorW.PrintMore Go.Proofs.YtfocognhcljhpaaGreatDoor.PPrintRows Go.Proofs.YtfocognhcljhpaaGreatDoor.Tree
attribute [local go_sem high] eqA_node
theorem one_facts {w w1 : World} {k : Int} {t : ByteArray} (h : w1 = w.alloc (oneCells k t)) : Below w.heap.size w w1 ∧ w1.cell? ⟨w.heap.size, 0, none⟩ = some (.int .i64 k) ∧ w1.cell? ⟨w.heap.size, 1, none⟩ = some (.string ⟨#[]⟩) ∧
  w1.cell? ⟨w.heap.size, 2, none⟩ = some (.string t) ∧ w1.cell? ⟨w.heap.size, 3, none⟩ = some (.int .i64 (-1)) ∧ w1.cell? ⟨w.heap.size, 4, none⟩ = some (.int .i64 1) := by
 subst h
 have h := blk_new w (oneCells k t)
 exact ⟨below_alloc (Below.refl _ _) _, blkc (blk_new _ _) 0 rfl, blkc (blk_new _ _) 1 rfl, blkc (blk_new _ _) 2 rfl, blkc (blk_new _ _) 3 rfl, blkc (blk_new _ _) 4 rfl⟩
set_option maxRecDepth 100000 in
set_option maxHeartbeats 4000000 in
theorem nodeLays_main (A : Option Addr) (c : Nat) (ms : List Mb) (Ak : Option Addr) (ck : Nat) (keys : List ByteArray) (i : Int) (s : ByteArray) (kind : Int) (W : World) (hM : RowsAt W A ms) (hC : ∀ m ∈ ms, Kd.C kN W m.2.1.1 m.2.2.length m.2.2 ∧ m.2.2.length ≤ m.2.1.2) (hA : ∀ a, A = some a → a.block < W.heap.size) (hK : TextsAt W Ak keys) (hl5 : ms.length ≤ 5) (hs : s.size ≤ 200) (hkl : keys.length ≤ 9223372036854775807) :
  Calls Tryz.prog 7 #[.slice A ms.length c, .slice Ak keys.length ck, .int .i64 i, .string s, .int .i64 kind] W fun e w' => e = .returned (.bool true) ∧ Below W.heap.size W w' := by
 have HM := Lib.hid hM
 have HC := Lib.hid hC
 have HA := Lib.hid hA
 have HK := Lib.hid hK
 have kp : decide ((5 : Int) < (ms.length : Int)) = false := decide_eq_false (by omega)
 have kp2 : ¬ 5 < ms.length := by omega
 have kq : decide ((200 : Int) < (s.size : Int)) = false := decide_eq_false (by omega)
 have kq2 : ¬ 200 < s.size := by omega
 clear hM hC hA hK
 go_enter Tryz.func7, Tryz.ntmps7
 go_wp2_with (go_at_call 26; go_must (refine (awake09_in _).mono ?_); rintro e w0 ⟨rfl, hb⟩; have B0 := Lib.hid hb; clear hb)
 go_loopw [11, 12, 13, 14, 38] (fun v11 v12 v13 v14 vi wr => ∃ (mo : List (Option Tr)) (A3 : Option Addr) (c3 n3 : Nat) (inn out : ByteArray), vi = .int .i64 (mo.length : Int) ∧ v11 = .slice A3 n3 c3 ∧ n3 = mo.length ∧ OwnM wr W.heap.size (.slice A3 n3 c3) ((msK keys ms).take mo.length) ∧ v12 = .string inn ∧ inn.data.toList = prK quoteL false true (kidsO (mo0 mo)) ∧
   v13 = .string out ∧ out.data.toList = prK quoteL true true (kidsO (moK keys mo)) ∧ v14 = .int .i64 ((kidsO (mo0 mo)).length : Int) ∧ GoodRows keys ms mo ∧ Below W.heap.size W wr)
  (fun _ _ _ _ vi _ => ms.length - (intOf vi).toNat)
 case atStart => exact ⟨[], none, 0, 0, ⟨#[]⟩, ⟨#[]⟩, rfl, rfl, rfl, World.ownsRow_nil _ _ _ _, rfl, rfl, rfl, rfl, rfl, ⟨Nat.zero_le _, fun j m o _ h => by simp at h⟩, B0.out⟩
 case round =>
  obtain ⟨mo, A3, c3, n3, inn, out, rfl, rfl, rfl, hown, rfl, hinn, rfl, hout, rfl, hgr, hB⟩ := hrel
  obtain ⟨q, hq⟩ : ∃ q, mo.length = q := ⟨_, rfl⟩
  by_cases hlt : q < ms.length
  ·have k9 : decide ((q : Int) < (ms.length : Int)) = true := decide_eq_true (by omega)
   have k10 : decide (q < ms.length) = true := decide_eq_true hlt
   obtain ⟨⟨k0, ⟨Aq, cq⟩, L⟩, hm⟩ : ∃ m, ms[q]? = some m := ⟨ms[q], List.getElem?_eq_getElem hlt⟩
   obtain ⟨ad, rfl, _, p0, _⟩ := HM.out q _ hm
   obtain ⟨hCL, hcL⟩ := HC.out _ (List.mem_of_getElem? hm)
   dsimp only at hCL hcL
   have p1 : wr.cell? (ad.add q) = some (.slice Aq L.length cq) := cellBelow hB p0
   have hLm : L.length ≤ 9223372036854775807 := hCL.2.1
   have HLI := Lib.hid (fun w (h : Below wr.heap.size wr w) => light_any Aq cq L hLm hcL w (Kd.C_below hCL (below_step hB h)))
   obtain ⟨lv, hlv⟩ : ∃ lv, lightV L = lv := ⟨_, rfl⟩
   rw [hlv] at HLI
   have HB := Lib.hid hB
   rw [hq] at hown
   have HIN := Lib.hid (And.intro hown (And.intro hinn (And.intro hout hgr)))
   have HCL := Lib.hid hCL
   have HQ := Lib.hid hq
   rw [hq]
   clear hown hinn hout hgr hB hCL p0 hq
   by_cases h100 : 100 < L.length
   ·have k1 : decide ((100 : Int) < (L.length : Int)) = true := decide_eq_true (by omega)
    have k2 : decide (100 < L.length) = true := decide_eq_true h100
    go_wp2_with fail
    go_ret
    exact ⟨rfl, HB.out⟩
   ·have k1 : decide ((100 : Int) < (L.length : Int)) = false := decide_eq_false (by omega)
    have k2 : decide (100 < L.length) = false := decide_eq_false h100
    cases lv with
    | false =>
     go_wp2_with (go_at_call 12; go_must (refine (HLI.out _ (Below.refl _ _)).mono ?_); rintro e' w1 ⟨rfl, hb⟩; have B1 := Lib.hid hb; clear hb)
     go_ret
     exact ⟨rfl, below_step HB.out B1.out⟩
    | true =>
     obtain ⟨q1, q2⟩ := light_all hlv
     have HCK := Lib.hid (fun w (h : Below wr.heap.size wr w) => chk_any Aq cq L hcL (by omega) (fun n hn => ⟨by have := (q2 n hn).1; omega, by have := (q2 n hn).2; omega⟩) w (Kd.C_below HCL.out (below_step HB.out h)))
     obtain ⟨cv, hcv⟩ : ∃ cv, chkP L = cv := ⟨_, rfl⟩
     rw [hcv] at HCK
     have hkcases : (∃ hk : q < keys.length, keyQ keys q = keys[q]) ∨ (keys.length ≤ q ∧ keyQ keys q = ⟨#[]⟩) := by
      rcases Nat.lt_or_ge q keys.length with h | h
      ·exact .inl ⟨h, by unfold keyQ; rw [List.getD_eq_getElem?_getD, List.getElem?_eq_getElem h]; rfl⟩
      ·exact .inr ⟨h, by unfold keyQ; rw [List.getD_eq_getElem?_getD, List.getElem?_eq_none h]; rfl⟩
     have hKY := HK.out.below HB.out
     obtain ⟨ky, hky⟩ : ∃ ky, keyQ keys q = ky := ⟨_, rfl⟩
     rw [hky] at hkcases
     have HKEYQ := Lib.hid hky
     have LENQ := Lib.hid (show ∀ x : Mb, ((msK keys ms).take q ++ [x]).length = q + 1 from fun x => by rw [List.length_append, List.length_take]; simp [msK]; omega)
     by_cases hL0 : L = []
     ·subst hL0
      rcases hkcases with ⟨hk, e⟩ | ⟨hk, e⟩
      ·have k6 : decide ((q : Int) < (keys.length : Int)) = true := decide_eq_true (by omega)
       have k7 : decide (q < keys.length) = true := decide_eq_true hk
       obtain ⟨ak, rfl, ca⟩ := hKY q hk
       rw [← e] at ca
       clear e
       by_cases h9 : 100 < ky.size
       ·have k8 : decide ((100 : Int) < (ky.size : Int)) = true := decide_eq_true (by omega)
        have k9b : decide (100 < ky.size) = true := decide_eq_true h9
        go_wp2_with (go_at_call 12; go_must (refine (HLI.out _ (Below.refl _ _)).mono ?_); rintro e' w1 ⟨rfl, hb⟩; have B1 := Lib.hid hb; have ca1 := cellBelow hb ca; clear hb)
        go_ret
        exact ⟨rfl, below_step HB.out B1.out⟩
       ·have k8 : decide ((100 : Int) < (ky.size : Int)) = false := decide_eq_false (by omega)
        have k9b : decide (100 < ky.size) = false := decide_eq_false h9
        go_wp2_with (first | (go_at_call 12; go_must (refine (HLI.out _ (Below.refl _ _)).mono ?_); rintro e' w1 ⟨rfl, hb⟩; have B1 := Lib.hid hb; have ca1 := cellBelow hb ca; obtain ⟨v7, w7, hr7, hO7, hg7⟩ := ownM_append (own_keep HIN.out.1 (fun k hk => hb.block k (by obtain ⟨_, cs, h⟩ := own_typed HIN.out.1 k hk; exact blk_lt h))) (ky, (Aq, cq), []) (by rw [List.length_take]; omega) (Nat.le_trans HB.out.size hb.size); obtain ⟨A7, c7, e7, _⟩ := own_slice hO7; rw [LENQ.out] at e7; subst e7; have HO7 := Lib.hid hO7; have HG7 := Lib.hid hg7; clear hO7 hg7; clear hb) | (at_builtin; refine wpList_append_runI _ rfl _ _ 52 52 rfl _ _ rfl rfl hr7 ?_))
        go_roundw
        case rel =>
         obtain ⟨i1, i2, i3, i4⟩ := HIN.out
         have hq := HQ.out
         have hkq := HKEYQ.out
         have hmq : ms[q] = (k0, (Aq, cq), []) := by rw [List.getElem?_eq_getElem hlt] at hm; exact Option.some.inj hm
         have htk := msK_take keys ms q hlt
         rw [hmq, hkq] at htk
         exact ⟨mo ++ [none], A7, c7, q + 1, inn, out, by rw [List.length_append, hq]; rfl, rfl, by rw [List.length_append, hq]; rfl, by rw [List.length_append, hq]; show OwnM _ _ _ ((msK keys ms).take (q + 1)); rw [htk]; exact HO7.out, rfl, by rw [mo0_snoc, kidsO_app]; simpa [kidsO] using i2, rfl, by rw [moK_snoc, kidsO_app]; simpa [kidsO] using i3, by rw [mo0_snoc, kidsO_app]; simp [kidsO], good_snoc i4 (k0, (Aq, cq), []) none (by rw [hq]; exact hm) rfl (by rw [hq, hkq]; omega) (fun _ h => by cases h),
          (below_alloc (below_step HB.out B1.out) _).grown HG7.out (by have := (below_step HB.out B1.out).size; simp; omega) (fun k e => (own_typed i1 k e).1)⟩
        case measure => simp [intOf]; omega
      ·have k6 : decide ((q : Int) < (keys.length : Int)) = false := decide_eq_false (by omega)
       have k7 : decide (q < keys.length) = false := decide_eq_false (by omega)
       have k7b : ¬ q < keys.length := by omega
       subst e
       have k99 : (⟨#[]⟩ : ByteArray).size = 0 := rfl
       go_wp2_with (first | (go_at_call 12; go_must (refine (HLI.out _ (Below.refl _ _)).mono ?_); rintro e' w1 ⟨rfl, hb⟩; have B1 := Lib.hid hb; obtain ⟨v7, w7, hr7, hO7, hg7⟩ := ownM_append (own_keep HIN.out.1 (fun k hk => hb.block k (by obtain ⟨_, cs, h⟩ := own_typed HIN.out.1 k hk; exact blk_lt h))) ((⟨#[]⟩ : ByteArray), (Aq, cq), []) (by rw [List.length_take]; omega) (Nat.le_trans HB.out.size hb.size); obtain ⟨A7, c7, e7, _⟩ := own_slice hO7; rw [LENQ.out] at e7; subst e7; have HO7 := Lib.hid hO7; have HG7 := Lib.hid hg7; clear hO7 hg7; clear hb) | (at_builtin; refine wpList_append_runI _ rfl _ _ 52 52 rfl _ _ rfl rfl hr7 ?_))
       go_roundw
       case rel =>
        obtain ⟨i1, i2, i3, i4⟩ := HIN.out
        have hq := HQ.out
        have hkq := HKEYQ.out
        have hmq : ms[q] = (k0, (Aq, cq), []) := by rw [List.getElem?_eq_getElem hlt] at hm; exact Option.some.inj hm
        have htk := msK_take keys ms q hlt
        rw [hmq, hkq] at htk
        exact ⟨mo ++ [none], A7, c7, q + 1, inn, out, by rw [List.length_append, hq]; rfl, rfl, by rw [List.length_append, hq]; rfl, by rw [List.length_append, hq]; show OwnM _ _ _ ((msK keys ms).take (q + 1)); rw [htk]; exact HO7.out, rfl, by rw [mo0_snoc, kidsO_app]; simpa [kidsO] using i2, rfl, by rw [moK_snoc, kidsO_app]; simpa [kidsO] using i3, by rw [mo0_snoc, kidsO_app]; simp [kidsO], good_snoc i4 (k0, (Aq, cq), []) none (by rw [hq]; exact hm) rfl (by rw [hq, hkq]; exact Nat.zero_le _) (fun _ h => by cases h),
         (below_alloc (below_step HB.out B1.out) _).grown HG7.out (by have := (below_step HB.out B1.out).size; simp; omega) (fun k e => (own_typed i1 k e).1)⟩
       case measure => simp [intOf]; omega
     ·have hLp : 0 < L.length := by cases L with
       | nil => exact absurd rfl hL0
       | cons a b => simp
      have k3 : decide ((0 : Int) < (L.length : Int)) = true := decide_eq_true (by omega)
      have k4 : decide (0 < L.length) = true := decide_eq_true hLp
      by_cases hc0 : cv = 0
      ·have k5 : (cv != 0) = false := by simp [hc0]
       rw [hc0] at hcv
       obtain ⟨t, ht, hLt⟩ := chk_zero hcv
       have hts : t.size ≤ 100 := by have := congrArg List.length hLt; rw [rowT_len] at this; omega
       have htt : t.tx (fun b => decide (b.size ≤ 200)) = true := by
        rw [← flat_tx (fun b => decide (b.size ≤ 200)) t (-1) 0, List.all_eq_true]
        intro n hn
        have hmm : toN n ∈ L := by rw [hLt]; exact List.mem_map_of_mem hn
        obtain ⟨a1, a2⟩ := q2 _ hmm
        rw [Bool.and_eq_true]
        exact ⟨decide_eq_true a1, decide_eq_true a2⟩
       have htt2 := tx_more t 200 100000 (by omega) htt
       have TO := Lib.hid (fun w (h : Below W.heap.size W w) => to_any Aq cq L (by omega) w (Kd.C_below HCL.out h))
       have PR := Lib.hid (fun w (A8 : Option Addr) (c8 base : Nat) (hR8 : Row7 w base (.slice A8 (rowT t).length c8) (rowT t)) => print8_T A8 c8 base t ht.ok htt2 (by omega) w hR8)
       rw [← hLt] at PR
       have hpl := prT_le t htt2
       obtain ⟨pb, hpb⟩ : ∃ pb : ByteArray, (⟨(prT quoteL t).toArray⟩ : ByteArray) = pb := ⟨_, rfl⟩
       rw [hpb] at PR
       have hpd : pb.data.toList = prT quoteL t := by rw [← hpb]
       have hpz : pb.size ≤ 200000000 := by
        have h1 := congrArg List.length hpd
        have h3 : pb.data.toList.length = pb.size := by simp
        omega
       obtain ⟨i1, i2, i3, i4⟩ := HIN.out
       have hin9 : inn.size ≤ 1000000000 := by
        obtain ⟨a1, a2⟩ := good_mo i4 hl5 _ (.inl rfl)
        have h1 := congrArg List.length i2
        have h3 : inn.data.toList.length = inn.size := by simp
        have h4 := prK_le _ false true a1
        omega
       have hou9 : out.size ≤ 1000000000 := by
        obtain ⟨a1, a2⟩ := good_mo i4 hl5 _ (.inr rfl)
        have h1 := congrArg List.length i3
        have h3 : out.data.toList.length = out.size := by simp
        have h4 := prK_le _ true true a1
        omega
       obtain ⟨nk, hnk⟩ : ∃ nk, (kidsO (mo0 mo)).length = nk := ⟨_, rfl⟩
       have hnk5 : nk ≤ 5 := by
        rw [← hnk, kidsO_cnt]
        have h1 : ∀ l : List (Option Tr), cntO l ≤ l.length := fun l => by
         induction l with
         | nil => exact Nat.le_refl _
         | cons o l ih => cases o <;> simp [cntO] <;> omega
        have h2 := h1 ((mo0 mo).map (·.2))
        have h3 := i4.1
        simp [mo0] at h2 ⊢
        omega
       have hkl2 := kids_len keys mo
       rw [hnk] at hkl2 ⊢
       have hE0 : ∀ X : List Tr, X.length = nk → X.isEmpty = (nk == 0) := fun X h => by cases X with
        | nil => rw [← h]; rfl
        | cons a b => rw [← h]; rfl
       have SI := Lib.hid (show ∀ o' : ByteArray, o'.data.toList = inn.data.toList ++ ((if (nk == 0) = true then [] else [44]) ++ prT quoteL t) → o'.data.toList = prK quoteL false true (kidsO (mo0 (mo ++ [some t]))) from fun o' h => by
        rw [h, i2, mo0_snoc, kidsO_app]
        show _ = prK quoteL false true (kidsO (mo0 mo) ++ [keyed ⟨#[]⟩ t])
        rw [prK_snoc, keyed_pr, Bool.true_and, hE0 _ hnk]
        simp)
       have SO := Lib.hid (show ∀ o' : ByteArray, o'.data.toList = out.data.toList ++ ((if (nk == 0) = true then [] else [44]) ++ (quoteL ky.data.toList ++ ([58] ++ prT quoteL t))) → o'.data.toList = prK quoteL true true (kidsO (moK keys (mo ++ [some t]))) from fun o' h => by
        rw [h, i3, moK_snoc, kidsO_app, HQ.out, HKEYQ.out]
        show _ = prK quoteL true true (kidsO (moK keys mo) ++ [keyed ky t])
        rw [prK_snoc, keyed_pr, keyed_key, Bool.true_and, hE0 _ hkl2]
        simp)
       have HLT := Lib.hid (And.intro ht (And.intro hts (And.intro htt hLt)))
       have HNK := Lib.hid hnk
       clear i1 i2 i3 i4 hE0 hkl2 hnk hpb hpl htt2 hLt htt hcv ht hts
       rcases hkcases with ⟨hk, e⟩ | ⟨hk, e⟩
       ·have k6 : decide ((q : Int) < (keys.length : Int)) = true := decide_eq_true (by omega)
        have k7 : decide (q < keys.length) = true := decide_eq_true hk
        obtain ⟨ak, rfl, ca⟩ := hKY q hk
        rw [← e] at ca
        clear e
        by_cases h9 : 100 < ky.size
        ·have k8 : decide ((100 : Int) < (ky.size : Int)) = true := decide_eq_true (by omega)
         have k9b : decide (100 < ky.size) = true := decide_eq_true h9
         go_wp2_with (first | (go_at_call 12; go_must (refine (HLI.out _ (Below.refl _ _)).mono ?_); rintro e' w1 ⟨rfl, hb⟩; have B1 := Lib.hid hb; have ca1 := cellBelow hb ca; clear hb) | (go_at_call 21; go_must (refine (HCK.out _ B1.out).mono ?_); rintro e' w2 ⟨rfl, hb⟩; have B2 := Lib.hid (below_step B1.out hb); have ca2 := cellBelow (below_step B1.out hb) ca; clear hb))
         go_ret
         exact ⟨rfl, below_step HB.out B2.out⟩
        ·have k8 : decide ((100 : Int) < (ky.size : Int)) = false := decide_eq_false (by omega)
         have k9b : decide (100 < ky.size) = false := decide_eq_false h9
         have QU := Lib.hid (quote8_any ky (by first | omega | exact Nat.zero_le _))
         obtain ⟨qb, hqb⟩ : ∃ qb : ByteArray, (⟨(quoteL ky.data.toList).toArray⟩ : ByteArray) = qb := ⟨_, rfl⟩
         rw [hqb] at QU
         have hqd : qb.data.toList = quoteL ky.data.toList := by rw [← hqb]
         have hqz : qb.size ≤ 600002 := by
          have h1 := congrArg List.length hqd
          have h2 := quoteL_le ky (by first | omega | exact Nat.zero_le _)
          have h3 : qb.data.toList.length = qb.size := by simp
          omega
         rw [← hqd] at SO
         clear hqb hqd
         by_cases hn0 : nk = 0
         ·have n1 : decide ((0 : Int) < (nk : Int)) = false := decide_eq_false (by omega)
          have n2 : ¬ 0 < nk := by omega
          have n3 : (nk == 0) = true := by simp [hn0]
          rw [n3] at SI SO
          clear hn0
          go_wp2_with (first | (go_at_call 12; go_must (refine (HLI.out _ (Below.refl _ _)).mono ?_); rintro e' w1 ⟨rfl, hb⟩; have B1 := Lib.hid hb; have ca1 := cellBelow hb ca; clear hb) | (go_at_call 21; go_must (refine (HCK.out _ B1.out).mono ?_); rintro e' w2 ⟨rfl, hb⟩; have B2 := Lib.hid (below_step B1.out hb); have ca2 := cellBelow (below_step B1.out hb) ca; have hb12 := below_step B1.out hb; obtain ⟨v7, w7, hr7, hO7, hg7⟩ := ownM_append (own_keep HIN.out.1 (fun k hk => hb12.block k (by obtain ⟨_, cs, h⟩ := own_typed HIN.out.1 k hk; exact blk_lt h))) (ky, (Aq, cq), L) (by rw [List.length_take]; omega) (Nat.le_trans HB.out.size hb12.size); obtain ⟨A7, c7, e7, _⟩ := own_slice hO7; rw [LENQ.out] at e7; subst e7; have HO7 := Lib.hid hO7; have HG7 := Lib.hid hg7; clear hO7 hg7; have BW7 := Lib.hid ((below_alloc (below_step HB.out hb12) _).grown HG7.out (by have := (below_step HB.out hb12).size; simp; omega) (fun k e => (own_typed HIN.out.1 k e).1)); clear hb hb12) | (at_builtin; refine wpList_append_runI _ rfl _ _ 52 52 rfl _ _ rfl rfl hr7 ?_) | (go_at_call 18; go_must (refine (TO.out _ BW7.out).mono ?_); rintro e' w8 ⟨v8, rfl, hR8, hb8⟩; obtain ⟨A8, c8, rfl, hc8⟩ := hR8.slice; have B8 := Lib.hid (below_step BW7.out hb8); have S8 := Lib.hid hb8; have R8 := Lib.hid hR8; clear hR8 hb8) | (go_at_call 20; go_must (refine (PR.out _ A8 c8 _ R8.out).mono ?_); rintro e' w9 ⟨rfl, hb9⟩; have B9 := Lib.hid (below_step B8.out hb9); have S9 := Lib.hid (below_step S8.out hb9); clear hb9) | (go_at_call 16; go_must (refine (QU.out _).mono ?_); rintro e' w10 ⟨rfl, hb10⟩; have B10 := Lib.hid (below_step B9.out hb10); have S10 := Lib.hid (below_step S9.out hb10); clear hb10))
          all_goals first | (exfalso; omega) | skip
          go_roundw
          case rel =>
           obtain ⟨i1, i2, i3, i4⟩ := HIN.out
           have hq := HQ.out
           have hkq := HKEYQ.out
           have hmq : ms[q] = (k0, (Aq, cq), L) := by rw [List.getElem?_eq_getElem hlt] at hm; exact Option.some.inj hm
           have htk := msK_take keys ms q hlt
           rw [hmq, hkq] at htk
           obtain ⟨l1, l2, l3, l4⟩ := HLT.out
           refine ⟨mo ++ [some t], A7, c7, q + 1, _, _, by rw [List.length_append, hq]; rfl, rfl, by rw [List.length_append, hq]; rfl, by rw [List.length_append, hq]; show OwnM _ _ _ ((msK keys ms).take (q + 1)); rw [htk]; exact own_keep HO7.out (fun k hk => S10.out.block k (by obtain ⟨_, cs, h⟩ := own_typed HO7.out k hk; exact blk_lt h)), rfl, SI.out _ (by simp [ByteArray.data_append, hpd]), rfl, SO.out _ (by simp [ByteArray.data_append, hpd]), ?_, good_snoc i4 (k0, (Aq, cq), L) (some t) (by rw [hq]; exact hm) l4 (by rw [hq, hkq]; first | omega | exact Nat.zero_le _) (fun t' h => by cases h; exact ⟨l1, l2, l3⟩), B10.out⟩
           rw [mo0_snoc, kidsO_app, List.length_append, HNK.out]
           rfl
          case measure => simp [intOf]; omega
         ·have n1 : decide ((0 : Int) < (nk : Int)) = true := decide_eq_true (by omega)
          have n2 : 0 < nk := by omega
          have n3 : (nk == 0) = false := by simp [hn0]
          rw [n3] at SI SO
          clear hn0
          go_wp2_with (first | (go_at_call 12; go_must (refine (HLI.out _ (Below.refl _ _)).mono ?_); rintro e' w1 ⟨rfl, hb⟩; have B1 := Lib.hid hb; have ca1 := cellBelow hb ca; clear hb) | (go_at_call 21; go_must (refine (HCK.out _ B1.out).mono ?_); rintro e' w2 ⟨rfl, hb⟩; have B2 := Lib.hid (below_step B1.out hb); have ca2 := cellBelow (below_step B1.out hb) ca; have hb12 := below_step B1.out hb; obtain ⟨v7, w7, hr7, hO7, hg7⟩ := ownM_append (own_keep HIN.out.1 (fun k hk => hb12.block k (by obtain ⟨_, cs, h⟩ := own_typed HIN.out.1 k hk; exact blk_lt h))) (ky, (Aq, cq), L) (by rw [List.length_take]; omega) (Nat.le_trans HB.out.size hb12.size); obtain ⟨A7, c7, e7, _⟩ := own_slice hO7; rw [LENQ.out] at e7; subst e7; have HO7 := Lib.hid hO7; have HG7 := Lib.hid hg7; clear hO7 hg7; have BW7 := Lib.hid ((below_alloc (below_step HB.out hb12) _).grown HG7.out (by have := (below_step HB.out hb12).size; simp; omega) (fun k e => (own_typed HIN.out.1 k e).1)); clear hb hb12) | (at_builtin; refine wpList_append_runI _ rfl _ _ 52 52 rfl _ _ rfl rfl hr7 ?_) | (go_at_call 18; go_must (refine (TO.out _ BW7.out).mono ?_); rintro e' w8 ⟨v8, rfl, hR8, hb8⟩; obtain ⟨A8, c8, rfl, hc8⟩ := hR8.slice; have B8 := Lib.hid (below_step BW7.out hb8); have S8 := Lib.hid hb8; have R8 := Lib.hid hR8; clear hR8 hb8) | (go_at_call 20; go_must (refine (PR.out _ A8 c8 _ R8.out).mono ?_); rintro e' w9 ⟨rfl, hb9⟩; have B9 := Lib.hid (below_step B8.out hb9); have S9 := Lib.hid (below_step S8.out hb9); clear hb9) | (go_at_call 16; go_must (refine (QU.out _).mono ?_); rintro e' w10 ⟨rfl, hb10⟩; have B10 := Lib.hid (below_step B9.out hb10); have S10 := Lib.hid (below_step S9.out hb10); clear hb10))
          all_goals first | (exfalso; omega) | skip
          go_roundw
          case rel =>
           obtain ⟨i1, i2, i3, i4⟩ := HIN.out
           have hq := HQ.out
           have hkq := HKEYQ.out
           have hmq : ms[q] = (k0, (Aq, cq), L) := by rw [List.getElem?_eq_getElem hlt] at hm; exact Option.some.inj hm
           have htk := msK_take keys ms q hlt
           rw [hmq, hkq] at htk
           obtain ⟨l1, l2, l3, l4⟩ := HLT.out
           refine ⟨mo ++ [some t], A7, c7, q + 1, _, _, by rw [List.length_append, hq]; rfl, rfl, by rw [List.length_append, hq]; rfl, by rw [List.length_append, hq]; show OwnM _ _ _ ((msK keys ms).take (q + 1)); rw [htk]; exact own_keep HO7.out (fun k hk => S10.out.block k (by obtain ⟨_, cs, h⟩ := own_typed HO7.out k hk; exact blk_lt h)), rfl, SI.out _ (by simp [ByteArray.data_append, hpd]), rfl, SO.out _ (by simp [ByteArray.data_append, hpd]), ?_, good_snoc i4 (k0, (Aq, cq), L) (some t) (by rw [hq]; exact hm) l4 (by rw [hq, hkq]; first | omega | exact Nat.zero_le _) (fun t' h => by cases h; exact ⟨l1, l2, l3⟩), B10.out⟩
           rw [mo0_snoc, kidsO_app, List.length_append, HNK.out]
           rfl
          case measure => simp [intOf]; omega
       ·have k6 : decide ((q : Int) < (keys.length : Int)) = false := decide_eq_false (by omega)
        have k7 : decide (q < keys.length) = false := decide_eq_false (by omega)
        have k7b : ¬ q < keys.length := by omega
        subst e
        have k99 : (⟨#[]⟩ : ByteArray).size = 0 := rfl
        have QU := Lib.hid (quote8_any (⟨#[]⟩ : ByteArray) (by first | omega | exact Nat.zero_le _))
        obtain ⟨qb, hqb⟩ : ∃ qb : ByteArray, (⟨(quoteL (⟨#[]⟩ : ByteArray).data.toList).toArray⟩ : ByteArray) = qb := ⟨_, rfl⟩
        rw [hqb] at QU
        have hqd : qb.data.toList = quoteL (⟨#[]⟩ : ByteArray).data.toList := by rw [← hqb]
        have hqz : qb.size ≤ 600002 := by
         have h1 := congrArg List.length hqd
         have h2 := quoteL_le (⟨#[]⟩ : ByteArray) (by first | omega | exact Nat.zero_le _)
         have h3 : qb.data.toList.length = qb.size := by simp
         omega
        rw [← hqd] at SO
        clear hqb hqd
        by_cases hn0 : nk = 0
        ·have n1 : decide ((0 : Int) < (nk : Int)) = false := decide_eq_false (by omega)
         have n2 : ¬ 0 < nk := by omega
         have n3 : (nk == 0) = true := by simp [hn0]
         rw [n3] at SI SO
         clear hn0
         go_wp2_with (first | (go_at_call 12; go_must (refine (HLI.out _ (Below.refl _ _)).mono ?_); rintro e' w1 ⟨rfl, hb⟩; have B1 := Lib.hid hb; clear hb) | (go_at_call 21; go_must (refine (HCK.out _ B1.out).mono ?_); rintro e' w2 ⟨rfl, hb⟩; have B2 := Lib.hid (below_step B1.out hb); have hb12 := below_step B1.out hb; obtain ⟨v7, w7, hr7, hO7, hg7⟩ := ownM_append (own_keep HIN.out.1 (fun k hk => hb12.block k (by obtain ⟨_, cs, h⟩ := own_typed HIN.out.1 k hk; exact blk_lt h))) ((⟨#[]⟩ : ByteArray), (Aq, cq), L) (by rw [List.length_take]; omega) (Nat.le_trans HB.out.size hb12.size); obtain ⟨A7, c7, e7, _⟩ := own_slice hO7; rw [LENQ.out] at e7; subst e7; have HO7 := Lib.hid hO7; have HG7 := Lib.hid hg7; clear hO7 hg7; have BW7 := Lib.hid ((below_alloc (below_step HB.out hb12) _).grown HG7.out (by have := (below_step HB.out hb12).size; simp; omega) (fun k e => (own_typed HIN.out.1 k e).1)); clear hb hb12) | (at_builtin; refine wpList_append_runI _ rfl _ _ 52 52 rfl _ _ rfl rfl hr7 ?_) | (go_at_call 18; go_must (refine (TO.out _ BW7.out).mono ?_); rintro e' w8 ⟨v8, rfl, hR8, hb8⟩; obtain ⟨A8, c8, rfl, hc8⟩ := hR8.slice; have B8 := Lib.hid (below_step BW7.out hb8); have S8 := Lib.hid hb8; have R8 := Lib.hid hR8; clear hR8 hb8) | (go_at_call 20; go_must (refine (PR.out _ A8 c8 _ R8.out).mono ?_); rintro e' w9 ⟨rfl, hb9⟩; have B9 := Lib.hid (below_step B8.out hb9); have S9 := Lib.hid (below_step S8.out hb9); clear hb9) | (go_at_call 16; go_must (refine (QU.out _).mono ?_); rintro e' w10 ⟨rfl, hb10⟩; have B10 := Lib.hid (below_step B9.out hb10); have S10 := Lib.hid (below_step S9.out hb10); clear hb10))
         all_goals first | (exfalso; omega) | skip
         go_roundw
         case rel =>
          obtain ⟨i1, i2, i3, i4⟩ := HIN.out
          have hq := HQ.out
          have hkq := HKEYQ.out
          have hmq : ms[q] = (k0, (Aq, cq), L) := by rw [List.getElem?_eq_getElem hlt] at hm; exact Option.some.inj hm
          have htk := msK_take keys ms q hlt
          rw [hmq, hkq] at htk
          obtain ⟨l1, l2, l3, l4⟩ := HLT.out
          refine ⟨mo ++ [some t], A7, c7, q + 1, _, _, by rw [List.length_append, hq]; rfl, rfl, by rw [List.length_append, hq]; rfl, by rw [List.length_append, hq]; show OwnM _ _ _ ((msK keys ms).take (q + 1)); rw [htk]; exact own_keep HO7.out (fun k hk => S10.out.block k (by obtain ⟨_, cs, h⟩ := own_typed HO7.out k hk; exact blk_lt h)), rfl, SI.out _ (by simp [ByteArray.data_append, hpd]), rfl, SO.out _ (by simp [ByteArray.data_append, hpd]), ?_, good_snoc i4 (k0, (Aq, cq), L) (some t) (by rw [hq]; exact hm) l4 (by rw [hq, hkq]; first | omega | exact Nat.zero_le _) (fun t' h => by cases h; exact ⟨l1, l2, l3⟩), B10.out⟩
          rw [mo0_snoc, kidsO_app, List.length_append, HNK.out]
          rfl
         case measure => simp [intOf]; omega
        ·have n1 : decide ((0 : Int) < (nk : Int)) = true := decide_eq_true (by omega)
         have n2 : 0 < nk := by omega
         have n3 : (nk == 0) = false := by simp [hn0]
         rw [n3] at SI SO
         clear hn0
         go_wp2_with (first | (go_at_call 12; go_must (refine (HLI.out _ (Below.refl _ _)).mono ?_); rintro e' w1 ⟨rfl, hb⟩; have B1 := Lib.hid hb; clear hb) | (go_at_call 21; go_must (refine (HCK.out _ B1.out).mono ?_); rintro e' w2 ⟨rfl, hb⟩; have B2 := Lib.hid (below_step B1.out hb); have hb12 := below_step B1.out hb; obtain ⟨v7, w7, hr7, hO7, hg7⟩ := ownM_append (own_keep HIN.out.1 (fun k hk => hb12.block k (by obtain ⟨_, cs, h⟩ := own_typed HIN.out.1 k hk; exact blk_lt h))) ((⟨#[]⟩ : ByteArray), (Aq, cq), L) (by rw [List.length_take]; omega) (Nat.le_trans HB.out.size hb12.size); obtain ⟨A7, c7, e7, _⟩ := own_slice hO7; rw [LENQ.out] at e7; subst e7; have HO7 := Lib.hid hO7; have HG7 := Lib.hid hg7; clear hO7 hg7; have BW7 := Lib.hid ((below_alloc (below_step HB.out hb12) _).grown HG7.out (by have := (below_step HB.out hb12).size; simp; omega) (fun k e => (own_typed HIN.out.1 k e).1)); clear hb hb12) | (at_builtin; refine wpList_append_runI _ rfl _ _ 52 52 rfl _ _ rfl rfl hr7 ?_) | (go_at_call 18; go_must (refine (TO.out _ BW7.out).mono ?_); rintro e' w8 ⟨v8, rfl, hR8, hb8⟩; obtain ⟨A8, c8, rfl, hc8⟩ := hR8.slice; have B8 := Lib.hid (below_step BW7.out hb8); have S8 := Lib.hid hb8; have R8 := Lib.hid hR8; clear hR8 hb8) | (go_at_call 20; go_must (refine (PR.out _ A8 c8 _ R8.out).mono ?_); rintro e' w9 ⟨rfl, hb9⟩; have B9 := Lib.hid (below_step B8.out hb9); have S9 := Lib.hid (below_step S8.out hb9); clear hb9) | (go_at_call 16; go_must (refine (QU.out _).mono ?_); rintro e' w10 ⟨rfl, hb10⟩; have B10 := Lib.hid (below_step B9.out hb10); have S10 := Lib.hid (below_step S9.out hb10); clear hb10))
         all_goals first | (exfalso; omega) | skip
         go_roundw
         case rel =>
          obtain ⟨i1, i2, i3, i4⟩ := HIN.out
          have hq := HQ.out
          have hkq := HKEYQ.out
          have hmq : ms[q] = (k0, (Aq, cq), L) := by rw [List.getElem?_eq_getElem hlt] at hm; exact Option.some.inj hm
          have htk := msK_take keys ms q hlt
          rw [hmq, hkq] at htk
          obtain ⟨l1, l2, l3, l4⟩ := HLT.out
          refine ⟨mo ++ [some t], A7, c7, q + 1, _, _, by rw [List.length_append, hq]; rfl, rfl, by rw [List.length_append, hq]; rfl, by rw [List.length_append, hq]; show OwnM _ _ _ ((msK keys ms).take (q + 1)); rw [htk]; exact own_keep HO7.out (fun k hk => S10.out.block k (by obtain ⟨_, cs, h⟩ := own_typed HO7.out k hk; exact blk_lt h)), rfl, SI.out _ (by simp [ByteArray.data_append, hpd]), rfl, SO.out _ (by simp [ByteArray.data_append, hpd]), ?_, good_snoc i4 (k0, (Aq, cq), L) (some t) (by rw [hq]; exact hm) l4 (by rw [hq, hkq]; first | omega | exact Nat.zero_le _) (fun t' h => by cases h; exact ⟨l1, l2, l3⟩), B10.out⟩
          rw [mo0_snoc, kidsO_app, List.length_append, HNK.out]
          rfl
         case measure => simp [intOf]; omega
      ·have k5 : (cv != 0) = true := by simpa using hc0
       go_wp2_with (first | (go_at_call 12; go_must (refine (HLI.out _ (Below.refl _ _)).mono ?_); rintro e' w1 ⟨rfl, hb⟩; have B1 := Lib.hid hb; clear hb) | (go_at_call 21; go_must (refine (HCK.out _ B1.out).mono ?_); rintro e' w2 ⟨rfl, hb⟩; have B2 := Lib.hid (below_step B1.out hb); clear hb))
       go_ret
       exact ⟨rfl, below_step HB.out B2.out⟩
  ·have hq2 : mo.length = ms.length := by have := hgr.1; omega
   have k9 : ¬ ms.length < ms.length := by omega
   have hm1 : ∀ m ∈ ms, m.1 = ⟨#[]⟩ := fun m hm => by
    obtain ⟨j, hj⟩ := List.mem_iff_getElem?.1 hm
    obtain ⟨_, _, _, _, e⟩ := HM.out j m hj
    exact e
   have hsml := small_good hgr hq2
   have la := laid_ok hgr hl5 hq2 hm1 6 (.inl rfl) ms (mo0 mo) (.inl ⟨rfl, rfl, rfl⟩) inn hinn
   have lb := laid_ok hgr hl5 hq2 hm1 7 (.inr rfl) (msK keys ms) (moK keys mo) (.inr ⟨rfl, rfl, rfl⟩) out hout
   have hsz := mo_sizes keys mo
   obtain ⟨TA, hTA⟩ : ∃ T, Tr.mk 6 ⟨#[]⟩ ⟨#[]⟩ (kidsO (mo0 mo)) = T := ⟨_, rfl⟩
   obtain ⟨TB, hTB⟩ : ∃ T, Tr.mk 7 ⟨#[]⟩ ⟨#[]⟩ (kidsO (moK keys mo)) = T := ⟨_, rfl⟩
   have hsz2 : TB.size = TA.size := by rw [← hTA, ← hTB, Tr.size, Tr.size, hsz]
   rw [hTA] at la
   rw [hTB] at lb
   obtain ⟨la1, la2, la3, la4, la5, la6⟩ := la
   obtain ⟨lb1, lb2, lb3, lb4, lb5, lb6⟩ := lb
   have ha0 : (rowT TA).length = TA.size := rowT_len TA
   have hb0 : (rowT TB).length = TA.size := by rw [rowT_len, hsz2]
   obtain ⟨n, hn⟩ : ∃ n, TA.size = n := ⟨_, rfl⟩
   rw [hn] at ha0 hb0
   have hn0 : 0 < n := by rw [← hn]; exact TA.size_pos
   have hn5 : n ≤ 501 := by omega
   have hdB := rowT_drop TB
   have smB := rowT_small TB (by omega)
   obtain ⟨LA, hLA⟩ : ∃ L, rowT TA = L := ⟨_, rfl⟩
   obtain ⟨LB, hLB⟩ : ∃ L, rowT TB = L := ⟨_, rfl⟩
   rw [hLA] at la1 ha0
   rw [hLB] at lb1 hb0 smB hdB
   have e1 : (⟨(prT quoteL TA).toArray⟩ : ByteArray) = (⟨#[91]⟩ ++ inn) ++ ⟨#[93]⟩ := by
    apply ByteArray.ext
    rw [la6]
    simp [ByteArray.data_append, opn, cls]
   have e2 : (⟨(prT quoteL TB).toArray⟩ : ByteArray) = (⟨#[123]⟩ ++ out) ++ ⟨#[125]⟩ := by
    apply ByteArray.ext
    rw [lb6]
    simp [ByteArray.data_append, opn, cls]
   have hin9 : inn.size ≤ 1100000000 := by
    obtain ⟨a1, a2⟩ := good_mo hgr hl5 _ (.inl rfl)
    have h1 := congrArg List.length hinn
    have h3 : inn.data.toList.length = inn.size := by simp
    have h4 := prK_le _ false true a1
    omega
   have hou9 : out.size ≤ 1100000000 := by
    obtain ⟨a1, a2⟩ := good_mo hgr hl5 _ (.inr rfl)
    have h1 := congrArg List.length hout
    have h3 : out.data.toList.length = out.size := by simp
    have h4 := prK_le _ true true a1
    omega
   have PA := Lib.hid (print_n hLA ha0 (by omega) la3 la4 e1)
   have PB := Lib.hid (print_n hLB hb0 (by omega) lb3 lb4 e2)
   have SA := Lib.hid (span_n hLA ha0 (by omega) la3 la4)
   have SB := Lib.hid (span_n hLB hb0 (by omega) lb3 lb4)
   have TOA := Lib.hid (fun w A c => to_n A c ha0 (by omega) w)
   have TOB := Lib.hid (fun w A c => to_n A c hb0 (by omega) w)
   have subB : ∀ j, j < n → ∃ (s : Tr) (nm' : Bool) (q : Int) (r' : List Node), LB.drop j = (s.flat q j).map toN ++ r' ∧ q < (j : Int) ∧ j + s.size ≤ n ∧ s.ok isNumL nm' = true ∧ s.tx (fun b => decide (b.size ≤ 100000)) = true := fun j hj => by
    obtain ⟨s, nm', q, r', h4, h5, h6, h7⟩ := subk_at (fun b => decide (b.size ≤ 100000)) TB false (-1) 0 [] lb3 lb4 hdB (by omega) j (by omega) (by omega)
    exact ⟨s, nm', q, r', h4, h5, by omega, h7⟩
   have AR := Lib.hid (array_any A c ms wr (HM.out.keep hB.size (fun a ha => hB.block _ (HA.out a ha))) (by omega) (by omega) (fun m hm => mb_ok hB (HC.out m hm).1 (HC.out m hm).2 (hsml m hm) hB.size) (fun a ha => by have := HA.out a ha; have := hB.size; omega))
   rw [la1] at AR
   rw [hq2] at hown
   rw [List.take_of_length_le (by rw [msK_length]; exact Nat.le_refl _)] at hown
   have hA3 : ∀ a, A3 = some a → a.block < wr.heap.size := fun a ha => by subst ha; obtain ⟨_, cs, h⟩ := own_typed hown a.block rfl; exact blk_lt h
   have OB := Lib.hid (fun w (h : Below wr.heap.size wr w) => object_any A3 c3 (msK keys ms) w ((OwnM.at hown).keep h.size (fun a ha => h.block _ (hA3 a ha))) (by omega) (by rw [msK_length]; omega) (fun x hx => by
    obtain ⟨m, hm, e⟩ := msK_mem hx
    exact mb_ok (below_step hB h) (by rw [e]; exact (HC.out m hm).1) (by rw [e]; exact (HC.out m hm).2) (by rw [e]; exact hsml m hm) (Nat.le_trans hB.size h.size)) (fun a ha => Nat.lt_of_lt_of_le (hA3 a ha) h.size))
   rw [lb1, msK_length] at OB
   have HB := Lib.hid hB
   rw [hq2]
   have hw : wordV kind = (if kind = 2 ∨ kind = 3 then kind else 1) := by unfold wordV; repeat' split <;> first | rfl | omega
   have WD := Lib.hid (fun w => word9_any kind w)
   rw [hw] at WD
   have HA0 := Lib.hid ha0
   have HB0 := Lib.hid hb0
   have HN5 := Lib.hid hn5
   clear hinn hout hgr hB hsml hsz hTA hTB hsz2 la1 la2 la3 la4 la5 la6 lb1 lb2 lb3 lb4 lb5 lb6 ha0 hdB hA3 hown hq2 hLA hLB e1 e2 hw hm1 hn
   by_cases hi : i < 0 ∨ (n : Int) ≤ i
   ·have RW := Lib.hid (fun w A2 c2 => row_no A2 n c2 i hi w)
    by_cases hi0 : i < 0
    ·have j1 : decide (i < 0) = true := decide_eq_true hi0
     clear hi
     by_cases hk2 : kind = 2
     ·subst hk2
      rw [if_pos (.inl rfl)] at WD
      go_wp2_with (first | (go_at_call 27; go_must (refine AR.out.mono ?_); rintro e' w1 ⟨v1, rfl, hR1, hb⟩; obtain ⟨A1, c1, rfl, hc1, hC1⟩ := rown_of hR1 HA0.out (by omega); have C1 := Lib.hid hC1; have HC1 := Lib.hid hc1; have BX := Lib.hid hb; clear hR1 hc1 hb hC1) | (go_at_call 28; go_must (refine (OB.out _ BX.out).mono ?_); rintro e' w2 ⟨v2, rfl, hR2, hb⟩; obtain ⟨A2, c2, rfl, hc2, hC2⟩ := rown_of hR2 HB0.out (by omega); have C2 := Lib.hid hC2; have HC2 := Lib.hid hc2; have C1 := Lib.hid (Kd.C_below C1.out hb); have BZ := Lib.hid (below_step (below_step HB.out BX.out) hb); have S1 := Lib.hid (Below.refl w2.heap.size w2); clear hR2 hc2 hb hC2) | (go_at_call 18; first | (with_reducible refine (TOA.out _ A1 c1 (Kd.C_below C1.out S1.out)).mono ?_; rintro e' w8 ⟨A8, c8, rfl, hc8, hR8, hb⟩; have HC8 := Lib.hid hc8; have R8 := Lib.hid hR8; clear hc8 hR8; have BZ := Lib.hid (below_step BZ.out hb); have S1 := Lib.hid (below_step S1.out hb); clear hb) | (with_reducible refine (TOB.out _ A2 c2 (Kd.C_below C2.out S1.out)).mono ?_; rintro e' w8 ⟨A8, c8, rfl, hc8, hR8, hb⟩; have HC8 := Lib.hid hc8; have R8 := Lib.hid hR8; clear hc8 hR8; have BZ := Lib.hid (below_step BZ.out hb); have S1 := Lib.hid (below_step S1.out hb); clear hb) | (with_reducible refine (TOX.out _ A3x c3x (Kd.C_below C3.out S1.out)).mono ?_; rintro e' w8 ⟨A8, c8, rfl, hc8, hR8, hb⟩; have HC8 := Lib.hid hc8; have R8 := Lib.hid hR8; clear hc8 hR8; have BZ := Lib.hid (below_step BZ.out hb); have S1 := Lib.hid (below_step S1.out hb); clear hb)) | (go_at_call 20; first | (with_reducible refine (PA.out A8 c8 _ _ R8.out).mono ?_; rintro e' w9 ⟨rfl, hb⟩; have BZ := Lib.hid (below_step BZ.out hb); have S1 := Lib.hid (below_step S1.out hb); clear hb) | (with_reducible refine (PB.out A8 c8 _ _ R8.out).mono ?_; rintro e' w9 ⟨rfl, hb⟩; have BZ := Lib.hid (below_step BZ.out hb); have S1 := Lib.hid (below_step S1.out hb); clear hb) | (with_reducible refine (PX.out A8 c8 _ _ R8.out).mono ?_; rintro e' w9 ⟨rfl, hb⟩; have BZ := Lib.hid (below_step BZ.out hb); have S1 := Lib.hid (below_step S1.out hb); clear hb) | (with_reducible refine (PI.out _ A8 c8 _ R8.out).mono ?_; rintro e' w9 ⟨rfl, hb⟩; have BZ := Lib.hid (below_step BZ.out hb); have S1 := Lib.hid (below_step S1.out hb); clear hb)) | (go_at_call 30; first | (with_reducible refine (SA.out A8 c8 _ HC8.out _ R8.out).mono ?_; rintro e' w9 ⟨rfl, hb⟩; have BZ := Lib.hid (below_step BZ.out hb); have S1 := Lib.hid (below_step S1.out hb); clear hb) | (with_reducible refine (SB.out A8 c8 _ HC8.out _ R8.out).mono ?_; rintro e' w9 ⟨rfl, hb⟩; have BZ := Lib.hid (below_step BZ.out hb); have S1 := Lib.hid (below_step S1.out hb); clear hb) | (with_reducible refine (SX.out A8 c8 _ HC8.out _ R8.out).mono ?_; rintro e' w9 ⟨rfl, hb⟩; have BZ := Lib.hid (below_step BZ.out hb); have S1 := Lib.hid (below_step S1.out hb); clear hb)) | (go_at_call 29; go_must (refine (RW.out _ A2 c2).mono ?_); rintro e' w3 ⟨rfl, hb⟩; have BZ := Lib.hid (below_step BZ.out hb); have S1 := Lib.hid (below_step S1.out hb); clear hb) | (go_at_call 31; go_must (refine (WD.out _).mono ?_); rintro e' wy ⟨rfl, hw⟩; obtain ⟨hb, y0, y1, y2, y3, y4⟩ := one_facts hw; clear hw; have BZ := Lib.hid (below_step BZ.out hb); have S1 := Lib.hid (below_step S1.out hb); clear hb) | (go_at_call 32; go_must (refine (string_any s _).mono ?_); rintro e' wz ⟨rfl, hw⟩; obtain ⟨hb, z0, z1, z2, z3, z4⟩ := one_facts hw; clear hw; have y0 := cellBelow hb y0; have y1 := cellBelow hb y1; have y2 := cellBelow hb y2; have y3 := cellBelow hb y3; have y4 := cellBelow hb y4; have BZ := Lib.hid (below_step BZ.out hb); have S1 := Lib.hid (below_step S1.out hb); clear hb) | (go_at_call 33; go_must (refine (number_any _ _).mono ?_); rintro e' wx ⟨rfl, hw⟩; obtain ⟨hb, x0, x1, x2, x3, x4⟩ := one_facts hw; clear hw; have y0 := cellBelow hb y0; have y1 := cellBelow hb y1; have y2 := cellBelow hb y2; have y3 := cellBelow hb y3; have y4 := cellBelow hb y4; have z0 := cellBelow hb z0; have z1 := cellBelow hb z1; have z2 := cellBelow hb z2; have z3 := cellBelow hb z3; have z4 := cellBelow hb z4; have BZ := Lib.hid (below_step BZ.out hb); have S1 := Lib.hid (below_step S1.out hb); clear hb))
      all_goals first | (exfalso; omega) | skip
      go_ret
      exact ⟨rfl, BZ.out⟩
     ·by_cases hk3 : kind = 3
      ·subst hk3
       rw [if_pos (.inr rfl)] at WD
       go_wp2_with (first | (go_at_call 27; go_must (refine AR.out.mono ?_); rintro e' w1 ⟨v1, rfl, hR1, hb⟩; obtain ⟨A1, c1, rfl, hc1, hC1⟩ := rown_of hR1 HA0.out (by omega); have C1 := Lib.hid hC1; have HC1 := Lib.hid hc1; have BX := Lib.hid hb; clear hR1 hc1 hb hC1) | (go_at_call 28; go_must (refine (OB.out _ BX.out).mono ?_); rintro e' w2 ⟨v2, rfl, hR2, hb⟩; obtain ⟨A2, c2, rfl, hc2, hC2⟩ := rown_of hR2 HB0.out (by omega); have C2 := Lib.hid hC2; have HC2 := Lib.hid hc2; have C1 := Lib.hid (Kd.C_below C1.out hb); have BZ := Lib.hid (below_step (below_step HB.out BX.out) hb); have S1 := Lib.hid (Below.refl w2.heap.size w2); clear hR2 hc2 hb hC2) | (go_at_call 18; first | (with_reducible refine (TOA.out _ A1 c1 (Kd.C_below C1.out S1.out)).mono ?_; rintro e' w8 ⟨A8, c8, rfl, hc8, hR8, hb⟩; have HC8 := Lib.hid hc8; have R8 := Lib.hid hR8; clear hc8 hR8; have BZ := Lib.hid (below_step BZ.out hb); have S1 := Lib.hid (below_step S1.out hb); clear hb) | (with_reducible refine (TOB.out _ A2 c2 (Kd.C_below C2.out S1.out)).mono ?_; rintro e' w8 ⟨A8, c8, rfl, hc8, hR8, hb⟩; have HC8 := Lib.hid hc8; have R8 := Lib.hid hR8; clear hc8 hR8; have BZ := Lib.hid (below_step BZ.out hb); have S1 := Lib.hid (below_step S1.out hb); clear hb) | (with_reducible refine (TOX.out _ A3x c3x (Kd.C_below C3.out S1.out)).mono ?_; rintro e' w8 ⟨A8, c8, rfl, hc8, hR8, hb⟩; have HC8 := Lib.hid hc8; have R8 := Lib.hid hR8; clear hc8 hR8; have BZ := Lib.hid (below_step BZ.out hb); have S1 := Lib.hid (below_step S1.out hb); clear hb)) | (go_at_call 20; first | (with_reducible refine (PA.out A8 c8 _ _ R8.out).mono ?_; rintro e' w9 ⟨rfl, hb⟩; have BZ := Lib.hid (below_step BZ.out hb); have S1 := Lib.hid (below_step S1.out hb); clear hb) | (with_reducible refine (PB.out A8 c8 _ _ R8.out).mono ?_; rintro e' w9 ⟨rfl, hb⟩; have BZ := Lib.hid (below_step BZ.out hb); have S1 := Lib.hid (below_step S1.out hb); clear hb) | (with_reducible refine (PX.out A8 c8 _ _ R8.out).mono ?_; rintro e' w9 ⟨rfl, hb⟩; have BZ := Lib.hid (below_step BZ.out hb); have S1 := Lib.hid (below_step S1.out hb); clear hb) | (with_reducible refine (PI.out _ A8 c8 _ R8.out).mono ?_; rintro e' w9 ⟨rfl, hb⟩; have BZ := Lib.hid (below_step BZ.out hb); have S1 := Lib.hid (below_step S1.out hb); clear hb)) | (go_at_call 30; first | (with_reducible refine (SA.out A8 c8 _ HC8.out _ R8.out).mono ?_; rintro e' w9 ⟨rfl, hb⟩; have BZ := Lib.hid (below_step BZ.out hb); have S1 := Lib.hid (below_step S1.out hb); clear hb) | (with_reducible refine (SB.out A8 c8 _ HC8.out _ R8.out).mono ?_; rintro e' w9 ⟨rfl, hb⟩; have BZ := Lib.hid (below_step BZ.out hb); have S1 := Lib.hid (below_step S1.out hb); clear hb) | (with_reducible refine (SX.out A8 c8 _ HC8.out _ R8.out).mono ?_; rintro e' w9 ⟨rfl, hb⟩; have BZ := Lib.hid (below_step BZ.out hb); have S1 := Lib.hid (below_step S1.out hb); clear hb)) | (go_at_call 29; go_must (refine (RW.out _ A2 c2).mono ?_); rintro e' w3 ⟨rfl, hb⟩; have BZ := Lib.hid (below_step BZ.out hb); have S1 := Lib.hid (below_step S1.out hb); clear hb) | (go_at_call 31; go_must (refine (WD.out _).mono ?_); rintro e' wy ⟨rfl, hw⟩; obtain ⟨hb, y0, y1, y2, y3, y4⟩ := one_facts hw; clear hw; have BZ := Lib.hid (below_step BZ.out hb); have S1 := Lib.hid (below_step S1.out hb); clear hb) | (go_at_call 32; go_must (refine (string_any s _).mono ?_); rintro e' wz ⟨rfl, hw⟩; obtain ⟨hb, z0, z1, z2, z3, z4⟩ := one_facts hw; clear hw; have y0 := cellBelow hb y0; have y1 := cellBelow hb y1; have y2 := cellBelow hb y2; have y3 := cellBelow hb y3; have y4 := cellBelow hb y4; have BZ := Lib.hid (below_step BZ.out hb); have S1 := Lib.hid (below_step S1.out hb); clear hb) | (go_at_call 33; go_must (refine (number_any _ _).mono ?_); rintro e' wx ⟨rfl, hw⟩; obtain ⟨hb, x0, x1, x2, x3, x4⟩ := one_facts hw; clear hw; have y0 := cellBelow hb y0; have y1 := cellBelow hb y1; have y2 := cellBelow hb y2; have y3 := cellBelow hb y3; have y4 := cellBelow hb y4; have z0 := cellBelow hb z0; have z1 := cellBelow hb z1; have z2 := cellBelow hb z2; have z3 := cellBelow hb z3; have z4 := cellBelow hb z4; have BZ := Lib.hid (below_step BZ.out hb); have S1 := Lib.hid (below_step S1.out hb); clear hb))
       all_goals first | (exfalso; omega) | skip
       go_ret
       exact ⟨rfl, BZ.out⟩
      ·rw [if_neg (by omega)] at WD
       have z2 : (kind == 2) = false := by simp [hk2]
       have z3 : (kind == 3) = false := by simp [hk3]
       go_wp2_with (first | (go_at_call 27; go_must (refine AR.out.mono ?_); rintro e' w1 ⟨v1, rfl, hR1, hb⟩; obtain ⟨A1, c1, rfl, hc1, hC1⟩ := rown_of hR1 HA0.out (by omega); have C1 := Lib.hid hC1; have HC1 := Lib.hid hc1; have BX := Lib.hid hb; clear hR1 hc1 hb hC1) | (go_at_call 28; go_must (refine (OB.out _ BX.out).mono ?_); rintro e' w2 ⟨v2, rfl, hR2, hb⟩; obtain ⟨A2, c2, rfl, hc2, hC2⟩ := rown_of hR2 HB0.out (by omega); have C2 := Lib.hid hC2; have HC2 := Lib.hid hc2; have C1 := Lib.hid (Kd.C_below C1.out hb); have BZ := Lib.hid (below_step (below_step HB.out BX.out) hb); have S1 := Lib.hid (Below.refl w2.heap.size w2); clear hR2 hc2 hb hC2) | (go_at_call 18; first | (with_reducible refine (TOA.out _ A1 c1 (Kd.C_below C1.out S1.out)).mono ?_; rintro e' w8 ⟨A8, c8, rfl, hc8, hR8, hb⟩; have HC8 := Lib.hid hc8; have R8 := Lib.hid hR8; clear hc8 hR8; have BZ := Lib.hid (below_step BZ.out hb); have S1 := Lib.hid (below_step S1.out hb); clear hb) | (with_reducible refine (TOB.out _ A2 c2 (Kd.C_below C2.out S1.out)).mono ?_; rintro e' w8 ⟨A8, c8, rfl, hc8, hR8, hb⟩; have HC8 := Lib.hid hc8; have R8 := Lib.hid hR8; clear hc8 hR8; have BZ := Lib.hid (below_step BZ.out hb); have S1 := Lib.hid (below_step S1.out hb); clear hb) | (with_reducible refine (TOX.out _ A3x c3x (Kd.C_below C3.out S1.out)).mono ?_; rintro e' w8 ⟨A8, c8, rfl, hc8, hR8, hb⟩; have HC8 := Lib.hid hc8; have R8 := Lib.hid hR8; clear hc8 hR8; have BZ := Lib.hid (below_step BZ.out hb); have S1 := Lib.hid (below_step S1.out hb); clear hb)) | (go_at_call 20; first | (with_reducible refine (PA.out A8 c8 _ _ R8.out).mono ?_; rintro e' w9 ⟨rfl, hb⟩; have BZ := Lib.hid (below_step BZ.out hb); have S1 := Lib.hid (below_step S1.out hb); clear hb) | (with_reducible refine (PB.out A8 c8 _ _ R8.out).mono ?_; rintro e' w9 ⟨rfl, hb⟩; have BZ := Lib.hid (below_step BZ.out hb); have S1 := Lib.hid (below_step S1.out hb); clear hb) | (with_reducible refine (PX.out A8 c8 _ _ R8.out).mono ?_; rintro e' w9 ⟨rfl, hb⟩; have BZ := Lib.hid (below_step BZ.out hb); have S1 := Lib.hid (below_step S1.out hb); clear hb) | (with_reducible refine (PI.out _ A8 c8 _ R8.out).mono ?_; rintro e' w9 ⟨rfl, hb⟩; have BZ := Lib.hid (below_step BZ.out hb); have S1 := Lib.hid (below_step S1.out hb); clear hb)) | (go_at_call 30; first | (with_reducible refine (SA.out A8 c8 _ HC8.out _ R8.out).mono ?_; rintro e' w9 ⟨rfl, hb⟩; have BZ := Lib.hid (below_step BZ.out hb); have S1 := Lib.hid (below_step S1.out hb); clear hb) | (with_reducible refine (SB.out A8 c8 _ HC8.out _ R8.out).mono ?_; rintro e' w9 ⟨rfl, hb⟩; have BZ := Lib.hid (below_step BZ.out hb); have S1 := Lib.hid (below_step S1.out hb); clear hb) | (with_reducible refine (SX.out A8 c8 _ HC8.out _ R8.out).mono ?_; rintro e' w9 ⟨rfl, hb⟩; have BZ := Lib.hid (below_step BZ.out hb); have S1 := Lib.hid (below_step S1.out hb); clear hb)) | (go_at_call 29; go_must (refine (RW.out _ A2 c2).mono ?_); rintro e' w3 ⟨rfl, hb⟩; have BZ := Lib.hid (below_step BZ.out hb); have S1 := Lib.hid (below_step S1.out hb); clear hb) | (go_at_call 31; go_must (refine (WD.out _).mono ?_); rintro e' wy ⟨rfl, hw⟩; obtain ⟨hb, y0, y1, y2, y3, y4⟩ := one_facts hw; clear hw; have BZ := Lib.hid (below_step BZ.out hb); have S1 := Lib.hid (below_step S1.out hb); clear hb) | (go_at_call 32; go_must (refine (string_any s _).mono ?_); rintro e' wz ⟨rfl, hw⟩; obtain ⟨hb, z0, z1, z2, z3, z4⟩ := one_facts hw; clear hw; have y0 := cellBelow hb y0; have y1 := cellBelow hb y1; have y2 := cellBelow hb y2; have y3 := cellBelow hb y3; have y4 := cellBelow hb y4; have BZ := Lib.hid (below_step BZ.out hb); have S1 := Lib.hid (below_step S1.out hb); clear hb) | (go_at_call 33; go_must (refine (number_any _ _).mono ?_); rintro e' wx ⟨rfl, hw⟩; obtain ⟨hb, x0, x1, x2, x3, x4⟩ := one_facts hw; clear hw; have y0 := cellBelow hb y0; have y1 := cellBelow hb y1; have y2 := cellBelow hb y2; have y3 := cellBelow hb y3; have y4 := cellBelow hb y4; have z0 := cellBelow hb z0; have z1 := cellBelow hb z1; have z2 := cellBelow hb z2; have z3 := cellBelow hb z3; have z4 := cellBelow hb z4; have BZ := Lib.hid (below_step BZ.out hb); have S1 := Lib.hid (below_step S1.out hb); clear hb))
       all_goals first | (exfalso; omega) | skip
       go_ret
       exact ⟨rfl, BZ.out⟩
    ·have j1 : decide (i < 0) = false := decide_eq_false hi0
     have j2 : decide ((n : Int) ≤ i) = true := decide_eq_true (by omega)
     clear hi
     by_cases hk2 : kind = 2
     ·subst hk2
      rw [if_pos (.inl rfl)] at WD
      go_wp2_with (first | (go_at_call 27; go_must (refine AR.out.mono ?_); rintro e' w1 ⟨v1, rfl, hR1, hb⟩; obtain ⟨A1, c1, rfl, hc1, hC1⟩ := rown_of hR1 HA0.out (by omega); have C1 := Lib.hid hC1; have HC1 := Lib.hid hc1; have BX := Lib.hid hb; clear hR1 hc1 hb hC1) | (go_at_call 28; go_must (refine (OB.out _ BX.out).mono ?_); rintro e' w2 ⟨v2, rfl, hR2, hb⟩; obtain ⟨A2, c2, rfl, hc2, hC2⟩ := rown_of hR2 HB0.out (by omega); have C2 := Lib.hid hC2; have HC2 := Lib.hid hc2; have C1 := Lib.hid (Kd.C_below C1.out hb); have BZ := Lib.hid (below_step (below_step HB.out BX.out) hb); have S1 := Lib.hid (Below.refl w2.heap.size w2); clear hR2 hc2 hb hC2) | (go_at_call 18; first | (with_reducible refine (TOA.out _ A1 c1 (Kd.C_below C1.out S1.out)).mono ?_; rintro e' w8 ⟨A8, c8, rfl, hc8, hR8, hb⟩; have HC8 := Lib.hid hc8; have R8 := Lib.hid hR8; clear hc8 hR8; have BZ := Lib.hid (below_step BZ.out hb); have S1 := Lib.hid (below_step S1.out hb); clear hb) | (with_reducible refine (TOB.out _ A2 c2 (Kd.C_below C2.out S1.out)).mono ?_; rintro e' w8 ⟨A8, c8, rfl, hc8, hR8, hb⟩; have HC8 := Lib.hid hc8; have R8 := Lib.hid hR8; clear hc8 hR8; have BZ := Lib.hid (below_step BZ.out hb); have S1 := Lib.hid (below_step S1.out hb); clear hb) | (with_reducible refine (TOX.out _ A3x c3x (Kd.C_below C3.out S1.out)).mono ?_; rintro e' w8 ⟨A8, c8, rfl, hc8, hR8, hb⟩; have HC8 := Lib.hid hc8; have R8 := Lib.hid hR8; clear hc8 hR8; have BZ := Lib.hid (below_step BZ.out hb); have S1 := Lib.hid (below_step S1.out hb); clear hb)) | (go_at_call 20; first | (with_reducible refine (PA.out A8 c8 _ _ R8.out).mono ?_; rintro e' w9 ⟨rfl, hb⟩; have BZ := Lib.hid (below_step BZ.out hb); have S1 := Lib.hid (below_step S1.out hb); clear hb) | (with_reducible refine (PB.out A8 c8 _ _ R8.out).mono ?_; rintro e' w9 ⟨rfl, hb⟩; have BZ := Lib.hid (below_step BZ.out hb); have S1 := Lib.hid (below_step S1.out hb); clear hb) | (with_reducible refine (PX.out A8 c8 _ _ R8.out).mono ?_; rintro e' w9 ⟨rfl, hb⟩; have BZ := Lib.hid (below_step BZ.out hb); have S1 := Lib.hid (below_step S1.out hb); clear hb) | (with_reducible refine (PI.out _ A8 c8 _ R8.out).mono ?_; rintro e' w9 ⟨rfl, hb⟩; have BZ := Lib.hid (below_step BZ.out hb); have S1 := Lib.hid (below_step S1.out hb); clear hb)) | (go_at_call 30; first | (with_reducible refine (SA.out A8 c8 _ HC8.out _ R8.out).mono ?_; rintro e' w9 ⟨rfl, hb⟩; have BZ := Lib.hid (below_step BZ.out hb); have S1 := Lib.hid (below_step S1.out hb); clear hb) | (with_reducible refine (SB.out A8 c8 _ HC8.out _ R8.out).mono ?_; rintro e' w9 ⟨rfl, hb⟩; have BZ := Lib.hid (below_step BZ.out hb); have S1 := Lib.hid (below_step S1.out hb); clear hb) | (with_reducible refine (SX.out A8 c8 _ HC8.out _ R8.out).mono ?_; rintro e' w9 ⟨rfl, hb⟩; have BZ := Lib.hid (below_step BZ.out hb); have S1 := Lib.hid (below_step S1.out hb); clear hb)) | (go_at_call 29; go_must (refine (RW.out _ A2 c2).mono ?_); rintro e' w3 ⟨rfl, hb⟩; have BZ := Lib.hid (below_step BZ.out hb); have S1 := Lib.hid (below_step S1.out hb); clear hb) | (go_at_call 31; go_must (refine (WD.out _).mono ?_); rintro e' wy ⟨rfl, hw⟩; obtain ⟨hb, y0, y1, y2, y3, y4⟩ := one_facts hw; clear hw; have BZ := Lib.hid (below_step BZ.out hb); have S1 := Lib.hid (below_step S1.out hb); clear hb) | (go_at_call 32; go_must (refine (string_any s _).mono ?_); rintro e' wz ⟨rfl, hw⟩; obtain ⟨hb, z0, z1, z2, z3, z4⟩ := one_facts hw; clear hw; have y0 := cellBelow hb y0; have y1 := cellBelow hb y1; have y2 := cellBelow hb y2; have y3 := cellBelow hb y3; have y4 := cellBelow hb y4; have BZ := Lib.hid (below_step BZ.out hb); have S1 := Lib.hid (below_step S1.out hb); clear hb) | (go_at_call 33; go_must (refine (number_any _ _).mono ?_); rintro e' wx ⟨rfl, hw⟩; obtain ⟨hb, x0, x1, x2, x3, x4⟩ := one_facts hw; clear hw; have y0 := cellBelow hb y0; have y1 := cellBelow hb y1; have y2 := cellBelow hb y2; have y3 := cellBelow hb y3; have y4 := cellBelow hb y4; have z0 := cellBelow hb z0; have z1 := cellBelow hb z1; have z2 := cellBelow hb z2; have z3 := cellBelow hb z3; have z4 := cellBelow hb z4; have BZ := Lib.hid (below_step BZ.out hb); have S1 := Lib.hid (below_step S1.out hb); clear hb))
      all_goals first | (exfalso; omega) | skip
      go_ret
      exact ⟨rfl, BZ.out⟩
     ·by_cases hk3 : kind = 3
      ·subst hk3
       rw [if_pos (.inr rfl)] at WD
       go_wp2_with (first | (go_at_call 27; go_must (refine AR.out.mono ?_); rintro e' w1 ⟨v1, rfl, hR1, hb⟩; obtain ⟨A1, c1, rfl, hc1, hC1⟩ := rown_of hR1 HA0.out (by omega); have C1 := Lib.hid hC1; have HC1 := Lib.hid hc1; have BX := Lib.hid hb; clear hR1 hc1 hb hC1) | (go_at_call 28; go_must (refine (OB.out _ BX.out).mono ?_); rintro e' w2 ⟨v2, rfl, hR2, hb⟩; obtain ⟨A2, c2, rfl, hc2, hC2⟩ := rown_of hR2 HB0.out (by omega); have C2 := Lib.hid hC2; have HC2 := Lib.hid hc2; have C1 := Lib.hid (Kd.C_below C1.out hb); have BZ := Lib.hid (below_step (below_step HB.out BX.out) hb); have S1 := Lib.hid (Below.refl w2.heap.size w2); clear hR2 hc2 hb hC2) | (go_at_call 18; first | (with_reducible refine (TOA.out _ A1 c1 (Kd.C_below C1.out S1.out)).mono ?_; rintro e' w8 ⟨A8, c8, rfl, hc8, hR8, hb⟩; have HC8 := Lib.hid hc8; have R8 := Lib.hid hR8; clear hc8 hR8; have BZ := Lib.hid (below_step BZ.out hb); have S1 := Lib.hid (below_step S1.out hb); clear hb) | (with_reducible refine (TOB.out _ A2 c2 (Kd.C_below C2.out S1.out)).mono ?_; rintro e' w8 ⟨A8, c8, rfl, hc8, hR8, hb⟩; have HC8 := Lib.hid hc8; have R8 := Lib.hid hR8; clear hc8 hR8; have BZ := Lib.hid (below_step BZ.out hb); have S1 := Lib.hid (below_step S1.out hb); clear hb) | (with_reducible refine (TOX.out _ A3x c3x (Kd.C_below C3.out S1.out)).mono ?_; rintro e' w8 ⟨A8, c8, rfl, hc8, hR8, hb⟩; have HC8 := Lib.hid hc8; have R8 := Lib.hid hR8; clear hc8 hR8; have BZ := Lib.hid (below_step BZ.out hb); have S1 := Lib.hid (below_step S1.out hb); clear hb)) | (go_at_call 20; first | (with_reducible refine (PA.out A8 c8 _ _ R8.out).mono ?_; rintro e' w9 ⟨rfl, hb⟩; have BZ := Lib.hid (below_step BZ.out hb); have S1 := Lib.hid (below_step S1.out hb); clear hb) | (with_reducible refine (PB.out A8 c8 _ _ R8.out).mono ?_; rintro e' w9 ⟨rfl, hb⟩; have BZ := Lib.hid (below_step BZ.out hb); have S1 := Lib.hid (below_step S1.out hb); clear hb) | (with_reducible refine (PX.out A8 c8 _ _ R8.out).mono ?_; rintro e' w9 ⟨rfl, hb⟩; have BZ := Lib.hid (below_step BZ.out hb); have S1 := Lib.hid (below_step S1.out hb); clear hb) | (with_reducible refine (PI.out _ A8 c8 _ R8.out).mono ?_; rintro e' w9 ⟨rfl, hb⟩; have BZ := Lib.hid (below_step BZ.out hb); have S1 := Lib.hid (below_step S1.out hb); clear hb)) | (go_at_call 30; first | (with_reducible refine (SA.out A8 c8 _ HC8.out _ R8.out).mono ?_; rintro e' w9 ⟨rfl, hb⟩; have BZ := Lib.hid (below_step BZ.out hb); have S1 := Lib.hid (below_step S1.out hb); clear hb) | (with_reducible refine (SB.out A8 c8 _ HC8.out _ R8.out).mono ?_; rintro e' w9 ⟨rfl, hb⟩; have BZ := Lib.hid (below_step BZ.out hb); have S1 := Lib.hid (below_step S1.out hb); clear hb) | (with_reducible refine (SX.out A8 c8 _ HC8.out _ R8.out).mono ?_; rintro e' w9 ⟨rfl, hb⟩; have BZ := Lib.hid (below_step BZ.out hb); have S1 := Lib.hid (below_step S1.out hb); clear hb)) | (go_at_call 29; go_must (refine (RW.out _ A2 c2).mono ?_); rintro e' w3 ⟨rfl, hb⟩; have BZ := Lib.hid (below_step BZ.out hb); have S1 := Lib.hid (below_step S1.out hb); clear hb) | (go_at_call 31; go_must (refine (WD.out _).mono ?_); rintro e' wy ⟨rfl, hw⟩; obtain ⟨hb, y0, y1, y2, y3, y4⟩ := one_facts hw; clear hw; have BZ := Lib.hid (below_step BZ.out hb); have S1 := Lib.hid (below_step S1.out hb); clear hb) | (go_at_call 32; go_must (refine (string_any s _).mono ?_); rintro e' wz ⟨rfl, hw⟩; obtain ⟨hb, z0, z1, z2, z3, z4⟩ := one_facts hw; clear hw; have y0 := cellBelow hb y0; have y1 := cellBelow hb y1; have y2 := cellBelow hb y2; have y3 := cellBelow hb y3; have y4 := cellBelow hb y4; have BZ := Lib.hid (below_step BZ.out hb); have S1 := Lib.hid (below_step S1.out hb); clear hb) | (go_at_call 33; go_must (refine (number_any _ _).mono ?_); rintro e' wx ⟨rfl, hw⟩; obtain ⟨hb, x0, x1, x2, x3, x4⟩ := one_facts hw; clear hw; have y0 := cellBelow hb y0; have y1 := cellBelow hb y1; have y2 := cellBelow hb y2; have y3 := cellBelow hb y3; have y4 := cellBelow hb y4; have z0 := cellBelow hb z0; have z1 := cellBelow hb z1; have z2 := cellBelow hb z2; have z3 := cellBelow hb z3; have z4 := cellBelow hb z4; have BZ := Lib.hid (below_step BZ.out hb); have S1 := Lib.hid (below_step S1.out hb); clear hb))
       all_goals first | (exfalso; omega) | skip
       go_ret
       exact ⟨rfl, BZ.out⟩
      ·rw [if_neg (by omega)] at WD
       have z2 : (kind == 2) = false := by simp [hk2]
       have z3 : (kind == 3) = false := by simp [hk3]
       go_wp2_with (first | (go_at_call 27; go_must (refine AR.out.mono ?_); rintro e' w1 ⟨v1, rfl, hR1, hb⟩; obtain ⟨A1, c1, rfl, hc1, hC1⟩ := rown_of hR1 HA0.out (by omega); have C1 := Lib.hid hC1; have HC1 := Lib.hid hc1; have BX := Lib.hid hb; clear hR1 hc1 hb hC1) | (go_at_call 28; go_must (refine (OB.out _ BX.out).mono ?_); rintro e' w2 ⟨v2, rfl, hR2, hb⟩; obtain ⟨A2, c2, rfl, hc2, hC2⟩ := rown_of hR2 HB0.out (by omega); have C2 := Lib.hid hC2; have HC2 := Lib.hid hc2; have C1 := Lib.hid (Kd.C_below C1.out hb); have BZ := Lib.hid (below_step (below_step HB.out BX.out) hb); have S1 := Lib.hid (Below.refl w2.heap.size w2); clear hR2 hc2 hb hC2) | (go_at_call 18; first | (with_reducible refine (TOA.out _ A1 c1 (Kd.C_below C1.out S1.out)).mono ?_; rintro e' w8 ⟨A8, c8, rfl, hc8, hR8, hb⟩; have HC8 := Lib.hid hc8; have R8 := Lib.hid hR8; clear hc8 hR8; have BZ := Lib.hid (below_step BZ.out hb); have S1 := Lib.hid (below_step S1.out hb); clear hb) | (with_reducible refine (TOB.out _ A2 c2 (Kd.C_below C2.out S1.out)).mono ?_; rintro e' w8 ⟨A8, c8, rfl, hc8, hR8, hb⟩; have HC8 := Lib.hid hc8; have R8 := Lib.hid hR8; clear hc8 hR8; have BZ := Lib.hid (below_step BZ.out hb); have S1 := Lib.hid (below_step S1.out hb); clear hb) | (with_reducible refine (TOX.out _ A3x c3x (Kd.C_below C3.out S1.out)).mono ?_; rintro e' w8 ⟨A8, c8, rfl, hc8, hR8, hb⟩; have HC8 := Lib.hid hc8; have R8 := Lib.hid hR8; clear hc8 hR8; have BZ := Lib.hid (below_step BZ.out hb); have S1 := Lib.hid (below_step S1.out hb); clear hb)) | (go_at_call 20; first | (with_reducible refine (PA.out A8 c8 _ _ R8.out).mono ?_; rintro e' w9 ⟨rfl, hb⟩; have BZ := Lib.hid (below_step BZ.out hb); have S1 := Lib.hid (below_step S1.out hb); clear hb) | (with_reducible refine (PB.out A8 c8 _ _ R8.out).mono ?_; rintro e' w9 ⟨rfl, hb⟩; have BZ := Lib.hid (below_step BZ.out hb); have S1 := Lib.hid (below_step S1.out hb); clear hb) | (with_reducible refine (PX.out A8 c8 _ _ R8.out).mono ?_; rintro e' w9 ⟨rfl, hb⟩; have BZ := Lib.hid (below_step BZ.out hb); have S1 := Lib.hid (below_step S1.out hb); clear hb) | (with_reducible refine (PI.out _ A8 c8 _ R8.out).mono ?_; rintro e' w9 ⟨rfl, hb⟩; have BZ := Lib.hid (below_step BZ.out hb); have S1 := Lib.hid (below_step S1.out hb); clear hb)) | (go_at_call 30; first | (with_reducible refine (SA.out A8 c8 _ HC8.out _ R8.out).mono ?_; rintro e' w9 ⟨rfl, hb⟩; have BZ := Lib.hid (below_step BZ.out hb); have S1 := Lib.hid (below_step S1.out hb); clear hb) | (with_reducible refine (SB.out A8 c8 _ HC8.out _ R8.out).mono ?_; rintro e' w9 ⟨rfl, hb⟩; have BZ := Lib.hid (below_step BZ.out hb); have S1 := Lib.hid (below_step S1.out hb); clear hb) | (with_reducible refine (SX.out A8 c8 _ HC8.out _ R8.out).mono ?_; rintro e' w9 ⟨rfl, hb⟩; have BZ := Lib.hid (below_step BZ.out hb); have S1 := Lib.hid (below_step S1.out hb); clear hb)) | (go_at_call 29; go_must (refine (RW.out _ A2 c2).mono ?_); rintro e' w3 ⟨rfl, hb⟩; have BZ := Lib.hid (below_step BZ.out hb); have S1 := Lib.hid (below_step S1.out hb); clear hb) | (go_at_call 31; go_must (refine (WD.out _).mono ?_); rintro e' wy ⟨rfl, hw⟩; obtain ⟨hb, y0, y1, y2, y3, y4⟩ := one_facts hw; clear hw; have BZ := Lib.hid (below_step BZ.out hb); have S1 := Lib.hid (below_step S1.out hb); clear hb) | (go_at_call 32; go_must (refine (string_any s _).mono ?_); rintro e' wz ⟨rfl, hw⟩; obtain ⟨hb, z0, z1, z2, z3, z4⟩ := one_facts hw; clear hw; have y0 := cellBelow hb y0; have y1 := cellBelow hb y1; have y2 := cellBelow hb y2; have y3 := cellBelow hb y3; have y4 := cellBelow hb y4; have BZ := Lib.hid (below_step BZ.out hb); have S1 := Lib.hid (below_step S1.out hb); clear hb) | (go_at_call 33; go_must (refine (number_any _ _).mono ?_); rintro e' wx ⟨rfl, hw⟩; obtain ⟨hb, x0, x1, x2, x3, x4⟩ := one_facts hw; clear hw; have y0 := cellBelow hb y0; have y1 := cellBelow hb y1; have y2 := cellBelow hb y2; have y3 := cellBelow hb y3; have y4 := cellBelow hb y4; have z0 := cellBelow hb z0; have z1 := cellBelow hb z1; have z2 := cellBelow hb z2; have z3 := cellBelow hb z3; have z4 := cellBelow hb z4; have BZ := Lib.hid (below_step BZ.out hb); have S1 := Lib.hid (below_step S1.out hb); clear hb))
       all_goals first | (exfalso; omega) | skip
       go_ret
       exact ⟨rfl, BZ.out⟩
   ·obtain ⟨k, rfl⟩ : ∃ k : Nat, i = (k : Int) := ⟨i.toNat, by omega⟩
    have hk : k < n := by omega
    have j1 : decide ((k : Int) < 0) = false := decide_eq_false (by omega)
    have j2 : decide ((n : Int) ≤ (k : Int)) = false := decide_eq_false (by omega)
    obtain ⟨s0, nm', q0, r', h4, h5, h6, h7, h8⟩ := subB k hk
    obtain ⟨m, hm⟩ : ∃ m, s0.size = m := ⟨_, rfl⟩
    have hxl : (rowT (root0 s0)).length = m := by rw [rowT_len, root0_size, hm]
    have hxo : (root0 s0).ok isNumL false = true := root0_ok nm' s0 h7
    have hxt : (root0 s0).tx (fun b => decide (b.size ≤ 100000)) = true := root0_tx _ rfl s0 h8
    obtain ⟨px, hpx⟩ : ∃ px : ByteArray, (⟨(prT quoteL s0).toArray⟩ : ByteArray) = px := ⟨_, rfl⟩
    have RX := Lib.hid (fun w (A2 : Option Addr) (c2 : Nat) (hc : n ≤ c2) (hC : Kd.C kN w A2 n LB) => row_T A2 c2 LB (by omega) (by omega) smB k s0 q0 r' h4 w (by rw [hb0]; exact hC))
    have PI := Lib.hid (fun w (A8 : Option Addr) (c8 base : Nat) (hR : Row7 w base (.slice A8 n c8) LB) => print8_at A8 c8 base LB (by omega) s0.size s0 nm' k q0 r' (Nat.le_refl _) h7 h8 h5 h4 w (by rw [hb0]; exact hR))
    obtain ⟨LX, hLX⟩ : ∃ L, rowT (root0 s0) = L := ⟨_, rfl⟩
    rw [hLX] at RX hxl
    rw [hb0] at RX PI
    rw [hpx] at PI
    have PX := Lib.hid (print_n (o := px) hLX hxl (by omega) hxo hxt (by rw [root0_pr]; exact hpx))
    have SX := Lib.hid (span_n hLX hxl (by omega) hxo hxt)
    have TOX := Lib.hid (fun w A c => to_n A c hxl (by omega) w)
    have HX := Lib.hid (And.intro hxl (show m ≤ 900000 by omega))
    clear h4 h5 h6 h7 h8 hxo hxt hpx hLX hxl hm subB
    by_cases hk2 : kind = 2
    ·subst hk2
     rw [if_pos (.inl rfl)] at WD
     go_wp2_with (first | (go_at_call 27; go_must (refine AR.out.mono ?_); rintro e' w1 ⟨v1, rfl, hR1, hb⟩; obtain ⟨A1, c1, rfl, hc1, hC1⟩ := rown_of hR1 HA0.out (by omega); have C1 := Lib.hid hC1; have HC1 := Lib.hid hc1; have BX := Lib.hid hb; clear hR1 hc1 hb hC1) | (go_at_call 28; go_must (refine (OB.out _ BX.out).mono ?_); rintro e' w2 ⟨v2, rfl, hR2, hb⟩; obtain ⟨A2, c2, rfl, hc2, hC2⟩ := rown_of hR2 HB0.out (by omega); have C2 := Lib.hid hC2; have HC2 := Lib.hid hc2; have C1 := Lib.hid (Kd.C_below C1.out hb); have BZ := Lib.hid (below_step (below_step HB.out BX.out) hb); have S1 := Lib.hid (Below.refl w2.heap.size w2); clear hR2 hc2 hb hC2) | (go_at_call 18; first | (with_reducible refine (TOA.out _ A1 c1 (Kd.C_below C1.out S1.out)).mono ?_; rintro e' w8 ⟨A8, c8, rfl, hc8, hR8, hb⟩; have HC8 := Lib.hid hc8; have R8 := Lib.hid hR8; clear hc8 hR8; have BZ := Lib.hid (below_step BZ.out hb); have S1 := Lib.hid (below_step S1.out hb); clear hb) | (with_reducible refine (TOB.out _ A2 c2 (Kd.C_below C2.out S1.out)).mono ?_; rintro e' w8 ⟨A8, c8, rfl, hc8, hR8, hb⟩; have HC8 := Lib.hid hc8; have R8 := Lib.hid hR8; clear hc8 hR8; have BZ := Lib.hid (below_step BZ.out hb); have S1 := Lib.hid (below_step S1.out hb); clear hb) | (with_reducible refine (TOX.out _ A3x c3x (Kd.C_below C3.out S1.out)).mono ?_; rintro e' w8 ⟨A8, c8, rfl, hc8, hR8, hb⟩; have HC8 := Lib.hid hc8; have R8 := Lib.hid hR8; clear hc8 hR8; have BZ := Lib.hid (below_step BZ.out hb); have S1 := Lib.hid (below_step S1.out hb); clear hb)) | (go_at_call 20; first | (with_reducible refine (PA.out A8 c8 _ _ R8.out).mono ?_; rintro e' w9 ⟨rfl, hb⟩; have BZ := Lib.hid (below_step BZ.out hb); have S1 := Lib.hid (below_step S1.out hb); clear hb) | (with_reducible refine (PB.out A8 c8 _ _ R8.out).mono ?_; rintro e' w9 ⟨rfl, hb⟩; have BZ := Lib.hid (below_step BZ.out hb); have S1 := Lib.hid (below_step S1.out hb); clear hb) | (with_reducible refine (PX.out A8 c8 _ _ R8.out).mono ?_; rintro e' w9 ⟨rfl, hb⟩; have BZ := Lib.hid (below_step BZ.out hb); have S1 := Lib.hid (below_step S1.out hb); clear hb) | (with_reducible refine (PI.out _ A8 c8 _ R8.out).mono ?_; rintro e' w9 ⟨rfl, hb⟩; have BZ := Lib.hid (below_step BZ.out hb); have S1 := Lib.hid (below_step S1.out hb); clear hb)) | (go_at_call 30; first | (with_reducible refine (SA.out A8 c8 _ HC8.out _ R8.out).mono ?_; rintro e' w9 ⟨rfl, hb⟩; have BZ := Lib.hid (below_step BZ.out hb); have S1 := Lib.hid (below_step S1.out hb); clear hb) | (with_reducible refine (SB.out A8 c8 _ HC8.out _ R8.out).mono ?_; rintro e' w9 ⟨rfl, hb⟩; have BZ := Lib.hid (below_step BZ.out hb); have S1 := Lib.hid (below_step S1.out hb); clear hb) | (with_reducible refine (SX.out A8 c8 _ HC8.out _ R8.out).mono ?_; rintro e' w9 ⟨rfl, hb⟩; have BZ := Lib.hid (below_step BZ.out hb); have S1 := Lib.hid (below_step S1.out hb); clear hb)) | (go_at_call 29; go_must (refine (RX.out _ A2 c2 HC2.out (Kd.C_below C2.out S1.out)).mono ?_); rintro e' w3 ⟨v3, rfl, hR3, hb⟩; obtain ⟨A3x, c3x, rfl, hc3, hC3⟩ := rown_of hR3 HX.out.1 HX.out.2; have C3 := Lib.hid hC3; have C1 := Lib.hid (Kd.C_below C1.out (below_step S1.out hb)); have C2 := Lib.hid (Kd.C_below C2.out (below_step S1.out hb)); have BZ := Lib.hid (below_step BZ.out hb); have S1 := Lib.hid (Below.refl w3.heap.size w3); clear hR3 hc3 hb hC3) | (go_at_call 31; go_must (refine (WD.out _).mono ?_); rintro e' wy ⟨rfl, hw⟩; obtain ⟨hb, y0, y1, y2, y3, y4⟩ := one_facts hw; clear hw; have BZ := Lib.hid (below_step BZ.out hb); have S1 := Lib.hid (below_step S1.out hb); clear hb) | (go_at_call 32; go_must (refine (string_any s _).mono ?_); rintro e' wz ⟨rfl, hw⟩; obtain ⟨hb, z0, z1, z2, z3, z4⟩ := one_facts hw; clear hw; have y0 := cellBelow hb y0; have y1 := cellBelow hb y1; have y2 := cellBelow hb y2; have y3 := cellBelow hb y3; have y4 := cellBelow hb y4; have BZ := Lib.hid (below_step BZ.out hb); have S1 := Lib.hid (below_step S1.out hb); clear hb) | (go_at_call 33; go_must (refine (number_any _ _).mono ?_); rintro e' wx ⟨rfl, hw⟩; obtain ⟨hb, x0, x1, x2, x3, x4⟩ := one_facts hw; clear hw; have y0 := cellBelow hb y0; have y1 := cellBelow hb y1; have y2 := cellBelow hb y2; have y3 := cellBelow hb y3; have y4 := cellBelow hb y4; have z0 := cellBelow hb z0; have z1 := cellBelow hb z1; have z2 := cellBelow hb z2; have z3 := cellBelow hb z3; have z4 := cellBelow hb z4; have BZ := Lib.hid (below_step BZ.out hb); have S1 := Lib.hid (below_step S1.out hb); clear hb))
     all_goals first | (exfalso; omega) | skip
     go_ret
     exact ⟨rfl, BZ.out⟩
    ·by_cases hk3 : kind = 3
     ·subst hk3
      rw [if_pos (.inr rfl)] at WD
      go_wp2_with (first | (go_at_call 27; go_must (refine AR.out.mono ?_); rintro e' w1 ⟨v1, rfl, hR1, hb⟩; obtain ⟨A1, c1, rfl, hc1, hC1⟩ := rown_of hR1 HA0.out (by omega); have C1 := Lib.hid hC1; have HC1 := Lib.hid hc1; have BX := Lib.hid hb; clear hR1 hc1 hb hC1) | (go_at_call 28; go_must (refine (OB.out _ BX.out).mono ?_); rintro e' w2 ⟨v2, rfl, hR2, hb⟩; obtain ⟨A2, c2, rfl, hc2, hC2⟩ := rown_of hR2 HB0.out (by omega); have C2 := Lib.hid hC2; have HC2 := Lib.hid hc2; have C1 := Lib.hid (Kd.C_below C1.out hb); have BZ := Lib.hid (below_step (below_step HB.out BX.out) hb); have S1 := Lib.hid (Below.refl w2.heap.size w2); clear hR2 hc2 hb hC2) | (go_at_call 18; first | (with_reducible refine (TOA.out _ A1 c1 (Kd.C_below C1.out S1.out)).mono ?_; rintro e' w8 ⟨A8, c8, rfl, hc8, hR8, hb⟩; have HC8 := Lib.hid hc8; have R8 := Lib.hid hR8; clear hc8 hR8; have BZ := Lib.hid (below_step BZ.out hb); have S1 := Lib.hid (below_step S1.out hb); clear hb) | (with_reducible refine (TOB.out _ A2 c2 (Kd.C_below C2.out S1.out)).mono ?_; rintro e' w8 ⟨A8, c8, rfl, hc8, hR8, hb⟩; have HC8 := Lib.hid hc8; have R8 := Lib.hid hR8; clear hc8 hR8; have BZ := Lib.hid (below_step BZ.out hb); have S1 := Lib.hid (below_step S1.out hb); clear hb) | (with_reducible refine (TOX.out _ A3x c3x (Kd.C_below C3.out S1.out)).mono ?_; rintro e' w8 ⟨A8, c8, rfl, hc8, hR8, hb⟩; have HC8 := Lib.hid hc8; have R8 := Lib.hid hR8; clear hc8 hR8; have BZ := Lib.hid (below_step BZ.out hb); have S1 := Lib.hid (below_step S1.out hb); clear hb)) | (go_at_call 20; first | (with_reducible refine (PA.out A8 c8 _ _ R8.out).mono ?_; rintro e' w9 ⟨rfl, hb⟩; have BZ := Lib.hid (below_step BZ.out hb); have S1 := Lib.hid (below_step S1.out hb); clear hb) | (with_reducible refine (PB.out A8 c8 _ _ R8.out).mono ?_; rintro e' w9 ⟨rfl, hb⟩; have BZ := Lib.hid (below_step BZ.out hb); have S1 := Lib.hid (below_step S1.out hb); clear hb) | (with_reducible refine (PX.out A8 c8 _ _ R8.out).mono ?_; rintro e' w9 ⟨rfl, hb⟩; have BZ := Lib.hid (below_step BZ.out hb); have S1 := Lib.hid (below_step S1.out hb); clear hb) | (with_reducible refine (PI.out _ A8 c8 _ R8.out).mono ?_; rintro e' w9 ⟨rfl, hb⟩; have BZ := Lib.hid (below_step BZ.out hb); have S1 := Lib.hid (below_step S1.out hb); clear hb)) | (go_at_call 30; first | (with_reducible refine (SA.out A8 c8 _ HC8.out _ R8.out).mono ?_; rintro e' w9 ⟨rfl, hb⟩; have BZ := Lib.hid (below_step BZ.out hb); have S1 := Lib.hid (below_step S1.out hb); clear hb) | (with_reducible refine (SB.out A8 c8 _ HC8.out _ R8.out).mono ?_; rintro e' w9 ⟨rfl, hb⟩; have BZ := Lib.hid (below_step BZ.out hb); have S1 := Lib.hid (below_step S1.out hb); clear hb) | (with_reducible refine (SX.out A8 c8 _ HC8.out _ R8.out).mono ?_; rintro e' w9 ⟨rfl, hb⟩; have BZ := Lib.hid (below_step BZ.out hb); have S1 := Lib.hid (below_step S1.out hb); clear hb)) | (go_at_call 29; go_must (refine (RX.out _ A2 c2 HC2.out (Kd.C_below C2.out S1.out)).mono ?_); rintro e' w3 ⟨v3, rfl, hR3, hb⟩; obtain ⟨A3x, c3x, rfl, hc3, hC3⟩ := rown_of hR3 HX.out.1 HX.out.2; have C3 := Lib.hid hC3; have C1 := Lib.hid (Kd.C_below C1.out (below_step S1.out hb)); have C2 := Lib.hid (Kd.C_below C2.out (below_step S1.out hb)); have BZ := Lib.hid (below_step BZ.out hb); have S1 := Lib.hid (Below.refl w3.heap.size w3); clear hR3 hc3 hb hC3) | (go_at_call 31; go_must (refine (WD.out _).mono ?_); rintro e' wy ⟨rfl, hw⟩; obtain ⟨hb, y0, y1, y2, y3, y4⟩ := one_facts hw; clear hw; have BZ := Lib.hid (below_step BZ.out hb); have S1 := Lib.hid (below_step S1.out hb); clear hb) | (go_at_call 32; go_must (refine (string_any s _).mono ?_); rintro e' wz ⟨rfl, hw⟩; obtain ⟨hb, z0, z1, z2, z3, z4⟩ := one_facts hw; clear hw; have y0 := cellBelow hb y0; have y1 := cellBelow hb y1; have y2 := cellBelow hb y2; have y3 := cellBelow hb y3; have y4 := cellBelow hb y4; have BZ := Lib.hid (below_step BZ.out hb); have S1 := Lib.hid (below_step S1.out hb); clear hb) | (go_at_call 33; go_must (refine (number_any _ _).mono ?_); rintro e' wx ⟨rfl, hw⟩; obtain ⟨hb, x0, x1, x2, x3, x4⟩ := one_facts hw; clear hw; have y0 := cellBelow hb y0; have y1 := cellBelow hb y1; have y2 := cellBelow hb y2; have y3 := cellBelow hb y3; have y4 := cellBelow hb y4; have z0 := cellBelow hb z0; have z1 := cellBelow hb z1; have z2 := cellBelow hb z2; have z3 := cellBelow hb z3; have z4 := cellBelow hb z4; have BZ := Lib.hid (below_step BZ.out hb); have S1 := Lib.hid (below_step S1.out hb); clear hb))
      all_goals first | (exfalso; omega) | skip
      go_ret
      exact ⟨rfl, BZ.out⟩
     ·rw [if_neg (by omega)] at WD
      have z2 : (kind == 2) = false := by simp [hk2]
      have z3 : (kind == 3) = false := by simp [hk3]
      go_wp2_with (first | (go_at_call 27; go_must (refine AR.out.mono ?_); rintro e' w1 ⟨v1, rfl, hR1, hb⟩; obtain ⟨A1, c1, rfl, hc1, hC1⟩ := rown_of hR1 HA0.out (by omega); have C1 := Lib.hid hC1; have HC1 := Lib.hid hc1; have BX := Lib.hid hb; clear hR1 hc1 hb hC1) | (go_at_call 28; go_must (refine (OB.out _ BX.out).mono ?_); rintro e' w2 ⟨v2, rfl, hR2, hb⟩; obtain ⟨A2, c2, rfl, hc2, hC2⟩ := rown_of hR2 HB0.out (by omega); have C2 := Lib.hid hC2; have HC2 := Lib.hid hc2; have C1 := Lib.hid (Kd.C_below C1.out hb); have BZ := Lib.hid (below_step (below_step HB.out BX.out) hb); have S1 := Lib.hid (Below.refl w2.heap.size w2); clear hR2 hc2 hb hC2) | (go_at_call 18; first | (with_reducible refine (TOA.out _ A1 c1 (Kd.C_below C1.out S1.out)).mono ?_; rintro e' w8 ⟨A8, c8, rfl, hc8, hR8, hb⟩; have HC8 := Lib.hid hc8; have R8 := Lib.hid hR8; clear hc8 hR8; have BZ := Lib.hid (below_step BZ.out hb); have S1 := Lib.hid (below_step S1.out hb); clear hb) | (with_reducible refine (TOB.out _ A2 c2 (Kd.C_below C2.out S1.out)).mono ?_; rintro e' w8 ⟨A8, c8, rfl, hc8, hR8, hb⟩; have HC8 := Lib.hid hc8; have R8 := Lib.hid hR8; clear hc8 hR8; have BZ := Lib.hid (below_step BZ.out hb); have S1 := Lib.hid (below_step S1.out hb); clear hb) | (with_reducible refine (TOX.out _ A3x c3x (Kd.C_below C3.out S1.out)).mono ?_; rintro e' w8 ⟨A8, c8, rfl, hc8, hR8, hb⟩; have HC8 := Lib.hid hc8; have R8 := Lib.hid hR8; clear hc8 hR8; have BZ := Lib.hid (below_step BZ.out hb); have S1 := Lib.hid (below_step S1.out hb); clear hb)) | (go_at_call 20; first | (with_reducible refine (PA.out A8 c8 _ _ R8.out).mono ?_; rintro e' w9 ⟨rfl, hb⟩; have BZ := Lib.hid (below_step BZ.out hb); have S1 := Lib.hid (below_step S1.out hb); clear hb) | (with_reducible refine (PB.out A8 c8 _ _ R8.out).mono ?_; rintro e' w9 ⟨rfl, hb⟩; have BZ := Lib.hid (below_step BZ.out hb); have S1 := Lib.hid (below_step S1.out hb); clear hb) | (with_reducible refine (PX.out A8 c8 _ _ R8.out).mono ?_; rintro e' w9 ⟨rfl, hb⟩; have BZ := Lib.hid (below_step BZ.out hb); have S1 := Lib.hid (below_step S1.out hb); clear hb) | (with_reducible refine (PI.out _ A8 c8 _ R8.out).mono ?_; rintro e' w9 ⟨rfl, hb⟩; have BZ := Lib.hid (below_step BZ.out hb); have S1 := Lib.hid (below_step S1.out hb); clear hb)) | (go_at_call 30; first | (with_reducible refine (SA.out A8 c8 _ HC8.out _ R8.out).mono ?_; rintro e' w9 ⟨rfl, hb⟩; have BZ := Lib.hid (below_step BZ.out hb); have S1 := Lib.hid (below_step S1.out hb); clear hb) | (with_reducible refine (SB.out A8 c8 _ HC8.out _ R8.out).mono ?_; rintro e' w9 ⟨rfl, hb⟩; have BZ := Lib.hid (below_step BZ.out hb); have S1 := Lib.hid (below_step S1.out hb); clear hb) | (with_reducible refine (SX.out A8 c8 _ HC8.out _ R8.out).mono ?_; rintro e' w9 ⟨rfl, hb⟩; have BZ := Lib.hid (below_step BZ.out hb); have S1 := Lib.hid (below_step S1.out hb); clear hb)) | (go_at_call 29; go_must (refine (RX.out _ A2 c2 HC2.out (Kd.C_below C2.out S1.out)).mono ?_); rintro e' w3 ⟨v3, rfl, hR3, hb⟩; obtain ⟨A3x, c3x, rfl, hc3, hC3⟩ := rown_of hR3 HX.out.1 HX.out.2; have C3 := Lib.hid hC3; have C1 := Lib.hid (Kd.C_below C1.out (below_step S1.out hb)); have C2 := Lib.hid (Kd.C_below C2.out (below_step S1.out hb)); have BZ := Lib.hid (below_step BZ.out hb); have S1 := Lib.hid (Below.refl w3.heap.size w3); clear hR3 hc3 hb hC3) | (go_at_call 31; go_must (refine (WD.out _).mono ?_); rintro e' wy ⟨rfl, hw⟩; obtain ⟨hb, y0, y1, y2, y3, y4⟩ := one_facts hw; clear hw; have BZ := Lib.hid (below_step BZ.out hb); have S1 := Lib.hid (below_step S1.out hb); clear hb) | (go_at_call 32; go_must (refine (string_any s _).mono ?_); rintro e' wz ⟨rfl, hw⟩; obtain ⟨hb, z0, z1, z2, z3, z4⟩ := one_facts hw; clear hw; have y0 := cellBelow hb y0; have y1 := cellBelow hb y1; have y2 := cellBelow hb y2; have y3 := cellBelow hb y3; have y4 := cellBelow hb y4; have BZ := Lib.hid (below_step BZ.out hb); have S1 := Lib.hid (below_step S1.out hb); clear hb) | (go_at_call 33; go_must (refine (number_any _ _).mono ?_); rintro e' wx ⟨rfl, hw⟩; obtain ⟨hb, x0, x1, x2, x3, x4⟩ := one_facts hw; clear hw; have y0 := cellBelow hb y0; have y1 := cellBelow hb y1; have y2 := cellBelow hb y2; have y3 := cellBelow hb y3; have y4 := cellBelow hb y4; have z0 := cellBelow hb z0; have z1 := cellBelow hb z1; have z2 := cellBelow hb z2; have z3 := cellBelow hb z3; have z4 := cellBelow hb z4; have BZ := Lib.hid (below_step BZ.out hb); have S1 := Lib.hid (below_step S1.out hb); clear hb))
      all_goals first | (exfalso; omega) | skip
      go_ret
      exact ⟨rfl, BZ.out⟩
end Go.Proofs.YtfocognhcljhpaaGreatDoor
