/- Texts taken together, trimmed. -/
import Derived.Test.YtfocognhcljhpaaGreatDoorR3
import Derived.Test.YtfocognhcljhpaaGreatDoorR4
import Derived.BigRegionIn
set_option linter.unusedVariables false
set_option linter.unusedSimpArgs false
namespace Go.Proofs.YtfocognhcljhpaaGreatDoor
open Go.RowKit Go.Shelf Go.Proofs.YtfocognhcljhpaaGreatDoorW.PrintWords Go.Proofs.YtfocognhcljhpaaGreatDoorW.PrintMore Go.Proofs.YtfocognhcljhpaaGreatDoor.PPrintRows Go.Proofs.YtfocognhcljhpaaGreatDoor.Tree
attribute [local go_sem] Oper.semAt_some
structure NMv (base : Nat) (A B : World) : Prop where
 os : B.os = A.os
 tape : B.tape = A.tape
 output : B.output = A.output
 size : A.heap.size ≤ B.heap.size
 block : ∀ k o, A.heap[k]? = some o → (k < base ∨ ∀ cs fr, o ≠ .cells cs 3 fr) → B.heap[k]? = some o
def NKp (base : Nat) (ad : Option Addr) (A B : World) : Prop :=
 A.heap.size ≤ B.heap.size ∧ (∀ k cs T fr, A.heap[k]? = some (.cells cs T fr) → (T = 22 ∨ T = 48 ∨ (T = 3 ∧ base ≤ k)) → B.heap[k]? = some (.cells cs T fr)) ∧ ∀ a, ad = some a → B.heap[a.block]? = A.heap[a.block]?
theorem NMv.trans {base : Nat} {A B C : World} (h : NMv base A B) (k : NMv base B C) : NMv base A C :=
 ⟨k.os.trans h.os, k.tape.trans h.tape, k.output.trans h.output, Nat.le_trans h.size k.size, fun j o hj hc => k.block j o (h.block j o hj hc) hc⟩
theorem NMv.of_below {base : Nat} {A B : World} (h : Below A.heap.size A B) : NMv base A B :=
 ⟨h.os, h.tape, h.output, h.size, fun j o hj _ => (h.block j (blk_lt hj)).trans hj⟩
theorem NMv.of_grown {base : Nat} {A B : World} {v : Value} (h : A.grownBy B v.ownBlock) (hty : ∀ k, v.ownBlock = some k → base ≤ k ∧ ∃ cells, A.heap[k]? = some (.cells cells 3 (0, 0))) : NMv base A B :=
 ⟨h.os, h.tape, h.output, h.size, fun j o hj hc => (h.block j (blk_lt hj) (fun e => by
  obtain ⟨h1, cells, h2⟩ := hty j e.symm
  rw [hj] at h2
  rcases hc with hc | hc
  ·omega
  ·exact hc _ _ (Option.some.inj h2))).trans hj⟩
theorem scope_straight_in {n : Nat} {P : Program} {c : Code} {Q : Exit → Act → World → Prop} {a : Act} {w : World} (h : c.wpIn Fence.wide n P (Exit.noGoto Q) a w) : (Code.scope c).wpIn Fence.wide n P Q a w := wpIn_wide.2 (wp_scope_straight ((wpIn_wide (n := n)).1 h))
theorem yone {e : Ending} {A B : Prop} (h : (e = .returned (.bool true) ∧ A) ∨ (e = .returned (.bool false) ∧ B)) : ∃ b : Bool, e = .returned (.bool b) ∧ Hid ((b = true ∧ A) ∨ (b = false ∧ B)) := by
 rcases h with ⟨rfl, h⟩ | ⟨rfl, h⟩
 ·exact ⟨true, rfl, Lib.hid (.inl ⟨rfl, h⟩)⟩
 ·exact ⟨false, rfl, Lib.hid (.inr ⟨rfl, h⟩)⟩
theorem NKp.box {base k : Nat} {ad : Option Addr} {A B : World} {cs : Array Value} (h : NKp base ad A B) (hb : A.heap[k]? = some (.cells cs 22 (0, 0))) : B.heap[k]? = some (.cells cs 22 (0, 0)) := h.2.1 k cs _ _ hb (.inl rfl)
theorem NKp.node {base k : Nat} {ad : Option Addr} {A B : World} {cs : Array Value} (h : NKp base ad A B) (hb : A.heap[k]? = some (.cells cs 48 (0, 0))) : B.heap[k]? = some (.cells cs 48 (0, 0)) := h.2.1 k cs _ _ hb (.inr (.inl rfl))
theorem OpenAt.kept {base : Nat} {ad : Option Addr} {A B : World} {v : Value} {op : List Nat} (h : OpenAt A base v op) (hk : NKp base ad A B) : OpenAt B base v op := by
 have hb := Kd.R_bound h
 refine Kd.R_mono (Kd.R_step hb (fun k ho hlt => ?_)) (fun _ _ => trivial)
 obtain ⟨_, h1, _, q, hq, cells, hc⟩ := ho
 have : q = 3 := by
  simp at hq
  rcases hq with h | h
  ·exact h
  ·exact absurd h (by simp [Kd.int, Kd.scalar])
 subst this
 rw [hc]
 exact hk.2.1 k cells _ _ hc (.inr (.inr ⟨rfl, h1⟩))
theorem quoteL_len (s : Bs) : (quoteL s).length ≤ 6 * s.length + 2 := by
 unfold quoteL
 have := flat_qc_len s
 simp
 simp at this
 omega
theorem quote_size (s : ByteArray) (h : s.size ≤ 100000) : (⟨(quoteL s.data.toList).toArray⟩ : ByteArray).size ≤ 1000000 := by
 show (quoteL s.data.toList).toArray.size ≤ _
 rw [List.size_toArray]
 have h1 := quoteL_len s.data.toList
 have h2 : s.data.toList.length = s.size := by simp
 omega
theorem app_bytes (a b : Bs) : (⟨a.toArray⟩ : ByteArray) ++ ⟨b.toArray⟩ = ⟨(a ++ b).toArray⟩ := by
 apply ByteArray.ext
 simp [ByteArray.data_append]
theorem noGoto_ret {Q : Exit → Act → World → Prop} {a : Act} {w : World} (h : Q .ret a w) : Exit.noGoto Q .ret a w := h
theorem kdC_kept {w w1 : World} {A : Option Addr} {l : List Node} (h : Kd.C kN w A l.length l) (hk : ∀ a, A = some a → w1.heap[a.block]? = w.heap[a.block]?) : Kd.C kN w1 A l.length l := by
 obtain ⟨h1, h2, h3⟩ := h
 refine ⟨h1, h2, fun hp => ?_⟩
 obtain ⟨ad, e, h4⟩ := h3 hp
 refine ⟨ad, e, fun j p hj => ?_⟩
 obtain ⟨c, hc, hK, hcl⟩ := h4 j p hj
 obtain rfl := k48_open hK
 refine ⟨_, hc, k48_mk w1 p, fun i u hu => ?_⟩
 have hb : (ad.add (j * kN.sz + i)).block = ad.block := by unfold Addr.add; split <;> rfl
 exact (World.cell?_of_block (a := ad.add (j * kN.sz + i)) (by rw [hb]; exact hk ad e)).trans (hcl i u hu)
theorem kdC_mv {base : Nat} {w w1 : World} {A : Option Addr} {l : List Node} (h : Kd.C kN w A l.length l) (hmv : NMv base w w1) (hAb : ∀ a, A = some a → a.block < base) (hbw : base ≤ w.heap.size) : Kd.C kN w1 A l.length l :=
 kdC_kept h (fun a ha => by
  have hlt : a.block < w.heap.size := Nat.lt_of_lt_of_le (hAb a ha) hbw
  have e := Array.getElem?_eq_getElem hlt
  rw [e]
  exact hmv.block _ _ e (.inl (hAb a ha)))
theorem box_mv {base k : Nat} {w w1 : World} {cs : Array Value} (h : w.heap[k]? = some (.cells cs 22 (0, 0))) (hmv : NMv base w w1) : w1.heap[k]? = some (.cells cs 22 (0, 0)) :=
 hmv.block _ _ h (.inr (fun cs' fr e => by simp at e))
structure PIn (l : List Node) (A : Option Addr) (cap Bs base : Nat) (v : Value) (op : List Nat) (w : World) : Prop where
 box : w.heap[Bs]? = some (.cells #[.slice A l.length cap] 22 (0, 0))
 C : Kd.C kN w A l.length l
 op : OpenAt w base v op
 big : base ≤ w.heap.size
theorem PIn.kept {l : List Node} {A : Option Addr} {cap Bs base : Nat} {v : Value} {op : List Nat} {w w1 : World} (h : PIn l A cap Bs base v op w) (hk : NKp base A w w1) : PIn l A cap Bs base v op w1 :=
 ⟨hk.box h.box, kdC_kept h.C hk.2.2, h.op.kept hk, Nat.le_trans h.big hk.1⟩
theorem PIn.below {l : List Node} {A : Option Addr} {cap Bs base : Nat} {v : Value} {op : List Nat} {w w1 : World} (h : PIn l A cap Bs base v op w) (hk : Below w.heap.size w w1) : PIn l A cap Bs base v op w1 :=
 ⟨blk_below h.box hk, Kd.C_below h.C hk, Kd.R_below h.op hk, Nat.le_trans h.big hk.size⟩
set_option maxRecDepth 100000 in
set_option maxHeartbeats 8000000 in
theorem pieces1_in (lp Bs base : Nat) (A : Option Addr) (cap : Nat) (l : List Node) (hl : l.length ≤ 900000) (hlc : l.length ≤ cap) (hok : ∀ n ∈ l, NodeOk l.length n)
  (htxt : ∀ n ∈ l, n.f1.size ≤ 100000 ∧ n.f2.size ≤ 100000) (hend : ∀ n ∈ l, n.f4 ≤ l.length ∧ -1000000000 ≤ n.f4) (all : List ByteArray)
  (hall : all = pcs l (2 * l.length + 1) 0 [] true)
  (J Jx : List ByteArray → World → Prop)
  (hY : ∀ pre x W, J pre W → pre ++ [x] <+: all → YieldAt Fence.wide 8 Tryz.prog lp #[.string x] W fun e W' =>
   (e = .returned (.bool true) ∧ J (pre ++ [x]) W' ∧ NKp base A W W') ∨ (e = .returned (.bool false) ∧ Jx (pre ++ [x]) W'))
  (hJ : ∀ pre (X Y : World), J pre X → NMv base X Y → J pre Y)
  (W : World) (hBs : W.heap[Bs]? = some (.cells #[.slice A l.length cap] 22 (0, 0))) (hC : Kd.C kN W A l.length l) (hbase : base ≤ W.heap.size) (hAb : ∀ a, A = some a → a.block < base) (h0 : J [] W) :
  CallsIn Fence.wide 9 Tryz.prog 52 #[.func (.yield lp) #[] #[], .pointer (some ⟨Bs, 0, none⟩)] W fun e W' => (∃ v, e = .returned v) ∧
   ((∃ ys, ys = all ∧ J ys W') ∨ (∃ pre, pre <+: all ∧ Jx pre W')) := by
 refine callsIn_of_wp Tryz.func52 rfl trivial ?_ rfl
 simp only [Tryz.ntmps52, List.size_toArray, List.length_cons, List.length_nil, Nat.reduceAdd, Nat.reduceSub, Array.replicate_succ, Array.replicate_zero, List.push_toArray, List.append_toArray, List.nil_append, List.cons_append]
 have HO := Lib.hid hok
 have HTX := Lib.hid htxt
 have HEN := Lib.hid hend
 have HY := Lib.hid hY
 have HJ := Lib.hid hJ
 have hbs0 := blkc hBs 0 rfl
 have HAL := Lib.hid hall
 have HC0 := Lib.hid hC
 clear hok htxt hend hY hJ hall hC
 refine scope_straight_in ?_
 gi_wp2
 refine wpIn_label ?_
 gi_wp2
 gi_loopw [3, 4, 5] (fun v3 v4 v5 wr => ∃ (i f : Nat) (op : List Nat) (first : Bool) (pre : List ByteArray), i ≤ l.length ∧ v5 = .int .i64 i ∧ v4 = .bool first ∧ OpenAt wr base v3 op ∧ (∀ j ∈ op, j < i) ∧ op.length ≤ i ∧ 2 * (l.length - i) + op.length + 1 ≤ f ∧
   all = pre ++ pcs l f i op first ∧ J pre wr ∧ wr.heap[Bs]? = some (.cells #[.slice A l.length cap] 22 (0, 0)) ∧ Kd.C kN wr A l.length l ∧ base ≤ wr.heap.size)
  (fun v3 _ v5 _ => 2 * (l.length - (intOf v5).toNat) + (match v3 with | .slice _ n _ => n | _ => 0))
 case atStart => exact ⟨0, _, [], true, [], Nat.zero_le _, rfl, rfl, Kd.R_nil _ _ _ _ _, (fun j hj => by cases hj), Nat.zero_le _, (show 2 * (l.length - 0) + 0 + 1 ≤ 2 * l.length + 1 by omega), HAL.out, h0, hBs, HC0.out, hbase⟩
 case round =>
  obtain ⟨i, f, op, first, pre, hi, rfl, rfl, hop, hopi, hopl, hf, hpre, hJs, hnx, hCr, hbr⟩ := hrel
  obtain ⟨Ao, co, rfl⟩ := Kd.R_slice hop
  have hopn : (op.reverse.map fun (j : Nat) => (j : Int)).length = op.length := by simp
  rw [hopn] at hop ⊢
  have k0 : decide ((i : Int) ≤ (l.length : Int)) = true := decide_eq_true (by omega)
  have c0 := blkc hnx 0 rfl
  have HOP := Lib.hid hop
  have HPRE := Lib.hid hpre
  have HJS := Lib.hid hJs
  have HNX := Lib.hid hnx
  have HCR := Lib.hid hCr
  have hlA : l.length ≤ cap := hlc
  clear hop hpre hJs hnx hCr
  by_cases hpop : op ≠ [] ∧ endAt l (op.headD 0) = (i : Int)
  ·obtain ⟨hne, hei⟩ := hpop
   obtain ⟨j, s, rfl⟩ : ∃ j s, op = j :: s := by cases op with | nil => exact absurd rfl hne | cons j s => exact ⟨j, s, rfl⟩
   have hji : j < i := hopi j (by simp)
   have hsl : s.length ≤ 900000 := by rw [List.length_cons] at hopl; omega
   rw [List.length_cons] at HOP hopl hf ⊢
   have hco : s.length + 1 ≤ co := by
    have := (Kd.R_reads' HOP.out).1
    have := (Kd.R_reads' HOP.out).2.1
    omega
   have hjl : j < l.length := by omega
   obtain ⟨ao, rfl, htop⟩ := open_top HOP.out
   obtain ⟨ad, rfl, d0, _, _, _, d4⟩ := node_at HCR.out j hjl
   have he4 : l[j].f4 = (i : Int) := by rw [← hei]; unfold endAt; rw [List.headD_cons, List.getElem?_eq_getElem hjl]
   have hk4 : kndAt l j = l[j].f0 := by unfold kndAt; rw [List.getElem?_eq_getElem hjl]
   rw [he4] at d4
   have e5 : ((s.length + 1 : Nat) : Int) - 1 = (s.length : Int) := by omega
   have k5 : decide ((0 : Int) ≤ (s.length : Int)) = true := decide_eq_true (by omega)
   have k6 : decide ((s.length : Int) < ((s.length + 1 : Nat) : Int)) = true := decide_eq_true (by omega)
   have k7 : decide ((j : Int) < (l.length : Int)) = true := decide_eq_true (by omega)
   have k8 : ((i : Int) == (i : Int)) = true := by simp
   gi_wp2
   refine wpIn_region_quietR_lit (by kernel_rfl) (by kernel_rfl) (by kernel_rfl) ?_
   repeat (gi_big_quiet_step (fail))
   refine wpQuietIn_nil ?_
   intro _ hw'
   obtain ⟨nq, hw''⟩ := hw'
   subst hw''
   gi_wp2
   obtain ⟨x, hx⟩ : ∃ x, (signsV l[j].f0).extract 1 2 = x := ⟨_, rfl⟩
   obtain ⟨f', rfl⟩ : ∃ f', f = f' + 1 := ⟨f - 1, by omega⟩
   have hnext : all = (pre ++ [x]) ++ pcs l f' i s false := by
    have := HPRE.out
    rw [pcs, if_pos ⟨by simp, by rw [hei]⟩, List.headD_cons, hk4, hx, List.tail_cons] at this
    rw [this, List.append_assoc]
    rfl
   have hpfx : pre ++ [x] <+: all := ⟨_, hnext.symm⟩
   have HNE := Lib.hid hnext
   have HYX := Lib.hid (fun W (hW : J pre W) => HY.out pre x W hW hpfx)
   have hsz2 : (signsV l[j].f0).size = 2 := by unfold signsV; split <;> rfl
   obtain ⟨sg, hsg⟩ : ∃ sg, signsV l[j].f0 = sg := ⟨_, rfl⟩
   have HSG := Lib.hid (fun W => signs_any l[j].f0 W)
   rw [hsg] at HSG hx hsz2
   have d0' := d0
   generalize l[j].f0 = kd at d0' d0 HSG
   clear hnext hpfx he4 hk4 hei hsg
   subst hx
   obtain ⟨fn, tmps, assign, body, hy, hR0⟩ := HYX.out (wr.drewN (nq + 1)) (HJ.out _ _ _ HJS.out ⟨rfl, rfl, rfl, Nat.le_refl _, fun _ _ h _ => h⟩)
   have hR := hR0.mono (fun _ _ => yone)
   clear hR0
   gi_region_with_o (first | (refine ⟨trivial, ?_⟩; gi_at_call 53; go_must (refine ((callsIn_wide (n := 8)).2 (HSG.out _)).mono ?_); rintro e w1 ⟨rfl, rfl⟩) | (with_reducible refine hR.mono ?_; rintro e W3 ⟨b, rfl, hbt⟩))
   all_goals
    rcases hbt.out with ⟨rfl, hJ3, hk3⟩ | ⟨rfl, hJx3⟩
    ·have hnx3 := hk3.box HNX.out
     have hC3 := kdC_kept HCR.out hk3.2.2
     have hO3 := (HOP.out.kept hk3).pop
     have HX3 := Lib.hid hnx3
     have HC3 := Lib.hid hC3
     have HO3 := Lib.hid hO3
     have hb3 : base ≤ W3.heap.size := Nat.le_trans hbr hk3.1
     clear hnx3 hC3 hO3 hk3 hR hy
     gi_wp2
     go_roundw
     case rel => exact ⟨i, f', s, false, _, hi, rfl, rfl, HO3.out, fun j hj => hopi j (by simp [hj]), by omega, by omega, HNE.out, hJ3, HX3.out, HC3.out, hb3⟩
     case measure => first | (simp [intOf]; done) | (simp [intOf]; omega)
    ·gi_wp2
     refine bodyPost_ret (results_none rfl _ _ _) rfl ?_
     exact ⟨⟨_, rfl⟩, .inr ⟨_, ⟨_, HNE.out.symm⟩, hJx3⟩⟩
  ·have hpcs : all = pre ++ pcs l f i op first := HPRE.out
   obtain ⟨f', rfl⟩ : ∃ f', f = f' + 1 := ⟨f - 1, by omega⟩
   rw [pcs, if_neg hpop] at hpcs
   -- the test: is the last one that is open at its end?
   by_cases hil : i < l.length
   ·rw [List.getElem?_eq_getElem hil] at hpcs
    dsimp only at hpcs
    have k9 : ((i : Int) == (l.length : Int)) = false := by simp; omega
    have hNO := HO.out l[i] (List.getElem_mem hil)
    have hNT := HTX.out l[i] (List.getElem_mem hil)
    obtain ⟨x, hxi⟩ : ∃ x, l[i] = x := ⟨_, rfl⟩
    rw [hxi] at hpcs hNO hNT
    obtain ⟨hNT1, hNT2⟩ := hNT
    have HXI := Lib.hid hxi
    by_cases h6 : 6 ≤ x.f0
    ·have k6 : decide ((6 : Int) ≤ x.f0) = true := decide_eq_true h6
     cases op with
     | nil =>
      skip
      cases first with
      | false =>
       have hnx : all = pre ++ ([⟨#[44]⟩, (signsV x.f0).extract 0 1] ++ pcs l f' (i + 1) (i :: []) true) := by
        rw [hpcs]
        simp [h6]
       have HN := Lib.hid hnx
       clear hnx hpcs
       gi_wp2
       refine wpIn_region_quietR_lit (by kernel_rfl) (by kernel_rfl) (by kernel_rfl) ?_
       repeat (first | gi_big_quiet_step (fail) | (refine Go.BigFrame.wpQuietIn_skip (fun _ _ _ _ => trivial) (by rfl) ?_; simp only [Act.put, List.setIfInBounds_toArray, List.set_cons_succ, List.set_cons_zero]))
       refine wpQuietIn_nil ?_
       intro _ hw'
       obtain ⟨nQ, hw''⟩ := hw'
       subst hw''
       have HP := Lib.hid (show PIn l A cap Bs base (.slice Ao 0 co) [] (wr.drewN nQ) from ⟨HNX.out, HCR.out, HOP.out, hbr⟩)
       have HJW := Lib.hid (show J pre (wr.drewN nQ) from HJ.out _ _ _ HJS.out ⟨rfl, rfl, rfl, Nat.le_refl _, fun _ _ h _ => h⟩)
       generalize wr.drewN nQ = wq at HP HJW ⊢
       clear HNX HCR HOP HJS hbr c0
       have b0 := blkc HP.out.box 0 rfl
       obtain ⟨adn, hAn, n0, n1, n2, n3, n4⟩ := node_at HP.out.C i hil
       rw [HXI.out] at n0 n1 n2 n3 n4
       subst hAn
       have HP1 := Lib.hid (HP.out.below (below_alloc (Below.refl _ _) (.cells #[.int .i64 x.f0, .string x.f1, .string x.f2, .int .i64 x.f3, .int .i64 x.f4] 48)))
       have HJ1 := Lib.hid (HJ.out _ _ _ HJW.out (NMv.of_below (below_alloc (Below.refl _ _) (.cells #[.int .i64 x.f0, .string x.f1, .string x.f2, .int .i64 x.f3, .int .i64 x.f4] 48))))
       have F0 := Lib.hid (show (wq.alloc (.cells #[.int .i64 x.f0, .string x.f1, .string x.f2, .int .i64 x.f3, .int .i64 x.f4] 48)).heap[wq.heap.size]? = some (.cells #[.int .i64 x.f0, .string x.f1, .string x.f2, .int .i64 x.f3, .int .i64 x.f4] 48) from blk_new _ _)
       obtain ⟨fn, tmps, assign, body, hy, hR⟩ := HY.out pre ⟨#[44]⟩ _ HJ1.out ⟨[(signsV x.f0).extract 0 1] ++ pcs l f' (i + 1) (i :: []) true, by rw [HN.out]; simp⟩
       gi_wp2
       refine hR.mono ?_
       rintro e W3 (⟨rfl, hJ3, hk3⟩ | ⟨rfl, hJx3⟩)
       rotate_left
       ·gi_wp2
        first | refine noGoto_ret (bodyPost_ret (results_none rfl _ _ _) rfl ?_) | refine bodyPost_ret (results_none rfl _ _ _) rfl ?_
        exact ⟨⟨_, rfl⟩, .inr ⟨_, ⟨[(signsV x.f0).extract 0 1] ++ pcs l f' (i + 1) (i :: []) true, by rw [HN.out]; simp⟩, hJx3⟩⟩
       have HP2 := Lib.hid (HP1.out.kept hk3)
       have HJ2 := Lib.hid hJ3
       have F2 := Lib.hid (hk3.node F0.out)
       clear hk3 hJ3 hy hR HP1 HJ1 F0 HP HJW b0 n0 n1 n2 n3 n4
       have m0 := blkc F2.out 0 rfl
       have m1 := blkc F2.out 1 rfl
       have m2 := blkc F2.out 2 rfl
       have m3 := blkc F2.out 3 rfl
       have m4 := blkc F2.out 4 rfl
       have b2 := blkc HP2.out.box 0 rfl
       gi_wp2
       refine wpIn_region_quietR_lit (by kernel_rfl) (by kernel_rfl) (by kernel_rfl) ?_
       repeat (first | gi_big_quiet_step (fail) | (refine Go.BigFrame.wpQuietIn_skip (fun _ _ _ _ => trivial) (by rfl) ?_; simp only [Act.put, List.setIfInBounds_toArray, List.set_cons_succ, List.set_cons_zero]))
       refine wpQuietIn_nil ?_
       intro _ hw'
       obtain ⟨nQ, hw''⟩ := hw'
       subst hw''
       have HP3 := Lib.hid (show PIn l (some adn) cap Bs base (.slice Ao 0 co) [] (W3.drewN nQ) from ⟨HP2.out.box, HP2.out.C, HP2.out.op, HP2.out.big⟩)
       have HJ3 := Lib.hid (show J (pre ++ [(⟨#[44]⟩ : ByteArray)]) (W3.drewN nQ) from HJ.out _ _ _ HJ2.out ⟨rfl, rfl, rfl, Nat.le_refl _, fun _ _ h _ => h⟩)
       have F3 := Lib.hid (blk_drewN F2.out nQ)
       generalize W3.drewN nQ = W6 at HP3 HJ3 F3 ⊢
       clear HP2 HJ2 F2 m0 m1 m2 m3 m4 b2
       have m0 := blkc F3.out 0 rfl
       have m1 := blkc F3.out 1 rfl
       have m2 := blkc F3.out 2 rfl
       have m3 := blkc F3.out 3 rfl
       have m4 := blkc F3.out 4 rfl
       obtain ⟨sg, hsg⟩ : ∃ sg, signsV x.f0 = sg := ⟨_, rfl⟩
       have hsz2 : sg.size = 2 := by rw [← hsg]; unfold signsV; split <;> rfl
       have HSG := Lib.hid (fun W => signs_any x.f0 W)
       rw [hsg] at HSG
       obtain ⟨fn, tmps, assign, body, hy, hR⟩ := HY.out (pre ++ [(⟨#[44]⟩ : ByteArray)]) (sg.extract 0 1) W6 HJ3.out ⟨pcs l f' (i + 1) (i :: []) true, by rw [HN.out, hsg]; simp⟩
       gi_wp2_with (refine ⟨trivial, ?_⟩; gi_at_call 53; go_must (refine ((callsIn_wide (n := 8)).2 (HSG.out _)).mono ?_); rintro e w5 ⟨rfl, rfl⟩)
       refine hR.mono ?_
       rintro e W7 (⟨rfl, hJ7, hk7⟩ | ⟨rfl, hJx3⟩)
       rotate_left
       ·gi_wp2
        first | refine noGoto_ret (bodyPost_ret (results_none rfl _ _ _) rfl ?_) | refine bodyPost_ret (results_none rfl _ _ _) rfl ?_
        exact ⟨⟨_, rfl⟩, .inr ⟨_, ⟨pcs l f' (i + 1) (i :: []) true, by rw [HN.out, hsg]; simp⟩, hJx3⟩⟩
       have HP7 := Lib.hid (HP3.out.kept hk7)
       have HNE := Lib.hid (show all = ((pre ++ [(⟨#[44]⟩ : ByteArray)]) ++ [sg.extract 0 1]) ++ pcs l f' (i + 1) (i :: []) true by rw [HN.out, hsg]; simp)
       have HOW := Lib.hid (open_own HP7.out.op)
       clear hk7 hR hy m0 m1 m2 m3 m4 F3 HP3
       obtain ⟨ti, hi0, hz0, hz1, hz2⟩ := info_parts int_info
       gi_wp2_with (gi_at_builtin; refine wpListIn_append_own _ rfl _ _ 71 rfl base 3 ti (.int .i64 0) 1 8 Tryz.underlying71 hi0 hz0 hz1 hz2 rfl (by decide) _ 0 _ rfl (HOW.out.alloc _) ⟨W7.heap.size, 0, none⟩ 1 1 [.int .i64 (i : Int)] rfl rfl ?c1 ?c2 ?c3 ?c4 ?c5 ?_)
       case c1 =>
        intro u y hu
        match u, hu with
        | 0, hu => simp at hu; subst hu; simp [Addr.add]
       case c2 => intro u hu; simp at hu; subst hu; rfl
       case c3 => unfold maxLen; omega
       case c4 => omega
       case c5 => have := HP7.out.big; simp; omega
       intro v' w8 hown' hgrow hnil
       have hmv8 : NMv base W7 w8 := (NMv.of_below (below_alloc (Below.refl _ _) _)).trans (NMv.of_grown hgrow (own_int (HOW.out.alloc _)))
       have HO8 := Lib.hid (show OpenAt w8 base v' (i :: []) from open_of (by simpa using hown'))
       have HB8 := Lib.hid (box_mv HP7.out.box hmv8)
       have HC8 := Lib.hid (kdC_mv HP7.out.C hmv8 hAb HP7.out.big)
       have HJ8 := Lib.hid (HJ.out _ _ _ hJ7 hmv8)
       have hz8 := Nat.le_trans HP7.out.big hmv8.size
       obtain ⟨A8, c8, hv8⟩ := Kd.R_slice HO8.out
       subst hv8
       clear hgrow hown' hmv8 hnil
       gi_wp2
       go_roundw
       case rel => exact ⟨i + 1, f', i :: [], true, _, by omega, by go_num, rfl, HO8.out, (fun j hj => by simp at hj; omega), by simp, by simp; omega, HNE.out, HJ8.out, HB8.out, HC8.out, hz8⟩
       case measure => simp [intOf]; omega
      | true =>
       have hnx : all = pre ++ ([(signsV x.f0).extract 0 1] ++ pcs l f' (i + 1) (i :: []) true) := by
        rw [hpcs]
        simp [h6]
       have HN := Lib.hid hnx
       clear hnx hpcs
       gi_wp2
       refine wpIn_region_quietR_lit (by kernel_rfl) (by kernel_rfl) (by kernel_rfl) ?_
       repeat (first | gi_big_quiet_step (fail) | (refine Go.BigFrame.wpQuietIn_skip (fun _ _ _ _ => trivial) (by rfl) ?_; simp only [Act.put, List.setIfInBounds_toArray, List.set_cons_succ, List.set_cons_zero]))
       refine wpQuietIn_nil ?_
       intro _ hw'
       obtain ⟨nQ, hw''⟩ := hw'
       subst hw''
       have HP := Lib.hid (show PIn l A cap Bs base (.slice Ao 0 co) [] (wr.drewN nQ) from ⟨HNX.out, HCR.out, HOP.out, hbr⟩)
       have HJW := Lib.hid (show J pre (wr.drewN nQ) from HJ.out _ _ _ HJS.out ⟨rfl, rfl, rfl, Nat.le_refl _, fun _ _ h _ => h⟩)
       generalize wr.drewN nQ = wq at HP HJW ⊢
       clear HNX HCR HOP HJS hbr c0
       have b0 := blkc HP.out.box 0 rfl
       obtain ⟨adn, hAn, n0, n1, n2, n3, n4⟩ := node_at HP.out.C i hil
       rw [HXI.out] at n0 n1 n2 n3 n4
       subst hAn
       have HP1 := Lib.hid (HP.out.below (below_alloc (Below.refl _ _) (.cells #[.int .i64 x.f0, .string x.f1, .string x.f2, .int .i64 x.f3, .int .i64 x.f4] 48)))
       have HJ1 := Lib.hid (HJ.out _ _ _ HJW.out (NMv.of_below (below_alloc (Below.refl _ _) (.cells #[.int .i64 x.f0, .string x.f1, .string x.f2, .int .i64 x.f3, .int .i64 x.f4] 48))))
       have F0 := Lib.hid (show (wq.alloc (.cells #[.int .i64 x.f0, .string x.f1, .string x.f2, .int .i64 x.f3, .int .i64 x.f4] 48)).heap[wq.heap.size]? = some (.cells #[.int .i64 x.f0, .string x.f1, .string x.f2, .int .i64 x.f3, .int .i64 x.f4] 48) from blk_new _ _)
       gi_wp2
       refine ⟨fun _ h => (by cases h), ?_⟩
       have HP2 := HP1
       have HJ2 := HJ1
       have F2 := F0
       clear HP1 HJ1 F0 HP HJW b0 n0 n1 n2 n3 n4
       obtain ⟨W3, hW3⟩ : ∃ W3, wq.alloc (.cells #[.int .i64 x.f0, .string x.f1, .string x.f2, .int .i64 x.f3, .int .i64 x.f4] 48) = W3 := ⟨_, rfl⟩
       rw [hW3] at HP2 HJ2 F2 ⊢
       clear hW3
       have m0 := blkc F2.out 0 rfl
       have m1 := blkc F2.out 1 rfl
       have m2 := blkc F2.out 2 rfl
       have m3 := blkc F2.out 3 rfl
       have m4 := blkc F2.out 4 rfl
       have b2 := blkc HP2.out.box 0 rfl
       gi_wp2
       refine wpIn_region_quietR_lit (by kernel_rfl) (by kernel_rfl) (by kernel_rfl) ?_
       repeat (first | gi_big_quiet_step (fail) | (refine Go.BigFrame.wpQuietIn_skip (fun _ _ _ _ => trivial) (by rfl) ?_; simp only [Act.put, List.setIfInBounds_toArray, List.set_cons_succ, List.set_cons_zero]))
       refine wpQuietIn_nil ?_
       intro _ hw'
       obtain ⟨nQ, hw''⟩ := hw'
       subst hw''
       have HP3 := Lib.hid (show PIn l (some adn) cap Bs base (.slice Ao 0 co) [] (W3.drewN nQ) from ⟨HP2.out.box, HP2.out.C, HP2.out.op, HP2.out.big⟩)
       have HJ3 := Lib.hid (show J pre (W3.drewN nQ) from HJ.out _ _ _ HJ2.out ⟨rfl, rfl, rfl, Nat.le_refl _, fun _ _ h _ => h⟩)
       have F3 := Lib.hid (blk_drewN F2.out nQ)
       generalize W3.drewN nQ = W6 at HP3 HJ3 F3 ⊢
       clear HP2 HJ2 F2 m0 m1 m2 m3 m4 b2
       have m0 := blkc F3.out 0 rfl
       have m1 := blkc F3.out 1 rfl
       have m2 := blkc F3.out 2 rfl
       have m3 := blkc F3.out 3 rfl
       have m4 := blkc F3.out 4 rfl
       obtain ⟨sg, hsg⟩ : ∃ sg, signsV x.f0 = sg := ⟨_, rfl⟩
       have hsz2 : sg.size = 2 := by rw [← hsg]; unfold signsV; split <;> rfl
       have HSG := Lib.hid (fun W => signs_any x.f0 W)
       rw [hsg] at HSG
       obtain ⟨fn, tmps, assign, body, hy, hR⟩ := HY.out pre (sg.extract 0 1) W6 HJ3.out ⟨pcs l f' (i + 1) (i :: []) true, by rw [HN.out, hsg]; simp⟩
       gi_wp2_with (refine ⟨trivial, ?_⟩; gi_at_call 53; go_must (refine ((callsIn_wide (n := 8)).2 (HSG.out _)).mono ?_); rintro e w5 ⟨rfl, rfl⟩)
       refine hR.mono ?_
       rintro e W7 (⟨rfl, hJ7, hk7⟩ | ⟨rfl, hJx3⟩)
       rotate_left
       ·gi_wp2
        first | refine noGoto_ret (bodyPost_ret (results_none rfl _ _ _) rfl ?_) | refine bodyPost_ret (results_none rfl _ _ _) rfl ?_
        exact ⟨⟨_, rfl⟩, .inr ⟨_, ⟨pcs l f' (i + 1) (i :: []) true, by rw [HN.out, hsg]; simp⟩, hJx3⟩⟩
       have HP7 := Lib.hid (HP3.out.kept hk7)
       have HNE := Lib.hid (show all = (pre ++ [sg.extract 0 1]) ++ pcs l f' (i + 1) (i :: []) true by rw [HN.out, hsg]; simp)
       have HOW := Lib.hid (open_own HP7.out.op)
       clear hk7 hR hy m0 m1 m2 m3 m4 F3 HP3
       obtain ⟨ti, hi0, hz0, hz1, hz2⟩ := info_parts int_info
       gi_wp2_with (gi_at_builtin; refine wpListIn_append_own _ rfl _ _ 71 rfl base 3 ti (.int .i64 0) 1 8 Tryz.underlying71 hi0 hz0 hz1 hz2 rfl (by decide) _ 0 _ rfl (HOW.out.alloc _) ⟨W7.heap.size, 0, none⟩ 1 1 [.int .i64 (i : Int)] rfl rfl ?c1 ?c2 ?c3 ?c4 ?c5 ?_)
       case c1 =>
        intro u y hu
        match u, hu with
        | 0, hu => simp at hu; subst hu; simp [Addr.add]
       case c2 => intro u hu; simp at hu; subst hu; rfl
       case c3 => unfold maxLen; omega
       case c4 => omega
       case c5 => have := HP7.out.big; simp; omega
       intro v' w8 hown' hgrow hnil
       have hmv8 : NMv base W7 w8 := (NMv.of_below (below_alloc (Below.refl _ _) _)).trans (NMv.of_grown hgrow (own_int (HOW.out.alloc _)))
       have HO8 := Lib.hid (show OpenAt w8 base v' (i :: []) from open_of (by simpa using hown'))
       have HB8 := Lib.hid (box_mv HP7.out.box hmv8)
       have HC8 := Lib.hid (kdC_mv HP7.out.C hmv8 hAb HP7.out.big)
       have HJ8 := Lib.hid (HJ.out _ _ _ hJ7 hmv8)
       have hz8 := Nat.le_trans HP7.out.big hmv8.size
       obtain ⟨A8, c8, hv8⟩ := Kd.R_slice HO8.out
       subst hv8
       clear hgrow hown' hmv8 hnil
       gi_wp2
       go_roundw
       case rel => exact ⟨i + 1, f', i :: [], true, _, by omega, by go_num, rfl, HO8.out, (fun j hj => by simp at hj; omega), by simp, by simp; omega, HNE.out, HJ8.out, HB8.out, HC8.out, hz8⟩
       case measure => simp [intOf]; omega
     | cons j s =>
      have hji : j < i := hopi j (by simp)
      have hjl : j < l.length := by omega
      have hsl : s.length ≤ 900000 := by rw [List.length_cons] at hopl; omega
      rw [List.length_cons] at HOP hopl hf ⊢
      obtain ⟨ao, rfl, htop⟩ := open_top HOP.out
      obtain ⟨ad, rfl, d0, _, _, _, d4⟩ := node_at HCR.out j hjl
      have hei : endAt l j = l[j].f4 := by unfold endAt; rw [List.getElem?_eq_getElem hjl]
      have hek : kndAt l j = l[j].f0 := by unfold kndAt; rw [List.getElem?_eq_getElem hjl]
      have hne : l[j].f4 ≠ (i : Int) := fun e => hpop ⟨by simp, by rw [List.headD_cons, hei, e]⟩
      obtain ⟨kd, hkd⟩ : ∃ kd, l[j].f0 = kd := ⟨_, rfl⟩
      generalize l[j].f4 = en at d4 hei hne
      have k8 : (en == (i : Int)) = false := by simpa using hne
      have k5 : decide ((0 : Int) ≤ (s.length : Int)) = true := decide_eq_true (by omega)
      clear hpop
      rw [hkd] at d0 hek
      by_cases h7 : kd = 7
      ·have hobj : kndAt l j = 7 := by rw [hek, h7]
       have k7 : (kd == 7) = true := by simp [h7]
       cases first with
       | false =>
        have hnx : all = pre ++ ([⟨#[44]⟩, ⟨(quoteL x.f1.data.toList ++ [58]).toArray⟩, (signsV x.f0).extract 0 1] ++ pcs l f' (i + 1) (i :: (j :: s)) true) := by
         rw [hpcs]
         simp [h6, hobj]
        have HN := Lib.hid hnx
        clear hnx hpcs
        gi_wp2
        refine wpIn_region_quietR_lit (by kernel_rfl) (by kernel_rfl) (by kernel_rfl) ?_
        repeat (first | gi_big_quiet_step (fail) | (refine Go.BigFrame.wpQuietIn_skip (fun _ _ _ _ => trivial) (by rfl) ?_; simp only [Act.put, List.setIfInBounds_toArray, List.set_cons_succ, List.set_cons_zero]))
        refine wpQuietIn_nil ?_
        intro _ hw'
        obtain ⟨nQ, hw''⟩ := hw'
        subst hw''
        have HP := Lib.hid (show PIn l (some ad) cap Bs base (.slice (some ao) (s.length + 1) co) (j :: s) (wr.drewN nQ) from ⟨HNX.out, HCR.out, HOP.out, hbr⟩)
        have HJW := Lib.hid (show J pre (wr.drewN nQ) from HJ.out _ _ _ HJS.out ⟨rfl, rfl, rfl, Nat.le_refl _, fun _ _ h _ => h⟩)
        generalize wr.drewN nQ = wq at HP HJW ⊢
        clear HNX HCR HOP HJS hbr c0 htop d0 d4
        have b0 := blkc HP.out.box 0 rfl
        obtain ⟨adn, hAn, n0, n1, n2, n3, n4⟩ := node_at HP.out.C i hil
        rw [HXI.out] at n0 n1 n2 n3 n4
        have hAn2 := hAn
        obtain rfl := Option.some.inj hAn2
        clear hAn
        have HP1 := Lib.hid (HP.out.below (below_alloc (Below.refl _ _) (.cells #[.int .i64 x.f0, .string x.f1, .string x.f2, .int .i64 x.f3, .int .i64 x.f4] 48)))
        have HJ1 := Lib.hid (HJ.out _ _ _ HJW.out (NMv.of_below (below_alloc (Below.refl _ _) (.cells #[.int .i64 x.f0, .string x.f1, .string x.f2, .int .i64 x.f3, .int .i64 x.f4] 48))))
        have F0 := Lib.hid (show (wq.alloc (.cells #[.int .i64 x.f0, .string x.f1, .string x.f2, .int .i64 x.f3, .int .i64 x.f4] 48)).heap[wq.heap.size]? = some (.cells #[.int .i64 x.f0, .string x.f1, .string x.f2, .int .i64 x.f3, .int .i64 x.f4] 48) from blk_new _ _)
        obtain ⟨fn, tmps, assign, body, hy, hR⟩ := HY.out pre ⟨#[44]⟩ _ HJ1.out ⟨[⟨(quoteL x.f1.data.toList ++ [58]).toArray⟩, (signsV x.f0).extract 0 1] ++ pcs l f' (i + 1) (i :: (j :: s)) true, by rw [HN.out]; simp⟩
        gi_wp2
        refine hR.mono ?_
        rintro e W3 (⟨rfl, hJ3, hk3⟩ | ⟨rfl, hJx3⟩)
        rotate_left
        ·gi_wp2
         first | refine noGoto_ret (bodyPost_ret (results_none rfl _ _ _) rfl ?_) | refine bodyPost_ret (results_none rfl _ _ _) rfl ?_
         exact ⟨⟨_, rfl⟩, .inr ⟨_, ⟨[⟨(quoteL x.f1.data.toList ++ [58]).toArray⟩, (signsV x.f0).extract 0 1] ++ pcs l f' (i + 1) (i :: (j :: s)) true, by rw [HN.out]; simp⟩, hJx3⟩⟩
        have HP2 := Lib.hid (HP1.out.kept hk3)
        have HJ2 := Lib.hid hJ3
        have F2 := Lib.hid (hk3.node F0.out)
        clear hk3 hJ3 hy hR HP1 HJ1 F0 HP HJW b0 n0 n1 n2 n3 n4
        have m0 := blkc F2.out 0 rfl
        have m1 := blkc F2.out 1 rfl
        have m2 := blkc F2.out 2 rfl
        have m3 := blkc F2.out 3 rfl
        have m4 := blkc F2.out 4 rfl
        have b2 := blkc HP2.out.box 0 rfl
        obtain ⟨ao', hao, htop⟩ := open_top HP2.out.op
        obtain rfl := Option.some.inj hao
        clear hao
        obtain ⟨ad', hA', d0, _⟩ := node_at HP2.out.C j hjl
        obtain rfl := Option.some.inj hA'
        clear hA'
        rw [hkd] at d0
        obtain ⟨q, hq⟩ : ∃ q : ByteArray, q = ⟨(quoteL x.f1.data.toList).toArray⟩ := ⟨_, rfl⟩
        have HQ := Lib.hid (fun W => quote_any x.f1 (by omega) W)
        rw [← hq] at HQ
        have hqs : q.size ≤ 1000000 := by rw [hq]; exact quote_size x.f1 (by omega)
        have hqc : q ++ ⟨#[58]⟩ = ⟨(quoteL x.f1.data.toList ++ [58]).toArray⟩ := by rw [hq]; exact app_bytes _ _
        have HN1 := HN.out
        rw [← hqc] at HN1
        clear HN
        have HN := Lib.hid HN1
        clear HN1
        have HYX := Lib.hid (fun W (hW : J (pre ++ [(⟨#[44]⟩ : ByteArray)]) W) => HY.out (pre ++ [(⟨#[44]⟩ : ByteArray)]) (q ++ ⟨#[58]⟩) W hW (⟨[(signsV x.f0).extract 0 1] ++ pcs l f' (i + 1) (i :: (j :: s)) true, by rw [HN.out]; simp⟩ : (pre ++ [(⟨#[44]⟩ : ByteArray)]) ++ [q ++ ⟨#[58]⟩] <+: all))
        clear hqc hq
        have k16 : (s.length : Int) < (s.length : Int) + 1 := by omega
        have k17 : (j : Int) < (l.length : Int) := by omega
        have hix : ∀ W, (Instr.indexAt 71 (.slice (some ao) (s.length + 1) co) (.int .i64 (s.length : Int))).run Tryz.prog W = .ok (.pointer (some (ao.add s.length))) W := fun W => by go_simp
        have hw1 : IntKind.i64.wrap (s.length : Int) = (s.length : Int) := wrap_id _ (by omega) (by omega)
        have hw2 : IntKind.i64.wrap ((s.length : Int) + 1 - 1) = (s.length : Int) := by rw [show (s.length : Int) + 1 - 1 = (s.length : Int) by omega]; exact hw1
        have k12 : (9223372036854775807 < q.size + 1) = False := eq_false (by omega)
        gi_wp2
        gi_region_with_o (first | (refine ⟨trivial, ?_⟩; gi_at_call 15; go_must (refine ((callsIn_wide (n := 8)).2 (HQ.out _)).mono ?_); rintro e w4 ⟨rfl, hb0⟩; have hb4 : Below W3.heap.size W3 w4 := ⟨hb0.os, hb0.tape, hb0.output, hb0.size, hb0.block⟩; clear hb0; obtain ⟨fn, tmps, assign, body, hy, hR0⟩ := HYX.out w4 (HJ.out _ _ _ HJ2.out (NMv.of_below hb4)); have hR := hR0.mono (fun _ _ => yone); clear hR0) | (with_reducible refine hR.mono ?_; rintro e W5 ⟨b, rfl, hbt⟩))
        all_goals
         rcases hbt.out with ⟨rfl, hJ5, hk5⟩ | ⟨rfl, hJx3⟩
         rotate_left
         ·gi_wp2
          first | refine noGoto_ret (bodyPost_ret (results_none rfl _ _ _) rfl ?_) | refine bodyPost_ret (results_none rfl _ _ _) rfl ?_
          exact ⟨⟨_, rfl⟩, .inr ⟨_, ⟨[(signsV x.f0).extract 0 1] ++ pcs l f' (i + 1) (i :: (j :: s)) true, by rw [HN.out]; simp⟩, hJx3⟩⟩
         have HP3 := Lib.hid ((HP2.out.below hb4).kept hk5)
         have HJ3 := Lib.hid hJ5
         have F3 := Lib.hid (hk5.node (blk_below F2.out hb4))
         clear hk5 hJ5 hbt hy hR hb4 HP2 HJ2 F2 m0 m1 m2 m3 m4 b2 htop d0 HQ HYX
         generalize W5 = W6 at HP3 HJ3 F3 ⊢
         have m0 := blkc F3.out 0 rfl
         have m1 := blkc F3.out 1 rfl
         have m2 := blkc F3.out 2 rfl
         have m3 := blkc F3.out 3 rfl
         have m4 := blkc F3.out 4 rfl
         obtain ⟨sg, hsg⟩ : ∃ sg, signsV x.f0 = sg := ⟨_, rfl⟩
         have hsz2 : sg.size = 2 := by rw [← hsg]; unfold signsV; split <;> rfl
         have HSG := Lib.hid (fun W => signs_any x.f0 W)
         rw [hsg] at HSG
         obtain ⟨fn, tmps, assign, body, hy, hR⟩ := HY.out ((pre ++ [(⟨#[44]⟩ : ByteArray)]) ++ [q ++ ⟨#[58]⟩]) (sg.extract 0 1) W6 HJ3.out ⟨pcs l f' (i + 1) (i :: (j :: s)) true, by rw [HN.out, hsg]; simp⟩
         gi_wp2_with (refine ⟨trivial, ?_⟩; gi_at_call 53; go_must (refine ((callsIn_wide (n := 8)).2 (HSG.out _)).mono ?_); rintro e w5 ⟨rfl, rfl⟩)
         refine hR.mono ?_
         rintro e W7 (⟨rfl, hJ7, hk7⟩ | ⟨rfl, hJx3⟩)
         rotate_left
         ·gi_wp2
          first | refine noGoto_ret (bodyPost_ret (results_none rfl _ _ _) rfl ?_) | refine bodyPost_ret (results_none rfl _ _ _) rfl ?_
          exact ⟨⟨_, rfl⟩, .inr ⟨_, ⟨pcs l f' (i + 1) (i :: (j :: s)) true, by rw [HN.out, hsg]; simp⟩, hJx3⟩⟩
         have HP7 := Lib.hid (HP3.out.kept hk7)
         have HNE := Lib.hid (show all = (((pre ++ [(⟨#[44]⟩ : ByteArray)]) ++ [q ++ ⟨#[58]⟩]) ++ [sg.extract 0 1]) ++ pcs l f' (i + 1) (i :: (j :: s)) true by rw [HN.out, hsg]; simp)
         have HOW := Lib.hid (open_own HP7.out.op)
         clear hk7 hR hy m0 m1 m2 m3 m4 F3 HP3
         obtain ⟨ti, hi0, hz0, hz1, hz2⟩ := info_parts int_info
         gi_wp2_with (gi_at_builtin; refine wpListIn_append_own _ rfl _ _ 71 rfl base 3 ti (.int .i64 0) 1 8 Tryz.underlying71 hi0 hz0 hz1 hz2 rfl (by decide) _ (s.length + 1) _ rfl (HOW.out.alloc _) ⟨W7.heap.size, 0, none⟩ 1 1 [.int .i64 (i : Int)] rfl rfl ?c1 ?c2 ?c3 ?c4 ?c5 ?_)
         case c1 =>
          intro u y hu
          match u, hu with
          | 0, hu => simp at hu; subst hu; simp [Addr.add]
         case c2 => intro u hu; simp at hu; subst hu; rfl
         case c3 => unfold maxLen; omega
         case c4 => omega
         case c5 => have := HP7.out.big; simp; omega
         intro v' w8 hown' hgrow hnil
         have hmv8 : NMv base W7 w8 := (NMv.of_below (below_alloc (Below.refl _ _) _)).trans (NMv.of_grown hgrow (own_int (HOW.out.alloc _)))
         have HO8 := Lib.hid (show OpenAt w8 base v' (i :: (j :: s)) from open_of (by simpa using hown'))
         have HB8 := Lib.hid (box_mv HP7.out.box hmv8)
         have HC8 := Lib.hid (kdC_mv HP7.out.C hmv8 hAb HP7.out.big)
         have HJ8 := Lib.hid (HJ.out _ _ _ hJ7 hmv8)
         have hz8 := Nat.le_trans HP7.out.big hmv8.size
         obtain ⟨A8, c8, hv8⟩ := Kd.R_slice HO8.out
         subst hv8
         clear hgrow hown' hmv8 hnil
         gi_wp2
         go_roundw
         case rel => exact ⟨i + 1, f', i :: (j :: s), true, _, by omega, by go_num, rfl, HO8.out, (fun j' hj => by rcases List.mem_cons.1 hj with rfl | hj; omega; have := hopi j' hj; omega), by simp; omega, by simp; omega, HNE.out, HJ8.out, HB8.out, HC8.out, hz8⟩
         case measure => simp [intOf]; omega
       | true =>
        have hnx : all = pre ++ ([⟨(quoteL x.f1.data.toList ++ [58]).toArray⟩, (signsV x.f0).extract 0 1] ++ pcs l f' (i + 1) (i :: (j :: s)) true) := by
         rw [hpcs]
         simp [h6, hobj]
        have HN := Lib.hid hnx
        clear hnx hpcs
        gi_wp2
        refine wpIn_region_quietR_lit (by kernel_rfl) (by kernel_rfl) (by kernel_rfl) ?_
        repeat (first | gi_big_quiet_step (fail) | (refine Go.BigFrame.wpQuietIn_skip (fun _ _ _ _ => trivial) (by rfl) ?_; simp only [Act.put, List.setIfInBounds_toArray, List.set_cons_succ, List.set_cons_zero]))
        refine wpQuietIn_nil ?_
        intro _ hw'
        obtain ⟨nQ, hw''⟩ := hw'
        subst hw''
        have HP := Lib.hid (show PIn l (some ad) cap Bs base (.slice (some ao) (s.length + 1) co) (j :: s) (wr.drewN nQ) from ⟨HNX.out, HCR.out, HOP.out, hbr⟩)
        have HJW := Lib.hid (show J pre (wr.drewN nQ) from HJ.out _ _ _ HJS.out ⟨rfl, rfl, rfl, Nat.le_refl _, fun _ _ h _ => h⟩)
        generalize wr.drewN nQ = wq at HP HJW ⊢
        clear HNX HCR HOP HJS hbr c0 htop d0 d4
        have b0 := blkc HP.out.box 0 rfl
        obtain ⟨adn, hAn, n0, n1, n2, n3, n4⟩ := node_at HP.out.C i hil
        rw [HXI.out] at n0 n1 n2 n3 n4
        have hAn2 := hAn
        obtain rfl := Option.some.inj hAn2
        clear hAn
        have HP1 := Lib.hid (HP.out.below (below_alloc (Below.refl _ _) (.cells #[.int .i64 x.f0, .string x.f1, .string x.f2, .int .i64 x.f3, .int .i64 x.f4] 48)))
        have HJ1 := Lib.hid (HJ.out _ _ _ HJW.out (NMv.of_below (below_alloc (Below.refl _ _) (.cells #[.int .i64 x.f0, .string x.f1, .string x.f2, .int .i64 x.f3, .int .i64 x.f4] 48))))
        have F0 := Lib.hid (show (wq.alloc (.cells #[.int .i64 x.f0, .string x.f1, .string x.f2, .int .i64 x.f3, .int .i64 x.f4] 48)).heap[wq.heap.size]? = some (.cells #[.int .i64 x.f0, .string x.f1, .string x.f2, .int .i64 x.f3, .int .i64 x.f4] 48) from blk_new _ _)
        gi_wp2
        refine ⟨fun _ h => (by cases h), ?_⟩
        have HP2 := HP1
        have HJ2 := HJ1
        have F2 := F0
        clear HP1 HJ1 F0 HP HJW b0 n0 n1 n2 n3 n4
        obtain ⟨W3, hW3⟩ : ∃ W3, wq.alloc (.cells #[.int .i64 x.f0, .string x.f1, .string x.f2, .int .i64 x.f3, .int .i64 x.f4] 48) = W3 := ⟨_, rfl⟩
        rw [hW3] at HP2 HJ2 F2 ⊢
        clear hW3
        have m0 := blkc F2.out 0 rfl
        have m1 := blkc F2.out 1 rfl
        have m2 := blkc F2.out 2 rfl
        have m3 := blkc F2.out 3 rfl
        have m4 := blkc F2.out 4 rfl
        have b2 := blkc HP2.out.box 0 rfl
        obtain ⟨ao', hao, htop⟩ := open_top HP2.out.op
        obtain rfl := Option.some.inj hao
        clear hao
        obtain ⟨ad', hA', d0, _⟩ := node_at HP2.out.C j hjl
        obtain rfl := Option.some.inj hA'
        clear hA'
        rw [hkd] at d0
        obtain ⟨q, hq⟩ : ∃ q : ByteArray, q = ⟨(quoteL x.f1.data.toList).toArray⟩ := ⟨_, rfl⟩
        have HQ := Lib.hid (fun W => quote_any x.f1 (by omega) W)
        rw [← hq] at HQ
        have hqs : q.size ≤ 1000000 := by rw [hq]; exact quote_size x.f1 (by omega)
        have hqc : q ++ ⟨#[58]⟩ = ⟨(quoteL x.f1.data.toList ++ [58]).toArray⟩ := by rw [hq]; exact app_bytes _ _
        have HN1 := HN.out
        rw [← hqc] at HN1
        clear HN
        have HN := Lib.hid HN1
        clear HN1
        have HYX := Lib.hid (fun W (hW : J pre W) => HY.out pre (q ++ ⟨#[58]⟩) W hW (⟨[(signsV x.f0).extract 0 1] ++ pcs l f' (i + 1) (i :: (j :: s)) true, by rw [HN.out]; simp⟩ : pre ++ [q ++ ⟨#[58]⟩] <+: all))
        clear hqc hq
        have k16 : (s.length : Int) < (s.length : Int) + 1 := by omega
        have k17 : (j : Int) < (l.length : Int) := by omega
        have hix : ∀ W, (Instr.indexAt 71 (.slice (some ao) (s.length + 1) co) (.int .i64 (s.length : Int))).run Tryz.prog W = .ok (.pointer (some (ao.add s.length))) W := fun W => by go_simp
        have hw1 : IntKind.i64.wrap (s.length : Int) = (s.length : Int) := wrap_id _ (by omega) (by omega)
        have hw2 : IntKind.i64.wrap ((s.length : Int) + 1 - 1) = (s.length : Int) := by rw [show (s.length : Int) + 1 - 1 = (s.length : Int) by omega]; exact hw1
        have k12 : (9223372036854775807 < q.size + 1) = False := eq_false (by omega)
        gi_wp2
        gi_region_with_o (first | (refine ⟨trivial, ?_⟩; gi_at_call 15; go_must (refine ((callsIn_wide (n := 8)).2 (HQ.out _)).mono ?_); rintro e w4 ⟨rfl, hb0⟩; have hb4 : Below W3.heap.size W3 w4 := ⟨hb0.os, hb0.tape, hb0.output, hb0.size, hb0.block⟩; clear hb0; obtain ⟨fn, tmps, assign, body, hy, hR0⟩ := HYX.out w4 (HJ.out _ _ _ HJ2.out (NMv.of_below hb4)); have hR := hR0.mono (fun _ _ => yone); clear hR0) | (with_reducible refine hR.mono ?_; rintro e W5 ⟨b, rfl, hbt⟩))
        all_goals
         rcases hbt.out with ⟨rfl, hJ5, hk5⟩ | ⟨rfl, hJx3⟩
         rotate_left
         ·gi_wp2
          first | refine noGoto_ret (bodyPost_ret (results_none rfl _ _ _) rfl ?_) | refine bodyPost_ret (results_none rfl _ _ _) rfl ?_
          exact ⟨⟨_, rfl⟩, .inr ⟨_, ⟨[(signsV x.f0).extract 0 1] ++ pcs l f' (i + 1) (i :: (j :: s)) true, by rw [HN.out]; simp⟩, hJx3⟩⟩
         have HP3 := Lib.hid ((HP2.out.below hb4).kept hk5)
         have HJ3 := Lib.hid hJ5
         have F3 := Lib.hid (hk5.node (blk_below F2.out hb4))
         clear hk5 hJ5 hbt hy hR hb4 HP2 HJ2 F2 m0 m1 m2 m3 m4 b2 htop d0 HQ HYX
         generalize W5 = W6 at HP3 HJ3 F3 ⊢
         have m0 := blkc F3.out 0 rfl
         have m1 := blkc F3.out 1 rfl
         have m2 := blkc F3.out 2 rfl
         have m3 := blkc F3.out 3 rfl
         have m4 := blkc F3.out 4 rfl
         obtain ⟨sg, hsg⟩ : ∃ sg, signsV x.f0 = sg := ⟨_, rfl⟩
         have hsz2 : sg.size = 2 := by rw [← hsg]; unfold signsV; split <;> rfl
         have HSG := Lib.hid (fun W => signs_any x.f0 W)
         rw [hsg] at HSG
         obtain ⟨fn, tmps, assign, body, hy, hR⟩ := HY.out (pre ++ [q ++ ⟨#[58]⟩]) (sg.extract 0 1) W6 HJ3.out ⟨pcs l f' (i + 1) (i :: (j :: s)) true, by rw [HN.out, hsg]; simp⟩
         gi_wp2_with (refine ⟨trivial, ?_⟩; gi_at_call 53; go_must (refine ((callsIn_wide (n := 8)).2 (HSG.out _)).mono ?_); rintro e w5 ⟨rfl, rfl⟩)
         refine hR.mono ?_
         rintro e W7 (⟨rfl, hJ7, hk7⟩ | ⟨rfl, hJx3⟩)
         rotate_left
         ·gi_wp2
          first | refine noGoto_ret (bodyPost_ret (results_none rfl _ _ _) rfl ?_) | refine bodyPost_ret (results_none rfl _ _ _) rfl ?_
          exact ⟨⟨_, rfl⟩, .inr ⟨_, ⟨pcs l f' (i + 1) (i :: (j :: s)) true, by rw [HN.out, hsg]; simp⟩, hJx3⟩⟩
         have HP7 := Lib.hid (HP3.out.kept hk7)
         have HNE := Lib.hid (show all = ((pre ++ [q ++ ⟨#[58]⟩]) ++ [sg.extract 0 1]) ++ pcs l f' (i + 1) (i :: (j :: s)) true by rw [HN.out, hsg]; simp)
         have HOW := Lib.hid (open_own HP7.out.op)
         clear hk7 hR hy m0 m1 m2 m3 m4 F3 HP3
         obtain ⟨ti, hi0, hz0, hz1, hz2⟩ := info_parts int_info
         gi_wp2_with (gi_at_builtin; refine wpListIn_append_own _ rfl _ _ 71 rfl base 3 ti (.int .i64 0) 1 8 Tryz.underlying71 hi0 hz0 hz1 hz2 rfl (by decide) _ (s.length + 1) _ rfl (HOW.out.alloc _) ⟨W7.heap.size, 0, none⟩ 1 1 [.int .i64 (i : Int)] rfl rfl ?c1 ?c2 ?c3 ?c4 ?c5 ?_)
         case c1 =>
          intro u y hu
          match u, hu with
          | 0, hu => simp at hu; subst hu; simp [Addr.add]
         case c2 => intro u hu; simp at hu; subst hu; rfl
         case c3 => unfold maxLen; omega
         case c4 => omega
         case c5 => have := HP7.out.big; simp; omega
         intro v' w8 hown' hgrow hnil
         have hmv8 : NMv base W7 w8 := (NMv.of_below (below_alloc (Below.refl _ _) _)).trans (NMv.of_grown hgrow (own_int (HOW.out.alloc _)))
         have HO8 := Lib.hid (show OpenAt w8 base v' (i :: (j :: s)) from open_of (by simpa using hown'))
         have HB8 := Lib.hid (box_mv HP7.out.box hmv8)
         have HC8 := Lib.hid (kdC_mv HP7.out.C hmv8 hAb HP7.out.big)
         have HJ8 := Lib.hid (HJ.out _ _ _ hJ7 hmv8)
         have hz8 := Nat.le_trans HP7.out.big hmv8.size
         obtain ⟨A8, c8, hv8⟩ := Kd.R_slice HO8.out
         subst hv8
         clear hgrow hown' hmv8 hnil
         gi_wp2
         go_roundw
         case rel => exact ⟨i + 1, f', i :: (j :: s), true, _, by omega, by go_num, rfl, HO8.out, (fun j' hj => by rcases List.mem_cons.1 hj with rfl | hj; omega; have := hopi j' hj; omega), by simp; omega, by simp; omega, HNE.out, HJ8.out, HB8.out, HC8.out, hz8⟩
         case measure => simp [intOf]; omega
      ·have hobj : ¬ kndAt l j = 7 := by rw [hek]; exact h7
       have k7 : (kd == 7) = false := by simp [h7]
       cases first with
       | false =>
        have hnx : all = pre ++ ([⟨#[44]⟩, (signsV x.f0).extract 0 1] ++ pcs l f' (i + 1) (i :: (j :: s)) true) := by
         rw [hpcs]
         simp [h6, hobj]
        have HN := Lib.hid hnx
        clear hnx hpcs
        gi_wp2
        refine wpIn_region_quietR_lit (by kernel_rfl) (by kernel_rfl) (by kernel_rfl) ?_
        repeat (first | gi_big_quiet_step (fail) | (refine Go.BigFrame.wpQuietIn_skip (fun _ _ _ _ => trivial) (by rfl) ?_; simp only [Act.put, List.setIfInBounds_toArray, List.set_cons_succ, List.set_cons_zero]))
        refine wpQuietIn_nil ?_
        intro _ hw'
        obtain ⟨nQ, hw''⟩ := hw'
        subst hw''
        have HP := Lib.hid (show PIn l (some ad) cap Bs base (.slice (some ao) (s.length + 1) co) (j :: s) (wr.drewN nQ) from ⟨HNX.out, HCR.out, HOP.out, hbr⟩)
        have HJW := Lib.hid (show J pre (wr.drewN nQ) from HJ.out _ _ _ HJS.out ⟨rfl, rfl, rfl, Nat.le_refl _, fun _ _ h _ => h⟩)
        generalize wr.drewN nQ = wq at HP HJW ⊢
        clear HNX HCR HOP HJS hbr c0 htop d0 d4
        have b0 := blkc HP.out.box 0 rfl
        obtain ⟨adn, hAn, n0, n1, n2, n3, n4⟩ := node_at HP.out.C i hil
        rw [HXI.out] at n0 n1 n2 n3 n4
        have hAn2 := hAn
        obtain rfl := Option.some.inj hAn2
        clear hAn
        have HP1 := Lib.hid (HP.out.below (below_alloc (Below.refl _ _) (.cells #[.int .i64 x.f0, .string x.f1, .string x.f2, .int .i64 x.f3, .int .i64 x.f4] 48)))
        have HJ1 := Lib.hid (HJ.out _ _ _ HJW.out (NMv.of_below (below_alloc (Below.refl _ _) (.cells #[.int .i64 x.f0, .string x.f1, .string x.f2, .int .i64 x.f3, .int .i64 x.f4] 48))))
        have F0 := Lib.hid (show (wq.alloc (.cells #[.int .i64 x.f0, .string x.f1, .string x.f2, .int .i64 x.f3, .int .i64 x.f4] 48)).heap[wq.heap.size]? = some (.cells #[.int .i64 x.f0, .string x.f1, .string x.f2, .int .i64 x.f3, .int .i64 x.f4] 48) from blk_new _ _)
        obtain ⟨fn, tmps, assign, body, hy, hR⟩ := HY.out pre ⟨#[44]⟩ _ HJ1.out ⟨[(signsV x.f0).extract 0 1] ++ pcs l f' (i + 1) (i :: (j :: s)) true, by rw [HN.out]; simp⟩
        gi_wp2
        refine hR.mono ?_
        rintro e W3 (⟨rfl, hJ3, hk3⟩ | ⟨rfl, hJx3⟩)
        rotate_left
        ·gi_wp2
         first | refine noGoto_ret (bodyPost_ret (results_none rfl _ _ _) rfl ?_) | refine bodyPost_ret (results_none rfl _ _ _) rfl ?_
         exact ⟨⟨_, rfl⟩, .inr ⟨_, ⟨[(signsV x.f0).extract 0 1] ++ pcs l f' (i + 1) (i :: (j :: s)) true, by rw [HN.out]; simp⟩, hJx3⟩⟩
        have HP2 := Lib.hid (HP1.out.kept hk3)
        have HJ2 := Lib.hid hJ3
        have F2 := Lib.hid (hk3.node F0.out)
        clear hk3 hJ3 hy hR HP1 HJ1 F0 HP HJW b0 n0 n1 n2 n3 n4
        have m0 := blkc F2.out 0 rfl
        have m1 := blkc F2.out 1 rfl
        have m2 := blkc F2.out 2 rfl
        have m3 := blkc F2.out 3 rfl
        have m4 := blkc F2.out 4 rfl
        have b2 := blkc HP2.out.box 0 rfl
        obtain ⟨ao', hao, htop⟩ := open_top HP2.out.op
        obtain rfl := Option.some.inj hao
        clear hao
        obtain ⟨ad', hA', d0, _⟩ := node_at HP2.out.C j hjl
        obtain rfl := Option.some.inj hA'
        clear hA'
        rw [hkd] at d0
        gi_wp2
        refine wpIn_region_quietR_lit (by kernel_rfl) (by kernel_rfl) (by kernel_rfl) ?_
        repeat (first | gi_big_quiet_step (fail) | (refine Go.BigFrame.wpQuietIn_skip (fun _ _ _ _ => trivial) (by rfl) ?_; simp only [Act.put, List.setIfInBounds_toArray, List.set_cons_succ, List.set_cons_zero]))
        refine wpQuietIn_nil ?_
        intro _ hw'
        obtain ⟨nQ, hw''⟩ := hw'
        subst hw''
        have HP3 := Lib.hid (show PIn l (some ad) cap Bs base (.slice (some ao) (s.length + 1) co) (j :: s) (W3.drewN nQ) from ⟨HP2.out.box, HP2.out.C, HP2.out.op, HP2.out.big⟩)
        have HJ3 := Lib.hid (show J (pre ++ [(⟨#[44]⟩ : ByteArray)]) (W3.drewN nQ) from HJ.out _ _ _ HJ2.out ⟨rfl, rfl, rfl, Nat.le_refl _, fun _ _ h _ => h⟩)
        have F3 := Lib.hid (blk_drewN F2.out nQ)
        generalize W3.drewN nQ = W6 at HP3 HJ3 F3 ⊢
        clear HP2 HJ2 F2 m0 m1 m2 m3 m4 b2 htop d0
        have m0 := blkc F3.out 0 rfl
        have m1 := blkc F3.out 1 rfl
        have m2 := blkc F3.out 2 rfl
        have m3 := blkc F3.out 3 rfl
        have m4 := blkc F3.out 4 rfl
        obtain ⟨sg, hsg⟩ : ∃ sg, signsV x.f0 = sg := ⟨_, rfl⟩
        have hsz2 : sg.size = 2 := by rw [← hsg]; unfold signsV; split <;> rfl
        have HSG := Lib.hid (fun W => signs_any x.f0 W)
        rw [hsg] at HSG
        obtain ⟨fn, tmps, assign, body, hy, hR⟩ := HY.out (pre ++ [(⟨#[44]⟩ : ByteArray)]) (sg.extract 0 1) W6 HJ3.out ⟨pcs l f' (i + 1) (i :: (j :: s)) true, by rw [HN.out, hsg]; simp⟩
        gi_wp2_with (refine ⟨trivial, ?_⟩; gi_at_call 53; go_must (refine ((callsIn_wide (n := 8)).2 (HSG.out _)).mono ?_); rintro e w5 ⟨rfl, rfl⟩)
        refine hR.mono ?_
        rintro e W7 (⟨rfl, hJ7, hk7⟩ | ⟨rfl, hJx3⟩)
        rotate_left
        ·gi_wp2
         first | refine noGoto_ret (bodyPost_ret (results_none rfl _ _ _) rfl ?_) | refine bodyPost_ret (results_none rfl _ _ _) rfl ?_
         exact ⟨⟨_, rfl⟩, .inr ⟨_, ⟨pcs l f' (i + 1) (i :: (j :: s)) true, by rw [HN.out, hsg]; simp⟩, hJx3⟩⟩
        have HP7 := Lib.hid (HP3.out.kept hk7)
        have HNE := Lib.hid (show all = ((pre ++ [(⟨#[44]⟩ : ByteArray)]) ++ [sg.extract 0 1]) ++ pcs l f' (i + 1) (i :: (j :: s)) true by rw [HN.out, hsg]; simp)
        have HOW := Lib.hid (open_own HP7.out.op)
        clear hk7 hR hy m0 m1 m2 m3 m4 F3 HP3
        obtain ⟨ti, hi0, hz0, hz1, hz2⟩ := info_parts int_info
        gi_wp2_with (gi_at_builtin; refine wpListIn_append_own _ rfl _ _ 71 rfl base 3 ti (.int .i64 0) 1 8 Tryz.underlying71 hi0 hz0 hz1 hz2 rfl (by decide) _ (s.length + 1) _ rfl (HOW.out.alloc _) ⟨W7.heap.size, 0, none⟩ 1 1 [.int .i64 (i : Int)] rfl rfl ?c1 ?c2 ?c3 ?c4 ?c5 ?_)
        case c1 =>
         intro u y hu
         match u, hu with
         | 0, hu => simp at hu; subst hu; simp [Addr.add]
        case c2 => intro u hu; simp at hu; subst hu; rfl
        case c3 => unfold maxLen; omega
        case c4 => omega
        case c5 => have := HP7.out.big; simp; omega
        intro v' w8 hown' hgrow hnil
        have hmv8 : NMv base W7 w8 := (NMv.of_below (below_alloc (Below.refl _ _) _)).trans (NMv.of_grown hgrow (own_int (HOW.out.alloc _)))
        have HO8 := Lib.hid (show OpenAt w8 base v' (i :: (j :: s)) from open_of (by simpa using hown'))
        have HB8 := Lib.hid (box_mv HP7.out.box hmv8)
        have HC8 := Lib.hid (kdC_mv HP7.out.C hmv8 hAb HP7.out.big)
        have HJ8 := Lib.hid (HJ.out _ _ _ hJ7 hmv8)
        have hz8 := Nat.le_trans HP7.out.big hmv8.size
        obtain ⟨A8, c8, hv8⟩ := Kd.R_slice HO8.out
        subst hv8
        clear hgrow hown' hmv8 hnil
        gi_wp2
        go_roundw
        case rel => exact ⟨i + 1, f', i :: (j :: s), true, _, by omega, by go_num, rfl, HO8.out, (fun j' hj => by rcases List.mem_cons.1 hj with rfl | hj; omega; have := hopi j' hj; omega), by simp; omega, by simp; omega, HNE.out, HJ8.out, HB8.out, HC8.out, hz8⟩
        case measure => simp [intOf]; omega
       | true =>
        have hnx : all = pre ++ ([(signsV x.f0).extract 0 1] ++ pcs l f' (i + 1) (i :: (j :: s)) true) := by
         rw [hpcs]
         simp [h6, hobj]
        have HN := Lib.hid hnx
        clear hnx hpcs
        gi_wp2
        refine wpIn_region_quietR_lit (by kernel_rfl) (by kernel_rfl) (by kernel_rfl) ?_
        repeat (first | gi_big_quiet_step (fail) | (refine Go.BigFrame.wpQuietIn_skip (fun _ _ _ _ => trivial) (by rfl) ?_; simp only [Act.put, List.setIfInBounds_toArray, List.set_cons_succ, List.set_cons_zero]))
        refine wpQuietIn_nil ?_
        intro _ hw'
        obtain ⟨nQ, hw''⟩ := hw'
        subst hw''
        have HP := Lib.hid (show PIn l (some ad) cap Bs base (.slice (some ao) (s.length + 1) co) (j :: s) (wr.drewN nQ) from ⟨HNX.out, HCR.out, HOP.out, hbr⟩)
        have HJW := Lib.hid (show J pre (wr.drewN nQ) from HJ.out _ _ _ HJS.out ⟨rfl, rfl, rfl, Nat.le_refl _, fun _ _ h _ => h⟩)
        generalize wr.drewN nQ = wq at HP HJW ⊢
        clear HNX HCR HOP HJS hbr c0 htop d0 d4
        have b0 := blkc HP.out.box 0 rfl
        obtain ⟨adn, hAn, n0, n1, n2, n3, n4⟩ := node_at HP.out.C i hil
        rw [HXI.out] at n0 n1 n2 n3 n4
        have hAn2 := hAn
        obtain rfl := Option.some.inj hAn2
        clear hAn
        have HP1 := Lib.hid (HP.out.below (below_alloc (Below.refl _ _) (.cells #[.int .i64 x.f0, .string x.f1, .string x.f2, .int .i64 x.f3, .int .i64 x.f4] 48)))
        have HJ1 := Lib.hid (HJ.out _ _ _ HJW.out (NMv.of_below (below_alloc (Below.refl _ _) (.cells #[.int .i64 x.f0, .string x.f1, .string x.f2, .int .i64 x.f3, .int .i64 x.f4] 48))))
        have F0 := Lib.hid (show (wq.alloc (.cells #[.int .i64 x.f0, .string x.f1, .string x.f2, .int .i64 x.f3, .int .i64 x.f4] 48)).heap[wq.heap.size]? = some (.cells #[.int .i64 x.f0, .string x.f1, .string x.f2, .int .i64 x.f3, .int .i64 x.f4] 48) from blk_new _ _)
        gi_wp2
        refine ⟨fun _ h => (by cases h), ?_⟩
        have HP2 := HP1
        have HJ2 := HJ1
        have F2 := F0
        clear HP1 HJ1 F0 HP HJW b0 n0 n1 n2 n3 n4
        obtain ⟨W3, hW3⟩ : ∃ W3, wq.alloc (.cells #[.int .i64 x.f0, .string x.f1, .string x.f2, .int .i64 x.f3, .int .i64 x.f4] 48) = W3 := ⟨_, rfl⟩
        rw [hW3] at HP2 HJ2 F2 ⊢
        clear hW3
        have m0 := blkc F2.out 0 rfl
        have m1 := blkc F2.out 1 rfl
        have m2 := blkc F2.out 2 rfl
        have m3 := blkc F2.out 3 rfl
        have m4 := blkc F2.out 4 rfl
        have b2 := blkc HP2.out.box 0 rfl
        obtain ⟨ao', hao, htop⟩ := open_top HP2.out.op
        obtain rfl := Option.some.inj hao
        clear hao
        obtain ⟨ad', hA', d0, _⟩ := node_at HP2.out.C j hjl
        obtain rfl := Option.some.inj hA'
        clear hA'
        rw [hkd] at d0
        gi_wp2
        refine wpIn_region_quietR_lit (by kernel_rfl) (by kernel_rfl) (by kernel_rfl) ?_
        repeat (first | gi_big_quiet_step (fail) | (refine Go.BigFrame.wpQuietIn_skip (fun _ _ _ _ => trivial) (by rfl) ?_; simp only [Act.put, List.setIfInBounds_toArray, List.set_cons_succ, List.set_cons_zero]))
        refine wpQuietIn_nil ?_
        intro _ hw'
        obtain ⟨nQ, hw''⟩ := hw'
        subst hw''
        have HP3 := Lib.hid (show PIn l (some ad) cap Bs base (.slice (some ao) (s.length + 1) co) (j :: s) (W3.drewN nQ) from ⟨HP2.out.box, HP2.out.C, HP2.out.op, HP2.out.big⟩)
        have HJ3 := Lib.hid (show J pre (W3.drewN nQ) from HJ.out _ _ _ HJ2.out ⟨rfl, rfl, rfl, Nat.le_refl _, fun _ _ h _ => h⟩)
        have F3 := Lib.hid (blk_drewN F2.out nQ)
        generalize W3.drewN nQ = W6 at HP3 HJ3 F3 ⊢
        clear HP2 HJ2 F2 m0 m1 m2 m3 m4 b2 htop d0
        have m0 := blkc F3.out 0 rfl
        have m1 := blkc F3.out 1 rfl
        have m2 := blkc F3.out 2 rfl
        have m3 := blkc F3.out 3 rfl
        have m4 := blkc F3.out 4 rfl
        obtain ⟨sg, hsg⟩ : ∃ sg, signsV x.f0 = sg := ⟨_, rfl⟩
        have hsz2 : sg.size = 2 := by rw [← hsg]; unfold signsV; split <;> rfl
        have HSG := Lib.hid (fun W => signs_any x.f0 W)
        rw [hsg] at HSG
        obtain ⟨fn, tmps, assign, body, hy, hR⟩ := HY.out pre (sg.extract 0 1) W6 HJ3.out ⟨pcs l f' (i + 1) (i :: (j :: s)) true, by rw [HN.out, hsg]; simp⟩
        gi_wp2_with (refine ⟨trivial, ?_⟩; gi_at_call 53; go_must (refine ((callsIn_wide (n := 8)).2 (HSG.out _)).mono ?_); rintro e w5 ⟨rfl, rfl⟩)
        refine hR.mono ?_
        rintro e W7 (⟨rfl, hJ7, hk7⟩ | ⟨rfl, hJx3⟩)
        rotate_left
        ·gi_wp2
         first | refine noGoto_ret (bodyPost_ret (results_none rfl _ _ _) rfl ?_) | refine bodyPost_ret (results_none rfl _ _ _) rfl ?_
         exact ⟨⟨_, rfl⟩, .inr ⟨_, ⟨pcs l f' (i + 1) (i :: (j :: s)) true, by rw [HN.out, hsg]; simp⟩, hJx3⟩⟩
        have HP7 := Lib.hid (HP3.out.kept hk7)
        have HNE := Lib.hid (show all = (pre ++ [sg.extract 0 1]) ++ pcs l f' (i + 1) (i :: (j :: s)) true by rw [HN.out, hsg]; simp)
        have HOW := Lib.hid (open_own HP7.out.op)
        clear hk7 hR hy m0 m1 m2 m3 m4 F3 HP3
        obtain ⟨ti, hi0, hz0, hz1, hz2⟩ := info_parts int_info
        gi_wp2_with (gi_at_builtin; refine wpListIn_append_own _ rfl _ _ 71 rfl base 3 ti (.int .i64 0) 1 8 Tryz.underlying71 hi0 hz0 hz1 hz2 rfl (by decide) _ (s.length + 1) _ rfl (HOW.out.alloc _) ⟨W7.heap.size, 0, none⟩ 1 1 [.int .i64 (i : Int)] rfl rfl ?c1 ?c2 ?c3 ?c4 ?c5 ?_)
        case c1 =>
         intro u y hu
         match u, hu with
         | 0, hu => simp at hu; subst hu; simp [Addr.add]
        case c2 => intro u hu; simp at hu; subst hu; rfl
        case c3 => unfold maxLen; omega
        case c4 => omega
        case c5 => have := HP7.out.big; simp; omega
        intro v' w8 hown' hgrow hnil
        have hmv8 : NMv base W7 w8 := (NMv.of_below (below_alloc (Below.refl _ _) _)).trans (NMv.of_grown hgrow (own_int (HOW.out.alloc _)))
        have HO8 := Lib.hid (show OpenAt w8 base v' (i :: (j :: s)) from open_of (by simpa using hown'))
        have HB8 := Lib.hid (box_mv HP7.out.box hmv8)
        have HC8 := Lib.hid (kdC_mv HP7.out.C hmv8 hAb HP7.out.big)
        have HJ8 := Lib.hid (HJ.out _ _ _ hJ7 hmv8)
        have hz8 := Nat.le_trans HP7.out.big hmv8.size
        obtain ⟨A8, c8, hv8⟩ := Kd.R_slice HO8.out
        subst hv8
        clear hgrow hown' hmv8 hnil
        gi_wp2
        go_roundw
        case rel => exact ⟨i + 1, f', i :: (j :: s), true, _, by omega, by go_num, rfl, HO8.out, (fun j' hj => by rcases List.mem_cons.1 hj with rfl | hj; omega; have := hopi j' hj; omega), by simp; omega, by simp; omega, HNE.out, HJ8.out, HB8.out, HC8.out, hz8⟩
        case measure => simp [intOf]; omega
    ·have k6 : decide ((6 : Int) ≤ x.f0) = false := decide_eq_false h6
     cases op with
     | nil =>
      skip
      cases first with
      | false =>
       have hnx : all = pre ++ ([⟨#[44]⟩, plainV x.f0 x.f2] ++ pcs l f' (i + 1) [] false) := by
        rw [hpcs]
        simp [h6]
       have HN := Lib.hid hnx
       clear hnx hpcs
       gi_wp2
       refine wpIn_region_quietR_lit (by kernel_rfl) (by kernel_rfl) (by kernel_rfl) ?_
       repeat (first | gi_big_quiet_step (fail) | (refine Go.BigFrame.wpQuietIn_skip (fun _ _ _ _ => trivial) (by rfl) ?_; simp only [Act.put, List.setIfInBounds_toArray, List.set_cons_succ, List.set_cons_zero]))
       refine wpQuietIn_nil ?_
       intro _ hw'
       obtain ⟨nQ, hw''⟩ := hw'
       subst hw''
       have HP := Lib.hid (show PIn l A cap Bs base (.slice Ao 0 co) [] (wr.drewN nQ) from ⟨HNX.out, HCR.out, HOP.out, hbr⟩)
       have HJW := Lib.hid (show J pre (wr.drewN nQ) from HJ.out _ _ _ HJS.out ⟨rfl, rfl, rfl, Nat.le_refl _, fun _ _ h _ => h⟩)
       generalize wr.drewN nQ = wq at HP HJW ⊢
       clear HNX HCR HOP HJS hbr c0
       have b0 := blkc HP.out.box 0 rfl
       obtain ⟨adn, hAn, n0, n1, n2, n3, n4⟩ := node_at HP.out.C i hil
       rw [HXI.out] at n0 n1 n2 n3 n4
       subst hAn
       have HP1 := Lib.hid (HP.out.below (below_alloc (Below.refl _ _) (.cells #[.int .i64 x.f0, .string x.f1, .string x.f2, .int .i64 x.f3, .int .i64 x.f4] 48)))
       have HJ1 := Lib.hid (HJ.out _ _ _ HJW.out (NMv.of_below (below_alloc (Below.refl _ _) (.cells #[.int .i64 x.f0, .string x.f1, .string x.f2, .int .i64 x.f3, .int .i64 x.f4] 48))))
       have F0 := Lib.hid (show (wq.alloc (.cells #[.int .i64 x.f0, .string x.f1, .string x.f2, .int .i64 x.f3, .int .i64 x.f4] 48)).heap[wq.heap.size]? = some (.cells #[.int .i64 x.f0, .string x.f1, .string x.f2, .int .i64 x.f3, .int .i64 x.f4] 48) from blk_new _ _)
       obtain ⟨fn, tmps, assign, body, hy, hR⟩ := HY.out pre ⟨#[44]⟩ _ HJ1.out ⟨[plainV x.f0 x.f2] ++ pcs l f' (i + 1) [] false, by rw [HN.out]; simp⟩
       gi_wp2
       refine hR.mono ?_
       rintro e W3 (⟨rfl, hJ3, hk3⟩ | ⟨rfl, hJx3⟩)
       rotate_left
       ·gi_wp2
        first | refine noGoto_ret (bodyPost_ret (results_none rfl _ _ _) rfl ?_) | refine bodyPost_ret (results_none rfl _ _ _) rfl ?_
        exact ⟨⟨_, rfl⟩, .inr ⟨_, ⟨[plainV x.f0 x.f2] ++ pcs l f' (i + 1) [] false, by rw [HN.out]; simp⟩, hJx3⟩⟩
       have HP2 := Lib.hid (HP1.out.kept hk3)
       have HJ2 := Lib.hid hJ3
       have F2 := Lib.hid (hk3.node F0.out)
       clear hk3 hJ3 hy hR HP1 HJ1 F0 HP HJW b0 n0 n1 n2 n3 n4
       have m0 := blkc F2.out 0 rfl
       have m1 := blkc F2.out 1 rfl
       have m2 := blkc F2.out 2 rfl
       have m3 := blkc F2.out 3 rfl
       have m4 := blkc F2.out 4 rfl
       have b2 := blkc HP2.out.box 0 rfl
       gi_wp2
       refine wpIn_region_quietR_lit (by kernel_rfl) (by kernel_rfl) (by kernel_rfl) ?_
       repeat (first | gi_big_quiet_step (fail) | (refine Go.BigFrame.wpQuietIn_skip (fun _ _ _ _ => trivial) (by rfl) ?_; simp only [Act.put, List.setIfInBounds_toArray, List.set_cons_succ, List.set_cons_zero]))
       refine wpQuietIn_nil ?_
       intro _ hw'
       obtain ⟨nQ, hw''⟩ := hw'
       subst hw''
       have HP3 := Lib.hid (show PIn l (some adn) cap Bs base (.slice Ao 0 co) [] (W3.drewN nQ) from ⟨HP2.out.box, HP2.out.C, HP2.out.op, HP2.out.big⟩)
       have HJ3 := Lib.hid (show J (pre ++ [(⟨#[44]⟩ : ByteArray)]) (W3.drewN nQ) from HJ.out _ _ _ HJ2.out ⟨rfl, rfl, rfl, Nat.le_refl _, fun _ _ h _ => h⟩)
       have F3 := Lib.hid (blk_drewN F2.out nQ)
       generalize W3.drewN nQ = W6 at HP3 HJ3 F3 ⊢
       clear HP2 HJ2 F2 m0 m1 m2 m3 m4 b2
       have m0 := blkc F3.out 0 rfl
       have m1 := blkc F3.out 1 rfl
       have m2 := blkc F3.out 2 rfl
       have m3 := blkc F3.out 3 rfl
       have m4 := blkc F3.out 4 rfl
       obtain ⟨pv, hpv⟩ : ∃ pv, plainV x.f0 x.f2 = pv := ⟨_, rfl⟩
       have HPV := Lib.hid (fun W => plain_any x (by omega) W)
       unfold nodeV at HPV
       rw [hpv] at HPV
       have HYX := Lib.hid (fun W (hW : J (pre ++ [(⟨#[44]⟩ : ByteArray)]) W) => HY.out (pre ++ [(⟨#[44]⟩ : ByteArray)]) pv W hW ⟨pcs l f' (i + 1) [] false, by rw [HN.out, hpv]; simp⟩)
       gi_wp2_with (refine ⟨trivial, ?_⟩; gi_at_call 54; go_must (refine ((callsIn_wide (n := 8)).2 (HPV.out _)).mono ?_); rintro e w5 ⟨rfl, hb5⟩; obtain ⟨fn, tmps, assign, body, hy, hR⟩ := HYX.out w5 (HJ.out _ _ _ HJ3.out (NMv.of_below hb5)))
       refine hR.mono ?_
       rintro e W7 (⟨rfl, hJ7, hk7⟩ | ⟨rfl, hJx3⟩)
       rotate_left
       ·gi_wp2
        first | refine noGoto_ret (bodyPost_ret (results_none rfl _ _ _) rfl ?_) | refine bodyPost_ret (results_none rfl _ _ _) rfl ?_
        exact ⟨⟨_, rfl⟩, .inr ⟨_, ⟨pcs l f' (i + 1) [] false, by rw [HN.out, hpv]; simp⟩, hJx3⟩⟩
       have HP7 := Lib.hid ((HP3.out.below hb5).kept hk7)
       have HNE := Lib.hid (show all = ((pre ++ [(⟨#[44]⟩ : ByteArray)]) ++ [pv]) ++ pcs l f' (i + 1) [] false by rw [HN.out, hpv]; simp)
       clear hk7 hR hy m0 m1 m2 m3 m4 F3 HP3
       gi_wp2
       go_roundw
       case rel => exact ⟨i + 1, f', [], false, _, by omega, by go_num, rfl, HP7.out.op, (fun j hj => by cases hj), by simp, by simp; omega, HNE.out, hJ7, HP7.out.box, HP7.out.C, HP7.out.big⟩
       case measure => simp [intOf]; omega
      | true =>
       have hnx : all = pre ++ ([plainV x.f0 x.f2] ++ pcs l f' (i + 1) [] false) := by
        rw [hpcs]
        simp [h6]
       have HN := Lib.hid hnx
       clear hnx hpcs
       gi_wp2
       refine wpIn_region_quietR_lit (by kernel_rfl) (by kernel_rfl) (by kernel_rfl) ?_
       repeat (first | gi_big_quiet_step (fail) | (refine Go.BigFrame.wpQuietIn_skip (fun _ _ _ _ => trivial) (by rfl) ?_; simp only [Act.put, List.setIfInBounds_toArray, List.set_cons_succ, List.set_cons_zero]))
       refine wpQuietIn_nil ?_
       intro _ hw'
       obtain ⟨nQ, hw''⟩ := hw'
       subst hw''
       have HP := Lib.hid (show PIn l A cap Bs base (.slice Ao 0 co) [] (wr.drewN nQ) from ⟨HNX.out, HCR.out, HOP.out, hbr⟩)
       have HJW := Lib.hid (show J pre (wr.drewN nQ) from HJ.out _ _ _ HJS.out ⟨rfl, rfl, rfl, Nat.le_refl _, fun _ _ h _ => h⟩)
       generalize wr.drewN nQ = wq at HP HJW ⊢
       clear HNX HCR HOP HJS hbr c0
       have b0 := blkc HP.out.box 0 rfl
       obtain ⟨adn, hAn, n0, n1, n2, n3, n4⟩ := node_at HP.out.C i hil
       rw [HXI.out] at n0 n1 n2 n3 n4
       subst hAn
       have HP1 := Lib.hid (HP.out.below (below_alloc (Below.refl _ _) (.cells #[.int .i64 x.f0, .string x.f1, .string x.f2, .int .i64 x.f3, .int .i64 x.f4] 48)))
       have HJ1 := Lib.hid (HJ.out _ _ _ HJW.out (NMv.of_below (below_alloc (Below.refl _ _) (.cells #[.int .i64 x.f0, .string x.f1, .string x.f2, .int .i64 x.f3, .int .i64 x.f4] 48))))
       have F0 := Lib.hid (show (wq.alloc (.cells #[.int .i64 x.f0, .string x.f1, .string x.f2, .int .i64 x.f3, .int .i64 x.f4] 48)).heap[wq.heap.size]? = some (.cells #[.int .i64 x.f0, .string x.f1, .string x.f2, .int .i64 x.f3, .int .i64 x.f4] 48) from blk_new _ _)
       gi_wp2
       refine ⟨fun _ h => (by cases h), ?_⟩
       have HP2 := HP1
       have HJ2 := HJ1
       have F2 := F0
       clear HP1 HJ1 F0 HP HJW b0 n0 n1 n2 n3 n4
       obtain ⟨W3, hW3⟩ : ∃ W3, wq.alloc (.cells #[.int .i64 x.f0, .string x.f1, .string x.f2, .int .i64 x.f3, .int .i64 x.f4] 48) = W3 := ⟨_, rfl⟩
       rw [hW3] at HP2 HJ2 F2 ⊢
       clear hW3
       have m0 := blkc F2.out 0 rfl
       have m1 := blkc F2.out 1 rfl
       have m2 := blkc F2.out 2 rfl
       have m3 := blkc F2.out 3 rfl
       have m4 := blkc F2.out 4 rfl
       have b2 := blkc HP2.out.box 0 rfl
       gi_wp2
       refine wpIn_region_quietR_lit (by kernel_rfl) (by kernel_rfl) (by kernel_rfl) ?_
       repeat (first | gi_big_quiet_step (fail) | (refine Go.BigFrame.wpQuietIn_skip (fun _ _ _ _ => trivial) (by rfl) ?_; simp only [Act.put, List.setIfInBounds_toArray, List.set_cons_succ, List.set_cons_zero]))
       refine wpQuietIn_nil ?_
       intro _ hw'
       obtain ⟨nQ, hw''⟩ := hw'
       subst hw''
       have HP3 := Lib.hid (show PIn l (some adn) cap Bs base (.slice Ao 0 co) [] (W3.drewN nQ) from ⟨HP2.out.box, HP2.out.C, HP2.out.op, HP2.out.big⟩)
       have HJ3 := Lib.hid (show J pre (W3.drewN nQ) from HJ.out _ _ _ HJ2.out ⟨rfl, rfl, rfl, Nat.le_refl _, fun _ _ h _ => h⟩)
       have F3 := Lib.hid (blk_drewN F2.out nQ)
       generalize W3.drewN nQ = W6 at HP3 HJ3 F3 ⊢
       clear HP2 HJ2 F2 m0 m1 m2 m3 m4 b2
       have m0 := blkc F3.out 0 rfl
       have m1 := blkc F3.out 1 rfl
       have m2 := blkc F3.out 2 rfl
       have m3 := blkc F3.out 3 rfl
       have m4 := blkc F3.out 4 rfl
       obtain ⟨pv, hpv⟩ : ∃ pv, plainV x.f0 x.f2 = pv := ⟨_, rfl⟩
       have HPV := Lib.hid (fun W => plain_any x (by omega) W)
       unfold nodeV at HPV
       rw [hpv] at HPV
       have HYX := Lib.hid (fun W (hW : J pre W) => HY.out pre pv W hW ⟨pcs l f' (i + 1) [] false, by rw [HN.out, hpv]; simp⟩)
       gi_wp2_with (refine ⟨trivial, ?_⟩; gi_at_call 54; go_must (refine ((callsIn_wide (n := 8)).2 (HPV.out _)).mono ?_); rintro e w5 ⟨rfl, hb5⟩; obtain ⟨fn, tmps, assign, body, hy, hR⟩ := HYX.out w5 (HJ.out _ _ _ HJ3.out (NMv.of_below hb5)))
       refine hR.mono ?_
       rintro e W7 (⟨rfl, hJ7, hk7⟩ | ⟨rfl, hJx3⟩)
       rotate_left
       ·gi_wp2
        first | refine noGoto_ret (bodyPost_ret (results_none rfl _ _ _) rfl ?_) | refine bodyPost_ret (results_none rfl _ _ _) rfl ?_
        exact ⟨⟨_, rfl⟩, .inr ⟨_, ⟨pcs l f' (i + 1) [] false, by rw [HN.out, hpv]; simp⟩, hJx3⟩⟩
       have HP7 := Lib.hid ((HP3.out.below hb5).kept hk7)
       have HNE := Lib.hid (show all = (pre ++ [pv]) ++ pcs l f' (i + 1) [] false by rw [HN.out, hpv]; simp)
       clear hk7 hR hy m0 m1 m2 m3 m4 F3 HP3
       gi_wp2
       go_roundw
       case rel => exact ⟨i + 1, f', [], false, _, by omega, by go_num, rfl, HP7.out.op, (fun j hj => by cases hj), by simp, by simp; omega, HNE.out, hJ7, HP7.out.box, HP7.out.C, HP7.out.big⟩
       case measure => simp [intOf]; omega
     | cons j s =>
      have hji : j < i := hopi j (by simp)
      have hjl : j < l.length := by omega
      have hsl : s.length ≤ 900000 := by rw [List.length_cons] at hopl; omega
      rw [List.length_cons] at HOP hopl hf ⊢
      obtain ⟨ao, rfl, htop⟩ := open_top HOP.out
      obtain ⟨ad, rfl, d0, _, _, _, d4⟩ := node_at HCR.out j hjl
      have hei : endAt l j = l[j].f4 := by unfold endAt; rw [List.getElem?_eq_getElem hjl]
      have hek : kndAt l j = l[j].f0 := by unfold kndAt; rw [List.getElem?_eq_getElem hjl]
      have hne : l[j].f4 ≠ (i : Int) := fun e => hpop ⟨by simp, by rw [List.headD_cons, hei, e]⟩
      obtain ⟨kd, hkd⟩ : ∃ kd, l[j].f0 = kd := ⟨_, rfl⟩
      generalize l[j].f4 = en at d4 hei hne
      have k8 : (en == (i : Int)) = false := by simpa using hne
      have k5 : decide ((0 : Int) ≤ (s.length : Int)) = true := decide_eq_true (by omega)
      clear hpop
      rw [hkd] at d0 hek
      by_cases h7 : kd = 7
      ·have hobj : kndAt l j = 7 := by rw [hek, h7]
       have k7 : (kd == 7) = true := by simp [h7]
       cases first with
       | false =>
        have hnx : all = pre ++ ([⟨#[44]⟩, ⟨(quoteL x.f1.data.toList ++ [58]).toArray⟩, plainV x.f0 x.f2] ++ pcs l f' (i + 1) (j :: s) false) := by
         rw [hpcs]
         simp [h6, hobj]
        have HN := Lib.hid hnx
        clear hnx hpcs
        gi_wp2
        refine wpIn_region_quietR_lit (by kernel_rfl) (by kernel_rfl) (by kernel_rfl) ?_
        repeat (first | gi_big_quiet_step (fail) | (refine Go.BigFrame.wpQuietIn_skip (fun _ _ _ _ => trivial) (by rfl) ?_; simp only [Act.put, List.setIfInBounds_toArray, List.set_cons_succ, List.set_cons_zero]))
        refine wpQuietIn_nil ?_
        intro _ hw'
        obtain ⟨nQ, hw''⟩ := hw'
        subst hw''
        have HP := Lib.hid (show PIn l (some ad) cap Bs base (.slice (some ao) (s.length + 1) co) (j :: s) (wr.drewN nQ) from ⟨HNX.out, HCR.out, HOP.out, hbr⟩)
        have HJW := Lib.hid (show J pre (wr.drewN nQ) from HJ.out _ _ _ HJS.out ⟨rfl, rfl, rfl, Nat.le_refl _, fun _ _ h _ => h⟩)
        generalize wr.drewN nQ = wq at HP HJW ⊢
        clear HNX HCR HOP HJS hbr c0 htop d0 d4
        have b0 := blkc HP.out.box 0 rfl
        obtain ⟨adn, hAn, n0, n1, n2, n3, n4⟩ := node_at HP.out.C i hil
        rw [HXI.out] at n0 n1 n2 n3 n4
        have hAn2 := hAn
        obtain rfl := Option.some.inj hAn2
        clear hAn
        have HP1 := Lib.hid (HP.out.below (below_alloc (Below.refl _ _) (.cells #[.int .i64 x.f0, .string x.f1, .string x.f2, .int .i64 x.f3, .int .i64 x.f4] 48)))
        have HJ1 := Lib.hid (HJ.out _ _ _ HJW.out (NMv.of_below (below_alloc (Below.refl _ _) (.cells #[.int .i64 x.f0, .string x.f1, .string x.f2, .int .i64 x.f3, .int .i64 x.f4] 48))))
        have F0 := Lib.hid (show (wq.alloc (.cells #[.int .i64 x.f0, .string x.f1, .string x.f2, .int .i64 x.f3, .int .i64 x.f4] 48)).heap[wq.heap.size]? = some (.cells #[.int .i64 x.f0, .string x.f1, .string x.f2, .int .i64 x.f3, .int .i64 x.f4] 48) from blk_new _ _)
        obtain ⟨fn, tmps, assign, body, hy, hR⟩ := HY.out pre ⟨#[44]⟩ _ HJ1.out ⟨[⟨(quoteL x.f1.data.toList ++ [58]).toArray⟩, plainV x.f0 x.f2] ++ pcs l f' (i + 1) (j :: s) false, by rw [HN.out]; simp⟩
        gi_wp2
        refine hR.mono ?_
        rintro e W3 (⟨rfl, hJ3, hk3⟩ | ⟨rfl, hJx3⟩)
        rotate_left
        ·gi_wp2
         first | refine noGoto_ret (bodyPost_ret (results_none rfl _ _ _) rfl ?_) | refine bodyPost_ret (results_none rfl _ _ _) rfl ?_
         exact ⟨⟨_, rfl⟩, .inr ⟨_, ⟨[⟨(quoteL x.f1.data.toList ++ [58]).toArray⟩, plainV x.f0 x.f2] ++ pcs l f' (i + 1) (j :: s) false, by rw [HN.out]; simp⟩, hJx3⟩⟩
        have HP2 := Lib.hid (HP1.out.kept hk3)
        have HJ2 := Lib.hid hJ3
        have F2 := Lib.hid (hk3.node F0.out)
        clear hk3 hJ3 hy hR HP1 HJ1 F0 HP HJW b0 n0 n1 n2 n3 n4
        have m0 := blkc F2.out 0 rfl
        have m1 := blkc F2.out 1 rfl
        have m2 := blkc F2.out 2 rfl
        have m3 := blkc F2.out 3 rfl
        have m4 := blkc F2.out 4 rfl
        have b2 := blkc HP2.out.box 0 rfl
        obtain ⟨ao', hao, htop⟩ := open_top HP2.out.op
        obtain rfl := Option.some.inj hao
        clear hao
        obtain ⟨ad', hA', d0, _⟩ := node_at HP2.out.C j hjl
        obtain rfl := Option.some.inj hA'
        clear hA'
        rw [hkd] at d0
        obtain ⟨q, hq⟩ : ∃ q : ByteArray, q = ⟨(quoteL x.f1.data.toList).toArray⟩ := ⟨_, rfl⟩
        have HQ := Lib.hid (fun W => quote_any x.f1 (by omega) W)
        rw [← hq] at HQ
        have hqs : q.size ≤ 1000000 := by rw [hq]; exact quote_size x.f1 (by omega)
        have hqc : q ++ ⟨#[58]⟩ = ⟨(quoteL x.f1.data.toList ++ [58]).toArray⟩ := by rw [hq]; exact app_bytes _ _
        have HN1 := HN.out
        rw [← hqc] at HN1
        clear HN
        have HN := Lib.hid HN1
        clear HN1
        have HYX := Lib.hid (fun W (hW : J (pre ++ [(⟨#[44]⟩ : ByteArray)]) W) => HY.out (pre ++ [(⟨#[44]⟩ : ByteArray)]) (q ++ ⟨#[58]⟩) W hW (⟨[plainV x.f0 x.f2] ++ pcs l f' (i + 1) (j :: s) false, by rw [HN.out]; simp⟩ : (pre ++ [(⟨#[44]⟩ : ByteArray)]) ++ [q ++ ⟨#[58]⟩] <+: all))
        clear hqc hq
        have k16 : (s.length : Int) < (s.length : Int) + 1 := by omega
        have k17 : (j : Int) < (l.length : Int) := by omega
        have hix : ∀ W, (Instr.indexAt 71 (.slice (some ao) (s.length + 1) co) (.int .i64 (s.length : Int))).run Tryz.prog W = .ok (.pointer (some (ao.add s.length))) W := fun W => by go_simp
        have hw1 : IntKind.i64.wrap (s.length : Int) = (s.length : Int) := wrap_id _ (by omega) (by omega)
        have hw2 : IntKind.i64.wrap ((s.length : Int) + 1 - 1) = (s.length : Int) := by rw [show (s.length : Int) + 1 - 1 = (s.length : Int) by omega]; exact hw1
        have k12 : (9223372036854775807 < q.size + 1) = False := eq_false (by omega)
        gi_wp2
        gi_region_with_o (first | (refine ⟨trivial, ?_⟩; gi_at_call 15; go_must (refine ((callsIn_wide (n := 8)).2 (HQ.out _)).mono ?_); rintro e w4 ⟨rfl, hb0⟩; have hb4 : Below W3.heap.size W3 w4 := ⟨hb0.os, hb0.tape, hb0.output, hb0.size, hb0.block⟩; clear hb0; obtain ⟨fn, tmps, assign, body, hy, hR0⟩ := HYX.out w4 (HJ.out _ _ _ HJ2.out (NMv.of_below hb4)); have hR := hR0.mono (fun _ _ => yone); clear hR0) | (with_reducible refine hR.mono ?_; rintro e W5 ⟨b, rfl, hbt⟩))
        all_goals
         rcases hbt.out with ⟨rfl, hJ5, hk5⟩ | ⟨rfl, hJx3⟩
         rotate_left
         ·gi_wp2
          first | refine noGoto_ret (bodyPost_ret (results_none rfl _ _ _) rfl ?_) | refine bodyPost_ret (results_none rfl _ _ _) rfl ?_
          exact ⟨⟨_, rfl⟩, .inr ⟨_, ⟨[plainV x.f0 x.f2] ++ pcs l f' (i + 1) (j :: s) false, by rw [HN.out]; simp⟩, hJx3⟩⟩
         have HP3 := Lib.hid ((HP2.out.below hb4).kept hk5)
         have HJ3 := Lib.hid hJ5
         have F3 := Lib.hid (hk5.node (blk_below F2.out hb4))
         clear hk5 hJ5 hbt hy hR hb4 HP2 HJ2 F2 m0 m1 m2 m3 m4 b2 htop d0 HQ HYX
         generalize W5 = W6 at HP3 HJ3 F3 ⊢
         have m0 := blkc F3.out 0 rfl
         have m1 := blkc F3.out 1 rfl
         have m2 := blkc F3.out 2 rfl
         have m3 := blkc F3.out 3 rfl
         have m4 := blkc F3.out 4 rfl
         obtain ⟨pv, hpv⟩ : ∃ pv, plainV x.f0 x.f2 = pv := ⟨_, rfl⟩
         have HPV := Lib.hid (fun W => plain_any x (by omega) W)
         unfold nodeV at HPV
         rw [hpv] at HPV
         have HYX := Lib.hid (fun W (hW : J ((pre ++ [(⟨#[44]⟩ : ByteArray)]) ++ [q ++ ⟨#[58]⟩]) W) => HY.out ((pre ++ [(⟨#[44]⟩ : ByteArray)]) ++ [q ++ ⟨#[58]⟩]) pv W hW ⟨pcs l f' (i + 1) (j :: s) false, by rw [HN.out, hpv]; simp⟩)
         gi_wp2_with (refine ⟨trivial, ?_⟩; gi_at_call 54; go_must (refine ((callsIn_wide (n := 8)).2 (HPV.out _)).mono ?_); rintro e w5 ⟨rfl, hb5⟩; obtain ⟨fn, tmps, assign, body, hy, hR⟩ := HYX.out w5 (HJ.out _ _ _ HJ3.out (NMv.of_below hb5)))
         refine hR.mono ?_
         rintro e W7 (⟨rfl, hJ7, hk7⟩ | ⟨rfl, hJx3⟩)
         rotate_left
         ·gi_wp2
          first | refine noGoto_ret (bodyPost_ret (results_none rfl _ _ _) rfl ?_) | refine bodyPost_ret (results_none rfl _ _ _) rfl ?_
          exact ⟨⟨_, rfl⟩, .inr ⟨_, ⟨pcs l f' (i + 1) (j :: s) false, by rw [HN.out, hpv]; simp⟩, hJx3⟩⟩
         have HP7 := Lib.hid ((HP3.out.below hb5).kept hk7)
         have HNE := Lib.hid (show all = (((pre ++ [(⟨#[44]⟩ : ByteArray)]) ++ [q ++ ⟨#[58]⟩]) ++ [pv]) ++ pcs l f' (i + 1) (j :: s) false by rw [HN.out, hpv]; simp)
         clear hk7 hR hy m0 m1 m2 m3 m4 F3 HP3
         gi_wp2
         go_roundw
         case rel => exact ⟨i + 1, f', (j :: s), false, _, by omega, by go_num, rfl, HP7.out.op, (fun j' hj => by have := hopi j' hj; omega), by simp; omega, by rw [List.length_cons]; omega, HNE.out, hJ7, HP7.out.box, HP7.out.C, HP7.out.big⟩
         case measure => simp [intOf]; omega
       | true =>
        have hnx : all = pre ++ ([⟨(quoteL x.f1.data.toList ++ [58]).toArray⟩, plainV x.f0 x.f2] ++ pcs l f' (i + 1) (j :: s) false) := by
         rw [hpcs]
         simp [h6, hobj]
        have HN := Lib.hid hnx
        clear hnx hpcs
        gi_wp2
        refine wpIn_region_quietR_lit (by kernel_rfl) (by kernel_rfl) (by kernel_rfl) ?_
        repeat (first | gi_big_quiet_step (fail) | (refine Go.BigFrame.wpQuietIn_skip (fun _ _ _ _ => trivial) (by rfl) ?_; simp only [Act.put, List.setIfInBounds_toArray, List.set_cons_succ, List.set_cons_zero]))
        refine wpQuietIn_nil ?_
        intro _ hw'
        obtain ⟨nQ, hw''⟩ := hw'
        subst hw''
        have HP := Lib.hid (show PIn l (some ad) cap Bs base (.slice (some ao) (s.length + 1) co) (j :: s) (wr.drewN nQ) from ⟨HNX.out, HCR.out, HOP.out, hbr⟩)
        have HJW := Lib.hid (show J pre (wr.drewN nQ) from HJ.out _ _ _ HJS.out ⟨rfl, rfl, rfl, Nat.le_refl _, fun _ _ h _ => h⟩)
        generalize wr.drewN nQ = wq at HP HJW ⊢
        clear HNX HCR HOP HJS hbr c0 htop d0 d4
        have b0 := blkc HP.out.box 0 rfl
        obtain ⟨adn, hAn, n0, n1, n2, n3, n4⟩ := node_at HP.out.C i hil
        rw [HXI.out] at n0 n1 n2 n3 n4
        have hAn2 := hAn
        obtain rfl := Option.some.inj hAn2
        clear hAn
        have HP1 := Lib.hid (HP.out.below (below_alloc (Below.refl _ _) (.cells #[.int .i64 x.f0, .string x.f1, .string x.f2, .int .i64 x.f3, .int .i64 x.f4] 48)))
        have HJ1 := Lib.hid (HJ.out _ _ _ HJW.out (NMv.of_below (below_alloc (Below.refl _ _) (.cells #[.int .i64 x.f0, .string x.f1, .string x.f2, .int .i64 x.f3, .int .i64 x.f4] 48))))
        have F0 := Lib.hid (show (wq.alloc (.cells #[.int .i64 x.f0, .string x.f1, .string x.f2, .int .i64 x.f3, .int .i64 x.f4] 48)).heap[wq.heap.size]? = some (.cells #[.int .i64 x.f0, .string x.f1, .string x.f2, .int .i64 x.f3, .int .i64 x.f4] 48) from blk_new _ _)
        gi_wp2
        refine ⟨fun _ h => (by cases h), ?_⟩
        have HP2 := HP1
        have HJ2 := HJ1
        have F2 := F0
        clear HP1 HJ1 F0 HP HJW b0 n0 n1 n2 n3 n4
        obtain ⟨W3, hW3⟩ : ∃ W3, wq.alloc (.cells #[.int .i64 x.f0, .string x.f1, .string x.f2, .int .i64 x.f3, .int .i64 x.f4] 48) = W3 := ⟨_, rfl⟩
        rw [hW3] at HP2 HJ2 F2 ⊢
        clear hW3
        have m0 := blkc F2.out 0 rfl
        have m1 := blkc F2.out 1 rfl
        have m2 := blkc F2.out 2 rfl
        have m3 := blkc F2.out 3 rfl
        have m4 := blkc F2.out 4 rfl
        have b2 := blkc HP2.out.box 0 rfl
        obtain ⟨ao', hao, htop⟩ := open_top HP2.out.op
        obtain rfl := Option.some.inj hao
        clear hao
        obtain ⟨ad', hA', d0, _⟩ := node_at HP2.out.C j hjl
        obtain rfl := Option.some.inj hA'
        clear hA'
        rw [hkd] at d0
        obtain ⟨q, hq⟩ : ∃ q : ByteArray, q = ⟨(quoteL x.f1.data.toList).toArray⟩ := ⟨_, rfl⟩
        have HQ := Lib.hid (fun W => quote_any x.f1 (by omega) W)
        rw [← hq] at HQ
        have hqs : q.size ≤ 1000000 := by rw [hq]; exact quote_size x.f1 (by omega)
        have hqc : q ++ ⟨#[58]⟩ = ⟨(quoteL x.f1.data.toList ++ [58]).toArray⟩ := by rw [hq]; exact app_bytes _ _
        have HN1 := HN.out
        rw [← hqc] at HN1
        clear HN
        have HN := Lib.hid HN1
        clear HN1
        have HYX := Lib.hid (fun W (hW : J pre W) => HY.out pre (q ++ ⟨#[58]⟩) W hW (⟨[plainV x.f0 x.f2] ++ pcs l f' (i + 1) (j :: s) false, by rw [HN.out]; simp⟩ : pre ++ [q ++ ⟨#[58]⟩] <+: all))
        clear hqc hq
        have k16 : (s.length : Int) < (s.length : Int) + 1 := by omega
        have k17 : (j : Int) < (l.length : Int) := by omega
        have hix : ∀ W, (Instr.indexAt 71 (.slice (some ao) (s.length + 1) co) (.int .i64 (s.length : Int))).run Tryz.prog W = .ok (.pointer (some (ao.add s.length))) W := fun W => by go_simp
        have hw1 : IntKind.i64.wrap (s.length : Int) = (s.length : Int) := wrap_id _ (by omega) (by omega)
        have hw2 : IntKind.i64.wrap ((s.length : Int) + 1 - 1) = (s.length : Int) := by rw [show (s.length : Int) + 1 - 1 = (s.length : Int) by omega]; exact hw1
        have k12 : (9223372036854775807 < q.size + 1) = False := eq_false (by omega)
        gi_wp2
        gi_region_with_o (first | (refine ⟨trivial, ?_⟩; gi_at_call 15; go_must (refine ((callsIn_wide (n := 8)).2 (HQ.out _)).mono ?_); rintro e w4 ⟨rfl, hb0⟩; have hb4 : Below W3.heap.size W3 w4 := ⟨hb0.os, hb0.tape, hb0.output, hb0.size, hb0.block⟩; clear hb0; obtain ⟨fn, tmps, assign, body, hy, hR0⟩ := HYX.out w4 (HJ.out _ _ _ HJ2.out (NMv.of_below hb4)); have hR := hR0.mono (fun _ _ => yone); clear hR0) | (with_reducible refine hR.mono ?_; rintro e W5 ⟨b, rfl, hbt⟩))
        all_goals
         rcases hbt.out with ⟨rfl, hJ5, hk5⟩ | ⟨rfl, hJx3⟩
         rotate_left
         ·gi_wp2
          first | refine noGoto_ret (bodyPost_ret (results_none rfl _ _ _) rfl ?_) | refine bodyPost_ret (results_none rfl _ _ _) rfl ?_
          exact ⟨⟨_, rfl⟩, .inr ⟨_, ⟨[plainV x.f0 x.f2] ++ pcs l f' (i + 1) (j :: s) false, by rw [HN.out]; simp⟩, hJx3⟩⟩
         have HP3 := Lib.hid ((HP2.out.below hb4).kept hk5)
         have HJ3 := Lib.hid hJ5
         have F3 := Lib.hid (hk5.node (blk_below F2.out hb4))
         clear hk5 hJ5 hbt hy hR hb4 HP2 HJ2 F2 m0 m1 m2 m3 m4 b2 htop d0 HQ HYX
         generalize W5 = W6 at HP3 HJ3 F3 ⊢
         have m0 := blkc F3.out 0 rfl
         have m1 := blkc F3.out 1 rfl
         have m2 := blkc F3.out 2 rfl
         have m3 := blkc F3.out 3 rfl
         have m4 := blkc F3.out 4 rfl
         obtain ⟨pv, hpv⟩ : ∃ pv, plainV x.f0 x.f2 = pv := ⟨_, rfl⟩
         have HPV := Lib.hid (fun W => plain_any x (by omega) W)
         unfold nodeV at HPV
         rw [hpv] at HPV
         have HYX := Lib.hid (fun W (hW : J (pre ++ [q ++ ⟨#[58]⟩]) W) => HY.out (pre ++ [q ++ ⟨#[58]⟩]) pv W hW ⟨pcs l f' (i + 1) (j :: s) false, by rw [HN.out, hpv]; simp⟩)
         gi_wp2_with (refine ⟨trivial, ?_⟩; gi_at_call 54; go_must (refine ((callsIn_wide (n := 8)).2 (HPV.out _)).mono ?_); rintro e w5 ⟨rfl, hb5⟩; obtain ⟨fn, tmps, assign, body, hy, hR⟩ := HYX.out w5 (HJ.out _ _ _ HJ3.out (NMv.of_below hb5)))
         refine hR.mono ?_
         rintro e W7 (⟨rfl, hJ7, hk7⟩ | ⟨rfl, hJx3⟩)
         rotate_left
         ·gi_wp2
          first | refine noGoto_ret (bodyPost_ret (results_none rfl _ _ _) rfl ?_) | refine bodyPost_ret (results_none rfl _ _ _) rfl ?_
          exact ⟨⟨_, rfl⟩, .inr ⟨_, ⟨pcs l f' (i + 1) (j :: s) false, by rw [HN.out, hpv]; simp⟩, hJx3⟩⟩
         have HP7 := Lib.hid ((HP3.out.below hb5).kept hk7)
         have HNE := Lib.hid (show all = ((pre ++ [q ++ ⟨#[58]⟩]) ++ [pv]) ++ pcs l f' (i + 1) (j :: s) false by rw [HN.out, hpv]; simp)
         clear hk7 hR hy m0 m1 m2 m3 m4 F3 HP3
         gi_wp2
         go_roundw
         case rel => exact ⟨i + 1, f', (j :: s), false, _, by omega, by go_num, rfl, HP7.out.op, (fun j' hj => by have := hopi j' hj; omega), by simp; omega, by rw [List.length_cons]; omega, HNE.out, hJ7, HP7.out.box, HP7.out.C, HP7.out.big⟩
         case measure => simp [intOf]; omega
      ·have hobj : ¬ kndAt l j = 7 := by rw [hek]; exact h7
       have k7 : (kd == 7) = false := by simp [h7]
       cases first with
       | false =>
        have hnx : all = pre ++ ([⟨#[44]⟩, plainV x.f0 x.f2] ++ pcs l f' (i + 1) (j :: s) false) := by
         rw [hpcs]
         simp [h6, hobj]
        have HN := Lib.hid hnx
        clear hnx hpcs
        gi_wp2
        refine wpIn_region_quietR_lit (by kernel_rfl) (by kernel_rfl) (by kernel_rfl) ?_
        repeat (first | gi_big_quiet_step (fail) | (refine Go.BigFrame.wpQuietIn_skip (fun _ _ _ _ => trivial) (by rfl) ?_; simp only [Act.put, List.setIfInBounds_toArray, List.set_cons_succ, List.set_cons_zero]))
        refine wpQuietIn_nil ?_
        intro _ hw'
        obtain ⟨nQ, hw''⟩ := hw'
        subst hw''
        have HP := Lib.hid (show PIn l (some ad) cap Bs base (.slice (some ao) (s.length + 1) co) (j :: s) (wr.drewN nQ) from ⟨HNX.out, HCR.out, HOP.out, hbr⟩)
        have HJW := Lib.hid (show J pre (wr.drewN nQ) from HJ.out _ _ _ HJS.out ⟨rfl, rfl, rfl, Nat.le_refl _, fun _ _ h _ => h⟩)
        generalize wr.drewN nQ = wq at HP HJW ⊢
        clear HNX HCR HOP HJS hbr c0 htop d0 d4
        have b0 := blkc HP.out.box 0 rfl
        obtain ⟨adn, hAn, n0, n1, n2, n3, n4⟩ := node_at HP.out.C i hil
        rw [HXI.out] at n0 n1 n2 n3 n4
        have hAn2 := hAn
        obtain rfl := Option.some.inj hAn2
        clear hAn
        have HP1 := Lib.hid (HP.out.below (below_alloc (Below.refl _ _) (.cells #[.int .i64 x.f0, .string x.f1, .string x.f2, .int .i64 x.f3, .int .i64 x.f4] 48)))
        have HJ1 := Lib.hid (HJ.out _ _ _ HJW.out (NMv.of_below (below_alloc (Below.refl _ _) (.cells #[.int .i64 x.f0, .string x.f1, .string x.f2, .int .i64 x.f3, .int .i64 x.f4] 48))))
        have F0 := Lib.hid (show (wq.alloc (.cells #[.int .i64 x.f0, .string x.f1, .string x.f2, .int .i64 x.f3, .int .i64 x.f4] 48)).heap[wq.heap.size]? = some (.cells #[.int .i64 x.f0, .string x.f1, .string x.f2, .int .i64 x.f3, .int .i64 x.f4] 48) from blk_new _ _)
        obtain ⟨fn, tmps, assign, body, hy, hR⟩ := HY.out pre ⟨#[44]⟩ _ HJ1.out ⟨[plainV x.f0 x.f2] ++ pcs l f' (i + 1) (j :: s) false, by rw [HN.out]; simp⟩
        gi_wp2
        refine hR.mono ?_
        rintro e W3 (⟨rfl, hJ3, hk3⟩ | ⟨rfl, hJx3⟩)
        rotate_left
        ·gi_wp2
         first | refine noGoto_ret (bodyPost_ret (results_none rfl _ _ _) rfl ?_) | refine bodyPost_ret (results_none rfl _ _ _) rfl ?_
         exact ⟨⟨_, rfl⟩, .inr ⟨_, ⟨[plainV x.f0 x.f2] ++ pcs l f' (i + 1) (j :: s) false, by rw [HN.out]; simp⟩, hJx3⟩⟩
        have HP2 := Lib.hid (HP1.out.kept hk3)
        have HJ2 := Lib.hid hJ3
        have F2 := Lib.hid (hk3.node F0.out)
        clear hk3 hJ3 hy hR HP1 HJ1 F0 HP HJW b0 n0 n1 n2 n3 n4
        have m0 := blkc F2.out 0 rfl
        have m1 := blkc F2.out 1 rfl
        have m2 := blkc F2.out 2 rfl
        have m3 := blkc F2.out 3 rfl
        have m4 := blkc F2.out 4 rfl
        have b2 := blkc HP2.out.box 0 rfl
        obtain ⟨ao', hao, htop⟩ := open_top HP2.out.op
        obtain rfl := Option.some.inj hao
        clear hao
        obtain ⟨ad', hA', d0, _⟩ := node_at HP2.out.C j hjl
        obtain rfl := Option.some.inj hA'
        clear hA'
        rw [hkd] at d0
        gi_wp2
        refine wpIn_region_quietR_lit (by kernel_rfl) (by kernel_rfl) (by kernel_rfl) ?_
        repeat (first | gi_big_quiet_step (fail) | (refine Go.BigFrame.wpQuietIn_skip (fun _ _ _ _ => trivial) (by rfl) ?_; simp only [Act.put, List.setIfInBounds_toArray, List.set_cons_succ, List.set_cons_zero]))
        refine wpQuietIn_nil ?_
        intro _ hw'
        obtain ⟨nQ, hw''⟩ := hw'
        subst hw''
        have HP3 := Lib.hid (show PIn l (some ad) cap Bs base (.slice (some ao) (s.length + 1) co) (j :: s) (W3.drewN nQ) from ⟨HP2.out.box, HP2.out.C, HP2.out.op, HP2.out.big⟩)
        have HJ3 := Lib.hid (show J (pre ++ [(⟨#[44]⟩ : ByteArray)]) (W3.drewN nQ) from HJ.out _ _ _ HJ2.out ⟨rfl, rfl, rfl, Nat.le_refl _, fun _ _ h _ => h⟩)
        have F3 := Lib.hid (blk_drewN F2.out nQ)
        generalize W3.drewN nQ = W6 at HP3 HJ3 F3 ⊢
        clear HP2 HJ2 F2 m0 m1 m2 m3 m4 b2 htop d0
        have m0 := blkc F3.out 0 rfl
        have m1 := blkc F3.out 1 rfl
        have m2 := blkc F3.out 2 rfl
        have m3 := blkc F3.out 3 rfl
        have m4 := blkc F3.out 4 rfl
        obtain ⟨pv, hpv⟩ : ∃ pv, plainV x.f0 x.f2 = pv := ⟨_, rfl⟩
        have HPV := Lib.hid (fun W => plain_any x (by omega) W)
        unfold nodeV at HPV
        rw [hpv] at HPV
        have HYX := Lib.hid (fun W (hW : J (pre ++ [(⟨#[44]⟩ : ByteArray)]) W) => HY.out (pre ++ [(⟨#[44]⟩ : ByteArray)]) pv W hW ⟨pcs l f' (i + 1) (j :: s) false, by rw [HN.out, hpv]; simp⟩)
        gi_wp2_with (refine ⟨trivial, ?_⟩; gi_at_call 54; go_must (refine ((callsIn_wide (n := 8)).2 (HPV.out _)).mono ?_); rintro e w5 ⟨rfl, hb5⟩; obtain ⟨fn, tmps, assign, body, hy, hR⟩ := HYX.out w5 (HJ.out _ _ _ HJ3.out (NMv.of_below hb5)))
        refine hR.mono ?_
        rintro e W7 (⟨rfl, hJ7, hk7⟩ | ⟨rfl, hJx3⟩)
        rotate_left
        ·gi_wp2
         first | refine noGoto_ret (bodyPost_ret (results_none rfl _ _ _) rfl ?_) | refine bodyPost_ret (results_none rfl _ _ _) rfl ?_
         exact ⟨⟨_, rfl⟩, .inr ⟨_, ⟨pcs l f' (i + 1) (j :: s) false, by rw [HN.out, hpv]; simp⟩, hJx3⟩⟩
        have HP7 := Lib.hid ((HP3.out.below hb5).kept hk7)
        have HNE := Lib.hid (show all = ((pre ++ [(⟨#[44]⟩ : ByteArray)]) ++ [pv]) ++ pcs l f' (i + 1) (j :: s) false by rw [HN.out, hpv]; simp)
        clear hk7 hR hy m0 m1 m2 m3 m4 F3 HP3
        gi_wp2
        go_roundw
        case rel => exact ⟨i + 1, f', (j :: s), false, _, by omega, by go_num, rfl, HP7.out.op, (fun j' hj => by have := hopi j' hj; omega), by simp; omega, by rw [List.length_cons]; omega, HNE.out, hJ7, HP7.out.box, HP7.out.C, HP7.out.big⟩
        case measure => simp [intOf]; omega
       | true =>
        have hnx : all = pre ++ ([plainV x.f0 x.f2] ++ pcs l f' (i + 1) (j :: s) false) := by
         rw [hpcs]
         simp [h6, hobj]
        have HN := Lib.hid hnx
        clear hnx hpcs
        gi_wp2
        refine wpIn_region_quietR_lit (by kernel_rfl) (by kernel_rfl) (by kernel_rfl) ?_
        repeat (first | gi_big_quiet_step (fail) | (refine Go.BigFrame.wpQuietIn_skip (fun _ _ _ _ => trivial) (by rfl) ?_; simp only [Act.put, List.setIfInBounds_toArray, List.set_cons_succ, List.set_cons_zero]))
        refine wpQuietIn_nil ?_
        intro _ hw'
        obtain ⟨nQ, hw''⟩ := hw'
        subst hw''
        have HP := Lib.hid (show PIn l (some ad) cap Bs base (.slice (some ao) (s.length + 1) co) (j :: s) (wr.drewN nQ) from ⟨HNX.out, HCR.out, HOP.out, hbr⟩)
        have HJW := Lib.hid (show J pre (wr.drewN nQ) from HJ.out _ _ _ HJS.out ⟨rfl, rfl, rfl, Nat.le_refl _, fun _ _ h _ => h⟩)
        generalize wr.drewN nQ = wq at HP HJW ⊢
        clear HNX HCR HOP HJS hbr c0 htop d0 d4
        have b0 := blkc HP.out.box 0 rfl
        obtain ⟨adn, hAn, n0, n1, n2, n3, n4⟩ := node_at HP.out.C i hil
        rw [HXI.out] at n0 n1 n2 n3 n4
        have hAn2 := hAn
        obtain rfl := Option.some.inj hAn2
        clear hAn
        have HP1 := Lib.hid (HP.out.below (below_alloc (Below.refl _ _) (.cells #[.int .i64 x.f0, .string x.f1, .string x.f2, .int .i64 x.f3, .int .i64 x.f4] 48)))
        have HJ1 := Lib.hid (HJ.out _ _ _ HJW.out (NMv.of_below (below_alloc (Below.refl _ _) (.cells #[.int .i64 x.f0, .string x.f1, .string x.f2, .int .i64 x.f3, .int .i64 x.f4] 48))))
        have F0 := Lib.hid (show (wq.alloc (.cells #[.int .i64 x.f0, .string x.f1, .string x.f2, .int .i64 x.f3, .int .i64 x.f4] 48)).heap[wq.heap.size]? = some (.cells #[.int .i64 x.f0, .string x.f1, .string x.f2, .int .i64 x.f3, .int .i64 x.f4] 48) from blk_new _ _)
        gi_wp2
        refine ⟨fun _ h => (by cases h), ?_⟩
        have HP2 := HP1
        have HJ2 := HJ1
        have F2 := F0
        clear HP1 HJ1 F0 HP HJW b0 n0 n1 n2 n3 n4
        obtain ⟨W3, hW3⟩ : ∃ W3, wq.alloc (.cells #[.int .i64 x.f0, .string x.f1, .string x.f2, .int .i64 x.f3, .int .i64 x.f4] 48) = W3 := ⟨_, rfl⟩
        rw [hW3] at HP2 HJ2 F2 ⊢
        clear hW3
        have m0 := blkc F2.out 0 rfl
        have m1 := blkc F2.out 1 rfl
        have m2 := blkc F2.out 2 rfl
        have m3 := blkc F2.out 3 rfl
        have m4 := blkc F2.out 4 rfl
        have b2 := blkc HP2.out.box 0 rfl
        obtain ⟨ao', hao, htop⟩ := open_top HP2.out.op
        obtain rfl := Option.some.inj hao
        clear hao
        obtain ⟨ad', hA', d0, _⟩ := node_at HP2.out.C j hjl
        obtain rfl := Option.some.inj hA'
        clear hA'
        rw [hkd] at d0
        gi_wp2
        refine wpIn_region_quietR_lit (by kernel_rfl) (by kernel_rfl) (by kernel_rfl) ?_
        repeat (first | gi_big_quiet_step (fail) | (refine Go.BigFrame.wpQuietIn_skip (fun _ _ _ _ => trivial) (by rfl) ?_; simp only [Act.put, List.setIfInBounds_toArray, List.set_cons_succ, List.set_cons_zero]))
        refine wpQuietIn_nil ?_
        intro _ hw'
        obtain ⟨nQ, hw''⟩ := hw'
        subst hw''
        have HP3 := Lib.hid (show PIn l (some ad) cap Bs base (.slice (some ao) (s.length + 1) co) (j :: s) (W3.drewN nQ) from ⟨HP2.out.box, HP2.out.C, HP2.out.op, HP2.out.big⟩)
        have HJ3 := Lib.hid (show J pre (W3.drewN nQ) from HJ.out _ _ _ HJ2.out ⟨rfl, rfl, rfl, Nat.le_refl _, fun _ _ h _ => h⟩)
        have F3 := Lib.hid (blk_drewN F2.out nQ)
        generalize W3.drewN nQ = W6 at HP3 HJ3 F3 ⊢
        clear HP2 HJ2 F2 m0 m1 m2 m3 m4 b2 htop d0
        have m0 := blkc F3.out 0 rfl
        have m1 := blkc F3.out 1 rfl
        have m2 := blkc F3.out 2 rfl
        have m3 := blkc F3.out 3 rfl
        have m4 := blkc F3.out 4 rfl
        obtain ⟨pv, hpv⟩ : ∃ pv, plainV x.f0 x.f2 = pv := ⟨_, rfl⟩
        have HPV := Lib.hid (fun W => plain_any x (by omega) W)
        unfold nodeV at HPV
        rw [hpv] at HPV
        have HYX := Lib.hid (fun W (hW : J pre W) => HY.out pre pv W hW ⟨pcs l f' (i + 1) (j :: s) false, by rw [HN.out, hpv]; simp⟩)
        gi_wp2_with (refine ⟨trivial, ?_⟩; gi_at_call 54; go_must (refine ((callsIn_wide (n := 8)).2 (HPV.out _)).mono ?_); rintro e w5 ⟨rfl, hb5⟩; obtain ⟨fn, tmps, assign, body, hy, hR⟩ := HYX.out w5 (HJ.out _ _ _ HJ3.out (NMv.of_below hb5)))
        refine hR.mono ?_
        rintro e W7 (⟨rfl, hJ7, hk7⟩ | ⟨rfl, hJx3⟩)
        rotate_left
        ·gi_wp2
         first | refine noGoto_ret (bodyPost_ret (results_none rfl _ _ _) rfl ?_) | refine bodyPost_ret (results_none rfl _ _ _) rfl ?_
         exact ⟨⟨_, rfl⟩, .inr ⟨_, ⟨pcs l f' (i + 1) (j :: s) false, by rw [HN.out, hpv]; simp⟩, hJx3⟩⟩
        have HP7 := Lib.hid ((HP3.out.below hb5).kept hk7)
        have HNE := Lib.hid (show all = (pre ++ [pv]) ++ pcs l f' (i + 1) (j :: s) false by rw [HN.out, hpv]; simp)
        clear hk7 hR hy m0 m1 m2 m3 m4 F3 HP3
        gi_wp2
        go_roundw
        case rel => exact ⟨i + 1, f', (j :: s), false, _, by omega, by go_num, rfl, HP7.out.op, (fun j' hj => by have := hopi j' hj; omega), by simp; omega, by rw [List.length_cons]; omega, HNE.out, hJ7, HP7.out.box, HP7.out.C, HP7.out.big⟩
        case measure => simp [intOf]; omega
   ·obtain rfl : i = l.length := by omega
    rw [List.getElem?_eq_none (Nat.le_refl _), List.append_nil] at hpcs
    have HE := Lib.hid hpcs
    clear hpcs
    have k9 : ((l.length : Int) == (l.length : Int)) = true := by simp
    cases op with
    | nil =>
     gi_wp2
     refine wpIn_region_quietR_lit (by kernel_rfl) (by kernel_rfl) (by kernel_rfl) ?_
     repeat (gi_big_quiet_step (fail))
     refine wpQuietIn_nil ?_
     intro _ hw'
     obtain ⟨nq, hw''⟩ := hw'
     subst hw''
     gi_wp2
     refine noGoto_ret (bodyPost_ret (results_none rfl _ _ _) rfl ?_)
     exact ⟨⟨_, rfl⟩, .inl ⟨_, HE.out.symm, HJ.out _ _ _ HJS.out ⟨rfl, rfl, rfl, Nat.le_refl _, fun _ _ h _ => h⟩⟩⟩
    | cons j s =>
     have hji : j < l.length := hopi j (by simp)
     have hsl : s.length ≤ 900000 := by rw [List.length_cons] at hopl; omega
     rw [List.length_cons] at HOP ⊢
     obtain ⟨ao, rfl, htop⟩ := open_top HOP.out
     obtain ⟨ad, rfl, d0, _, _, _, d4⟩ := node_at HCR.out j hji
     have hei : endAt l j = l[j].f4 := by unfold endAt; rw [List.getElem?_eq_getElem hji]
     have hne : l[j].f4 ≠ (l.length : Int) := fun e => hpop ⟨by simp, by rw [List.headD_cons, hei, e]⟩
     generalize l[j].f4 = en at d4 hei hne
     have k8 : (en == (l.length : Int)) = false := by simpa using hne
     have k5 : decide ((0 : Int) ≤ (s.length : Int)) = true := decide_eq_true (by omega)
     clear hpop hopi
     gi_wp2
     refine wpIn_region_quietR_lit (by kernel_rfl) (by kernel_rfl) (by kernel_rfl) ?_
     repeat (gi_big_quiet_step (fail))
     refine wpQuietIn_nil ?_
     intro _ hw'
     obtain ⟨nq, hw''⟩ := hw'
     subst hw''
     gi_wp2
     refine noGoto_ret (bodyPost_ret (results_none rfl _ _ _) rfl ?_)
     exact ⟨⟨_, rfl⟩, .inl ⟨_, HE.out.symm, HJ.out _ _ _ HJS.out ⟨rfl, rfl, rfl, Nat.le_refl _, fun _ _ h _ => h⟩⟩⟩
end Go.Proofs.YtfocognhcljhpaaGreatDoor
