/- A part of the proof of FnExactSessionRecover: texts D6 D7 W14 W15 W16 M33 W17 W18 M31 M32 D7d W19 Y3 W20 W21 W22 W23 W24 W25 W26 W27 W30 W31 W32 W33 W34 W35 W36 W37 W38 W39 W40 W41 W42 W43 W44 W45 W46 Y5 W47 W48 W49 W50 W51 W52 W53 W54 W55 W56. -/
import Derived.Test.YtdjglbedimpldaaG4
import Derived.Test.YtdjglbedimpldaaGp
import Derived.Test.YtdjglbedimpldaaG3
import Derived.Test.YtdjglbedimpldaaG1
import Derived.Maps.OwnSet
import Derived.Maps.Views
import Derived.Carry
set_option linter.unusedSimpArgs false
set_option linter.unusedVariables false
/-
  Walks: the draws: a side.
-/
namespace Go.Proofs.Ytdjglbedimpldaa
open Go Go.RowKit Go.Proofs
structure StS (s : St) : Prop where
  b : tV s.base = true
  l : LogS s.log
def siteD (z : List Int) (p c : Nat) (rv : AV) (lr' rows : List Row) : Prop := ∃ s : St, StS s ∧ rv = stA' s ∧ RdD z p c lr' ∧ rows = []
attribute [local irreducible] RWp AW run kPe pe Kt effA gd gu br retR RDp runD kPeD brW gW effD
set_option maxRecDepth 100000
theorem l92Site_pcl (z : List Int) (p : Nat) (hr : RdOk z (p + 1800)) : PCL Try.prog 47 [rdR z p] (mvF none) [.p 0 0 0] (siteD z p 1800) := by
  refine pcl_enter Try.func47 rfl rfl (by simp) fun w0 fb loc => go_on ?_; simp only [Try.ntmps47, hpL, nmL, mvF, renL, decide_true, decide_false, push_cast, simprocAttr]
  (try simp only [push_cast, simprocAttr]); refine call_lend [500000] none (lr := [rdR z p]) (by simp [ndB]) (by first | rfl | simp [rowsOf, hget, rdR, rowS, rowN, rowC, sC, ndC, cmC]) (by simp [idsL, idsA]) (by simp [mvN]) (by simpa [rnA, ixOf] using pick_pcl z p 10 (hr.le (by omega)) (by omega)) ?_
  rintro rv lr' rows ⟨m, rfl, hm, rfl, rfl⟩
  have hm := hm (by omega)
  have w1 := wr (4 + (m : Int)) (by omega)
  (refine ⟨by simp [shB, mvF, rdR, rowS, rowN, rowC], by simp [frB, baseOf], go_on ?_⟩; simp only [w1, killA, killH, killRow, push_cast, simprocAttr])
  (try simp only [push_cast, simprocAttr]); refine call_lend [500000] none (lr := [rdR z (p + 1)]) (by simp [ndB]) (by first | rfl | simp [rowsOf, hget, rdR, rowS, rowN, rowC, sC, ndC, cmC]) (by simp [idsL, idsA]) (by simp [mvN]) (by simpa [rnA, ixOf] using l91Tree_pcl z (p + 1) (4 + m) (by omega) (hr.le (by omega))) ?_
  rintro rv lr' rows ⟨t, ht, rfl, ⟨u, rfl, g1, g2⟩, rfl⟩
  have hu : u ≤ p + 169 := by omega
  (refine ⟨by simp [shB, mvF, rdR, rowS, rowN, rowC], by simp [frB, baseOf], go_on ?_⟩; simp only [killA, killH, killRow, push_cast, simprocAttr])
  (try simp only [push_cast, simprocAttr]); refine call_lend [500000] none (lr := [rdR z u]) (by simp [ndB]) (by first | rfl | simp [rowsOf, hget, rdR, rowS, rowN, rowC, sC, ndC, cmC]) (by simp [idsL, idsA]) (by simp [mvN]) (by simpa [rnA, ixOf] using pick_pcl z u 4 (hr.le (by omega)) (by omega)) ?_
  rintro rv lr' rows ⟨e, rfl, _, rfl, rfl⟩
  (refine ⟨by simp [shB, mvF, rdR, rowS, rowN, rowC], by simp [frB, baseOf], go_on ?_⟩; simp only [killA, killH, killRow, push_cast, simprocAttr])
  (try simp only [push_cast, simprocAttr]); refine call_lend [500000] none (lr := [rdR z (u + 1)]) (by simp [ndB]) (by first | rfl | simp [rowsOf, hget, rdR, rowS, rowN, rowC, sC, ndC, cmC]) (by simp [idsL, idsA]) (by simp [mvN]) (by simpa [rnA, ixOf] using pick_pcl z (u + 1) 10 (hr.le (by omega)) (by omega)) ?_
  rintro rv lr' rows ⟨n, rfl, hn, rfl, rfl⟩
  have hn := hn (by omega)
  (refine ⟨by simp [shB, mvF, rdR, rowS, rowN, rowC], by simp [frB, baseOf], go_on ?_⟩; simp only [killA, killH, killRow, push_cast, simprocAttr])
  (try simp only [push_cast, simprocAttr]); refine call_lend [500000] none (lr := [rdR z (u + 1 + 1)]) (by simp [ndB]) (by first | rfl | simp [rowsOf, hget, rdR, rowS, rowN, rowC, sC, ndC, cmC]) (by simp [idsL, idsA]) (by simp [mvN]) (by simpa [rnA, ixOf] using l91Log_pcl z (u + 1 + 1) n t ht (by omega) (hr.le (by omega))) ?_
  rintro rv lr' rows ⟨l, hl, hl20, rfl, ⟨v, rfl, g3, g4⟩, rfl⟩
  have hv : v ≤ p + 360 := by omega
  (refine ⟨by simp [shB, mvF, rdR, rowS, rowN, rowC], by simp [frB, baseOf], ?_⟩; simp only [killA, killH, killRow, push_cast, simprocAttr]); (refine at_frzS [18000] (by refine wk_frz ?_ ?_ ?_ ?_ <;> simp [rdR, rowC, frzS, frzT, hasN, delL, hdel, leF, leHF, frzB, idsL, idsA, idsR, inH, hget, sameRow, viewN, tk]) ?_; simp only [frzS, frzT, hasN, delL, hdel, idsA, idsL, viewN, hget, List.map_cons, List.map_nil, List.all_cons, List.all_nil, List.append_nil, List.drop, List.getElem?_cons_zero, List.getElem?_cons_succ, Bool.not_false, Bool.not_true, Bool.and_true, if_true, if_false, simprocAttr]); (refine go_on ?_; (try simp only [push_cast, simprocAttr]))
  (try simp only [push_cast, simprocAttr]); refine call_lend [500000] none (lr := [rdR z v]) (by simp [ndB]) (by first | rfl | simp [rowsOf, hget, rdR, rowS, rowN, rowC, sC, ndC, cmC]) (by simp [idsL, idsA]) (by simp [mvN]) (by simpa [rnA, ixOf] using pick_pcl z v 24 (hr.le (by omega)) (by omega)) ?_
  rintro rv lr' rows ⟨k, rfl, _, rfl, rfl⟩
  (refine ⟨by simp [shB, mvF, rdR, rowS, rowN, rowC], by simp [frB, baseOf], go_on ?_⟩; simp only [killA, killH, killRow, push_cast, simprocAttr])
  refine at_b (fun hb => ?_) (fun hb => ?_)
  · (try simp only [hb, push_cast, simprocAttr])
    (try simp only [push_cast, simprocAttr]); refine call_lend [500000] none (lr := [rdR z (v + 1)]) (by simp [ndB]) (by first | rfl | simp [rowsOf, hget, rdR, rowS, rowN, rowC, sC, ndC, cmC]) (by simp [idsL, idsA]) (by simp [mvN]) (by simpa [rnA, ixOf] using pick_pcl z (v + 1) 3 (hr.le (by omega)) (by omega)) ?_
    rintro rv lr' rows ⟨j, rfl, hj, rfl, rfl⟩
    have hj := hj (by omega)
    have hfin : ∀ x : Int, siteD z p 1800 (.agg [iA x, ndA t, cmA l]) [rdR z (v + 1 + 1)] [] := fun x => ⟨⟨x, t, l⟩, ⟨ht, hl⟩, rfl, ⟨_, rfl, by omega, by omega⟩, rfl⟩
    obtain rfl | rfl | rfl : j = 0 ∨ j = 1 ∨ j = 2 := by omega
    · (refine ⟨by simp [shB, mvF, rdR, rowS, rowN, rowC], by simp [frB, baseOf], go_on ?_⟩; simp only [killA, killH, killRow, push_cast, simprocAttr])
      (refine at_retL ?_; simp only [Try.results47, retL, push_cast, simprocAttr]; simpa [show List.range 1 = [0] from rfl, show List.range 2 = [0, 1] from rfl, show List.range 3 = [0, 1, 2] from rfl, nmL, mvF, ndB, ixOf, rowsOf, hget, rdR, rowS, rowN, rowC] using  hfin (-1))
    · (refine ⟨by simp [shB, mvF, rdR, rowS, rowN, rowC], by simp [frB, baseOf], go_on ?_⟩; simp only [show toIx 1 3 = some 1 from rfl, killA, killH, killRow, push_cast, simprocAttr])
      (refine at_retL ?_; simp only [Try.results47, retL, push_cast, simprocAttr]; simpa [show List.range 1 = [0] from rfl, show List.range 2 = [0, 1] from rfl, show List.range 3 = [0, 1, 2] from rfl, nmL, mvF, ndB, ixOf, rowsOf, hget, rdR, rowS, rowN, rowC] using  hfin 99)
    · (refine ⟨by simp [shB, mvF, rdR, rowS, rowN, rowC], by simp [frB, baseOf], go_on ?_⟩; simp only [show toIx 2 3 = some 2 from rfl, killA, killH, killRow, push_cast, simprocAttr])
      (refine at_retL ?_; simp only [Try.results47, retL, push_cast, simprocAttr]; simpa [show List.range 1 = [0] from rfl, show List.range 2 = [0, 1] from rfl, show List.range 3 = [0, 1, 2] from rfl, nmL, mvF, ndB, ixOf, rowsOf, hget, rdR, rowS, rowN, rowC] using  hfin 100)
  · (try simp only [hb, push_cast, simprocAttr])
    refine at_b (fun hb2 => ?_) (fun hb2 => ?_)
    · (try simp only [hb2, push_cast, simprocAttr])
      (try simp only [push_cast, simprocAttr]); refine call_lend [500000] none (lr := [rdR z (v + 1)]) (by simp [ndB]) (by first | rfl | simp [rowsOf, hget, rdR, rowS, rowN, rowC, sC, ndC, cmC]) (by simp [idsL, idsA]) (by simp [mvN]) (by simpa [rnA, ixOf] using l91Broken_pcl z (v + 1) t ht (hr.le (by omega))) ?_
      rintro rv lr' rows ⟨l2, hl2, rfl, ⟨v2, rfl, g5, g6⟩, rfl⟩
      have hfin : siteD z p 1800 (.agg [iA e, ndA t, cmA l2]) [rdR z v2] [] := ⟨⟨e, t, l2⟩, ⟨ht, hl2⟩, rfl, ⟨_, rfl, by omega, by omega⟩, rfl⟩
      (refine ⟨by simp [shB, mvF, rdR, rowS, rowN, rowC], by simp [frB, baseOf], ?_⟩; simp only [killA, killH, killRow, push_cast, simprocAttr]); (refine at_frzS [34000] (by refine wk_frz ?_ ?_ ?_ ?_ <;> simp [rdR, rowC, frzS, frzT, hasN, delL, hdel, leF, leHF, frzB, idsL, idsA, idsR, inH, hget, sameRow, viewN, tk]) ?_; simp only [frzS, frzT, hasN, delL, hdel, idsA, idsL, viewN, hget, List.map_cons, List.map_nil, List.all_cons, List.all_nil, List.append_nil, List.drop, List.getElem?_cons_zero, List.getElem?_cons_succ, Bool.not_false, Bool.not_true, Bool.and_true, if_true, if_false, simprocAttr]); (refine go_on ?_; (try simp only [push_cast, simprocAttr]))
      (refine at_retL ?_; simp only [Try.results47, retL, push_cast, simprocAttr]; simpa [show List.range 1 = [0] from rfl, show List.range 2 = [0, 1] from rfl, show List.range 3 = [0, 1, 2] from rfl, nmL, mvF, ndB, ixOf, rowsOf, hget, rdR, rowS, rowN, rowC] using  hfin)
    · (try simp only [hb2, push_cast, simprocAttr])
      refine at_b (fun hb3 => ?_) (fun hb3 => ?_)
      · (try simp only [hb3, push_cast, simprocAttr])
        (try simp only [push_cast, simprocAttr]); refine call_lend [500000] none (lr := [rdR z (v + 1)]) (by simp [ndB]) (by first | rfl | simp [rowsOf, hget, rdR, rowS, rowN, rowC, sC, ndC, cmC]) (by simp [idsL, idsA]) (by simp [mvN]) (by simpa [rnA, ixOf] using l91Log_pcl z (v + 1) 60 t ht (by omega) (hr.le (by omega))) ?_
        rintro rv lr' rows ⟨l2, hl2, _, rfl, ⟨v2, rfl, g5, g6⟩, rfl⟩
        have hfin : siteD z p 1800 (.agg [iA e, ndA t, cmA l2]) [rdR z v2] [] := ⟨⟨e, t, l2⟩, ⟨ht, hl2⟩, rfl, ⟨_, rfl, by omega, by omega⟩, rfl⟩
        (refine ⟨by simp [shB, mvF, rdR, rowS, rowN, rowC], by simp [frB, baseOf], ?_⟩; simp only [killA, killH, killRow, push_cast, simprocAttr]); (refine at_frzS [40000] (by refine wk_frz ?_ ?_ ?_ ?_ <;> simp [rdR, rowC, frzS, frzT, hasN, delL, hdel, leF, leHF, frzB, idsL, idsA, idsR, inH, hget, sameRow, viewN, tk]) ?_; simp only [frzS, frzT, hasN, delL, hdel, idsA, idsL, viewN, hget, List.map_cons, List.map_nil, List.all_cons, List.all_nil, List.append_nil, List.drop, List.getElem?_cons_zero, List.getElem?_cons_succ, Bool.not_false, Bool.not_true, Bool.and_true, if_true, if_false, simprocAttr]); (refine go_on ?_; (try simp only [push_cast, simprocAttr]))
        (refine at_retL ?_; simp only [Try.results47, retL, push_cast, simprocAttr]; simpa [show List.range 1 = [0] from rfl, show List.range 2 = [0, 1] from rfl, show List.range 3 = [0, 1, 2] from rfl, nmL, mvF, ndB, ixOf, rowsOf, hget, rdR, rowS, rowN, rowC] using  hfin)
      · have hfin : siteD z p 1800 (.agg [iA e, ndA t, cmA l]) [rdR z (v + 1)] [] := ⟨⟨e, t, l⟩, ⟨ht, hl⟩, rfl, ⟨_, rfl, by omega, by omega⟩, rfl⟩
        (try simp only [hb3, push_cast, simprocAttr])
        (refine at_retL ?_; simp only [Try.results47, retL, push_cast, simprocAttr]; simpa [show List.range 1 = [0] from rfl, show List.range 2 = [0, 1] from rfl, show List.range 3 = [0, 1, 2] from rfl, nmL, mvF, ndB, ixOf, rowsOf, hget, rdR, rowS, rowN, rowC] using  hfin)
end Go.Proofs.Ytdjglbedimpldaa
/-
  Walks: the sides that the laws draw.
-/
namespace Go.Proofs.Ytdjglbedimpldaa
open Go Go.RowKit Go.Proofs
def siteX (rv : AV) (rows : List Row) : Prop := ∃ s : St, StS s ∧ rv = stA' s ∧ rows = []
theorem BytesOk.tk {z : List Int} (h : BytesOk z) : BytesOk (z.take 2000) := ⟨by have := h.len; rw [List.length_take]; omega, fun n hn => h.by_ n (List.mem_of_mem_take hn)⟩
end Go.Proofs.Ytdjglbedimpldaa
/-
  Walks: a side's tree, twice; equality of trees and of logs by the laws' own loops.
-/
namespace Go.Proofs.Ytdjglbedimpldaa
open Go Go.RowKit Go.Proofs
theorem lap_site {s : St} (h : siteV s = true) : lap s.base s.log = (siteT s, ((apAll s.base s.log).2 : Int)) := by
  unfold siteT
  rw [if_pos h]
  simp only [siteV, Bool.and_eq_true] at h
  have hf := h.2
  simp only [fits, Bool.and_eq_true] at hf
  unfold lap
  rw [if_pos (by simp_all)]
attribute [local irreducible] RWp AW run kPe pe Kt effA gd gu br retR RDp runD kPeD brW gW effD
set_option maxRecDepth 100000
theorem ct_ext (a b : Ct) : a = b ↔ a.k = b.k ∧ a.v = b.v := by
  obtain ⟨a1, a2⟩ := a
  obtain ⟨b1, b2⟩ := b
  simp
theorem ndg : Try.prog.eqGuardType Try.prog.depth 67 = false := by kernel_rfl
theorem ndh : Try.prog.stoodInHeld 67 = false := by kernel_rfl
theorem sameNodes_pc (a b : List Nd) (hl : a.length < 4294967281) : PC Try.prog 28 [ndA a, ndA b] (vB (decide (a = b))) := by
  refine pc_enter Try.func28 rfl rfl fun w0 fb => go_on ?_; (try simp only [Try.ntmps28, push_cast, simprocAttr])
  refine at_b (fun hb => ?_) (fun hb => ?_)
  · have h1 := of_eqI_f (not_t hb)
    have h2 : a ≠ b := by rintro rfl; exact h1 rfl
    (try simp only [hb, push_cast, simprocAttr])
    refine at_ret ?_; simp only [Try.results28, push_cast, simprocAttr]
    simp [vX, h2]
  · have h1 : a.length = b.length := by have := of_eqI_t (not_f hb); omega
    (try simp only [hb, push_cast, simprocAttr])
    refine at_loop (X := Nat) (fun k => [(5, iA k)]) (fun _ => []) (fun k => k ≤ a.length ∧ decide (a = b) = decide (a.drop k = b.drop k)) (fun k => a.length - k) 0 ⟨Nat.zero_le _, rfl⟩ ?_ ?_
    · (refine wk_ok ?_ ?_ ?_ ?_ <;> simp [leL, leH, idsL, idsA, idsR, inH, hget, sameRow, upA, hvA, dsts, dstO, setA_0, setA_1, setA_8, List.append, List.cons_append, List.nil_append])
    · rintro k ⟨q1, q2⟩
      simp only [upA, hvA, dsts, dstO, setA_0, setA_1, setA_8, List.append, List.cons_append, List.nil_append]
      refine go_on ?_
      (try simp only [push_cast, simprocAttr])
      refine at_b (fun hg => ?_) (fun hg => ?_)
      · have hlt := lt_tt hg
        obtain ⟨x, hx⟩ := get_of_lt hlt
        obtain ⟨y, hy⟩ := get_of_lt (l := b) (k := k) (by omega)
        have i1 := ix_n hx
        have i3 := ix_n hy
        have i2 := map_get ndC hx
        have i4 := map_get ndC hy
        simp only [ndC] at i2 i4
        rw [drop_of_get hx, drop_of_get hy] at q2
        have w2 := wr ((k : Int) + 1) (by omega)
        (try simp only [hg, push_cast, simprocAttr])
        refine at_draw rfl (by kernel_rfl) ?_
        (try simp only [i1, i2, i3, i4, ctg, cth, ndg, ndh, push_cast, simprocAttr])
        refine at_done (by kernel_rfl) (by kernel_rfl) (go_on ?_)
        have e : (decide (x.p = y.p) && (eqI x.c.k y.c.k && eqI x.c.v y.c.v)) = decide (x = y) := by
          rw [Bool.eq_iff_iff]; simp [eqI_d, nd_ext, ct_ext]
        (try simp only [e, push_cast, simprocAttr])
        refine at_b (fun hn => ?_) (fun hn => ?_)
        · have hxy : x ≠ y := by simpa using hn
          (try simp only [hn, push_cast, simprocAttr])
          refine at_ret ?_; simp only [Try.results28, push_cast, simprocAttr]
          simp [vX, q2, hxy]
        · have hxy : x = y := by simpa using hn
          (try simp only [hn, w2, push_cast, simprocAttr])
          refine at_fin ⟨k + 1, ⟨by omega, ?_⟩, by omega, ?_⟩
          · rw [q2]; simp [hxy]
          · (refine wk_ok ?_ ?_ ?_ ?_ <;> simp [leL, leH, idsL, idsA, idsR, inH, hget, sameRow, upA, hvA, dsts, dstO, setA_0, setA_1, setA_8, List.append, List.cons_append, List.nil_append])
      · have h3 := lt_ff hg
        (try simp only [hg, push_cast, simprocAttr])
        refine at_ret ?_; simp only [Try.results28, push_cast, simprocAttr]
        rw [List.drop_of_length_le h3, List.drop_of_length_le (by omega)] at q2
        simp [vX, q2]
end Go.Proofs.Ytdjglbedimpldaa
/-
  Walks: what the drawn sides keep.
-/
namespace Go.Proofs.Ytdjglbedimpldaa
open Go Go.RowKit Go.Proofs
theorem StS.sm {s : St} (h : StS s) : SmS s := ⟨sm_tv ((tV_iff _).1 h.b), ⟨by have := h.l.n; omega, fun c hc => by have := h.l.p c hc; omega⟩⟩
theorem SmT2.n' {l : List Nd} (h : SmT2 l) : l.length < 4294967281 := by have := h.n; omega
theorem siteT_sm {s : St} (h : SmS s) : SmT2 (siteT s) := by
  unfold siteT
  split
  · exact apAll_sm _ _ h.t
  · exact ⟨⟨by simp, by simp⟩, by simp⟩
attribute [local irreducible] RWp AW run kPe pe Kt effA gd gu br retR RDp runD kPeD brW gW effD
set_option maxRecDepth 100000
end Go.Proofs.Ytdjglbedimpldaa
/-
  Walks: copies of sides; impl.CommandApply; equality of sides by the laws' own loops.
-/
namespace Go.Proofs.Ytdjglbedimpldaa
open Go Go.RowKit Go.Proofs
attribute [local irreducible] RWp AW run kPe pe Kt effA gd gu br retR RDp runD kPeD brW gW effD
set_option maxRecDepth 100000
theorem cloneLog_pc (l : List Cm) (hl : l.length < 4294967281) : PC Try.prog 35 [cmA l] (rX (.o 0 l.length) [rowC l]) := by
  refine pc_enter Try.func35 rfl rfl fun w0 fb => go_on ?_; (try simp only [Try.ntmps35, push_cast, simprocAttr])
  refine at_chk (by omega) ?_
  (try simp only [push_cast, simprocAttr])
  refine at_ret ?_; simp only [Try.results35, push_cast, simprocAttr]
  simp [rX, ixOf]
theorem clone_pc (s : St) (h1 : s.base.length < 4294967281) (h2 : s.log.length < 4294967281) : PC Try.prog 19 [stA' s] (rX (stO s) [rowN s.base, rowC s.log]) := by
  unfold stA' stC stO
  refine pc_enter Try.func19 rfl rfl fun w0 fb => go_on ?_; (try simp only [Try.ntmps19, push_cast, simprocAttr])
  refine at_draw rfl (by kernel_rfl) ?_; simp only [push_cast, simprocAttr]
  (refine at_callD (by simp [clB, idsL, idsA, hget]) ?_; (try simp only [push_cast, simprocAttr]); refine rcd_r (cloneTree_pc s.base h1) (by simp [flatV, flatL]) (flat_n _) (by simp [frB, baseOf]) ?_; (try simp only [push_cast, simprocAttr]))
  (refine at_callD (by simp [clB, idsL, idsA, hget]) ?_; (try simp only [push_cast, simprocAttr]); refine rcd_r (cloneLog_pc s.log h2) (by simp [flatV, flatL]) (flat_c _) (by simp [frB, baseOf]) ?_; (try simp only [push_cast, simprocAttr]))
  refine at_done (by kernel_rfl) (by kernel_rfl) (go_on ?_)
  (try simp only [push_cast, simprocAttr])
  refine at_ret ?_; simp only [Try.results19, push_cast, simprocAttr]
  simp [rX, ixOf]
theorem l41Copy_pc (s : St) (h1 : s.base.length < 4294967281) (h2 : s.log.length < 4294967281) : PC Try.prog 17 [stA' s] (rX (stO s) [rowN s.base, rowC s.log]) := by
  unfold stA' stC stO
  refine pc_enter Try.func17 rfl rfl fun w0 fb => go_on ?_; (try simp only [Try.ntmps17, push_cast, simprocAttr])
  refine at_draw rfl (by kernel_rfl) ?_; simp only [push_cast, simprocAttr]
  (try simp only [effD_app2, push_cast, simprocAttr])
  refine at_chkD (by omega) ?_
  (try simp only [effD_app2, push_cast, simprocAttr])
  refine at_chkD (by omega) ?_
  (try simp only [push_cast, simprocAttr])
  refine at_done (by kernel_rfl) (by kernel_rfl) (go_on ?_)
  (try simp only [push_cast, simprocAttr])
  refine at_ret ?_; simp only [Try.results17, push_cast, simprocAttr]
  simp [rX, ixOf]
theorem cmg : Try.prog.eqGuardType Try.prog.depth 70 = false := by kernel_rfl
theorem cmh : Try.prog.stoodInHeld 70 = false := by kernel_rfl
theorem sameLog_pc (a b : List Cm) (hl : a.length < 4294967281) : PC Try.prog 29 [cmA a, cmA b] (vB (decide (a = b))) := by
  refine pc_enter Try.func29 rfl rfl fun w0 fb => go_on ?_; (try simp only [Try.ntmps29, push_cast, simprocAttr])
  refine at_b (fun hb => ?_) (fun hb => ?_)
  · have h1 := of_eqI_f (not_t hb)
    have h2 : a ≠ b := by rintro rfl; exact h1 rfl
    (try simp only [hb, push_cast, simprocAttr])
    refine at_ret ?_; simp only [Try.results29, push_cast, simprocAttr]
    simp [vX, h2]
  · have h1 : a.length = b.length := by have := of_eqI_t (not_f hb); omega
    (try simp only [hb, push_cast, simprocAttr])
    refine at_loop (X := Nat) (fun k => [(5, iA k)]) (fun _ => []) (fun k => k ≤ a.length ∧ decide (a = b) = decide (a.drop k = b.drop k)) (fun k => a.length - k) 0 ⟨Nat.zero_le _, rfl⟩ ?_ ?_
    · (refine wk_ok ?_ ?_ ?_ ?_ <;> simp [leL, leH, idsL, idsA, idsR, inH, hget, sameRow, upA, hvA, dsts, dstO, setA_0, setA_1, setA_8, List.append, List.cons_append, List.nil_append])
    · rintro k ⟨q1, q2⟩
      simp only [upA, hvA, dsts, dstO, setA_0, setA_1, setA_8, List.append, List.cons_append, List.nil_append]
      refine go_on ?_
      (try simp only [push_cast, simprocAttr])
      refine at_b (fun hg => ?_) (fun hg => ?_)
      · have hlt := lt_tt hg
        obtain ⟨x, hx⟩ := get_of_lt hlt
        obtain ⟨y, hy⟩ := get_of_lt (l := b) (k := k) (by omega)
        have i1 := ix_n hx
        have i3 := ix_n hy
        have i2 := map_get cmC hx
        have i4 := map_get cmC hy
        simp only [cmC] at i2 i4
        rw [drop_of_get hx, drop_of_get hy] at q2
        have w2 := wr ((k : Int) + 1) (by omega)
        (try simp only [hg, push_cast, simprocAttr])
        refine at_draw rfl (by kernel_rfl) ?_
        (try simp only [i1, i2, i3, i4, ctg, cth, cmg, cmh, push_cast, simprocAttr])
        refine at_done (by kernel_rfl) (by kernel_rfl) (go_on ?_)
        have e : (decide (x.p = y.p) && ((eqI x.a.k y.a.k && eqI x.a.v y.a.v) && (eqI x.b.k y.b.k && eqI x.b.v y.b.v))) = decide (x = y) := by
          rw [Bool.eq_iff_iff]; simp [eqI_d, cm_ext, ct_ext]
        (try simp only [e, push_cast, simprocAttr])
        refine at_b (fun hn => ?_) (fun hn => ?_)
        · have hxy : x ≠ y := by simpa using hn
          (try simp only [hn, push_cast, simprocAttr])
          refine at_ret ?_; simp only [Try.results29, push_cast, simprocAttr]
          simp [vX, q2, hxy]
        · have hxy : x = y := by simpa using hn
          (try simp only [hn, w2, push_cast, simprocAttr])
          refine at_fin ⟨k + 1, ⟨by omega, ?_⟩, by omega, ?_⟩
          · rw [q2]; simp [hxy]
          · (refine wk_ok ?_ ?_ ?_ ?_ <;> simp [leL, leH, idsL, idsA, idsR, inH, hget, sameRow, upA, hvA, dsts, dstO, setA_0, setA_1, setA_8, List.append, List.cons_append, List.nil_append])
      · have h3 := lt_ff hg
        (try simp only [hg, push_cast, simprocAttr])
        refine at_ret ?_; simp only [Try.results29, push_cast, simprocAttr]
        rw [List.drop_of_length_le h3, List.drop_of_length_le (by omega)] at q2
        simp [vX, q2]
theorem sameSite_pc (a b : St) (h1 : a.base.length < 4294967281) (h2 : a.log.length < 4294967281) : PC Try.prog 15 [stA' a, stA' b] (vB (decide (a = b))) := by
  have hN := sameNodes_pc a.base b.base h1
  have hC := sameLog_pc a.log b.log h2
  unfold stA' stC
  refine pc_enter Try.func15 rfl rfl fun w0 fb => go_on ?_; (try simp only [Try.ntmps15, push_cast, simprocAttr])
  repeat' first | (refine at_b (fun hb => ?_) (fun hb => ?_) <;> simp only [hb, push_cast, simprocAttr]) | (refine at_ret ?_; simp only [Try.results15, push_cast, simprocAttr]) | (refine at_call ?_; (try simp only [push_cast, simprocAttr]); refine rwc_v (by first | exact hN | exact hC) (go_on ?_); simp only [push_cast, simprocAttr]) | (show RWp _ _ _ _ _; simp only [push_cast, simprocAttr])
  all_goals simp only [Bool.not_eq_true', Bool.not_eq_false', eqI_d, decide_eq_true_eq, decide_eq_false_iff_not] at *
  all_goals simp [vX, st_ext a b, *]
end Go.Proofs.Ytdjglbedimpldaa
/-
  The abstract machine: what a call leaves, read as data.
-/
namespace Go.Proofs.Ytdjglbedimpldaa
open Go Go.RowKit
theorem PC.frzX {P : Program} {f : FuncId} {args : List AV} {x : AV} {rows : List Row} (h : PC P f args (rX x rows)) : PC P f args (vX (viewN 3 (hpOf 0 rows) x)) :=
  h.frz fun rv rs ⟨e1, e2⟩ => by subst e1; subst e2; exact ⟨rfl, rfl⟩
/-- What is known less. -/
theorem PC.less {P : Program} {f : FuncId} {args : List AV} {x y : AV} (h : PC P f args (vX x)) (hxy : ∀ h loc w v, G h loc w x v → G h loc w y v) : PC P f args (vX y) := by
  refine ⟨h.1, fun w fb vs h1 h2 h3 => (h.2 w fb vs h1 h2 h3).mono ?_⟩
  rintro e w' ⟨rv, rows', v, ⟨rfl, rfl⟩, rfl, hb, loc, hfb, hg, hrest⟩
  exact ⟨_, [], v, ⟨rfl, rfl⟩, rfl, hb, loc, hfb, hxy _ _ _ _ hg, hrest⟩
theorem G.nil2 {h : Hp} {loc : Loc} {w : World} {v : Value} {n : Nat} (hg : G h loc w (.v (.slice none 0 0)) v) : G h loc w (.sl n []) v := by
  rw [hg.v_inv]
  exact .cl (.nilsl _)
theorem G.agg2 {h : Hp} {loc : Loc} {w : World} {v : Value} {l l' : List AV} (hg : G h loc w (.agg l) v) (hl : l'.length = l.length) (hh : ∀ (j : Nat) x y u, l[j]? = some x → l'[j]? = some y → G h loc w x u → G h loc w y u) : G h loc w (.agg l') v := by
  obtain ⟨vs, rfl, hs, hgs⟩ := hg.agg_inv
  refine .agg vs (by omega) fun j a ha => ?_
  have hj := lt_of_some ha
  obtain ⟨x, hx⟩ : ∃ x, l[j]? = some x := ⟨_, List.getElem?_eq_getElem (show j < l.length by omega)⟩
  exact hh j x a _ hx ha (hgs j x hx)
theorem G.tup2 {h : Hp} {loc : Loc} {w : World} {v : Value} {l l' : List AV} (hg : G h loc w (.tup l) v) (hl : l'.length = l.length) (hh : ∀ (j : Nat) x y u, l[j]? = some x → l'[j]? = some y → G h loc w x u → G h loc w y u) : G h loc w (.tup l') v := by
  obtain ⟨vs, rfl, hs, hgs⟩ := hg.tup_inv
  refine .tup vs (by omega) fun j a ha => ?_
  have hj := lt_of_some ha
  obtain ⟨x, hx⟩ : ∃ x, l[j]? = some x := ⟨_, List.getElem?_eq_getElem (show j < l.length by omega)⟩
  exact hh j x a _ hx ha (hgs j x hx)
theorem PC.args {P : Program} {f : FuncId} {args args' : List AV} {D : AV → List Row → Prop} (h : PC P f args D) (hl : args'.length = args.length)
    (hc : ∀ (j : Nat) x y, args'[j]? = some x → args[j]? = some y → ∀ lv w u, C lv 0 w x u → C lv 0 w y u) : PC P f args' D :=
  ⟨h.1, fun w fb vs h1 h2 h3 => h.2 w fb vs h1 (by omega) fun j y hy => by
    have hj := lt_of_some hy
    exact hc j _ y (List.getElem?_eq_getElem (show j < args'.length by omega)) hy _ _ _ (h3 j _ (List.getElem?_eq_getElem (show j < args'.length by omega)))⟩
end Go.Proofs.Ytdjglbedimpldaa
/-
  Walks: SiteDo, twice.
-/
namespace Go.Proofs.Ytdjglbedimpldaa
open Go Go.RowKit Go.Proofs
/-- What SiteDo leaves where its arguments are valid. -/
def doR (s : St) (c : Cm) : AV → List Row → Prop := rX (.tup [stO (siteDo s c).1, bA (siteDo s c).2]) [rowN (siteDo s c).1.base, rowC (siteDo s c).1.log]
def st00 : AV := .agg [iA 0, .v (.slice none 0 0), .v (.slice none 0 0)]
theorem SiteDo_bad {s : St} {c : Cm} (h : (siteV s && cmV c) = false) : siteDo s c = (st0, false) := by unfold siteDo; rw [if_neg (by simp [h])]
theorem cap2_do {s : St} {c : Cm} (h : siteV s = true) (hc : cmV c = true) : (cap2 (siteT s) c).2 = (apC (siteT s) c).isSome := by
  have ht := (law_siteTree h).2.2
  unfold cap2
  rw [if_pos (by simp [ht, hc])]
  unfold apB2
  cases apC (siteT s) c <;> rfl
theorem do_ok {s : St} {c : Cm} (h : siteV s = true) (hc : cmV c = true) (h1 : (apC (siteT s) c).isSome = true) (h2 : s.log.length ≠ 20) : siteDo s c = (⟨s.ep, s.base, s.log ++ [c]⟩, true) := by
  unfold siteDo; rw [if_pos (by simp [h, hc]), if_pos (by simp [h1, h2])]
theorem do_no {s : St} {c : Cm} (h : siteV s = true) (hc : cmV c = true) (h1 : (apC (siteT s) c).isSome = false ∨ s.log.length = 20) : siteDo s c = (s, false) := by
  unfold siteDo; rw [if_pos (by simp [h, hc]), if_neg (by rcases h1 with h1 | h1 <;> simp [h1])]
attribute [local irreducible] RWp AW run kPe pe Kt effA gd gu br retR RDp runD kPeD brW gW effD
set_option maxRecDepth 100000
theorem nil_st0 {h : Hp} {loc : Loc} {w : World} {v : Value} (hg : G h loc w st00 v) : G h loc w (stA' st0) v := by
  refine hg.agg2 rfl fun j x y u h1 h2 h3 => ?_
  rcases j with _ | _ | _ | j
  · cases h1; cases h2; exact h3
  · cases h1; cases h2; exact h3.nil2
  · cases h1; cases h2; exact h3.nil2
  · cases h1
end Go.Proofs.Ytdjglbedimpldaa
/-
  Walks: spec.SiteDo.
-/
namespace Go.Proofs.Ytdjglbedimpldaa
open Go Go.RowKit Go.Proofs
theorem siteV_add {s : St} {c : Cm} (hv : siteV s = true) (hc : cmV c = true) : siteV ⟨s.ep, s.base, s.log ++ [c]⟩ = ((apC (siteT s) c).isSome && decide (s.log.length ≠ 20)) := by
  obtain ⟨t, L, hs⟩ := (siteV_iff s).1 hv
  rw [Bool.eq_iff_iff, Bool.and_eq_true, decide_eq_true_eq, hs.T]
  constructor
  · intro h
    obtain ⟨t', L', h'⟩ := (siteV_iff _).1 h
    have h1 := apAll_append_inv hs.ap h'.ap
    obtain ⟨t1, h2, _⟩ := apAll_cons h1
    have h3 := lV_len h'.lv
    simp only [List.length_append, List.length_singleton] at h3
    exact ⟨by rw [h2]; rfl, by omega⟩
  · rintro ⟨h1, h2⟩
    cases hx : apC t c with
    | none => rw [hx] at h1; cases h1
    | some x =>
      obtain ⟨L', h3⟩ := hs.add ((cmV_iff c).1 hc) hx h2
      exact h3.v
attribute [local irreducible] RWp AW run kPe pe Kt effA gd gu br retR RDp runD kPeD brW gW effD
set_option maxRecDepth 100000
end Go.Proofs.Ytdjglbedimpldaa
/-
  The abstract machine: a region that draws its order, one call within that borrows rows.
-/
namespace Go.Proofs.Ytdjglbedimpldaa
open Go Go.RowKit

section
variable {P : Program}
theorem fo_none {V : Nat → Bool} : ∀ (l : List E) (k : Nat) (s : AS), (∀ j, k ≤ j → j < k + l.length → V j = false) → fo V k l s = s
  | [], _, _, _ => rfl
  | e :: l, k, s, h => by
    simp only [fo]
    rw [if_neg (by rw [h k (Nat.le_refl _) (by simp)]; simp)]
    exact fo_none l (k + 1) s fun j h1 h2 => h j (by omega) (by simp only [List.length_cons]; omega)
theorem fo_append {V : Nat → Bool} : ∀ (l l' : List E) (k : Nat) (s : AS), fo V k (l ++ l') s = fo V (k + l.length) l' (fo V k l s)
  | [], l', k, s => by simp [fo]
  | e :: l, l', k, s => by
    simp only [List.cons_append, fo, List.length_cons]
    rw [fo_append l l' (k + 1), show k + 1 + l.length = k + (l.length + 1) from by omega]
theorem anc_facts {ops : List Oper} (hbk : bkB ops 0 = true) : (∀ i j, Anc ops i j → j < i) ∧ (∀ (i : Nat) o, ops[i]? = some o → ∀ j, j ∈ waitsFor ops i → ∃ e ∈ o.after, Region.binds .any e = true ∧ e.on = j) := by
  have hback := bkB_spec ops 0 hbk
  have hwait : ∀ (i : Nat) o, ops[i]? = some o → ∀ j, j ∈ waitsFor ops i → ∃ e ∈ o.after, Region.binds .any e = true ∧ e.on = j := fun i o ho j hj => (waits_mem ho j).1 hj
  refine ⟨fun i j hA => ?_, hwait⟩
  have h1 : ∀ i k, k ∈ waitsFor ops i → k < i := fun i k hk => by
    unfold waitsFor at hk
    cases ho : ops[i]? with
    | none => rw [ho] at hk; cases hk
    | some o =>
      obtain ⟨e, he, hbe, rfl⟩ := hwait i o ho k (by unfold waitsFor; rw [ho]; rw [ho] at hk; exact hk)
      have := hback i o ho e he hbe
      omega
  induction hA with
  | dir h => exact h1 _ _ h
  | tr h _ ih => have := h1 _ _ h; omega
/-- An event that is to come: what it reads is as the text says, and it may stand in its place. -/
theorem hop_law {ops : List Oper} {s : AS} {evs : List E} (hlen : evs.length ≤ ops.length) (hbk : bkB ops 0 = true) (hpr : prB evs (mks ops []) evs 0 = true) (hkc : kcB ops s evs = true)
    (listed : Nat → Bool) (hclo : ∀ i j, listed i = true → Anc ops i j → listed j = true) {i : Nat} {e : E} (hei : evs[i]? = some e) (hli' : listed i = false) (hanc : ∀ j, Anc ops i j → listed j = true)
    (hvals : e.vals = e.rd.map (getA (fo (fun j => decide (j < i)) 0 evs s).t)) {V' : Nat → Bool} (hset : ∀ j, V' j = if j = i then true else listed j) :
    Sees e (fo (fun j => decide (j < i)) 0 evs s) (fo listed 0 evs s) ∧ Eqv (fo V' 0 evs s) (e.ap (fo listed 0 evs s)) := by
  obtain ⟨hlt, hwait⟩ := anc_facts hbk
  obtain ⟨hml, hmk⟩ := mks_spec ops ops [] (fun i o h => by simpa using h) (fun i k h => by simp at h)
  obtain ⟨evs', hsub, hfo, hcov, hkill⟩ := kc_cut hkc
  -- pairs that lie apart
  have hpair : ∀ (i j : Nat) e f, i < j → evs[i]? = some e → evs[j]? = some f → ¬ Anc ops j i → okE e f = true ∧ siB e f = true ∧ siB f e = true := fun i j e f hij hi hj hna => by
    have hjl : j < (mks ops []).length := by
      have := lt_of_some hj
      rw [hml, List.length_nil, Nat.zero_add]; omega
    rcases prB_spec evs (mks ops []) evs 0 hpr j i _ f e (List.getElem?_eq_getElem hjl) hj (by omega) hi with h1 | h1
    · exact absurd (hmk j i (by rw [List.getD_eq_getElem?_getD, List.getElem?_eq_getElem hjl]; exact h1)) hna
    · exact h1
  classical
  have hsees : Sees e (fo (fun j => decide (j < i)) 0 evs s) (fo listed 0 evs s) := by
    let A : Nat → Bool := fun j => decide (Anc ops i j)
    have hsplit : ∀ V : Nat → Bool, (∀ j, A j = true → V j = true) → Eqv (fo V 0 evs s) (fo (fun j => V j && !A j) 0 evs (fo A 0 evs s)) := fun V hV =>
      fo_split evs 0 s hV fun p q ep eq hp hq hpq _ h2 h3 => by
        simp only [Nat.zero_add, A, decide_eq_true_eq, decide_eq_false_iff_not] at h2 h3
        exact (hpair p q ep eq hpq hp hq fun hA => h2 (h3.trans hA)).1
    have hA0 : A (evs.length - 1) = false := by
      have hie : i < evs.length := lt_of_some hei
      refine decide_eq_false fun hA => ?_
      have := hlt i _ hA
      omega
    have hi0 : (fun j => decide (j < i) && !A j) (evs.length - 1) = false := by
      have hie : i < evs.length := lt_of_some hei
      simp only [Bool.and_eq_false_iff, decide_eq_false_iff_not]
      exact .inl (by omega)
    have hl0 : evs' = evs ∨ (fun j => listed j && !A j) (evs.length - 1) = false := by
      refine hcov.imp (fun h => h) fun hc => ?_
      have hie : i < evs.length := lt_of_some hei
      simp only [Bool.and_eq_false_iff]
      refine .inl ?_
      rcases Nat.lt_or_ge i (evs.length - 1) with h1 | h1
      · rw [← Bool.not_eq_true]
        intro hL
        have := hclo _ i hL (hc i h1)
        rw [hli'] at this
        cases this
      · rw [show evs.length - 1 = i from by omega]; exact hli'
    have hkA : (∀ f ∈ evs', f.kill = none) ∨ (clH (fo A 0 evs' s).h ∧ ∀ f ∈ evs', f.add.all (·.2.cl) = true) := by
      rcases hkill with h | ⟨h1, h2⟩
      · exact .inl h
      · refine .inr ⟨?_, h2⟩
        have : ∀ (l : List E) (k : Nat) (s : AS), clH s.h → (∀ f ∈ l, f.add.all (·.2.cl) = true) → clH (fo A k l s).h := by
          intro l
          induction l with
          | nil => intro k s h _; exact h
          | cons f l ih =>
            intro k s h hf
            simp only [fo]
            refine ih (k + 1) _ ?_ fun g hg => hf g (List.mem_cons_of_mem _ hg)
            split
            · exact clH_ap h (hf f List.mem_cons_self)
            · exact h
        exact this evs' 0 s h1 h2
    have e1 := hsplit (fun j => decide (j < i)) fun j hj => by simp only [A, decide_eq_true_eq] at hj ⊢; exact hlt i j hj
    have e2 := hsplit listed fun j hj => by simp only [A, decide_eq_true_eq] at hj; exact hanc j hj
    have s1 : Sees e (fo A 0 evs s) (fo (fun j => decide (j < i) && !A j) 0 evs (fo A 0 evs s)) := by
      rw [hfo (fun j => decide (j < i) && !A j) _ (.inr hi0), hfo A s (.inr hA0)]
      refine sees_bwd evs' 0 _ (by rw [← hfo A s (.inr hA0), ← hfo (fun j => decide (j < i) && !A j) _ (.inr hi0), ← e1.1]; exact hvals) (fun j f hf hj => ?_) hkA
      replace hf := hsub j f hf
      simp only [Nat.zero_add, A, Bool.and_eq_true, decide_eq_true_eq, Bool.not_eq_true', decide_eq_false_iff_not] at hj
      exact (hpair j i f e hj.1 hf hei hj.2).2.1
    have hvA : e.vals = e.rd.map (getA (fo A 0 evs s).t) := by
      rw [hvals, e1.1]
      exact List.map_congr_left fun q hq => (s1.1 q hq).symm
    have s2 : Sees e (fo A 0 evs s) (fo (fun j => listed j && !A j) 0 evs (fo A 0 evs s)) := by
      rw [hfo (fun j => listed j && !A j) _ hl0, hfo A s (.inr hA0)]
      refine sees_fwd evs' 0 _ (by rw [← hfo A s (.inr hA0)]; exact hvA) (fun j f hf hj => ?_) hkA
      replace hf := hsub j f hf
      simp only [Nat.zero_add, A, Bool.and_eq_true, Bool.not_eq_true', decide_eq_false_iff_not] at hj
      rcases Nat.lt_trichotomy j i with h1 | h1 | h1
      · exact (hpair j i f e h1 hf hei hj.2).2.1
      · subst h1; rw [hli'] at hj; cases hj.1
      · exact (hpair i j e f h1 hei hf fun hA => by have := hclo j i hj.1 hA; rw [hli'] at this; cases this).2.2
    exact ⟨fun q hq => by rw [e1.1, e2.1]; exact (s1.1 q hq).symm.trans (s2.1 q hq), fun r hr => by rw [e1.2, e2.2]; exact (s1.2 r hr).symm.trans (s2.2 r hr)⟩
  refine ⟨hsees, fo_ins evs 0 s (Nat.zero_le _) (by simpa using hei) hli' hset fun j f hf hj hsel => ?_⟩
  simp only [Nat.zero_add] at hj hsel
  exact (hpair i j e f hj hei hf fun hA => by have := hclo j i hsel hA; rw [hli'] at this; cases this).1

/-- What stands behind the call waits for it. -/
def afB (c : Nat) : List Nat → Nat → Bool
  | [], _ => true
  | m :: l, j => (decide (j ≤ c) || m.testBit c) && afB c l (j + 1)
theorem afB_spec (c : Nat) : ∀ (l : List Nat) (j : Nat), afB c l j = true → ∀ (q : Nat) m, l[q]? = some m → c < j + q → m.testBit c = true
  | [], _, _, q, m, h, _ => by simp at h
  | m0 :: l, j, hb, q, m, h, hc => by
    simp only [afB, Bool.and_eq_true, Bool.or_eq_true, decide_eq_true_eq] at hb
    cases q with
    | zero => simp at h; subst h; exact hb.1.resolve_left (by omega)
    | succ q => exact afB_spec c l (j + 1) hb.2 q m (by simpa using h) (by omega)

variable {w0 : World} {lent : Lent} {Q : Exit → Act → World → Prop}
/-- What such a call asks, and what it gives back. -/
structure LendC (P : Program) (w0 : World) (lent : Lent) (o : SO) (s1 : AS) {X : Type} (ok : X → Prop) (ec : X → E) (e0 : E) : Prop where
  g : o.g = none
  rd : e0.vals = e0.rd.map (getA s1.t)
  same : ∀ x, ok x → (ec x).rd = e0.rd ∧ (ec x).vals = e0.vals
  wp : ∀ s', Sees e0 s1 s' → ∀ loc a w, Rel w0 lent s' loc a w → ∀ (N : Act → World → Prop) (Qx : Exit → Act → World → Prop), (∀ x, ok x → ∀ loc' a' w', Rel w0 lent ((ec x).ap s') loc' a' w' → N a' w') → o.oper.wp P a w N Qx

theorem drawL_sound (hm : P.follows .mixedOrders = true) {id : Nat} {ops : List Oper} {k : List It} {s : AS} (c : Nat) {oc : Oper} (hc : ops[c]? = some oc) (hbk : bkB ops 0 = true) (haf : afB c (mks ops []) 0 = true)
    (h : DP P (fun evs s1 => ∃ (X : Type) (ok : X → Prop) (ec : X → E) (e0 : E), LendC P w0 lent (cmpO ops oc) s1 ok ec e0 ∧ prB (evs ++ [e0]) (mks ops []) (evs ++ [e0]) 0 = true ∧ kcB ops s (evs ++ [e0]) = true ∧
      ∀ x, ok x → DP P (fun evs' s' => prB evs' (mks ops []) evs' 0 = true ∧ kcB ops s evs' = true ∧ AW P w0 lent Q k s') ((ops.drop (c + 1)).map (cmpO ops)) (evs ++ [ec x]) ((ec x).ap s1)) ((ops.take c).map (cmpO ops)) [] s) :
    AW P w0 lent Q (.code (.region id ⟨ops⟩ true) :: k) s := by
  obtain ⟨pre, hlp, hsp, X, ok, ec, e0, hL, hpr0, hkc0, hpost⟩ := DP_ex _ _ _ h
  rw [List.nil_append] at hpr0 hkc0 hpost
  have hcl : c < ops.length := lt_of_some hc
  rw [List.length_map, List.length_take, Nat.min_eq_left (by omega)] at hlp
  obtain ⟨hlt, hwait⟩ := anc_facts hbk
  obtain ⟨hml, hmk⟩ := mks_spec ops ops [] (fun i o h => by simpa using h) (fun i k h => by simp at h)
  have hback := bkB_spec ops 0 hbk
  have hAc : ∀ j, c < j → j < ops.length → Anc ops j c := fun j h1 h2 => by
    have hj : j < (mks ops []).length := by rw [hml]; simpa using h2
    have := afB_spec c _ 0 haf j _ (List.getElem?_eq_getElem hj) (by omega)
    exact hmk j c (by rw [List.getD_eq_getElem?_getD, List.getElem?_eq_getElem hj]; exact this)
  let F : X → List E → Prop := fun x post => ok x ∧ post.length = ops.length - (c + 1) ∧ (∀ (i : Nat) o e, ((ops.drop (c + 1)).map (cmpO ops))[i]? = some o → post[i]? = some e → Sp P (apL (post.take i) ((ec x).ap (apL pre s))) o e) ∧
    prB (pre ++ ec x :: post) (mks ops []) (pre ++ ec x :: post) 0 = true ∧ kcB ops s (pre ++ ec x :: post) = true ∧ AW P w0 lent Q k (apL post ((ec x).ap (apL pre s)))
  have hF : ∀ x, ok x → ∃ post, F x post := fun x hx => by
    obtain ⟨post, g1, g2, g3, g4, g5⟩ := DP_ex _ _ _ (hpost x hx)
    rw [List.append_assoc, List.singleton_append] at g3 g4
    exact ⟨post, hx, by rw [g1, List.length_map, List.length_drop], g2, g3, g4, g5⟩
  have apL_app : ∀ (l l' : List E) (s : AS), apL (l ++ l') s = apL l' (apL l s) := by
    intro l
    induction l with
    | nil => intro l' s; rfl
    | cons e l ih => intro l' s; exact ih l' _
  -- the law of an event of those that the text knows
  have hspE : ∀ x post, F x post → ∀ (i : Nat) o e, i ≠ c → ops[i]? = some o → (pre ++ ec x :: post)[i]? = some e → Sp P (apL ((pre ++ ec x :: post).take i) s) (cmpO ops o) e := fun x post hf i o e hne ho he => by
    rcases Nat.lt_or_ge i c with h1 | h1
    · rw [List.take_append_of_le_length (by omega)]
      rw [List.getElem?_append_left (by omega)] at he
      exact hsp i _ e (by rw [List.getElem?_map, List.getElem?_take, if_pos h1, ho]; rfl) he
    · obtain ⟨q, rfl⟩ : ∃ q, i = c + 1 + q := ⟨i - (c + 1), by omega⟩
      have e1 : (pre ++ ec x :: post).take (c + 1 + q) = pre ++ ec x :: post.take q := by
        rw [List.take_append, List.take_of_length_le (by omega), show c + 1 + q - pre.length = q + 1 from by omega, List.take_succ_cons]
      rw [e1, apL_app]
      rw [List.getElem?_append_right (by omega), show c + 1 + q - pre.length = q + 1 from by omega, List.getElem?_cons_succ] at he
      exact hf.2.2.1 q _ e (by rw [List.getElem?_map, List.getElem?_drop, ho]; rfl) he
  have hlenE : ∀ x post, F x post → (pre ++ ec x :: post).length = ops.length := fun x post hf => by
    rw [List.length_append, List.length_cons, hf.2.1]; omega
  -- before the call: the events are those ahead of it
  have hpre0 : ∀ (V : Nat → Bool) (l : List E), (∀ j, c ≤ j → j < c + l.length → V j = false) → fo V 0 (pre ++ l) s = fo V 0 pre s := fun V l hV => by
    rw [fo_append, fo_none l _ _ fun j h1 h2 => hV j (by omega) (by omega)]
  have hapc : ∀ l : List E, fo (fun j => decide (j < c)) 0 (pre ++ l) s = apL pre s := fun l => by
    have := apL_fo (pre ++ l) 0 c s
    rw [List.take_append_of_le_length (by omega), List.take_of_length_le (by omega), Nat.zero_add] at this
    exact this.symm
  intro loc a w hR
  refine wp_region_any (ops := ops.toArray) hm (wpAny_inv (fun listed a w => (∀ i j, listed.getD i false = true → Anc ops i j → listed.getD j false = true) ∧
      ((listed.getD c false = false ∧ ∃ loc, Rel w0 lent (fo (fun i => listed.getD i false) 0 (pre ++ [e0]) s) loc a w) ∨
       (listed.getD c false = true ∧ ∃ x post, F x post ∧ ∃ loc, Rel w0 lent (fo (fun i => listed.getD i false) 0 (pre ++ ec x :: post) s) loc a w))) (fun i o ho e he hbe => ?_)
    (fun listed a w i o hsz hJ ho hli hpre => ?_) (fun listed a w hsz hall hJ => ?_) _ _ _ _ (by simp) (by simp) ⟨fun i j hi _ => ?_, .inl ⟨?_, loc, ?_⟩⟩)
  · have := hback i o (by simpa using ho) e he hbe
    omega
  · obtain ⟨hclo, hJ⟩ := hJ
    have ho' : ops[i]? = some o := by simpa using ho
    have hil : i < ops.length := lt_of_some ho'
    have hil2 : i < listed.size := by rw [hsz]; simpa using hil
    have hli' : listed.getD i false = false := by
      rw [Array.getD_eq_getD_getElem?] at hli ⊢
      rw [Array.getElem?_eq_getElem hil2] at hli ⊢
      exact hli
    have hset : ∀ j, (listed.setIfInBounds i true).getD j false = if j = i then true else listed.getD j false := fun j => by
      rw [Array.getD_eq_getD_getElem?, Array.getElem?_setIfInBounds]
      by_cases hj : i = j
      · subst hj; simp [hil2]
      · rw [if_neg hj, if_neg (fun e => hj e.symm), Array.getD_eq_getD_getElem?]
    have hanc : ∀ j, Anc ops i j → listed.getD j false = true := fun j hA => by
      cases hA with
      | dir h => obtain ⟨e', he', hb, rfl⟩ := hwait i o ho' j h; exact hpre e' he' hb
      | tr h h2 => obtain ⟨e', he', hb, e2⟩ := hwait i o ho' _ h; exact hclo _ j (by rw [← e2]; exact hpre e' he' hb) h2
    have hclo' : ∀ p q, (listed.setIfInBounds i true).getD p false = true → Anc ops p q → (listed.setIfInBounds i true).getD q false = true := fun p q hp hA => by
      rw [hset] at hp ⊢
      split
      · rfl
      · split at hp
        · rename_i e'; subst e'; exact hanc q hA
        · exact hclo p q hp hA
    -- one operation that the text knows
    have step : ∀ {s' : AS} {e : E} {loc : Loc} {R : Act → World → Prop}, Rel w0 lent s' loc a w → Sp P s' (cmpO ops o) e → (∀ loc' a' w', Rel w0 lent (e.ap s') loc' a' w' → R a' w') → wpOp P ops.toArray (fun e a w => Kt P w0 lent Q k e a w) i R a w := fun {s' e loc R} hR hSp hN => by
      unfold wpOp
      rw [ho]
      simp only
      cases hSp with
      | run hg hex =>
        rw [if_pos (wanted_gV hR ops o true hg)]
        left
        rw [← oper_wp o ops]
        exact hex.sound hR fun loc' a' w' hR' => hN loc' a' w' hR'
      | skip hg =>
        rw [if_neg (by rw [wanted_gV hR ops o false hg]; simp)]
        exact hN loc _ _ (hR.put o.dst (u := undef) (.cl .v))
    rcases hJ with ⟨hcf, loc, hR⟩ | ⟨hct, x, post, hf, loc, hR⟩
    · have hic : i ≤ c := by
        rcases Nat.lt_or_ge c i with h1 | h1
        · have := hanc c (hAc i h1 hil)
          rw [hcf] at this; cases this
        · exact h1
      have hl0 : (pre ++ [e0]).length ≤ ops.length := by simp only [List.length_append, List.length_cons, List.length_nil, hlp]; omega
      rcases Nat.lt_or_eq_of_le hic with hic | hic
      · have hei : (pre ++ [e0])[i]? = some (pre[i]'(by omega)) := by rw [List.getElem?_append_left (by omega)]; exact List.getElem?_eq_getElem (by omega)
        generalize pre[i]'(by omega) = e at hei
        have hSp : Sp P (apL ((pre ++ [e0]).take i) s) (cmpO ops o) e := by
          rw [List.take_append_of_le_length (by omega)]
          rw [List.getElem?_append_left (by omega)] at hei
          exact hsp i _ e (by rw [List.getElem?_map, List.getElem?_take, if_pos hic, ho']; rfl) hei
        rw [apL_fo (pre ++ [e0]) 0 i s, Nat.zero_add] at hSp
        obtain ⟨hs, hi⟩ := hop_law hl0 hbk hpr0 hkc0 (fun j => listed.getD j false) hclo hei hli' hanc hSp.rv.2 hset
        exact step hR (hSp.frame hs) fun loc' a' w' hR' => ⟨hclo', .inl ⟨by rw [hset, if_neg (by omega)]; exact hcf, loc', hR'.eqv hi.symm⟩⟩
      · subst hic
        have hoc : o = oc := by rw [ho'] at hc; exact Option.some.inj hc
        subst hoc
        have hei : (pre ++ [e0])[i]? = some e0 := by rw [List.getElem?_append_right (by omega), hlp, Nat.sub_self]; rfl
        have hv0 : e0.vals = e0.rd.map (getA (fo (fun j => decide (j < i)) 0 (pre ++ [e0]) s).t) := by rw [hapc]; exact hL.rd
        obtain ⟨hs, _⟩ := hop_law hl0 hbk hpr0 hkc0 (fun j => listed.getD j false) hclo hei hli' hanc hv0 hset
        rw [hapc] at hs
        have hfalse : ∀ j, i ≤ j → j < ops.length → listed.getD j false = false := fun j h1 h2 => by
          cases hj : listed.getD j false with
          | false => rfl
          | true =>
            rcases Nat.lt_or_eq_of_le h1 with h3 | h3
            · have := hclo j i hj (hAc j h3 h2); rw [hcf] at this; cases this
            · subst h3; rw [hcf] at hj; cases hj
        unfold wpOp
        rw [ho]
        simp only
        rw [if_pos (wanted_gV hR ops o true (by rw [hL.g]; rfl))]
        left
        rw [← oper_wp o ops]
        refine hL.wp _ hs loc a w hR _ _ fun x hx loc' a' w' hR' => ?_
        obtain ⟨post, hf⟩ := hF x hx
        refine ⟨hclo', .inr ⟨by rw [hset, if_pos rfl], x, post, hf, loc', hR'.eqv ?_⟩⟩
        have hei' : (pre ++ ec x :: post)[i]? = some (ec x) := by rw [List.getElem?_append_right (by omega), hlp, Nat.sub_self]; rfl
        have hlE := hlenE x post hf
        have hv : (ec x).vals = (ec x).rd.map (getA (fo (fun j => decide (j < i)) 0 (pre ++ ec x :: post) s).t) := by rw [hapc, (hL.same x hx).1, (hL.same x hx).2]; exact hL.rd
        obtain ⟨_, hi⟩ := hop_law (by omega) hbk hf.2.2.2.1 hf.2.2.2.2.1 (fun j => listed.getD j false) hclo hei' hli' hanc hv hset
        rw [hpre0 _ (ec x :: post) fun j h1 h2 => hfalse j h1 (by rw [List.length_append] at hlE; omega)] at hi
        rw [hpre0 _ [e0] fun j h1 h2 => hfalse j h1 (by simp at h2; omega)]
        exact hi.symm
    · have hne : i ≠ c := by rintro rfl; rw [hct] at hli'; cases hli'
      have hlE := hlenE x post hf
      have hei : (pre ++ ec x :: post)[i]? = some ((pre ++ ec x :: post)[i]'(by omega)) := List.getElem?_eq_getElem (by omega)
      generalize (pre ++ ec x :: post)[i]'(by omega) = e at hei
      have hSp := hspE x post hf i o e hne ho' hei
      rw [apL_fo (pre ++ ec x :: post) 0 i s, Nat.zero_add] at hSp
      obtain ⟨hs, hi⟩ := hop_law (by omega) hbk hf.2.2.2.1 hf.2.2.2.2.1 (fun j => listed.getD j false) hclo hei hli' hanc hSp.rv.2 hset
      exact step hR (hSp.frame hs) fun loc' a' w' hR' => ⟨hclo', .inr ⟨by rw [hset, if_neg (fun e => hne e.symm)]; exact hct, x, post, hf, loc', hR'.eqv hi.symm⟩⟩
  · obtain ⟨_, hJ⟩ := hJ
    rcases hJ with ⟨hcf, _⟩ | ⟨_, x, post, hf, loc, hR⟩
    · have := hall c (by simpa using hcl)
      rw [hcf] at this; cases this
    · have hlE := hlenE x post hf
      have : fo (fun i => listed.getD i false) 0 (pre ++ ec x :: post) s = apL (pre ++ ec x :: post) s := by
        have h1 := apL_fo (pre ++ ec x :: post) 0 (pre ++ ec x :: post).length s
        rw [List.take_length] at h1
        rw [h1]
        exact fo_congr _ 0 s fun j _ hj => by
          rw [hall j (by simpa [← hlE] using hj)]
          simpa using hj
      rw [this, apL_app] at hR
      exact hf.2.2.2.2.2 loc a w hR
  · simp [Array.getD_eq_getD_getElem?, Array.getElem?_replicate] at hi
    by_cases h : i < ops.length <;> simp [h] at hi
  · simp [Array.getD_eq_getD_getElem?, Array.getElem?_replicate, hcl]
  · have h0 : fo (fun i => (Array.replicate ops.toArray.size false).getD i false) 0 (pre ++ [e0]) s = s := by
      refine fo_none _ _ _ fun j _ _ => ?_
      simp [Array.getD_eq_getD_getElem?, Array.getElem?_replicate]
      by_cases h : j < ops.length <;> simp [h]
    rw [h0]
    exact hR.grow (Below.refl _ _).drew
end

end Go.Proofs.Ytdjglbedimpldaa
/-
  The abstract machine: a drawn region with one call that borrows a row, run as its text stands.
-/
namespace Go.Proofs.Ytdjglbedimpldaa
open Go Go.RowKit

section
variable {P : Program} {w0 : World} {lent : Lent} {Q : Exit → Act → World → Prop}
theorem lendC_of {o : SO} {s1 : AS} {f : Operand} {xs : List Operand} {ts : Array TypeId} {g : FuncId} {caps : List AV} {q : Nat} {r0 : Row} {D : AV → List Row → List Row → Prop} (hg : o.g = none)
    (ho : o.op = .call ⟨.value f, ⟨xs⟩, ts⟩) (hpe : pe P s1.h (evA s1.t) o.oper = .no) (hf : evA s1.t f = .fn g caps) (hr : rowsOf s1.h [q] = some [r0]) (hids : (idsL (xs.map (evA s1.t) ++ caps)).all (fun r => [q].contains r) = true)
    (hpc : PCL P g [r0] (mvF none) ((xs.map (evA s1.t) ++ caps).map (rnA [q])) D) (hD : ∀ rv lr' rows, D rv lr' rows → ∃ r1, lr' = [r1] ∧ rows = [] ∧ shB none 0 [r0] [r1] = true) :
    LendC P w0 lent o s1 (X := AV × Row) (fun x => D x.1 [x.2] []) (fun x => ⟨o.dst, renB [q] (baseOf o.dst) x.1, none, [(q, x.2)], rdO o, (rdO o).map (getA s1.t)⟩) ⟨o.dst, .any, none, [(q, r0)], rdO o, (rdO o).map (getA s1.t)⟩ := by
  refine ⟨hg, rfl, fun _ _ => ⟨rfl, rfl⟩, fun s' hs loc a w hR N Qx hN => ?_⟩
  obtain ⟨h1, h2⟩ := hs
  have hop : ∀ y ∈ o.op.operands.toList, ∀ q, y = .tmp q → q ∈ rdO o := fun y hy q e => by
    subst e
    unfold rdO
    exact List.mem_append_left _ (mem_slO.2 hy)
  have h2' : ∀ r ∈ idsL ((rdO o).map (getA s1.t)), hget s1.h r = hget s'.h r := fun r hr => h2 r (List.mem_append_left _ hr)
  have hpe' : pe P s'.h (evA s'.t) o.oper = .no := by
    rw [← hpe]
    exact pe_see o.oper (fun y hy => evA_see h1 (hop y hy)) fun y hy r hr => h2' r (ids_ev (hop y hy) hr)
  have hof : f ∈ o.op.operands.toList := by rw [ho]; simp [Op.operands, Call.operands]
  have hox : ∀ y ∈ xs, y ∈ o.op.operands.toList := fun y hy => by rw [ho]; simp only [Op.operands, Call.operands, Array.toList_append, List.mem_append]; exact .inr hy
  have hxs : xs.map (evA s'.t) = xs.map (evA s1.t) := List.map_congr_left fun y hy => evA_see h1 (hop y (hox y hy))
  have hf' : evA s'.t f = .fn g caps := by rw [evA_see h1 (hop f hof)]; exact hf
  have hr' : rowsOf s'.h [q] = some [r0] := by
    rw [← hr]
    simp only [rowsOf]
    rw [h2 q (List.mem_append_right _ (by simp [E.names]))]
  have hp := pe_ok (P := P) (h := s'.h) (loc := loc) (w := w) (ρ := evA s'.t) (ev := a.eval) (o := o.oper) (fun y _ => evA_ok hR y) hR.rw
  unfold Oper.wp
  have hff := evA_ok hR f
  rw [hf'] at hff
  obtain ⟨cs, hv, hsz, hgc⟩ := hff.fn_inv
  obtain ⟨g1, g2⟩ := evA_args hR xs caps cs hsz hgc
  rw [hxs] at g1 g2
  have hW := call_lend (P := P) (w0 := w0) (lent := lent) (Q := Qx) (f := g) (args := xs.map (evA s1.t) ++ caps) (dst := o.dst) (k := [.fin fun s2 => ∃ x : AV × Row, D x.1 [x.2] [] ∧ s2 = (⟨o.dst, renB [q] (baseOf o.dst) x.1, none, [(q, x.2)], rdO o, (rdO o).map (getA s1.t)⟩ : E).ap s']) (s := s') [q] none (lr := [r0]) (D := D)
    (by simp [ndB]) hr' hids (by simp [mvN]) hpc fun rv lr' rows hd => by
      obtain ⟨r1, rfl, rfl, hsh⟩ := hD rv lr' rows hd
      refine ⟨hsh, frB_0 _ _, fun loc' a' w' hR' => ⟨_, loc', ⟨(rv, r1), hd, ?_⟩, hR'⟩⟩
      simp only [backL, mvN, kT, kH, hsL, hpOf, List.append_nil, E.ap, hsets]
  obtain ⟨hcf, hcalls⟩ := hW loc a w hR ((xs.map a.eval).toArray ++ cs) g1 g2
  have hrun : (execOp a.eval o.oper).run P w = .ok (.enter g ((xs.map a.eval).toArray ++ cs)) w := by
    simp only [execOp, SO.oper, ho, resolve, hv, Deferred.ofValue, Sem.run_bind, Sem.run_pure, Result.andThen_ok, invoke, Array.empty_append, List.map_toArray]
    exact hcf
  rw [hrun]
  refine (hcalls.mono ?_ : Calls P g _ w _)
  rintro e w' ⟨v, rfl, s2, loc', ⟨x, hx, rfl⟩, hR'⟩
  exact hN x hx loc' _ w' hR'

theorem DP_mono {K K' : List E → AS → Prop} (hK : ∀ evs s, K evs s → K' evs s) : ∀ (l : List SO) (evs : List E) (s : AS), DP P K l evs s → DP P K' l evs s
  | [], evs, s, h => hK evs s h
  | o :: l, evs, s, ⟨e, h1, h2⟩ => ⟨e, h1, DP_mono hK l _ _ h2⟩
/-- Ahead of the call. -/
def KL (P : Program) (w0 : World) (lent : Lent) (Q : Exit → Act → World → Prop) (ops : List Oper) (c : Nat) (o : SO) (k : List It) (s : AS) (evs : List E) (s1 : AS) : Prop :=
  ∃ (X : Type) (ok : X → Prop) (ec : X → E) (e0 : E), LendC P w0 lent o s1 ok ec e0 ∧ prB (evs ++ [e0]) (mks ops []) (evs ++ [e0]) 0 = true ∧ kcB ops s (evs ++ [e0]) = true ∧
    ∀ x, ok x → RDp P (KD P w0 lent Q ops k s) (runD P ((ops.drop (c + 1)).map (cmpO ops)) (evs ++ [ec x]) ((ec x).ap s1))
theorem at_drawL {id : Nat} {ops : List Oper} {k : List It} {s : AS} (hm : P.follows .mixedOrders = true) (c : Nat) {oc : Oper} (hc : ops[c]? = some oc) (hbk : bkB ops 0 = true) (haf : afB c (mks ops []) 0 = true)
    (h : RDp P (KL P w0 lent Q ops c (cmpO ops oc) k s) (runD P ((ops.take c).map (cmpO ops)) [] s)) : RWp P w0 lent Q (.draw id ⟨ops⟩ k s) :=
  drawL_sound hm c hc hbk haf (DP_mono (fun _ _ ⟨X, ok, ec, e0, h1, h2, h3, h4⟩ => ⟨X, ok, ec, e0, h1, h2, h3, fun x hx => runD_sound _ _ _ (h4 x hx)⟩) _ _ _ (runD_sound _ _ _ h))
/-- The call itself. -/
theorem at_lendD {ops : List Oper} {c : Nat} {k : List It} {s s1 : AS} {evs : List E} {o : SO} {f : Operand} {xs : List Operand} {ts : Array TypeId} {g : FuncId} {caps : List AV} {D : AV → List Row → List Row → Prop} (q : Nat) {r0 : Row}
    (hg : o.g = none) (ho : o.op = .call ⟨.value f, ⟨xs⟩, ts⟩) (hpe : pe P s1.h (evA s1.t) o.oper = .no) (hf : evA s1.t f = .fn g caps) (hr : rowsOf s1.h [q] = some [r0]) (hids : (idsL (xs.map (evA s1.t) ++ caps)).all (fun r => [q].contains r) = true)
    (hpc : PCL P g [r0] (mvF none) ((xs.map (evA s1.t) ++ caps).map (rnA [q])) D)
    (hpr : prB (evs ++ [⟨o.dst, .any, none, [(q, r0)], rdO o, (rdO o).map (getA s1.t)⟩]) (mks ops []) (evs ++ [⟨o.dst, .any, none, [(q, r0)], rdO o, (rdO o).map (getA s1.t)⟩]) 0 = true)
    (hkc : kcB ops s (evs ++ [⟨o.dst, .any, none, [(q, r0)], rdO o, (rdO o).map (getA s1.t)⟩]) = true)
    (hk : ∀ rv lr' rows, D rv lr' rows → ∃ r1, lr' = [r1] ∧ rows = [] ∧ shB none 0 [r0] [r1] = true ∧
      RDp P (KD P w0 lent Q ops k s) (runD P ((ops.drop (c + 1)).map (cmpO ops)) (evs ++ [⟨o.dst, renB [q] (baseOf o.dst) rv, none, [(q, r1)], rdO o, (rdO o).map (getA s1.t)⟩]) (AS.put ⟨s1.t, hset s1.h q r1⟩ o.dst (renB [q] (baseOf o.dst) rv)))) :
    RDp P (KL P w0 lent Q ops c o k s) (.done evs s1) :=
  ⟨_, _, _, _, lendC_of hg ho hpe hf hr hids hpc (fun rv lr' rows hd => (hk rv lr' rows hd).imp fun _ h => ⟨h.1, h.2.1, h.2.2.1⟩), hpr, hkc, fun x hx => by
    obtain ⟨r1, h1, h2, h3, h4⟩ := hk x.1 [x.2] [] hx
    cases h1
    exact h4⟩
end

end Go.Proofs.Ytdjglbedimpldaa
/-
  Walks: the sides that the laws draw (DrawSiteDo).
-/
namespace Go.Proofs.Ytdjglbedimpldaa
open Go Go.RowKit Go.Proofs
theorem at_shareD {P : Program} {K : List E → AS → Prop} {f : FuncId} {args : List AV} {o : SO} {l : List SO} {evs : List E} {s : AS} {x : AV} (hc : args.all isC2 = true) (hx : ren (baseOf o.dst) x = x) (hpc : PC P f args (vX x))
    (hk : RDp P K (runD P l (evs ++ [mkE o s x none []]) (s.put o.dst x))) : RDp P K (.call f args o l evs s) := by
  refine ⟨x, [], .inr ⟨hc, hpc⟩, frB_0 _ _, ?_⟩
  rw [hx]
  exact runD_sound _ _ _ (by simpa only [hpOf, hsets] using hk)
theorem tV_siteT (s : St) : tV (siteT s) = true := by
  cases h : siteV s with
  | true => exact (law_siteTree h).2.2
  | false => simp [siteT, h, tV, sortP]
def siteX2 (rv : AV) (rows : List Row) : Prop := ∃ (s : St) (c : Cm), StS s ∧ c.p.length ≤ 10 ∧ rv = .tup [stA' s, cmdA c] ∧ rows = []
attribute [local irreducible] RWp AW run kPe pe Kt effA gd gu br retR RDp runD kPeD brW gW effD
set_option maxRecDepth 100000
end Go.Proofs.Ytdjglbedimpldaa
/-
  Walks: what the functions of sides leave, read as data.
-/
namespace Go.Proofs.Ytdjglbedimpldaa
open Go Go.RowKit Go.Proofs
theorem siteDo_sm {s : St} (hs : SmS s) {c : Cm} (hp : c.p.length < 4294967281) : SmS (siteDo s c).1 := by
  unfold siteDo
  split
  · rename_i h
    simp only [Bool.and_eq_true] at h
    obtain ⟨t, L, h3⟩ := (siteV_iff s).1 h.1
    have := lV_len h3.lv
    split
    · refine ⟨hs.t, ⟨by simp; omega, fun d hd => ?_⟩⟩
      rcases List.mem_append.1 hd with hd | hd
      · exact hs.l.p d hd
      · simp only [List.mem_singleton] at hd
        subst hd
        exact hp
    · exact hs
  · exact ⟨⟨⟨by simp [st0], by simp [st0]⟩, by simp [st0]⟩, ⟨by simp [st0], by simp [st0]⟩⟩
theorem cap2_some {s x : St} {c : Cm} (h : siteDo s c = (x, true)) : cap2 (siteT s) c = (siteT x, true) := by
  obtain ⟨h1, _⟩ := law_siteDo h
  obtain ⟨t, L, y, hs, hc, _⟩ := siteDo_ok h
  unfold cap2
  rw [if_pos (by simp [tV_siteT, (cmV_iff c).2 hc])]
  unfold apB2
  rw [h1]
end Go.Proofs.Ytdjglbedimpldaa
/-
  Walks: marks in a side.
-/
namespace Go.Proofs.Ytdjglbedimpldaa
open Go Go.RowKit Go.Proofs
def markS (s : St) (k : Nat) (rv : AV) (lr' rows : List Row) : Prop := rv = iA ((k + 3 * s.base.length + 5 * s.log.length : Nat) : Int) ∧ lr' = [rowN (mkN k s.base), rowC (mkC (k + 3 * s.base.length) s.log)] ∧ rows = []
attribute [local irreducible] RWp AW run kPe pe Kt effA gd gu br retR RDp runD kPeD brW gW effD
set_option maxRecDepth 100000
theorem toSite_d (s : St) (h1 : s.base.length ≤ 1048576) (h2 : s.log.length ≤ 1048576) : PC Try.prog 18 [stA' s] (vX (stA' s)) := by
  have := (toSite_pc s h1 h2).frzX
  simpa [viewN, hpOf, hget, stO, stA', stC, isC, tk] using this
theorem markSite_pcl (s : St) (k : Nat) (h0 : 0 < k) (hk : k + 3 * s.base.length + 5 * s.log.length ≤ 4611686018427387904) : PCL Try.prog 12 [rowN s.base, rowC s.log] (mvF none) [stO s, iA k] (markS s k) := by
  have hN := markNodeS_pcl s.base k h0 (by omega)
  have hC := markCommandS_pcl s.log (k + 3 * s.base.length) (by omega) (by omega)
  unfold stO
  refine pcl_enter Try.func12 rfl rfl (by simp) fun w0 fb loc => go_on ?_; simp only [Try.ntmps12, hpL, nmL, mvF, renL, decide_true, decide_false, push_cast, simprocAttr]
  (try simp only [push_cast, simprocAttr]); refine call_lend [500000] none (lr := [rowN s.base]) (by simp [ndB]) (by first | rfl | simp [rowsOf, hget, rdR, rowS, rowN, rowC, sC, ndC, cmC]) (by simp [idsL, idsA]) (by simp [mvN]) (by simpa [rnA, ixOf] using hN) ?_
  rintro rv lr' rows ⟨rfl, rfl, rfl⟩
  (refine ⟨by simp [shB, mvF, rdR, rowS, rowN, rowC, mkN_len], by simp [frB, baseOf], go_on ?_⟩; simp only [killA, killH, killRow, push_cast, simprocAttr])
  push_cast at hC
  (try simp only [push_cast, simprocAttr]); refine call_lend [500001] none (lr := [rowC s.log]) (by simp [ndB]) (by first | rfl | simp [rowsOf, hget, rdR, rowS, rowN, rowC, sC, ndC, cmC]) (by simp [idsL, idsA]) (by simp [mvN]) (by simpa [rnA, ixOf] using hC) ?_
  rintro rv lr' rows ⟨rfl, rfl, rfl⟩
  (refine ⟨by simp [shB, mvF, rdR, rowS, rowN, rowC, mkC_len], by simp [frB, baseOf], go_on ?_⟩; simp only [killA, killH, killRow, push_cast, simprocAttr])
  have hfin : markS s k (iA ((k + 3 * s.base.length + 5 * s.log.length : Nat) : Int)) [rowN (mkN k s.base), rowC (mkC (k + 3 * s.base.length) s.log)] [] := ⟨rfl, rfl, rfl⟩
  push_cast at hfin
  (try simp only [push_cast, simprocAttr])
  (refine at_retL ?_; simp only [Try.results12, retL, push_cast, simprocAttr]; simpa [show List.range 1 = [0] from rfl, show List.range 2 = [0, 1] from rfl, show List.range 3 = [0, 1, 2] from rfl, nmL, mvF, ndB, ixOf, rowsOf, hget, rdR, rowS, rowN, rowC] using  hfin)
end Go.Proofs.Ytdjglbedimpldaa
/-
  Walks: slices.DeleteFunc at commands.
-/
namespace Go.Proofs.Ytdjglbedimpldaa
open Go Go.RowKit Go.Proofs
attribute [local irreducible] RWp AW run kPe pe Kt effA gd gu br retR RDp runD kPeD brW gW effD
set_option maxRecDepth 100000
def delC (f : List Cm) (rv : AV) (lr' rows : List Row) : Prop := rv = .o 0 f.length ∧ lr' = [rowC f] ∧ rows = []
end Go.Proofs.Ytdjglbedimpldaa
/-
  Walks: slices.SortFunc at commands.
-/
namespace Go.Proofs.Ytdjglbedimpldaa
open Go Go.RowKit Go.Proofs
open Go.Sort (grow SWO PermIn SortedIn)
instance : Inhabited Cm := ⟨cm0⟩
def encC (c : Cm) : List Value := [sV c.p, .int .i64 c.a.k, .int .i64 c.a.v, .int .i64 c.b.k, .int .i64 c.b.v]
def cmpS (a b : Str) : Int := if slt a b then -1 else if slt b a then 1 else 0
def cfC (c d : Cm) : Int := if cEnds c && cEnds d then cmpS d.p c.p else if cEnds c then -1 else if cEnds d then 1 else cmpS c.p d.p
theorem cmpS_lt (a b : Str) : decide (cmpS a b < 0) = slt a b := by
  unfold cmpS
  cases slt a b <;> cases slt b a <;> rfl
theorem ltOf_cf (c d : Cm) : ltOf cfC c d = cLt c d := by
  unfold ltOf cfC cLt
  cases cEnds c <;> cases cEnds d <;> simp [cmpS_lt]
theorem cLt_trans {a b c : Cm} (h1 : cLt a b = true) (h2 : cLt b c = true) : cLt a c = true := by
  have h3 := cLt_asymm h2
  cases h : cLt a c with
  | true => rfl
  | false =>
    have := cLt_neg_trans (a := b) (b := c) (c := a) h3 h
    rw [h1] at this
    cases this
theorem swoC : SWO (ltOf cfC) where
  irrefl x := by rw [ltOf_cf]; exact cLt_irrefl x
  trans x y z h1 h2 := by rw [ltOf_cf] at *; exact cLt_trans h1 h2
  ntrans x y z h1 h2 := by rw [ltOf_cf] at *; exact cLt_neg_trans (a := z) (b := y) (c := x) h2 h1
theorem gtr_slt (a b : Str) : (!(Op.bytesLess a b || a == b)) = slt b a := by
  show (!(slt a b || a == b)) = slt b a
  by_cases h : a = b
  · subst h; simp [slt_irrefl]
  · cases h1 : slt a b with
    | true => simp [slt_asymm h1]
    | false => simp [slt_of_ne h h1, h]
set_option maxRecDepth 100000
set_option maxHeartbeats 1000000
end Go.Proofs.Ytdjglbedimpldaa
/-
  Walks: slices.SortFunc at commands: a contract with a lent row.
-/
namespace Go.Proofs.Ytdjglbedimpldaa
open Go Go.RowKit Go.Proofs
open Go.Sort (grow SWO PermIn SortedIn)
theorem cOrd_of : ∀ {l : List Cm}, l.Pairwise (fun a b => cLt b a = false) → cOrd l = true
  | [], _ => rfl
  | a :: l, h => by
    rw [List.pairwise_cons] at h
    exact cOrd_mk (cOrd_of h.2) h.1
def sortD (l : List Cm) (rv : AV) (lr' rows : List Row) : Prop := ∃ l' : List Cm, l'.Perm l ∧ cOrd l' = true ∧ rv = .tup [] ∧ lr' = [rowC l'] ∧ rows = []
theorem encC_cm (c : Cm) (j : Nat) (x : AV) (h : (cmC c)[j]? = some x) : x = .v ((encC c)[j]!) ∧ ((encC c)[j]!).oneCell' = true ∧ j < 5 := by
  rcases j with _ | _ | _ | _ | _ | j
  · cases h; exact ⟨rfl, rfl, by omega⟩
  · cases h; exact ⟨rfl, rfl, by omega⟩
  · cases h; exact ⟨rfl, rfl, by omega⟩
  · cases h; exact ⟨rfl, rfl, by omega⟩
  · cases h; exact ⟨rfl, rfl, by omega⟩
  · simp [cmC] at h
theorem encC_get (c : Cm) (j : Nat) (h : j < 5) : (cmC c)[j]? = some (.v ((encC c)[j]!)) := by
  rcases j with _ | _ | _ | _ | _ | j
  · rfl
  · rfl
  · rfl
  · rfl
  · rfl
  · omega
set_option maxRecDepth 100000
set_option maxHeartbeats 1000000
end Go.Proofs.Ytdjglbedimpldaa
/-
  Walks: impl.LogCanon.
-/
namespace Go.Proofs.Ytdjglbedimpldaa
open Go Go.RowKit Go.Proofs
theorem idxF_first {α : Type} (p : α → Bool) : ∀ (l : List α) (k j : Nat), idxF p k l = ((k + j : Nat) : Int) → ∀ i e, i < j → l[i]? = some e → p e = false
  | [], k, j, h, _, _, _, he => by simp at he
  | a :: l, k, 0, h, i, e, hi, _ => by omega
  | a :: l, k, j + 1, h, i, e, hi, he => by
    by_cases hp : p a = true
    · simp only [idxF, hp, if_true] at h
      omega
    · have hp : p a = false := by simpa using hp
      have h' : idxF p (k + 1) l = ((k + 1 + j : Nat) : Int) := by
        rw [show idxF p k (a :: l) = idxF p (k + 1) l by simp [idxF, hp]] at h
        rw [h]; congr 1; omega
      cases i with
      | zero => simp at he; subst he; exact hp
      | succ i => exact idxF_first p l (k + 1) j h' i e (by omega) (by simpa using he)
def canD (l : List Cm) : AV → List Row → Prop := rX (.tup [.o 0 ((lCanon l).getD []).length, bA (lCanon l).isSome]) [rowC ((lCanon l).getD [])]
attribute [local irreducible] RWp AW run kPe pe Kt effA gd gu br retR RDp runD kPeD brW gW effD
set_option maxRecDepth 100000
end Go.Proofs.Ytdjglbedimpldaa
/-
  Walks: the reference's canonical order and sort.
-/
namespace Go.Proofs.Ytdjglbedimpldaa
open Go Go.RowKit Go.Proofs
attribute [local irreducible] RWp AW run kPe pe Kt effA gd gu br retR RDp runD kPeD brW gW effD
set_option maxRecDepth 100000
theorem l14Ends_pc (c : Cm) : PC Try.prog 99 [cmdA c] (vB (cEnds c)) := by
  have hc : cEnds c = (decide (c.b.k = 0) || decide (c.a.k = 1)) := rfl
  unfold cmdA cmC
  refine pc_enter Try.func99 rfl rfl fun w0 fb => go_on ?_; (try simp only [Try.ntmps99, push_cast, simprocAttr])
  repeat' first | (refine at_b (fun hb => ?_) (fun hb => ?_) <;> simp only [hb, push_cast, simprocAttr]) | (refine at_ret ?_; simp only [Try.results99, push_cast, simprocAttr]) | (show RWp _ _ _ _ _; simp only [push_cast, simprocAttr])
  all_goals simp [vX, hc, eqI_d, *]
  all_goals simp [eqI_d] at *
  all_goals simp [*]
theorem gtrS_l (a b : Str) : (!(slt a b || decide (a = b))) = slt b a := by
  rw [← gtr_slt a b]
  show _ = (!(slt a b || a == b))
  by_cases h : a = b <;> simp [h]
theorem l14Before_pc (c d : Cm) : PC Try.prog 95 [cmdA c, cmdA d] (vB (cLt c d)) := by
  have h1 := l14Ends_pc c
  have h2 := l14Ends_pc d
  have hL : cLt c d = if cEnds c then (if cEnds d then slt d.p c.p else true) else (if cEnds d then false else slt c.p d.p) := rfl
  unfold cmdA cmC at *
  refine pc_enter Try.func95 rfl rfl fun w0 fb => go_on ?_; (try simp only [Try.ntmps95, push_cast, simprocAttr])
  repeat' first | (refine at_b (fun hb => ?_) (fun hb => ?_) <;> simp only [hb, push_cast, simprocAttr]) | (refine at_ret ?_; simp only [Try.results95, push_cast, simprocAttr]) | (refine at_call ?_; (try simp only [push_cast, simprocAttr]); refine rwc_v (by first | exact h1 | exact h2) (go_on ?_); simp only [push_cast, simprocAttr]) | (show RWp _ _ _ _ _; simp only [push_cast, simprocAttr])
  all_goals (try simp only [Bool.not_eq_true', Bool.not_eq_false'] at *)
  all_goals simp_all [vX]
  rw [← gtrS_l c.p d.p, Bool.not_or]
/-- What stands before the place of a command. -/
theorem cPut_split (c : Cm) : ∀ (l : List Cm) (k : Nat), (∀ i d, i < k → l[i]? = some d → cLt c d = false) → k ≤ l.length → cPut c l = l.take k ++ cPut c (l.drop k)
  | l, 0, _, _ => rfl
  | [], k + 1, _, h => by simp at h
  | d :: l, k + 1, h, hk => by
    have h0 : cLt c d = false := h 0 d (by omega) rfl
    simp only [cPut, h0, Bool.false_eq_true, if_false, List.take_succ_cons, List.drop_succ_cons, List.cons_append]
    rw [cPut_split c l k (fun i e hi he => h (i + 1) e (by omega) (by simpa using he)) (by simpa using hk)]
def putI (c : Cm) (l : List Cm) (k : Nat) (o : List Cm) (b : Bool) : Prop := o.length ≤ k + 1 ∧ cPut c l = o ++ (if b = true then l.drop k else cPut c (l.drop k))
theorem putI_next {c d : Cm} {l : List Cm} {k : Nat} {o : List Cm} (hd : l[k]? = some d) :
    (putI c l k o true → putI c l (k + 1) (o ++ [d]) true) ∧ (o.length ≤ k → putI c l k o false → cLt c d = false → putI c l (k + 1) (o ++ [d]) false ∧ (o ++ [d]).length ≤ k + 1) ∧
      (o.length ≤ k → putI c l k o false → cLt c d = true → putI c l (k + 1) (o ++ [c] ++ [d]) true) := by
  have hdr : l.drop k = d :: l.drop (k + 1) := by
    have hi : k < l.length := lt_of_some hd
    rw [List.drop_eq_getElem_cons hi]
    rw [List.getElem?_eq_getElem hi] at hd
    cases hd
    rfl
  refine ⟨fun ⟨h1, h2⟩ => ⟨by simp; omega, ?_⟩, fun h0 ⟨h1, h2⟩ hc => ⟨⟨by simp; omega, ?_⟩, by simp; omega⟩, fun h0 ⟨h1, h2⟩ hc => ⟨by simp; omega, ?_⟩⟩
  · rw [h2, if_pos rfl, if_pos rfl, hdr]; simp
  · rw [h2]
    simp only [Bool.false_eq_true, if_false]
    rw [hdr]
    simp [cPut, hc]
  · rw [h2]
    simp only [Bool.false_eq_true, if_false, if_true]
    rw [hdr]
    simp [cPut, hc]
theorem l14Put_pc (l : List Cm) (hl : l.length < 4294967280) (c : Cm) : PC Try.prog 94 [cmA l, cmdA c] (rX (.o 0 (cPut c l).length) [rowC (cPut c l)]) := by
  unfold cmdA cmC
  refine pc_enter Try.func94 rfl rfl fun w0 fb => go_on ?_; (try simp only [Try.ntmps94, push_cast, simprocAttr])
  refine at_loop (X := Nat × List Cm × Bool) (fun x => [(5, .o 8 x.2.1.length), (6, bA x.2.2), (7, iA x.1), (8, .any)]) (fun x => [(3, ⟨70, 5, [cmC c], true⟩), (4, rowC []), (8, rowC x.2.1)])
    (fun x => x.1 ≤ l.length ∧ putI c l x.1 x.2.1 x.2.2 ∧ (x.2.2 = false → x.2.1.length ≤ x.1)) (fun x => l.length - x.1) (0, [], false) ⟨Nat.zero_le _, ⟨by simp, rfl⟩, fun _ => by simp⟩ ?_ ?_
  · (refine wk_ok ?_ ?_ ?_ ?_ <;> simp [cmC, leL, leH, idsL, idsA, idsR, inH, hget, sameRow, upA, hvA, dsts, dstO, setA_0, setA_1, setA_8, List.append, List.cons_append, List.nil_append])
  · rintro ⟨k, o, b⟩ ⟨q1, q2, q3⟩
    simp only at q1 q2 q3
    have q5 := q2.1
    simp only [upA, hvA, dsts, dstO, setA_0, setA_1, setA_8, List.append, List.cons_append, List.nil_append]
    refine go_on ?_
    (try simp only [push_cast, simprocAttr])
    by_cases hlt : k < l.length
    · obtain ⟨d, hd⟩ := get_of_lt hlt
      have i0 : ltI (k : Int) l.length = true := ltI_t (by omega)
      have i1 := ix_n hd
      have i2 := map_get cmC hd
      simp only [cmC] at i2
      have w1 := wr ((k : Int) + 1) (by omega)
      have hB := l14Before_pc c d
      unfold cmdA cmC at hB
      obtain ⟨n1, n2, n3⟩ := putI_next (c := c) (o := o) hd
      have happ : ∀ m : List Cm, m.map cmC ++ [[sA d.p, iA d.a.k, iA d.a.v, iA d.b.k, iA d.b.v]] = (m ++ [d]).map cmC := fun m => by rw [List.map_append]; rfl
      have happc : o.map cmC ++ [[sA c.p, iA c.a.k, iA c.a.v, iA c.b.k, iA c.b.v]] = (o ++ [c]).map cmC := by rw [List.map_append]; rfl
      (try simp only [i0, push_cast, simprocAttr])
      cases b with
      | true =>
        refine at_draw rfl (by kernel_rfl) ?_
        (try simp only [Bool.not_true, push_cast, simprocAttr])
        refine at_done (by kernel_rfl) (by kernel_rfl) (go_on ?_)
        (try simp only [i1, i2, push_cast, simprocAttr])
        refine at_chk (by omega) ?_
        (try simp only [happ, w1, push_cast, simprocAttr])
        refine at_fin ⟨(k + 1, o ++ [d], true), ⟨by dsimp only; omega, n1 q2, fun h => by cases h⟩, by dsimp only; omega, ?_⟩
        (refine wk_ok ?_ ?_ ?_ ?_ <;> simp [cmC, leL, leH, idsL, idsA, idsR, inH, hget, sameRow, upA, hvA, dsts, dstO, setA_0, setA_1, setA_8, List.append, List.cons_append, List.nil_append])
      | false =>
        have q4 := q3 rfl
        refine at_draw rfl (by kernel_rfl) ?_
        (try simp only [Bool.not_false, i1, i2, push_cast, simprocAttr])
        repeat' first | (refine at_bWn (fun hb => ?_) (fun hb => ?_) <;> simp only [Bool.not_false, hb, push_cast, simprocAttr]) | (refine at_bW (fun hb => ?_) (fun hb => ?_) <;> simp only [Bool.not_false, hb, push_cast, simprocAttr]) | (refine at_callD (by simp [clB, idsL, idsA, hget]) ?_; (try simp only [push_cast, simprocAttr]); first | (refine rcd_v (hB) ?_; simp only [Bool.not_false, push_cast, simprocAttr]) | (refine rcd_d (hB) (by simp [flatV, flatL, ctC, ndC, cmC]) (by simp [ren, ctC, ndC, cmC]) ?_; simp only [Bool.not_false, push_cast, simprocAttr])) | (refine at_done (by kernel_rfl) (by kernel_rfl) (go_on ?_); (try simp only [Bool.not_false, push_cast, simprocAttr]))
        refine at_b (fun hs => ?_) (fun hs => ?_)
        · have ht : List.take (o.length + 1) (List.map cmC (o ++ [c])) = List.map cmC (o ++ [c]) := List.take_of_length_le (by simp)
          (try simp only [hs, push_cast, simprocAttr])
          refine at_chk (by omega) ?_
          (try simp only [happc, i1, i2, push_cast, simprocAttr])
          refine at_chk (by omega) ?_
          (try simp only [ht, happ, w1, push_cast, simprocAttr])
          refine at_fin ⟨(k + 1, o ++ [c] ++ [d], true), ⟨by dsimp only; omega, n3 q4 q2 hs, fun h => by cases h⟩, by dsimp only; omega, ?_⟩
          (refine wk_ok ?_ ?_ ?_ ?_ <;> simp [cmC, leL, leH, idsL, idsA, idsR, inH, hget, sameRow, upA, hvA, dsts, dstO, setA_0, setA_1, setA_8, List.append, List.cons_append, List.nil_append])
        · (try simp only [hs, i1, i2, push_cast, simprocAttr])
          refine at_chk (by omega) ?_
          (try simp only [happ, w1, push_cast, simprocAttr])
          refine at_fin ⟨(k + 1, o ++ [d], false), ⟨by dsimp only; omega, (n2 q4 q2 hs).1, fun _ => (n2 q4 q2 hs).2⟩, by dsimp only; omega, ?_⟩
          (refine wk_ok ?_ ?_ ?_ ?_ <;> simp [cmC, leL, leH, idsL, idsA, idsR, inH, hget, sameRow, upA, hvA, dsts, dstO, setA_0, setA_1, setA_8, List.append, List.cons_append, List.nil_append])
    · have i0 : ltI (k : Int) l.length = false := ltI_f (by omega)
      have hk : k = l.length := by omega
      have happc : o.map cmC ++ [[sA c.p, iA c.a.k, iA c.a.v, iA c.b.k, iA c.b.v]] = (o ++ [c]).map cmC := by rw [List.map_append]; rfl
      have hd0 : l.drop k = [] := List.drop_of_length_le (by omega)
      (try simp only [i0, push_cast, simprocAttr])
      cases b with
      | true =>
        have e := q2.2
        rw [if_pos rfl, hd0, List.append_nil] at e
        (try simp only [Bool.not_true, push_cast, simprocAttr])
        refine at_ret ?_; simp only [Try.results94, push_cast, simprocAttr]
        simp [rX, e, ixOf]
      | false =>
        have e := q2.2
        rw [if_neg (by simp), hd0] at e
        simp only [cPut] at e
        (try simp only [Bool.not_false, push_cast, simprocAttr])
        refine at_chk (by omega) ?_
        (try simp only [happc, push_cast, simprocAttr])
        refine at_ret ?_; simp only [Try.results94, push_cast, simprocAttr]
        simp [rX, e, ixOf]
theorem cSort_snoc (l : List Cm) (c : Cm) : cSort (l ++ [c]) = cPut c (cSort l) := by
  unfold cSort
  rw [List.foldl_append]
  rfl
theorem l14Sort_pc (l : List Cm) (hl : l.length < 4294967270) : PC Try.prog 89 [cmA l] (vX (cmA (cSort l))) := by
  refine pc_enter Try.func89 rfl rfl fun w0 fb => go_on ?_; (try simp only [Try.ntmps89, push_cast, simprocAttr])
  refine at_loop (X := Nat) (fun k => [(3, cmA (cSort (l.take k))), (4, iA k), (5, .any)]) (fun _ => [(2, rowC [])]) (fun k => k ≤ l.length) (fun k => l.length - k) 0 (Nat.zero_le _) ?_ ?_
  · (refine wk_frz ?_ ?_ ?_ ?_ <;> simp [cSort, leF, leHF, frzB, idsL, idsA, idsR, inH, hget, sameRow, viewN, tk, upA, hvA, dsts, dstO, setA_0, setA_1, setA_8, List.append, List.cons_append, List.nil_append])
  · rintro k q1
    simp only [upA, hvA, dsts, dstO, setA_0, setA_1, setA_8, List.append, List.cons_append, List.nil_append]
    refine go_on ?_
    (try simp only [push_cast, simprocAttr])
    by_cases hlt : k < l.length
    · obtain ⟨d, hd⟩ := get_of_lt hlt
      have i0 : ltI (k : Int) l.length = true := ltI_t (by omega)
      have i1 := ix_n hd
      have i2 := map_get cmC hd
      simp only [cmC] at i2
      have w1 := wr ((k : Int) + 1) (by omega)
      have hsl : (cSort (l.take k)).length ≤ l.length := by rw [cSort_len, List.length_take]; omega
      have hP := l14Put_pc (cSort (l.take k)) (by omega) d
      have hnx : cPut d (cSort (l.take k)) = cSort (l.take (k + 1)) := by rw [List.take_add_one, hd, ← cSort_snoc]; rfl
      rw [hnx] at hP
      unfold cmdA cmC at hP
      (try simp only [i0, i1, i2, push_cast, simprocAttr])
      (refine at_call ?_; (try simp only [push_cast, simprocAttr]); refine rwc_r (hP) rfl (flat_c _) (by simp [frB, baseOf]) (go_on ?_); (try simp only [push_cast, simprocAttr]))
      (try simp only [w1, push_cast, simprocAttr])
      refine at_fin ⟨k + 1, by omega, by omega, ?_⟩
      (refine wk_frz ?_ ?_ ?_ ?_ <;> simp [leF, leHF, frzB, idsL, idsA, idsR, inH, hget, sameRow, viewN, tk, upA, hvA, dsts, dstO, setA_0, setA_1, setA_8, List.append, List.cons_append, List.nil_append])
    · have i0 : ltI (k : Int) l.length = false := ltI_f (by omega)
      have hk : k = l.length := by omega
      subst hk
      (try simp only [i0, push_cast, simprocAttr])
      refine at_ret ?_; simp only [Try.results89, push_cast, simprocAttr]
      simp [vX]
end Go.Proofs.Ytdjglbedimpldaa
/-
  Walks: spec.LogCanon.
-/
namespace Go.Proofs.Ytdjglbedimpldaa
open Go Go.RowKit Go.Proofs
/-- No command ahead of a place has its path. -/
def firstB (l : List Cm) (i : Nat) (p : Str) : Bool := !decide (p ∈ (l.take i).map (·.p))
attribute [local irreducible] RWp AW run kPe pe Kt effA gd gu br retR RDp runD kPeD brW gW effD
set_option maxRecDepth 100000
theorem l14First_pc (l : List Cm) (hl : l.length < 4294967280) (i : Nat) (c : Cm) (hc : l[i]? = some c) : PC Try.prog 88 [cmA l, iA i] (vB (firstB l i c.p)) := by
  have hi := lt_of_some hc
  have c1 := ix_n hc
  have c2 := map_get cmC hc
  simp only [cmC] at c2
  refine pc_enter Try.func88 rfl rfl fun w0 fb => go_on ?_; (try simp only [Try.ntmps88, push_cast, simprocAttr])
  refine at_loop (X := Nat) (fun k => [(5, iA k)]) (fun _ => []) (fun k => k ≤ i ∧ ∀ j d, j < k → l[j]? = some d → d.p ≠ c.p) (fun k => i - k) 0 ⟨Nat.zero_le _, fun j d hj => by omega⟩ ?_ ?_
  · (refine wk_ok ?_ ?_ ?_ ?_ <;> simp [leL, leH, idsL, idsA, idsR, inH, hget, sameRow, upA, hvA, dsts, dstO, setA_0, setA_1, setA_8, List.append, List.cons_append, List.nil_append])
  · rintro k ⟨q1, q2⟩
    simp only [upA, hvA, dsts, dstO, setA_0, setA_1, setA_8, List.append, List.cons_append, List.nil_append]
    refine go_on ?_
    (try simp only [push_cast, simprocAttr])
    by_cases hlt : k < i
    · obtain ⟨d, hd⟩ := get_of_lt (l := l) (k := k) (by omega)
      have i0 : ltI (k : Int) (i : Int) = true := ltI_t (by omega)
      have i1 := ix_n hd
      have i2 := map_get cmC hd
      simp only [cmC] at i2
      have w1 := wr ((k : Int) + 1) (by omega)
      (try simp only [i0, push_cast, simprocAttr])
      refine at_draw rfl (by kernel_rfl) ?_
      (try simp only [i1, i2, c1, c2, push_cast, simprocAttr])
      refine at_done (by kernel_rfl) (by kernel_rfl) (go_on ?_)
      (try simp only [push_cast, simprocAttr])
      refine at_b (fun hn => ?_) (fun hn => ?_)
      · have he : d.p = c.p := by simpa using hn
        have hf : firstB l i c.p = false := by
          unfold firstB
          simp only [Bool.not_eq_false', decide_eq_true_eq, List.mem_map]
          exact ⟨d, List.mem_of_getElem? (i := k) (by rw [List.getElem?_take, if_pos hlt]; exact hd), he⟩
        (try simp only [hn, push_cast, simprocAttr])
        refine at_ret ?_; simp only [Try.results88, push_cast, simprocAttr]
        simp [vX, hf]
      · have he : d.p ≠ c.p := by simpa using hn
        (try simp only [hn, w1, push_cast, simprocAttr])
        refine at_fin ⟨k + 1, ⟨by omega, fun j e hj hje => ?_⟩, by omega, ?_⟩
        · rcases Nat.lt_or_ge j k with h | h
          · exact q2 j e h hje
          · obtain rfl : j = k := by omega
            rw [hd] at hje
            cases hje
            exact he
        · (refine wk_ok ?_ ?_ ?_ ?_ <;> simp [leL, leH, idsL, idsA, idsR, inH, hget, sameRow, upA, hvA, dsts, dstO, setA_0, setA_1, setA_8, List.append, List.cons_append, List.nil_append])
    · have i0 : ltI (k : Int) (i : Int) = false := ltI_f (by omega)
      have hf : firstB l i c.p = true := by
        unfold firstB
        simp only [Bool.not_eq_true', decide_eq_false_iff_not, List.mem_map, not_exists, not_and]
        intro d hd e
        obtain ⟨j, hj, hje⟩ := List.getElem_of_mem hd
        have hj2 := hj
        rw [List.length_take] at hj2
        have : l[j]? = some d := by
          have h3 : (l.take i)[j]? = some d := by rw [List.getElem?_eq_getElem hj, hje]
          rw [List.getElem?_take, if_pos (by omega)] at h3
          exact h3
        exact q2 j d (by omega) this e
      (try simp only [i0, push_cast, simprocAttr])
      refine at_ret ?_; simp only [Try.results88, push_cast, simprocAttr]
      simp [vX, hf]
def canS (l : List Cm) : AV → List Row → Prop := vX (.tup [cmA ((lCanon l).getD []), bA (lCanon l).isSome])
theorem specLogCanon_pc (l : List Cm) (hs : SmL l) : PC Try.prog 73 [cmA l] (canS l) := by
  refine pc_enter Try.func73 rfl rfl fun w0 fb => go_on ?_; (try simp only [Try.ntmps73, push_cast, simprocAttr])
  (refine at_call ?_; (try simp only [push_cast, simprocAttr]); refine rwc_v (specLogValid_pc l hs) (go_on ?_); (try simp only [push_cast, simprocAttr]))
  refine at_b (fun hb => ?_) (fun hb => ?_)
  · have h : lV l = false := not_t hb
    (try simp only [hb, push_cast, simprocAttr])
    refine at_retf ?_; simp only [Try.results73, push_cast, simprocAttr]
    simp [canS, vX, lCanon, h]
  have h : lV l = true := not_f hb
  have hl20 := lV_len h
  have hO := lCanon_out h
  (try simp only [hb, push_cast, simprocAttr])
  refine at_loop (X := Nat × List Cm) (fun x => [(4, .o 12 x.2.length), (5, iA x.1), (12, .any)]) (fun x => [(2, rowC []), (12, rowC x.2)])
    (fun x => x.1 ≤ l.length ∧ x.2.length ≤ x.1 ∧ (outA [] l).map fltC = ((outA ((l.take x.1).map (·.p)) (l.drop x.1)).map fltC).map (x.2 ++ ·)) (fun x => l.length - x.1) (0, []) ⟨Nat.zero_le _, by simp, by simp [Function.comp_def]⟩ ?_ ?_
  · (refine wk_ok ?_ ?_ ?_ ?_ <;> simp [leL, leH, idsL, idsA, idsR, inH, hget, sameRow, upA, hvA, dsts, dstO, setA_0, setA_1, setA_8, List.append, List.cons_append, List.nil_append])
  · rintro ⟨i, o⟩ ⟨q1, q2, q3⟩
    simp only at q1 q2 q3
    simp only [upA, hvA, dsts, dstO, setA_0, setA_1, setA_8, List.append, List.cons_append, List.nil_append]
    by_cases hlt : i < l.length
    · refine go_on ?_
      (try simp only [push_cast, simprocAttr])
      obtain ⟨c, hc⟩ := get_of_lt hlt
      obtain ⟨s1, s2⟩ := out_step hc q3
      have i0 : ltI (i : Int) l.length = true := ltI_t (by omega)
      have i1 := ix_n hc
      have i2 := map_get cmC hc
      simp only [cmC] at i2
      have w1 := wr ((i : Int) + 1) (by omega)
      have hF := l14First_pc l (by omega) i c hc
      (try simp only [i0, push_cast, simprocAttr])
      (refine at_call ?_; (try simp only [push_cast, simprocAttr]); refine rwc_v (hF) (go_on ?_); (try simp only [push_cast, simprocAttr]))
      refine at_b (fun hf => ?_) (fun hf => ?_)
      · have hm : c.p ∉ (l.take i).map (·.p) := by simpa [firstB] using hf
        obtain ⟨s3, s4⟩ := s2 hm
        (try simp only [hf, i1, i2, w1, push_cast, simprocAttr])
        refine at_loop (X := Nat × Ct) (fun y => [(7, iA y.1)]) (fun y => [(2, rowC []), (12, rowC o), (6, ⟨70, 5, [cmC ⟨c.p, c.a, y.2⟩], true⟩)])
          (fun y => i + 1 ≤ y.1 ∧ y.1 ≤ l.length ∧ chn c.p c.b (l.drop (i + 1)) = chn c.p y.2 (l.drop y.1)) (fun y => l.length - y.1) (i + 1, c.b) ⟨Nat.le_refl _, by dsimp only; omega, rfl⟩ ?_ ?_
        · (refine wk_ok ?_ ?_ ?_ ?_ <;> simp [cmC, leL, leH, idsL, idsA, idsR, inH, hget, sameRow, upA, hvA, dsts, dstO, setA_0, setA_1, setA_8, List.append, List.cons_append, List.nil_append])
        · rintro ⟨k, t⟩ ⟨r1, r2, r3⟩
          simp only at r1 r2 r3
          simp only [upA, hvA, dsts, dstO, setA_0, setA_1, setA_8, List.append, List.cons_append, List.nil_append]
          refine go_on ?_
          (try simp only [push_cast, simprocAttr])
          by_cases hlk : k < l.length
          · obtain ⟨d, hd⟩ := get_of_lt hlk
            have j0 : ltI (k : Int) l.length = true := ltI_t (by omega)
            have j1 := ix_n hd
            have j2 := map_get cmC hd
            simp only [cmC] at j2
            have w2 := wr ((k : Int) + 1) (by omega)
            rw [drop_of_get hd] at r3
            simp only [chn] at r3
            (try simp only [j0, push_cast, simprocAttr])
            refine at_draw rfl (by kernel_rfl) ?_
            (try simp only [j1, j2, push_cast, simprocAttr])
            refine at_done (by kernel_rfl) (by kernel_rfl) (go_on ?_)
            (try simp only [push_cast, simprocAttr])
            refine at_b (fun hp => ?_) (fun hp => ?_)
            · have hp' : d.p = c.p := by simpa using hp
              rw [if_pos hp'] at r3
              (try simp only [hp, push_cast, simprocAttr])
              refine at_draw rfl (by kernel_rfl) ?_
              (try simp only [j1, j2, ctg, cth, push_cast, simprocAttr])
              have e : (eqI d.a.k t.k && eqI d.a.v t.v) = decide (d.a = t) := ct_eq _ _
              refine at_done (by kernel_rfl) (by kernel_rfl) (go_on ?_)
              (try simp only [e, push_cast, simprocAttr])
              refine at_b (fun hn => ?_) (fun hn => ?_)
              · have hne : d.a ≠ t := by simpa using hn
                rw [if_neg hne] at r3
                have hnone : lCanon l = none := by rw [hO, s3 r3]; rfl
                (try simp only [hn, push_cast, simprocAttr])
                refine at_retf ?_; simp only [Try.results73, push_cast, simprocAttr]
                simp [canS, vX, hnone]
              · have heq : d.a = t := by simpa using hn
                rw [if_pos heq] at r3
                (try simp only [hn, j1, j2, w2, push_cast, simprocAttr])
                refine at_fin ⟨(k + 1, d.b), ⟨by dsimp only; omega, by dsimp only; omega, r3⟩, by dsimp only; omega, ?_⟩
                (refine wk_ok ?_ ?_ ?_ ?_ <;> simp [cmC, leL, leH, idsL, idsA, idsR, inH, hget, sameRow, upA, hvA, dsts, dstO, setA_0, setA_1, setA_8, List.append, List.cons_append, List.nil_append])
            · have hp' : ¬ d.p = c.p := by simpa using hp
              rw [if_neg hp'] at r3
              (try simp only [hp, w2, push_cast, simprocAttr])
              refine at_fin ⟨(k + 1, t), ⟨by dsimp only; omega, by dsimp only; omega, r3⟩, by dsimp only; omega, ?_⟩
              (refine wk_ok ?_ ?_ ?_ ?_ <;> simp [cmC, leL, leH, idsL, idsA, idsR, inH, hget, sameRow, upA, hvA, dsts, dstO, setA_0, setA_1, setA_8, List.append, List.cons_append, List.nil_append])
          · have j0 : ltI (k : Int) l.length = false := ltI_f (by omega)
            rw [List.drop_of_length_le (show l.length ≤ k by omega)] at r3
            have s5 := s4 t r3
            have e : (eqI c.a.k t.k && eqI c.a.v t.v) = decide (c.a = t) := ct_eq _ _
            (try simp only [j0, ctg, cth, e, push_cast, simprocAttr])
            refine at_b (fun hn => ?_) (fun hn => ?_)
            · have hne : c.a ≠ t := by simpa using hn
              rw [if_pos hne] at s5
              have happ : o.map cmC ++ [[sA c.p, iA c.a.k, iA c.a.v, iA t.k, iA t.v]] = (o ++ [(⟨c.p, c.a, t⟩ : Cm)]).map cmC := by rw [List.map_append]; rfl
              (try simp only [hn, push_cast, simprocAttr])
              refine at_chk (by omega) ?_
              (try simp only [happ, w1, push_cast, simprocAttr])
              refine at_fin ⟨(i + 1, o ++ [(⟨c.p, c.a, t⟩ : Cm)]), ⟨by dsimp only; omega, by simp; omega, s5⟩, by dsimp only; omega, ?_⟩
              (refine wk_ok ?_ ?_ ?_ ?_ <;> simp [cmC, leL, leH, idsL, idsA, idsR, inH, hget, sameRow, upA, hvA, dsts, dstO, setA_0, setA_1, setA_8, List.append, List.cons_append, List.nil_append])
            · have heq : c.a = t := by simpa using hn
              rw [if_neg (by simpa using heq)] at s5
              (try simp only [hn, w1, push_cast, simprocAttr])
              refine at_fin ⟨(i + 1, o), ⟨by dsimp only; omega, by dsimp only; omega, s5⟩, by dsimp only; omega, ?_⟩
              (refine wk_ok ?_ ?_ ?_ ?_ <;> simp [cmC, leL, leH, idsL, idsA, idsR, inH, hget, sameRow, upA, hvA, dsts, dstO, setA_0, setA_1, setA_8, List.append, List.cons_append, List.nil_append])
      · have hm : c.p ∈ (l.take i).map (·.p) := by simpa [firstB] using hf
        (try simp only [hf, w1, push_cast, simprocAttr])
        refine at_fin ⟨(i + 1, o), ⟨by dsimp only; omega, by dsimp only; omega, s1 hm⟩, by dsimp only; omega, ?_⟩
        (refine wk_ok ?_ ?_ ?_ ?_ <;> simp [leL, leH, idsL, idsA, idsR, inH, hget, sameRow, upA, hvA, dsts, dstO, setA_0, setA_1, setA_8, List.append, List.cons_append, List.nil_append])
    · have i0 : ltI (i : Int) l.length = false := ltI_f (by omega)
      rw [List.drop_of_length_le (by omega)] at q3
      simp only [outA, Option.map_some, show fltC [] = [] from rfl, List.append_nil] at q3
      have hcan : lCanon l = some (cSort o) := by rw [hO, q3]; rfl
      have hS := l14Sort_pc o (by omega)
      refine go_on_n 12 ?_
      (try simp only [i0, run_0, push_cast, simprocAttr])
      refine at_more ?_
      (refine at_frzS [12] (by refine wk_frz ?_ ?_ ?_ ?_ <;> simp [frzS, frzT, hasN, delL, hdel, leF, leHF, frzB, idsL, idsA, idsR, inH, hget, sameRow, viewN, tk]) ?_; simp only [frzS, frzT, hasN, delL, hdel, idsA, idsL, viewN, hget, List.map_cons, List.map_nil, List.all_cons, List.all_nil, List.append_nil, List.drop, List.getElem?_cons_zero, List.getElem?_cons_succ, Bool.not_false, Bool.not_true, Bool.and_true, if_true, if_false, simprocAttr])
      refine go_on ?_
      (try simp only [push_cast, simprocAttr])
      ((try simp only [push_cast, simprocAttr]); refine at_share (by first | rfl | simp [isC]) (by first | rfl | simp only [ren]) (hS) (go_on ?_); (try simp only [push_cast, simprocAttr]))
      refine at_ret ?_; simp only [Try.results73, push_cast, simprocAttr]
      simp [canS, vX, hcan]
end Go.Proofs.Ytdjglbedimpldaa
/-
  Walks: SiteCanon, SiteShort, twice.
-/
namespace Go.Proofs.Ytdjglbedimpldaa
open Go Go.RowKit Go.Proofs
theorem siteSh_bad {s : St} (h : siteV s = false) : siteSh s = (st0, false) := by simp [siteSh, h]
theorem siteSh_ok {s : St} (h : siteV s = true) : siteSh s = (⟨s.ep, s.base, siteC s⟩, true) := by simp [siteSh, h]
attribute [local irreducible] RWp AW run kPe pe Kt effA gd gu br retR RDp runD kPeD brW gW effD
set_option maxRecDepth 100000
theorem specSiteCanon_pc (s : St) (hs : SmS s) : PC Try.prog 58 [stA' s] (vX (cmA (siteC s))) := by
  have hL := specLogCanon_pc s.log hs.l
  have hV := specSiteValid_pc s hs
  unfold stA' stC at hV ⊢
  unfold canS at hL
  refine pc_enter Try.func58 rfl rfl fun w0 fb => go_on ?_; (try simp only [Try.ntmps58, push_cast, simprocAttr])
  (refine at_call ?_; (try simp only [push_cast, simprocAttr]); refine rwc_v (hV) (go_on ?_); (try simp only [push_cast, simprocAttr]))
  refine at_b (fun hb => ?_) (fun hb => ?_)
  · have h : siteV s = false := not_t hb
    (try simp only [hb, push_cast, simprocAttr])
    refine at_retf ?_; simp only [Try.results58, push_cast, simprocAttr]
    simp [vX, siteC, h, ixOf]
  · have h : siteV s = true := not_f hb
    have e : siteC s = (lCanon s.log).getD [] := by simp [siteC, h]
    rw [← e] at hL
    (try simp only [hb, push_cast, simprocAttr])
    ((try simp only [push_cast, simprocAttr]); refine at_share2 (by simp [isC2, isC]) (by first | rfl | simp [ren]) (hL) (go_on ?_); (try simp only [push_cast, simprocAttr]))
    refine at_ret ?_; simp only [Try.results58, push_cast, simprocAttr]
    simp [vX, ixOf]
def shR (s : St) : AV → List Row → Prop := rX (.tup [stO (siteSh s).1, bA (siteSh s).2]) [rowN (siteSh s).1.base, rowC (siteSh s).1.log]
end Go.Proofs.Ytdjglbedimpldaa
/-
  Walks: canonical logs are short.
-/
namespace Go.Proofs.Ytdjglbedimpldaa
open Go Go.RowKit Go.Proofs
theorem siteC_cv (s : St) : (siteC s).length ≤ 20 ∧ ∀ c ∈ siteC s, CV c := by
  cases h : siteV s with
  | true =>
    obtain ⟨t, L, hs⟩ := (siteV_iff s).1 h
    rw [hs.C]
    exact ⟨hs.l20, hs.co.cv⟩
  | false =>
    have : siteC s = [] := by simp [siteC, h]
    rw [this]
    exact ⟨by simp, by simp⟩
theorem siteC_sm (s : St) : SmL (siteC s) := by
  obtain ⟨h1, h2⟩ := siteC_cv s
  refine ⟨by omega, fun c hc => ?_⟩
  have h := h2 c hc
  have := (pV_len h.p h.r).2
  omega
theorem siteSh_sm {s : St} (hs : SmS s) : SmS (siteSh s).1 := by
  cases h : siteV s with
  | true => rw [siteSh_ok h]; exact ⟨hs.t, siteC_sm s⟩
  | false =>
    rw [siteSh_bad h]
    exact ⟨⟨⟨by simp [st0], by simp [st0]⟩, by simp [st0]⟩, ⟨by simp [st0], by simp [st0]⟩⟩
end Go.Proofs.Ytdjglbedimpldaa
/-
  Walks: conflicts of commands.
-/
namespace Go.Proofs.Ytdjglbedimpldaa
open Go Go.RowKit Go.Proofs
/-- A command as a value. -/
def vC (c : Cm) : Value := .agg #[sV c.p, .int .i64 c.a.k, .int .i64 c.a.v, .int .i64 c.b.k, .int .i64 c.b.v]
theorem C.vC {lv : Nat → Prop} {w : World} {u : Value} {c : Cm} (h : C lv 0 w (.v (Go.Proofs.Ytdjglbedimpldaa.vC c)) u) : C lv 0 w (cmdA c) u := by
  cases h
  refine .agg _ rfl fun j a ha => ?_
  rcases j with _ | _ | _ | _ | _ | j
  · cases ha; exact .v
  · cases ha; exact .v
  · cases ha; exact .v
  · cases ha; exact .v
  · cases ha; exact .v
  · simp [cmC] at ha
theorem isPrefix_take (a b : Str) : (decide (b.length ≤ a.length) && decide (a.take b.length = b)) = b.isPrefixOf a := by
  rw [Bool.eq_iff_iff, Bool.and_eq_true, decide_eq_true_eq, decide_eq_true_eq, List.isPrefixOf_iff_prefix, List.prefix_iff_eq_take]
  constructor
  · rintro ⟨_, h⟩; exact h.symm
  · intro h
    refine ⟨?_, h.symm⟩
    rw [h, List.length_take]; omega
theorem cm_eq (x y : Cm) : (decide (x.p = y.p) && ((eqI x.a.k y.a.k && eqI x.a.v y.a.v) && (eqI x.b.k y.b.k && eqI x.b.v y.b.v))) = decide (x = y) := by
  rw [Bool.eq_iff_iff]; simp [eqI_d, cm_ext, ct_ext]
attribute [local irreducible] RWp AW run kPe pe Kt effA gd gu br retR RDp runD kPeD brW gW effD
set_option maxRecDepth 100000
end Go.Proofs.Ytdjglbedimpldaa
/-
  Walks: slices of commands and nodes: Index, Contains, Equal, IsSortedFunc.
-/
namespace Go.Proofs.Ytdjglbedimpldaa
open Go Go.RowKit Go.Proofs
attribute [local irreducible] RWp AW run kPe pe Kt effA gd gu br retR RDp runD kPeD brW gW effD
set_option maxRecDepth 100000
theorem cOrd_step {l : List Cm} {k : Nat} {x y : Cm} (hx : l[k + 1]? = some x) (hy : l[k]? = some y) : cOrd (l.drop k) = (!cLt x y && cOrd (l.drop (k + 1))) := by
  rw [drop_of_get hy, drop_of_get hx]
  simp only [cOrd]
theorem cOrd_pre : ∀ (l : List Cm) (k : Nat), cOrd (l.drop k) = false → cOrd l = false
  | _, 0, h => h
  | [], k + 1, h => by simp [cOrd] at h
  | a :: l, k + 1, h => by
    have := cOrd_pre l k (by simpa using h)
    cases h2 : cOrd (a :: l) with
    | false => rfl
    | true => rw [cOrd_cons h2] at this; cases this
end Go.Proofs.Ytdjglbedimpldaa
/-
  Walks: the canonical order as a comparing function; IsSortedFunc, ContainsFunc, disputed, slices.Equal at commands.
-/
namespace Go.Proofs.Ytdjglbedimpldaa
open Go Go.RowKit Go.Proofs
attribute [local irreducible] RWp AW run kPe pe Kt effA gd gu br retR RDp runD kPeD brW gW effD
set_option maxRecDepth 100000
end Go.Proofs.Ytdjglbedimpldaa
/-
  Walks: impl.oneEach (a set of paths in a map of the call's own).
-/
namespace Go.Proofs.Ytdjglbedimpldaa
open Go Go.RowKit Go.Proofs
open Go.Maps (Keyed)
theorem und9 : Try.prog.underlying 9 = some .string := by kernel_rfl
theorem und4 : Try.prog.underlying 4 = some .bool := by kernel_rfl
theorem keyed9 : Keyed Try.prog 9 := Maps.string_keyed und9
theorem zero4 (w : World) : (zeroValue 4).run Try.prog w = .ok (.bool false) w := by kernel_rfl
theorem key9 (s : Str) (h : s.length ≤ maxLen) : keyOf Try.prog 9 (sV s) = some (.string s) := by
  have := WideMaps.keyOf_string_mk und9 (s := ⟨s.toArray⟩) (by simpa [ByteArray.size] using h)
  simpa using this
theorem plainElem_bool_inv {v : Value} {z : DataW Unit × List MemPlace} (h : plainElem Try.prog 4 v = some z) : ∃ x, v = .bool x ∧ z = (.lit (.bool x), []) := by
  unfold plainElem at h
  rw [und4] at h
  cases v <;> simp at h
  exact ⟨_, rfl, h.symm⟩
theorem C.v_inv' {lv : Nat → Prop} {lo : Nat} {w : World} {x u : Value} (h : C lv lo w (.v x) u) : u = x := by
  cases h; rfl
/-- The map's datum says which paths the list has. -/
def Seen (D : DataW Unit) (l : List Cm) : Prop := ∀ s : Str, D.atKey (.string s) (.lit (.bool false)) = .lit (.bool (l.any fun c => decide (c.p = s)))
theorem Seen.nil : Seen (.map []) [] := fun s => rfl
theorem Seen.put {D : DataW Unit} {l : List Cm} (h : Seen D l) (hm : Maps.IsMap D) (c : Cm) : Seen (D.put (.string c.p) (.lit (.bool true))) (l ++ [c]) := fun s => by
  by_cases e : c.p = s
  · subst e
    rw [Maps.atKey_put_same hm (by simp [WideAt.IsKeyLit])]
    simp
  · rw [Maps.atKey_put_other (by simpa using fun h => e h.symm), h s]
    simp [e]
theorem cmA_rd {fb : Nat → Prop} {w : World} {v : Value} {l : List Cm} (h : C fb 0 w (cmA l) v) : ∃ A cap, v = .slice A l.length cap ∧
    ∀ (k : Nat) c, l[k]? = some c → ∃ b off, A = some ⟨b, off, none⟩ ∧ b < w.heap.size ∧ w.cell? ⟨b, off + k * 5, none⟩ = some (sV c.p) ∧ w.cell? ⟨b, off + k * 5 + 1, none⟩ = some (.int .i64 c.a.k) ∧ w.cell? ⟨b, off + k * 5 + 2, none⟩ = some (.int .i64 c.a.v) ∧ w.cell? ⟨b, off + k * 5 + 3, none⟩ = some (.int .i64 c.b.k) ∧ w.cell? ⟨b, off + k * 5 + 4, none⟩ = some (.int .i64 c.b.v) := by
  generalize hs : (cmA l) = x at h
  cases h with
  | any => cases hs
  | v => cases hs
  | ip => cases hs
  | fn => cases hs
  | agg => cases hs
  | tup => cases hs
  | @sl sz es A cap xs u hr hlv hc hm hl hx hg =>
    cases hs
    refine ⟨A, cap, by simp, fun k c hk => ?_⟩
    obtain ⟨b, off, hA, _, hb, hcell⟩ := hr.2 (by have := lt_of_some hk; simp; omega)
    refine ⟨b, off, hA, hb, ?_⟩
    have he : (l.map cmC)[k]? = some (cmC c) := by rw [List.getElem?_map, hk]; rfl
    have hj : ∀ j, j < 5 → w.cell? ⟨b, off + (k * 5 + j), none⟩ = some ((encC c)[j]!) := fun j hj => by
      have g1 := (hx k _ j he (by simp [cmC]; omega)).1
      have g2 := hg k _ j _ he (encC_get c j hj)
      rw [g2.v_inv'] at g1
      exact hcell _ _ g1
    exact ⟨hj 0 (by omega), hj 1 (by omega), hj 2 (by omega), hj 3 (by omega), hj 4 (by omega)⟩
theorem one1_snoc {l : List Cm} {k : Nat} {c : Cm} (hk : l[k]? = some c) (h : one1 (l.take k) = true) (hn : ((l.take k).any fun d => decide (d.p = c.p)) = false) : one1 (l.take (k + 1)) = true := by
  rw [List.take_add_one, hk]
  rw [one1_iff] at *
  simp only [Option.toList, List.map_append, List.map_cons, List.map_nil]
  rw [List.nodup_append]
  refine ⟨h, by simp, fun a ha b hb => ?_⟩
  simp only [List.mem_singleton] at hb
  subst hb
  rw [List.any_eq_false] at hn
  obtain ⟨d, hd, rfl⟩ := List.mem_map.1 ha
  simpa using hn d hd
theorem one1_hit {l : List Cm} {k : Nat} {c : Cm} (hk : l[k]? = some c) (hn : ((l.take k).any fun d => decide (d.p = c.p)) = true) : one1 l = false := by
  cases h : one1 l with
  | false => rfl
  | true =>
    rw [List.any_eq_true] at hn
    obtain ⟨d, hd, he⟩ := hn
    obtain ⟨j, hj, hjd⟩ := List.mem_take_iff_getElem.1 hd
    rw [one1_iff] at h
    have hlt := lt_of_some hk
    have h1 : j < l.length := by omega
    have hke : l[k] = c := by rw [List.getElem?_eq_getElem hlt] at hk; exact Option.some.inj hk
    have := List.pairwise_iff_getElem.1 h j k (by simpa using h1) (by simpa using hlt) (by omega)
    refine absurd ?_ this
    simp only [List.getElem_map]
    rw [hjd, hke]
    simpa using he
set_option maxRecDepth 100000
set_option maxHeartbeats 1000000
theorem res_v (fb : Nat → Prop) (base : Nat) (w : World) (x : Value) : Res fb base w [] (.v x) x :=
  ⟨⟨fun _ => none, fb⟩, rfl, .cl .v, fun r row h => by simp [hpOf, hget] at h, fun r r' row row' b c c' h => by simp [hpOf, hget] at h, fun r row b c h => by simp [hpOf, hget] at h⟩
end Go.Proofs.Ytdjglbedimpldaa
/-
  Walks: CanonValid, pick, SafeOf, LeftOf.
-/
namespace Go.Proofs.Ytdjglbedimpldaa
open Go Go.RowKit Go.Proofs
attribute [local irreducible] RWp AW run kPe pe Kt effA gd gu br retR RDp runD kPeD brW gW effD
set_option maxRecDepth 100000
def pck (a b l : List Cm) (p : Cm → Bool) : List Cm := if canonV a && canonV b then l.filter p else []
end Go.Proofs.Ytdjglbedimpldaa
/-
  Walks: ClashesOf, PairFits, all, meet, same.
-/
namespace Go.Proofs.Ytdjglbedimpldaa
open Go Go.RowKit Go.Proofs
def pC (p : Int × Int) : List AV := [iA p.1, iA p.2]
abbrev pA (l : List (Int × Int)) : AV := .sl 2 (l.map pC)
theorem flat_p {E : TypeId} {sz : Nat} {cl : Bool} (l : List (Int × Int)) : FlatR [⟨E, sz, l.map pC, cl⟩] := flat1 l pC fun _ => rfl
theorem canonV_le {l : List Cm} (h : canonV l = true) : l.length ≤ 20 := by
  unfold canonV at h
  simp only [Bool.and_eq_true] at h
  exact lV_len h.1.1
theorem canonV_sm {l : List Cm} (h : canonV l = true) : SmL l := by
  have h1 := canonV_le h
  unfold canonV at h
  simp only [Bool.and_eq_true] at h
  refine ⟨by omega, fun c hc => ?_⟩
  have h2 := lV_cv h.1.1 c hc
  have := (pV_len h2.p h2.r).2
  omega
attribute [local irreducible] RWp AW run kPe pe Kt effA gd gu br retR RDp runD kPeD brW gW effD
set_option maxRecDepth 100000
end Go.Proofs.Ytdjglbedimpldaa
/-
  Walks: PairFits, all, PairTree, PairBase.
-/
namespace Go.Proofs.Ytdjglbedimpldaa
open Go Go.RowKit Go.Proofs
theorem pf_cv {t : List Nd} {a b : List Cm} (h : pairFits t a b = true) : canonV a = true ∧ canonV b = true := by
  unfold pairFits at h
  simp only [Bool.and_eq_true] at h
  exact ⟨h.1.1.1, h.1.1.2⟩
theorem safeOf_mem {a b : List Cm} {c : Cm} (h : c ∈ safeOf a b) : c ∈ b := by
  unfold safeOf at h
  split at h
  · exact (List.mem_filter.1 h).1
  · simp at h
theorem safeOf_len (a b : List Cm) : (safeOf a b).length ≤ b.length := by
  unfold safeOf
  split
  · exact List.length_filter_le _ _
  · simp
theorem sm_app {a b : List Cm} (ha : SmL a) (hb : SmL b) (h : a.length + b.length < 4294967280) : SmL (a ++ b) :=
  ⟨by simpa using h, fun c hc => (List.mem_append.1 hc).elim (ha.p c) (hb.p c)⟩
theorem sm_safe {a b : List Cm} (hb : SmL b) : SmL (safeOf a b) := ⟨by have := safeOf_len a b; have := hb.n; omega, fun c hc => hb.p c (safeOf_mem hc)⟩
def tbD (x : Option (List Nd)) : AV → List Row → Prop := rX (.tup [.o 0 (x.getD []).length, bA x.isSome]) [rowN (x.getD [])]
attribute [local irreducible] RWp AW run kPe pe Kt effA gd gu br retR RDp runD kPeD brW gW effD
set_option maxRecDepth 100000
theorem kept_len_le (a b : List Cm) : (kept a b).length ≤ a.length + b.length := by
  have h1 := safeOf_len a b
  have h2 := List.length_filter_le (fun c => !disp b c) a
  unfold kept
  simp only [List.length_append]
  omega
theorem sm_kept {a b : List Cm} (ha : SmL a) (hb : SmL b) (h : a.length + b.length < 4294967280) : SmL (kept a b) := by
  refine ⟨by have := kept_len_le a b; omega, fun c hc => ?_⟩
  unfold kept at hc
  rcases List.mem_append.1 hc with hc | hc
  · exact hb.p c (safeOf_mem hc)
  · exact ha.p c (List.mem_filter.1 hc).1
end Go.Proofs.Ytdjglbedimpldaa
/-
  Walks: meet, SessionClashes, SessionRun.
-/
namespace Go.Proofs.Ytdjglbedimpldaa
open Go Go.RowKit Go.Proofs
theorem clOf_len (a b : List Cm) : (clOf a b).length ≤ 400 := by
  unfold clOf
  split
  · rename_i h
    simp only [Bool.and_eq_true] at h
    have h1 := canonV_le h.1
    have h2 := canonV_le h.2
    have : ∀ (i : Int) (l : List Cm), (clAll b i l).length ≤ l.length * 20 := by
      intro i l
      induction l generalizing i with
      | nil => simp [clAll]
      | cons c r ih =>
        have := ih (i + 1)
        have := clRow_len i c b 0
        have := List.length_filter_le (clash c) b
        simp only [clAll, List.length_append, List.length_cons]
        omega
    have := this 0 a
    omega
  · simp
attribute [local irreducible] RWp AW run kPe pe Kt effA gd gu br retR RDp runD kPeD brW gW effD
set_option maxRecDepth 100000
end Go.Proofs.Ytdjglbedimpldaa
/-
  Walks: spec: the order of canonical logs, conflicts.
-/
namespace Go.Proofs.Ytdjglbedimpldaa
open Go Go.RowKit Go.Proofs
theorem und_take {a b : Str} (ha : pV a = true) (hb : pV b = true) (hr : a ≠ root) : (decide (a.length < b.length) && decide (b.take a.length = a)) = und a b := by
  unfold und
  rw [if_neg hr]
  simp only [pV, hr, decide_false, Bool.false_or, Bool.and_eq_true, decide_eq_true_eq] at ha
  obtain ⟨⟨ha0, ha1⟩, _⟩ := ha
  rw [Bool.eq_iff_iff, Bool.and_eq_true, decide_eq_true_eq, decide_eq_true_eq, List.isPrefixOf_iff_prefix]
  have hev := prs_even a ha1
  constructor
  · rintro ⟨h1, h2⟩
    have hb' : b ≠ root := by
      rintro rfl
      simp [root] at h1
      exact ha0 h1
    simp only [pV, hb', decide_false, Bool.false_or, Bool.and_eq_true, decide_eq_true_eq] at hb
    obtain ⟨x, hx⟩ := get_of_lt h1
    have := (prs_get b a.length x hb.1.2 hx).1 hev
    subst this
    rw [List.prefix_iff_eq_take]
    simp only [List.length_append, List.length_cons, List.length_nil]
    rw [List.take_add_one, h2, hx]
    rfl
  · intro h
    have hl := h.length_le
    simp only [List.length_append, List.length_cons, List.length_nil] at hl
    refine ⟨by omega, ?_⟩
    have h2 : a <+: b := (List.prefix_append a [47]).trans h
    exact (List.prefix_iff_eq_take.1 h2).symm
theorem canon_fail {l : List Cm} {j : Nat} {x y : Cm} (hx : l[j]? = some x) (hy : l[j + 1]? = some y) (h : cLt x y = false ∨ firstB l (j + 1) y.p = false) : canonV l = false := by
  cases hc : canonV l with
  | false => rfl
  | true =>
    exfalso
    unfold canonV at hc
    simp only [Bool.and_eq_true] at hc
    obtain ⟨⟨_, h1⟩, h2⟩ := hc
    have hnd := (one1_iff l).1 h1
    have hne : ∀ i z, i < j + 1 → l[i]? = some z → z.p ≠ y.p := fun i z hi hz => by
      have hli := lt_of_some hz
      have hlj := lt_of_some hy
      have := List.pairwise_iff_getElem.1 hnd i (j + 1) (by simpa using hli) (by simpa using hlj) hi
      simp only [List.getElem_map] at this
      rw [List.getElem?_eq_getElem hli] at hz
      rw [List.getElem?_eq_getElem hlj] at hy
      rwa [Option.some.inj hz, Option.some.inj hy] at this
    rcases h with h | h
    · have h3 : cOrd (l.drop j) = true := by
        cases h4 : cOrd (l.drop j) with
        | true => rfl
        | false => rw [cOrd_pre l j h4] at h2; cases h2
      rw [cOrd_step hy hx] at h3
      simp only [Bool.and_eq_true, Bool.not_eq_true'] at h3
      rw [cLt_total (hne j x (by omega) hx) h] at h3
      cases h3.1
    · simp only [firstB, Bool.not_eq_false', decide_eq_true_eq, List.mem_map] at h
      obtain ⟨z, hz, he⟩ := h
      obtain ⟨i, hi, hiz⟩ := List.mem_take_iff_getElem.1 hz
      exact hne i z (by omega) (by rw [List.getElem?_eq_getElem (by omega), hiz]) he
theorem cOrd_all : ∀ {l : List Cm}, (∀ (j : Nat) x y, l[j]? = some x → l[j + 1]? = some y → cLt y x = false) → cOrd l = true
  | [], _ => rfl
  | [_], _ => rfl
  | a :: b :: r, h => by
    have h1 := h 0 a b rfl rfl
    have h2 := cOrd_all (l := b :: r) fun j x y hx hy => h (j + 1) x y (by simpa using hx) (by simpa using hy)
    simp only [cOrd, h1, h2]
    rfl
theorem canon_all {l : List Cm} (h : ∀ (j : Nat) x y, l[j]? = some x → l[j + 1]? = some y → cLt x y = true ∧ firstB l (j + 1) y.p = true) : canonV l = lV l := by
  have h2 : cOrd l = true := cOrd_all fun j x y hx hy => cLt_asymm (h j x y hx hy).1
  have h1 : one1 l = true := by
    rw [one1_iff]
    refine List.pairwise_iff_getElem.2 fun i j hi hj hij => ?_
    simp only [List.length_map] at hi hj
    simp only [List.getElem_map]
    obtain ⟨k, rfl⟩ : ∃ k, j = k + 1 := ⟨j - 1, by omega⟩
    have := (h k l[k] l[k + 1] (List.getElem?_eq_getElem (by omega)) (List.getElem?_eq_getElem hj)).2
    simp only [firstB, Bool.not_eq_true', decide_eq_false_iff_not, List.mem_map, not_exists, not_and] at this
    exact this l[i] (List.mem_take_iff_getElem.2 ⟨i, by omega, rfl⟩)
  simp [canonV, h1, h2]
attribute [local irreducible] RWp AW run kPe pe Kt effA gd gu br retR RDp runD kPeD brW gW effD
set_option maxRecDepth 100000
theorem l1Under_pc (a b : Str) (ha : pV a = true) (hb : pV b = true) : PC Try.prog 100 [sA a, sA b] (vB (und a b)) := by
  have hla : a.length < 100 := by unfold pV at ha; simp only [Bool.or_eq_true, Bool.and_eq_true, decide_eq_true_eq] at ha; rcases ha with rfl | h; simp [root]; omega
  have hlb : b.length < 100 := by unfold pV at hb; simp only [Bool.or_eq_true, Bool.and_eq_true, decide_eq_true_eq] at hb; rcases hb with rfl | h; simp [root]; omega
  refine pc_enter Try.func100 rfl rfl fun w0 fb => go_on ?_; (try simp only [Try.ntmps100, push_cast, simprocAttr])
  by_cases hr : a = root
  · have d1 : decide (a = [47]) = true := by simpa [root] using hr
    by_cases hb2 : b = root
    · have d2 : decide (b = [47]) = true := by simpa [root] using hb2
      have i0 : ltI (a.length : Int) b.length = false := ltI_f (by rw [hr, hb2]; omega)
      (try simp only [d1, d2, i0, Bool.not_true, push_cast, simprocAttr])
      refine at_ret ?_; simp only [Try.results100, push_cast, simprocAttr]
      simp [vX, und, hr, hb2]
    · have d2 : decide (b = [47]) = false := by simpa [root] using hb2
      (try simp only [d1, d2, Bool.not_false, push_cast, simprocAttr])
      refine at_ret ?_; simp only [Try.results100, push_cast, simprocAttr]
      simp [vX, und, hr, hb2]
  · have d1 : decide (a = [47]) = false := by simpa [root] using hr
    rw [← und_take ha hb hr]
    by_cases hl : a.length < b.length
    · have i0 : ltI (a.length : Int) b.length = true := ltI_t (by omega)
      have i1 : (a.length : Int) ≤ b.length := by omega
      (try simp only [d1, i0, i1, push_cast, simprocAttr])
      refine at_ret ?_; simp only [Try.results100, push_cast, simprocAttr]
      simp [vX, hl]
    · have i0 : ltI (a.length : Int) b.length = false := ltI_f (by omega)
      (try simp only [d1, i0, push_cast, simprocAttr])
      refine at_ret ?_; simp only [Try.results100, push_cast, simprocAttr]
      simp [vX, hl]
theorem l16Over_pc (c d : Cm) (hc : pV c.p = true) (hd : pV d.p = true) : PC Try.prog 96 [cmdA c, cmdA d] (vB (stops c d)) := by
  have hU := l1Under_pc c.p d.p hc hd
  have e : stops c d = (und c.p d.p && !eqI c.b.k 1 && !eqI d.b.k 0) := by unfold stops; rw [eqI_d, eqI_d]; simp
  unfold cmdA cmC
  refine pc_enter Try.func96 rfl rfl fun w0 fb => go_on ?_; (try simp only [Try.ntmps96, push_cast, simprocAttr])
  repeat' first | (refine at_b (fun hb => ?_) (fun hb => ?_) <;> simp only [hb, push_cast, simprocAttr]) | (refine at_ret ?_; simp only [Try.results96, push_cast, simprocAttr]) | (refine at_call ?_; (try simp only [push_cast, simprocAttr]); refine rwc_v (by first | exact hU) (go_on ?_); simp only [push_cast, simprocAttr]) | (show RWp _ _ _ _ _; simp only [push_cast, simprocAttr])
  all_goals simp [vX, e, *]
theorem l16Clash_pc (c d : Cm) (hc : pV c.p = true) (hd : pV d.p = true) : PC Try.prog 92 [cmdA c, cmdA d] (vB (clash c d)) := by
  have h1 := l16Over_pc c d hc hd
  have h2 := l16Over_pc d c hd hc
  have e : clash c d = ((decide (c.p = d.p) && !decide (c.b = d.b)) || stops c d || stops d c) := by unfold clash; simp
  unfold cmdA cmC at *
  refine pc_enter Try.func92 rfl rfl fun w0 fb => go_on ?_; (try simp only [Try.ntmps92, push_cast, simprocAttr])
  repeat' first | (refine at_b (fun hb => ?_) (fun hb => ?_) <;> simp only [ctg, cth, ct_eq, hb, push_cast, simprocAttr]) | (refine at_ret ?_; simp only [ctg, cth, ct_eq, Try.results92, push_cast, simprocAttr]) | (refine at_call ?_; (try simp only [push_cast, simprocAttr]); refine rwc_v (by first | exact h1 | exact h2) (go_on ?_); simp only [ctg, cth, ct_eq, push_cast, simprocAttr]) | (show RWp _ _ _ _ _; simp only [ctg, cth, ct_eq, push_cast, simprocAttr])
  all_goals simp [vX, e, *]
theorem specCanonValid_pc (l : List Cm) (hl : SmL l) : PC Try.prog 91 [cmA l] (vB (canonV l)) := by
  have hln := hl.n
  have hV := specLogValid_pc l hl
  refine pc_enter Try.func91 rfl rfl fun w0 fb => go_on ?_; (try simp only [Try.ntmps91, push_cast, simprocAttr])
  refine at_loop (X := Nat) (fun k => [(3, iA ((k : Int) + 1))]) (fun _ => []) (fun k => (k = 0 ∨ k < l.length) ∧ ∀ (j : Nat) x y, j < k → l[j]? = some x → l[j + 1]? = some y → cLt x y = true ∧ firstB l (j + 1) y.p = true) (fun k => l.length - k) 0 ⟨.inl rfl, fun j x y h => by omega⟩ ?_ ?_
  · (refine wk_ok ?_ ?_ ?_ ?_ <;> simp [leL, leH, idsL, idsA, idsR, inH, hget, sameRow, upA, hvA, dsts, dstO, setA_0, setA_1, setA_8, List.append, List.cons_append, List.nil_append])
  · rintro k ⟨q1, q2⟩
    simp only [upA, hvA, dsts, dstO, setA_0, setA_1, setA_8, List.append, List.cons_append, List.nil_append]
    refine go_on ?_
    (try simp only [push_cast, simprocAttr])
    by_cases hk : k + 1 < l.length
    · obtain ⟨x, hx⟩ := get_of_lt (l := l) (k := k) (by omega)
      obtain ⟨y, hy⟩ := get_of_lt hk
      have i0 : ltI ((k : Int) + 1) l.length = true := ltI_t (by omega)
      have w0' : IntKind.i64.wrap ((k : Int) + 1 - 1) = (k : Int) := by rw [show (k : Int) + 1 - 1 = k by omega]; exact wr _ (by omega)
      have w1 : IntKind.i64.wrap ((k : Int) + 1 + 1) = (k : Int) + 1 + 1 := wr _ (by omega)
      have i1 := ix_n hx
      have i3 : toIx ((k : Int) + 1) l.length = some (k + 1) := by have := ix_n hy; simpa using this
      have i2 := map_get cmC hx
      have i4 := map_get cmC hy
      have hB := l14Before_pc x y
      have hF := l14First_pc l (by omega) (k + 1) y hy
      unfold cmdA at hB
      simp only [cmC] at i2 i4 hB
      rw [show ((k + 1 : Nat) : Int) = (k : Int) + 1 by omega] at hF
      (try simp only [i0, push_cast, simprocAttr])
      refine at_draw rfl (by kernel_rfl) ?_
      (try simp only [i1, i2, w0', i3, i4, push_cast, simprocAttr])
      refine at_callD (by simp [clB, idsL, idsA, hget]) ?_
      (try simp only [push_cast, simprocAttr])
      refine rcd_v hB ?_
      cases hb : cLt x y with
      | false =>
        (try simp only [hb, Bool.not_false, push_cast, simprocAttr])
        refine at_done (by kernel_rfl) (by kernel_rfl) (go_on ?_)
        (try simp only [push_cast, simprocAttr])
        refine at_ret ?_; simp only [Try.results91, push_cast, simprocAttr]
        simp [vX, canon_fail hx hy (.inl hb)]
      | true =>
        (try simp only [hb, Bool.not_true, push_cast, simprocAttr])
        refine at_callD (by simp [clB, idsL, idsA, hget]) ?_
        (try simp only [push_cast, simprocAttr])
        refine rcd_v hF ?_
        cases hf : firstB l (k + 1) y.p with
        | false =>
          (try simp only [hf, Bool.not_false, push_cast, simprocAttr])
          refine at_done (by kernel_rfl) (by kernel_rfl) (go_on ?_)
          (try simp only [push_cast, simprocAttr])
          refine at_ret ?_; simp only [Try.results91, push_cast, simprocAttr]
          simp [vX, canon_fail hx hy (.inr hf)]
        | true =>
          (try simp only [hf, Bool.not_true, push_cast, simprocAttr])
          refine at_done (by kernel_rfl) (by kernel_rfl) (go_on ?_)
          (try simp only [w1, push_cast, simprocAttr])
          refine at_fin ⟨k + 1, ⟨.inr (by omega), fun j u v hj hu hv => ?_⟩, by omega, ?_⟩
          · rcases Nat.lt_or_ge j k with h | h
            · exact q2 j u v h hu hv
            · obtain rfl : j = k := by omega
              rw [hx] at hu
              rw [hy] at hv
              cases hu
              cases hv
              exact ⟨hb, hf⟩
          · (refine wk_ok ?_ ?_ ?_ ?_ <;> simp [show ((k + 1 : Nat) : Int) = (k : Int) + 1 by omega, leL, leH, idsL, idsA, idsR, inH, hget, sameRow, upA, hvA, dsts, dstO, setA_0, setA_1, setA_8, List.append, List.cons_append, List.nil_append])
    · have i0 : ltI ((k : Int) + 1) l.length = false := ltI_f (by omega)
      have e := canon_all fun j x y hx hy => q2 j x y (by have := lt_of_some hy; omega) hx hy
      (try simp only [i0, push_cast, simprocAttr])
      (refine at_call ?_; (try simp only [push_cast, simprocAttr]); refine rwc_v (hV) (go_on ?_); (try simp only [push_cast, simprocAttr]))
      refine at_ret ?_; simp only [Try.results91, push_cast, simprocAttr]
      simp [vX, e]
end Go.Proofs.Ytdjglbedimpldaa
/-
  Walks: spec: l16Ok, l16Some, l16Has, ClashesOf, l42Ok, SessionClashes.
-/
namespace Go.Proofs.Ytdjglbedimpldaa
open Go Go.RowKit Go.Proofs
/-- All paths are well formed. -/
def PvL (l : List Cm) : Prop := ∀ c ∈ l, pV c.p = true
theorem canonV_pv {l : List Cm} (h : canonV l = true) : PvL l := fun c hc => by
  unfold canonV at h
  simp only [Bool.and_eq_true] at h
  exact (lV_cv h.1.1 c hc).p
attribute [local irreducible] RWp AW run kPe pe Kt effA gd gu br retR RDp runD kPeD brW gW effD
set_option maxRecDepth 100000
theorem l16Ok_pc (a b : List Cm) (ha : SmL a) (hb : SmL b) : PC Try.prog 79 [cmA a, cmA b] (vB (canonV a && canonV b)) := by
  have h1 := specCanonValid_pc a ha
  have h2 := specCanonValid_pc b hb
  refine pc_enter Try.func79 rfl rfl fun w0 fb => go_on ?_; (try simp only [Try.ntmps79, push_cast, simprocAttr])
  repeat' first | (refine at_b (fun hb => ?_) (fun hb => ?_) <;> simp only [hb, push_cast, simprocAttr]) | (refine at_ret ?_; simp only [Try.results79, push_cast, simprocAttr]) | (refine at_call ?_; (try simp only [push_cast, simprocAttr]); refine rwc_v (by first | exact h1 | exact h2) (go_on ?_); simp only [push_cast, simprocAttr]) | (show RWp _ _ _ _ _; simp only [push_cast, simprocAttr])
  all_goals simp [vX, *]
theorem any_drop {α : Type} {p : α → Bool} {l : List α} {k : Nat} {x : α} (hx : l[k]? = some x) : (l.drop k).any p = (p x || (l.drop (k + 1)).any p) := by
  rw [drop_of_get hx, List.any_cons]
theorem l16Some_pc (l : List Cm) (hl : SmL l) (hp : PvL l) (c : Cm) (hc : pV c.p = true) : PC Try.prog 80 [cmA l, cmdA c] (vB (disp l c)) := by
  have hln := hl.n
  have e : disp l c = l.any fun d => clash d c := by unfold disp; congr 1; funext d; exact clash_symm c d
  rw [e]
  unfold cmdA cmC
  refine pc_enter Try.func80 rfl rfl fun w0 fb => go_on ?_; (try simp only [Try.ntmps80, push_cast, simprocAttr])
  refine at_loop (X := Nat) (fun k => [(5, iA k)]) (fun _ => [(3, ⟨70, 5, [cmC c], true⟩)]) (fun k => k ≤ l.length ∧ (l.any fun d => clash d c) = ((l.drop k).any fun d => clash d c)) (fun k => l.length - k) 0 ⟨Nat.zero_le _, rfl⟩ ?_ ?_
  · (refine wk_ok ?_ ?_ ?_ ?_ <;> simp [cmC, leL, leH, idsL, idsA, idsR, inH, hget, sameRow, upA, hvA, dsts, dstO, setA_0, setA_1, setA_8, List.append, List.cons_append, List.nil_append])
  · rintro k ⟨q1, q2⟩
    simp only [upA, hvA, dsts, dstO, setA_0, setA_1, setA_8, List.append, List.cons_append, List.nil_append]
    refine go_on ?_
    (try simp only [push_cast, simprocAttr])
    by_cases hk : k < l.length
    · obtain ⟨x, hx⟩ := get_of_lt hk
      have i0 : ltI (k : Int) l.length = true := ltI_t (by omega)
      have i1 := ix_n hx
      have i2 := map_get cmC hx
      have w1 := wr ((k : Int) + 1) (by omega)
      have hX := l16Clash_pc x c (hp x (mem_of_get hx)) hc
      unfold cmdA at hX
      simp only [cmC] at i2 hX
      rw [any_drop hx] at q2
      (try simp only [i0, push_cast, simprocAttr])
      refine at_draw rfl (by kernel_rfl) ?_
      (try simp only [i1, i2, cmC, push_cast, simprocAttr])
      refine at_callD (by simp [clB, idsL, idsA, hget]) ?_
      (try simp only [push_cast, simprocAttr])
      refine rcd_v hX ?_
      (try simp only [push_cast, simprocAttr])
      refine at_done (by kernel_rfl) (by kernel_rfl) (go_on ?_)
      cases hcl : clash x c with
      | true =>
        rw [hcl] at q2
        (try simp only [hcl, push_cast, simprocAttr])
        refine at_ret ?_; simp only [Try.results80, push_cast, simprocAttr]
        simp [vX, q2]
      | false =>
        rw [hcl] at q2
        (try simp only [hcl, w1, push_cast, simprocAttr])
        refine at_fin ⟨k + 1, ⟨by omega, by simpa using q2⟩, by omega, ?_⟩
        (refine wk_ok ?_ ?_ ?_ ?_ <;> simp [cmC, leL, leH, idsL, idsA, idsR, inH, hget, sameRow, upA, hvA, dsts, dstO, setA_0, setA_1, setA_8, List.append, List.cons_append, List.nil_append])
    · have i0 : ltI (k : Int) l.length = false := ltI_f (by omega)
      rw [List.drop_of_length_le (by omega)] at q2
      (try simp only [i0, push_cast, simprocAttr])
      refine at_ret ?_; simp only [Try.results80, push_cast, simprocAttr]
      simp [vX, q2]
theorem l16Has_pc (l : List Cm) (hl : SmL l) (c : Cm) : PC Try.prog 90 [cmA l, cmdA c] (vB (decide (c ∈ l))) := by
  have hln := hl.n
  have e : decide (c ∈ l) = l.any fun d => decide (d = c) := by
    rw [Bool.eq_iff_iff, List.any_eq_true, decide_eq_true_eq]
    exact ⟨fun h => ⟨c, h, by simp⟩, fun ⟨x, h1, h2⟩ => by simp at h2; rwa [← h2]⟩
  rw [e]
  unfold cmdA cmC
  refine pc_enter Try.func90 rfl rfl fun w0 fb => go_on ?_; (try simp only [Try.ntmps90, push_cast, simprocAttr])
  refine at_loop (X := Nat) (fun k => [(5, iA k)]) (fun _ => [(3, ⟨70, 5, [cmC c], true⟩)]) (fun k => k ≤ l.length ∧ (l.any fun d => decide (d = c)) = ((l.drop k).any fun d => decide (d = c))) (fun k => l.length - k) 0 ⟨Nat.zero_le _, rfl⟩ ?_ ?_
  · (refine wk_ok ?_ ?_ ?_ ?_ <;> simp [cmC, leL, leH, idsL, idsA, idsR, inH, hget, sameRow, upA, hvA, dsts, dstO, setA_0, setA_1, setA_8, List.append, List.cons_append, List.nil_append])
  · rintro k ⟨q1, q2⟩
    simp only [upA, hvA, dsts, dstO, setA_0, setA_1, setA_8, List.append, List.cons_append, List.nil_append]
    refine go_on ?_
    (try simp only [push_cast, simprocAttr])
    by_cases hk : k < l.length
    · obtain ⟨x, hx⟩ := get_of_lt hk
      have i0 : ltI (k : Int) l.length = true := ltI_t (by omega)
      have i1 := ix_n hx
      have i2 := map_get cmC hx
      have w1 := wr ((k : Int) + 1) (by omega)
      have e := cm_eq x c
      simp only [cmC] at i2
      rw [any_drop hx] at q2
      (try simp only [i0, push_cast, simprocAttr])
      refine at_draw rfl (by kernel_rfl) ?_
      (try simp only [i1, i2, cmC, ctg, cth, cmg, cmh, push_cast, simprocAttr])
      refine at_done (by kernel_rfl) (by kernel_rfl) (go_on ?_)
      (try simp only [e, push_cast, simprocAttr])
      refine at_b (fun hn => ?_) (fun hn => ?_)
      · rw [hn] at q2
        (try simp only [hn, push_cast, simprocAttr])
        refine at_ret ?_; simp only [Try.results90, push_cast, simprocAttr]
        simp [vX, q2]
      · have hn' : decide (x = c) = false := hn
        rw [hn'] at q2
        (try simp only [hn', w1, push_cast, simprocAttr])
        refine at_fin ⟨k + 1, ⟨by omega, by simpa using q2⟩, by omega, ?_⟩
        (refine wk_ok ?_ ?_ ?_ ?_ <;> simp [cmC, leL, leH, idsL, idsA, idsR, inH, hget, sameRow, upA, hvA, dsts, dstO, setA_0, setA_1, setA_8, List.append, List.cons_append, List.nil_append])
    · have i0 : ltI (k : Int) l.length = false := ltI_f (by omega)
      rw [List.drop_of_length_le (by omega)] at q2
      (try simp only [i0, push_cast, simprocAttr])
      refine at_ret ?_; simp only [Try.results90, push_cast, simprocAttr]
      simp [vX, q2]
end Go.Proofs.Ytdjglbedimpldaa
/-
  Walks: spec: l42Trees, l42Ok, SessionClashes.
-/
namespace Go.Proofs.Ytdjglbedimpldaa
open Go Go.RowKit Go.Proofs
attribute [local irreducible] RWp AW run kPe pe Kt effA gd gu br retR RDp runD kPeD brW gW effD
set_option maxRecDepth 100000
theorem l42Trees_pc (a b : List Nd) (hl : a.length < 4294967281) : PC Try.prog 72 [ndA a, ndA b] (vB (decide (a = b))) := by
  refine pc_enter Try.func72 rfl rfl fun w0 fb => go_on ?_; (try simp only [Try.ntmps72, push_cast, simprocAttr])
  refine at_b (fun hb => ?_) (fun hb => ?_)
  · have h1 := of_eqI_f (not_t hb)
    have h2 : a ≠ b := by rintro rfl; exact h1 rfl
    (try simp only [hb, push_cast, simprocAttr])
    refine at_ret ?_; simp only [Try.results72, push_cast, simprocAttr]
    simp [vX, h2]
  · have h1 : a.length = b.length := by have := of_eqI_t (not_f hb); omega
    (try simp only [hb, push_cast, simprocAttr])
    refine at_loop (X := Nat) (fun k => [(5, iA k)]) (fun _ => []) (fun k => k ≤ a.length ∧ decide (a = b) = decide (a.drop k = b.drop k)) (fun k => a.length - k) 0 ⟨Nat.zero_le _, rfl⟩ ?_ ?_
    · (refine wk_ok ?_ ?_ ?_ ?_ <;> simp [leL, leH, idsL, idsA, idsR, inH, hget, sameRow, upA, hvA, dsts, dstO, setA_0, setA_1, setA_8, List.append, List.cons_append, List.nil_append])
    · rintro k ⟨q1, q2⟩
      simp only [upA, hvA, dsts, dstO, setA_0, setA_1, setA_8, List.append, List.cons_append, List.nil_append]
      refine go_on ?_
      (try simp only [push_cast, simprocAttr])
      refine at_b (fun hg => ?_) (fun hg => ?_)
      · have hlt := lt_tt hg
        obtain ⟨x, hx⟩ := get_of_lt hlt
        obtain ⟨y, hy⟩ := get_of_lt (l := b) (k := k) (by omega)
        have i1 := ix_n hx
        have i3 := ix_n hy
        have i2 := map_get ndC hx
        have i4 := map_get ndC hy
        simp only [ndC] at i2 i4
        rw [drop_of_get hx, drop_of_get hy] at q2
        have w2 := wr ((k : Int) + 1) (by omega)
        (try simp only [hg, push_cast, simprocAttr])
        refine at_draw rfl (by kernel_rfl) ?_
        (try simp only [i1, i2, i3, i4, ctg, cth, ndg, ndh, push_cast, simprocAttr])
        refine at_done (by kernel_rfl) (by kernel_rfl) (go_on ?_)
        have e : (decide (x.p = y.p) && (eqI x.c.k y.c.k && eqI x.c.v y.c.v)) = decide (x = y) := by
          rw [Bool.eq_iff_iff]; simp [eqI_d, nd_ext, ct_ext]
        (try simp only [e, push_cast, simprocAttr])
        refine at_b (fun hn => ?_) (fun hn => ?_)
        · have hxy : x ≠ y := by simpa using hn
          (try simp only [hn, push_cast, simprocAttr])
          refine at_ret ?_; simp only [Try.results72, push_cast, simprocAttr]
          simp [vX, q2, hxy]
        · have hxy : x = y := by simpa using hn
          (try simp only [hn, w2, push_cast, simprocAttr])
          refine at_fin ⟨k + 1, ⟨by omega, ?_⟩, by omega, ?_⟩
          · rw [q2]; simp [hxy]
          · (refine wk_ok ?_ ?_ ?_ ?_ <;> simp [leL, leH, idsL, idsA, idsR, inH, hget, sameRow, upA, hvA, dsts, dstO, setA_0, setA_1, setA_8, List.append, List.cons_append, List.nil_append])
      · have h3 := lt_ff hg
        (try simp only [hg, push_cast, simprocAttr])
        refine at_ret ?_; simp only [Try.results72, push_cast, simprocAttr]
        rw [List.drop_of_length_le h3, List.drop_of_length_le (by omega)] at q2
        simp [vX, q2]
theorem l42Ok_pc (a b : St) (ha : SmS a) (hb : SmS b) : PC Try.prog 57 [stA' a, stA' b] (vB (meet a b)) := by
  have h1 := specSiteValid_pc a ha
  have h2 := specSiteValid_pc b hb
  have h3 := l42Trees_pc a.base b.base (by have := ha.t.n; omega)
  have e : meet a b = (siteV a && siteV b && eqI a.ep b.ep && ltI a.ep 99 && decide (a.base = b.base)) := by
    unfold meet ltI; rw [eqI_d]
    cases siteV a <;> cases siteV b <;> cases decide (a.base = b.base) <;> cases decide (a.ep = b.ep) <;> cases decide (a.ep < 99) <;> rfl
  unfold stA' stC at *
  refine pc_enter Try.func57 rfl rfl fun w0 fb => go_on ?_; (try simp only [Try.ntmps57, push_cast, simprocAttr])
  repeat' first | (refine at_b (fun hb => ?_) (fun hb => ?_) <;> simp only [hb, push_cast, simprocAttr]) | (refine at_ret ?_; simp only [Try.results57, push_cast, simprocAttr]) | (refine at_call ?_; (try simp only [push_cast, simprocAttr]); refine rwc_v (by first | exact h1 | exact h2 | exact h3) (go_on ?_); simp only [push_cast, simprocAttr]) | (show RWp _ _ _ _ _; simp only [push_cast, simprocAttr])
  all_goals simp [vX, e, *]
end Go.Proofs.Ytdjglbedimpldaa
/-
  Walks: spec: SafeOf, LeftOf, PairFits.
-/
namespace Go.Proofs.Ytdjglbedimpldaa
open Go Go.RowKit Go.Proofs
attribute [local irreducible] RWp AW run kPe pe Kt effA gd gu br retR RDp runD kPeD brW gW effD
set_option maxRecDepth 100000
theorem specSafeOf_pc (a b : List Cm) (ha : SmL a) (hb : SmL b) : PC Try.prog 78 [cmA a, cmA b] (rX (.o 0 (safeOf a b).length) [rowC (safeOf a b)]) := by
  have hO := l16Ok_pc a b ha hb
  have hln := hb.n
  refine pc_enter Try.func78 rfl rfl fun w0 fb => go_on ?_; (try simp only [Try.ntmps78, push_cast, simprocAttr])
  cases hc : (canonV a && canonV b) with
  | false =>
    have e : safeOf a b = [] := by simp [safeOf, hc]
    rw [hc] at hO
    refine at_loop (X := Unit) (fun _ => [(4, .any), (5, .o 7 0), (6, iA 0)]) (fun _ => [(7, rowC [])]) (fun _ => True) (fun _ => 0) () trivial ?_ ?_
    · (refine wk_ok ?_ ?_ ?_ ?_ <;> simp [rowC, leL, leH, idsL, idsA, idsR, inH, hget, sameRow, upA, hvA, dsts, dstO, setA_0, setA_1, setA_8, List.append, List.cons_append, List.nil_append])
    · rintro ⟨⟩ -
      simp only [upA, hvA, dsts, dstO, setA_0, setA_1, setA_8, List.append, List.cons_append, List.nil_append]
      refine go_on ?_
      (try simp only [push_cast, simprocAttr])
      by_cases hi : 0 < b.length
      · have i0 : ltI 0 (b.length : Int) = true := ltI_t (by omega)
        (try simp only [i0, push_cast, simprocAttr])
        (refine at_call ?_; (try simp only [push_cast, simprocAttr]); refine rwc_v (hO) (go_on ?_); (try simp only [push_cast, simprocAttr]))
        refine at_ret ?_; simp only [Try.results78, push_cast, simprocAttr]
        simp [rX, e, ixOf]
      · have i0 : ltI 0 (b.length : Int) = false := ltI_f (by omega)
        (try simp only [i0, push_cast, simprocAttr])
        refine at_ret ?_; simp only [Try.results78, push_cast, simprocAttr]
        simp [rX, e, ixOf]
  | true =>
    rw [hc] at hO
    have e : safeOf a b = b.filter (fun c => !decide (c ∈ a) && !disp a c) := by simp [safeOf, hc]
    simp only [Bool.and_eq_true] at hc
    have hla := canonV_le hc.1
    have hlb := canonV_le hc.2
    have hpa := canonV_pv hc.1
    have hpb := canonV_pv hc.2
    rw [e]
    refine at_loop (X := Nat × List Cm) (fun x => [(4, .any), (7, .any), (5, .o 7 x.2.length), (6, iA x.1)]) (fun x => [(7, rowC x.2)])
      (fun x => x.1 ≤ b.length ∧ x.2 = (b.take x.1).filter (fun c => !decide (c ∈ a) && !disp a c)) (fun x => b.length - x.1) (0, []) ⟨Nat.zero_le _, rfl⟩ ?_ ?_
    · (refine wk_ok ?_ ?_ ?_ ?_ <;> simp [rowC, leL, leH, idsL, idsA, idsR, inH, hget, sameRow, upA, hvA, dsts, dstO, setA_0, setA_1, setA_8, List.append, List.cons_append, List.nil_append])
    · rintro ⟨i, o⟩ ⟨q1, q2⟩
      simp only at q1 q2
      simp only [upA, hvA, dsts, dstO, setA_0, setA_1, setA_8, List.append, List.cons_append, List.nil_append]
      refine go_on ?_
      (try simp only [push_cast, simprocAttr])
      have w1 : IntKind.i64.wrap ((i : Int) + 1) = (i : Int) + 1 := wr _ (by omega)
      have hol : o.length ≤ i := by rw [q2]; exact Nat.le_trans (List.length_filter_le _ _) (by simp; omega)
      by_cases hi : i < b.length
      · obtain ⟨c, hc⟩ := get_of_lt hi
        have i0 : ltI (i : Int) b.length = true := ltI_t (by omega)
        have i1 := ix_n hc
        have i2 := map_get cmC hc
        have hS := l16Some_pc a ha hpa c (hpb c (mem_of_get hc))
        have hH := l16Has_pc a ha c
        unfold cmdA at hS hH
        simp only [cmC] at i2 hS hH
        have hq : (b.take (i + 1)).filter (fun c => !decide (c ∈ a) && !disp a c) = o ++ (if !decide (c ∈ a) && !disp a c then [c] else []) := by
          rw [List.take_add_one, hc, List.filter_append, ← q2]
          cases hpc : (!decide (c ∈ a) && !disp a c) <;> simp [hpc]
        (try simp only [i0, push_cast, simprocAttr])
        (refine at_call ?_; (try simp only [push_cast, simprocAttr]); refine rwc_v (hO) (go_on ?_); (try simp only [push_cast, simprocAttr]))
        (try simp only [i1, i2, push_cast, simprocAttr])
        (refine at_call ?_; (try simp only [push_cast, simprocAttr]); refine rwc_v (hS) (go_on ?_); (try simp only [push_cast, simprocAttr]))
        cases hd : disp a c with
        | true =>
          rw [hd, Bool.not_true, Bool.and_false, if_neg (by simp), List.append_nil] at hq
          (try simp only [hd, Bool.not_true, w1, push_cast, simprocAttr])
          refine at_fin ⟨(i + 1, o), ⟨by dsimp only; omega, hq.symm⟩, by dsimp only; omega, ?_⟩
          (refine wk_ok ?_ ?_ ?_ ?_ <;> simp [rowC, cmC, leL, leH, idsL, idsA, idsR, inH, hget, sameRow, upA, hvA, dsts, dstO, setA_0, setA_1, setA_8, List.append, List.cons_append, List.nil_append])
        | false =>
          rw [hd, Bool.not_false, Bool.and_true] at hq
          (try simp only [hd, Bool.not_false, i1, i2, push_cast, simprocAttr])
          (refine at_call ?_; (try simp only [push_cast, simprocAttr]); refine rwc_v (hH) (go_on ?_); (try simp only [push_cast, simprocAttr]))
          refine at_b (fun hm => ?_) (fun hm => ?_)
          · have hm' : decide (c ∈ a) = false := by simpa using hm
            rw [hm', Bool.not_false, if_pos rfl] at hq
            have happ : o.map cmC ++ [[sA c.p, iA c.a.k, iA c.a.v, iA c.b.k, iA c.b.v]] = (o ++ [c]).map cmC := by rw [List.map_append]; rfl
            (try simp only [hm', Bool.not_false, i1, i2, rowC, push_cast, simprocAttr])
            refine at_chk (by omega) ?_
            (try simp only [happ, rowC, w1, push_cast, simprocAttr])
            refine at_fin ⟨(i + 1, o ++ [c]), ⟨by dsimp only; omega, hq.symm⟩, by dsimp only; omega, ?_⟩
            (refine wk_ok ?_ ?_ ?_ ?_ <;> simp [rowC, cmC, leL, leH, idsL, idsA, idsR, inH, hget, sameRow, upA, hvA, dsts, dstO, setA_0, setA_1, setA_8, List.append, List.cons_append, List.nil_append])
          · have hm' : decide (c ∈ a) = true := by simpa using hm
            rw [hm', Bool.not_true, if_neg (by simp), List.append_nil] at hq
            (try simp only [hm', Bool.not_true, w1, push_cast, simprocAttr])
            refine at_fin ⟨(i + 1, o), ⟨by dsimp only; omega, hq.symm⟩, by dsimp only; omega, ?_⟩
            (refine wk_ok ?_ ?_ ?_ ?_ <;> simp [rowC, cmC, leL, leH, idsL, idsA, idsR, inH, hget, sameRow, upA, hvA, dsts, dstO, setA_0, setA_1, setA_8, List.append, List.cons_append, List.nil_append])
      · have i0 : ltI (i : Int) b.length = false := ltI_f (by omega)
        rw [List.take_of_length_le (by omega)] at q2
        (try simp only [i0, push_cast, simprocAttr])
        refine at_ret ?_; simp only [Try.results78, push_cast, simprocAttr]
        simp [rX, ← q2, ixOf]
theorem specLeftOf_pc (a b : List Cm) (ha : SmL a) (hb : SmL b) : PC Try.prog 61 [cmA a, cmA b] (rX (.o 0 (leftOf a b).length) [rowC (leftOf a b)]) := by
  have hO := l16Ok_pc a b ha hb
  have hln := ha.n
  refine pc_enter Try.func61 rfl rfl fun w0 fb => go_on ?_; (try simp only [Try.ntmps61, push_cast, simprocAttr])
  cases hc : (canonV a && canonV b) with
  | false =>
    have e : leftOf a b = [] := by simp [leftOf, hc]
    rw [hc] at hO
    refine at_loop (X := Unit) (fun _ => [(4, .any), (5, .o 7 0), (6, iA 0)]) (fun _ => [(7, rowC [])]) (fun _ => True) (fun _ => 0) () trivial ?_ ?_
    · (refine wk_ok ?_ ?_ ?_ ?_ <;> simp [rowC, leL, leH, idsL, idsA, idsR, inH, hget, sameRow, upA, hvA, dsts, dstO, setA_0, setA_1, setA_8, List.append, List.cons_append, List.nil_append])
    · rintro ⟨⟩ -
      simp only [upA, hvA, dsts, dstO, setA_0, setA_1, setA_8, List.append, List.cons_append, List.nil_append]
      refine go_on ?_
      (try simp only [push_cast, simprocAttr])
      by_cases hi : 0 < a.length
      · have i0 : ltI 0 (a.length : Int) = true := ltI_t (by omega)
        (try simp only [i0, push_cast, simprocAttr])
        (refine at_call ?_; (try simp only [push_cast, simprocAttr]); refine rwc_v (hO) (go_on ?_); (try simp only [push_cast, simprocAttr]))
        refine at_ret ?_; simp only [Try.results61, push_cast, simprocAttr]
        simp [rX, e, ixOf]
      · have i0 : ltI 0 (a.length : Int) = false := ltI_f (by omega)
        (try simp only [i0, push_cast, simprocAttr])
        refine at_ret ?_; simp only [Try.results61, push_cast, simprocAttr]
        simp [rX, e, ixOf]
  | true =>
    rw [hc] at hO
    have e : leftOf a b = a.filter (disp b) := by simp [leftOf, hc]
    simp only [Bool.and_eq_true] at hc
    have hla := canonV_le hc.1
    have hlb := canonV_le hc.2
    have hpa := canonV_pv hc.1
    have hpb := canonV_pv hc.2
    rw [e]
    refine at_loop (X := Nat × List Cm) (fun x => [(4, .any), (7, .any), (5, .o 7 x.2.length), (6, iA x.1)]) (fun x => [(7, rowC x.2)])
      (fun x => x.1 ≤ a.length ∧ x.2 = (a.take x.1).filter (disp b)) (fun x => a.length - x.1) (0, []) ⟨Nat.zero_le _, rfl⟩ ?_ ?_
    · (refine wk_ok ?_ ?_ ?_ ?_ <;> simp [rowC, leL, leH, idsL, idsA, idsR, inH, hget, sameRow, upA, hvA, dsts, dstO, setA_0, setA_1, setA_8, List.append, List.cons_append, List.nil_append])
    · rintro ⟨i, o⟩ ⟨q1, q2⟩
      simp only at q1 q2
      simp only [upA, hvA, dsts, dstO, setA_0, setA_1, setA_8, List.append, List.cons_append, List.nil_append]
      refine go_on ?_
      (try simp only [push_cast, simprocAttr])
      have w1 : IntKind.i64.wrap ((i : Int) + 1) = (i : Int) + 1 := wr _ (by omega)
      have hol : o.length ≤ i := by rw [q2]; exact Nat.le_trans (List.length_filter_le _ _) (by simp; omega)
      by_cases hi : i < a.length
      · obtain ⟨c, hc⟩ := get_of_lt hi
        have i0 : ltI (i : Int) a.length = true := ltI_t (by omega)
        have i1 := ix_n hc
        have i2 := map_get cmC hc
        have hS := l16Some_pc b hb hpb c (hpa c (mem_of_get hc))
        unfold cmdA at hS
        simp only [cmC] at i2 hS
        have hq : (a.take (i + 1)).filter (disp b) = o ++ (if disp b c then [c] else []) := by
          rw [List.take_add_one, hc, List.filter_append, ← q2]
          cases hpc : disp b c <;> simp [hpc]
        (try simp only [i0, push_cast, simprocAttr])
        (refine at_call ?_; (try simp only [push_cast, simprocAttr]); refine rwc_v (hO) (go_on ?_); (try simp only [push_cast, simprocAttr]))
        (try simp only [i1, i2, push_cast, simprocAttr])
        (refine at_call ?_; (try simp only [push_cast, simprocAttr]); refine rwc_v (hS) (go_on ?_); (try simp only [push_cast, simprocAttr]))
        cases hd : disp b c with
        | false =>
          rw [hd, if_neg (by simp), List.append_nil] at hq
          (try simp only [hd, w1, push_cast, simprocAttr])
          refine at_fin ⟨(i + 1, o), ⟨by dsimp only; omega, hq.symm⟩, by dsimp only; omega, ?_⟩
          (refine wk_ok ?_ ?_ ?_ ?_ <;> simp [rowC, cmC, leL, leH, idsL, idsA, idsR, inH, hget, sameRow, upA, hvA, dsts, dstO, setA_0, setA_1, setA_8, List.append, List.cons_append, List.nil_append])
        | true =>
          rw [hd, if_pos rfl] at hq
          have happ : o.map cmC ++ [[sA c.p, iA c.a.k, iA c.a.v, iA c.b.k, iA c.b.v]] = (o ++ [c]).map cmC := by rw [List.map_append]; rfl
          (try simp only [hd, i1, i2, rowC, push_cast, simprocAttr])
          refine at_chk (by omega) ?_
          (try simp only [happ, rowC, w1, push_cast, simprocAttr])
          refine at_fin ⟨(i + 1, o ++ [c]), ⟨by dsimp only; omega, hq.symm⟩, by dsimp only; omega, ?_⟩
          (refine wk_ok ?_ ?_ ?_ ?_ <;> simp [rowC, cmC, leL, leH, idsL, idsA, idsR, inH, hget, sameRow, upA, hvA, dsts, dstO, setA_0, setA_1, setA_8, List.append, List.cons_append, List.nil_append])
      · have i0 : ltI (i : Int) a.length = false := ltI_f (by omega)
        rw [List.take_of_length_le (by omega)] at q2
        (try simp only [i0, push_cast, simprocAttr])
        refine at_ret ?_; simp only [Try.results61, push_cast, simprocAttr]
        simp [rX, ← q2, ixOf]
theorem specPairFits_pc (t : List Nd) (ht : SmT2 t) (a b : List Cm) (ha : SmL a) (hb : SmL b) : PC Try.prog 74 [ndA t, cmA a, cmA b] (vB (pairFits t a b)) := by
  have h1 := l16Ok_pc a b ha hb
  have h3 := specLogFits_pc t ht a ha
  have h4 := specLogFits_pc t ht b hb
  obtain ⟨u, hu⟩ : ∃ u, u = (canonV a && canonV b) := ⟨_, rfl⟩
  have e : pairFits t a b = (u && fits t a && fits t b) := by rw [hu]; rfl
  rw [← hu] at h1
  clear hu
  refine pc_enter Try.func74 rfl rfl fun w0 fb => go_on ?_; (try simp only [Try.ntmps74, push_cast, simprocAttr])
  repeat' first | (refine at_b (fun hb => ?_) (fun hb => ?_) <;> simp only [hb, push_cast, simprocAttr]) | (refine at_ret ?_; simp only [Try.results74, push_cast, simprocAttr]) | (refine at_call ?_; (try simp only [push_cast, simprocAttr]); refine rwc_v (by first | exact h1 | exact h3 | exact h4) (go_on ?_); simp only [push_cast, simprocAttr]) | (show RWp _ _ _ _ _; simp only [push_cast, simprocAttr])
  all_goals simp [vX, e, *]
end Go.Proofs.Ytdjglbedimpldaa
/-
  Walks: spec: l21Kept, PairTree, PairBase.
-/
namespace Go.Proofs.Ytdjglbedimpldaa
open Go Go.RowKit Go.Proofs
attribute [local irreducible] RWp AW run kPe pe Kt effA gd gu br retR RDp runD kPeD brW gW effD
set_option maxRecDepth 100000
theorem l21Kept_pc (a b : List Cm) (ha : SmL a) (hb : SmL b) (h1 : canonV a = true) (h2 : canonV b = true) : PC Try.prog 75 [cmA a, cmA b] (vX (cmA (cSort (kept a b)))) := by
  have hS := specSafeOf_pc a b ha hb
  have hla := canonV_le h1
  have hlb := canonV_le h2
  have hpa := canonV_pv h1
  have hpb := canonV_pv h2
  have h3 := safeOf_len a b
  refine pc_enter Try.func75 rfl rfl fun w0 fb => go_on ?_; (try simp only [Try.ntmps75, push_cast, simprocAttr])
  (refine at_call ?_; (try simp only [push_cast, simprocAttr]); refine rwc_r (hS) rfl (flat_c _) (by simp [frB, baseOf]) (go_on ?_); (try simp only [push_cast, simprocAttr]))
  refine at_loop (X := Nat × List Cm) (fun x => [(4, .any), (9, .any), (5, .o 10000 x.2.length), (6, iA x.1)]) (fun x => [(10000, rowC x.2)])
    (fun x => x.1 ≤ a.length ∧ x.2 = safeOf a b ++ (a.take x.1).filter fun c => !disp b c) (fun x => a.length - x.1) (0, safeOf a b) ⟨Nat.zero_le _, by simp⟩ ?_ ?_
  · (refine wk_ok ?_ ?_ ?_ ?_ <;> simp [rowC, leL, leH, idsL, idsA, idsR, inH, hget, sameRow, upA, hvA, dsts, dstO, setA_0, setA_1, setA_8, List.append, List.cons_append, List.nil_append])
  · rintro ⟨i, o⟩ ⟨q1, q2⟩
    simp only at q1 q2
    simp only [upA, hvA, dsts, dstO, setA_0, setA_1, setA_8, List.append, List.cons_append, List.nil_append]
    have w1 : IntKind.i64.wrap ((i : Int) + 1) = (i : Int) + 1 := wr _ (by omega)
    have hol : o.length ≤ b.length + i := by
      have := List.length_filter_le (fun c => !disp b c) (a.take i)
      rw [q2]; simp only [List.length_append]; simp only [List.length_take] at this; omega
    by_cases hi : i < a.length
    · refine go_on ?_
      (try simp only [push_cast, simprocAttr])
      obtain ⟨c, hc⟩ := get_of_lt hi
      have i0 : ltI (i : Int) a.length = true := ltI_t (by omega)
      have i1 := ix_n hc
      have i2 := map_get cmC hc
      have hP := l16Some_pc b hb hpb c (hpa c (mem_of_get hc))
      unfold cmdA at hP
      simp only [cmC] at i2 hP
      (try simp only [i0, i1, i2, push_cast, simprocAttr])
      (refine at_call ?_; (try simp only [push_cast, simprocAttr]); refine rwc_v (hP) (go_on ?_); (try simp only [push_cast, simprocAttr]))
      have hq : safeOf a b ++ (a.take (i + 1)).filter (fun c => !disp b c) = o ++ (if disp b c then [] else [c]) := by
        rw [List.take_add_one, hc, List.filter_append, q2, List.append_assoc]
        cases hpc : disp b c <;> simp [hpc]
      cases hpc : disp b c with
      | false =>
        rw [hpc, if_neg (by simp)] at hq
        have happ : o.map cmC ++ [[sA c.p, iA c.a.k, iA c.a.v, iA c.b.k, iA c.b.v]] = (o ++ [c]).map cmC := by rw [List.map_append]; rfl
        (try simp only [hpc, Bool.not_false, i1, i2, rowC, push_cast, simprocAttr])
        refine at_chk (by omega) ?_
        (try simp only [happ, rowC, w1, push_cast, simprocAttr])
        refine at_fin ⟨(i + 1, o ++ [c]), ⟨by dsimp only; omega, hq.symm⟩, by dsimp only; omega, ?_⟩
        (refine wk_ok ?_ ?_ ?_ ?_ <;> simp [rowC, cmC, leL, leH, idsL, idsA, idsR, inH, hget, sameRow, upA, hvA, dsts, dstO, setA_0, setA_1, setA_8, List.append, List.cons_append, List.nil_append])
      | true =>
        rw [hpc, if_pos rfl, List.append_nil] at hq
        (try simp only [hpc, Bool.not_true, w1, push_cast, simprocAttr])
        refine at_fin ⟨(i + 1, o), ⟨by dsimp only; omega, hq.symm⟩, by dsimp only; omega, ?_⟩
        (refine wk_ok ?_ ?_ ?_ ?_ <;> simp [rowC, cmC, leL, leH, idsL, idsA, idsR, inH, hget, sameRow, upA, hvA, dsts, dstO, setA_0, setA_1, setA_8, List.append, List.cons_append, List.nil_append])
    · have i0 : ltI (i : Int) a.length = false := ltI_f (by omega)
      rw [List.take_of_length_le (by omega)] at q2
      have hk : o = kept a b := q2
      rw [← hk]
      have hSo := l14Sort_pc o (by omega)
      refine go_on_n 12 ?_
      (try simp only [i0, run_0, push_cast, simprocAttr])
      refine at_more ?_
      (refine at_frzS [10000] (by refine wk_frz ?_ ?_ ?_ ?_ <;> simp [frzS, frzT, hasN, delL, hdel, leF, leHF, frzB, idsL, idsA, idsR, inH, hget, sameRow, viewN, tk]) ?_; simp only [frzS, frzT, hasN, delL, hdel, idsA, idsL, viewN, hget, List.map_cons, List.map_nil, List.all_cons, List.all_nil, List.append_nil, List.drop, List.getElem?_cons_zero, List.getElem?_cons_succ, Bool.not_false, Bool.not_true, Bool.and_true, if_true, if_false, simprocAttr])
      refine go_on ?_
      (try simp only [push_cast, simprocAttr])
      ((try simp only [push_cast, simprocAttr]); refine at_share (by first | rfl | simp [isC]) (by first | rfl | simp only [ren]) (hSo) (go_on ?_); (try simp only [push_cast, simprocAttr]))
      refine at_ret ?_; simp only [Try.results75, push_cast, simprocAttr]
      simp [vX]
end Go.Proofs.Ytdjglbedimpldaa
/-
  Walks: spec: PairTree, PairBase.
-/
namespace Go.Proofs.Ytdjglbedimpldaa
open Go Go.RowKit Go.Proofs
theorem specSafeOf_d (a b : List Cm) (ha : SmL a) (hb : SmL b) : PC Try.prog 78 [cmA a, cmA b] (vX (cmA (safeOf a b))) := by
  have := (specSafeOf_pc a b ha hb).frzX
  simpa [viewN, hpOf, hget, isC, tk] using this
theorem specLeftOf_d (a b : List Cm) (ha : SmL a) (hb : SmL b) : PC Try.prog 61 [cmA a, cmA b] (vX (cmA (leftOf a b))) := by
  have := (specLeftOf_pc a b ha hb).frzX
  simpa [viewN, hpOf, hget, isC, tk] using this
def tbV (x : Option (List Nd)) : AV → List Row → Prop := vX (.tup [ndA (x.getD []), bA x.isSome])
attribute [local irreducible] RWp AW run kPe pe Kt effA gd gu br retR RDp runD kPeD brW gW effD
set_option maxRecDepth 100000
theorem specPairTree_pc (t : List Nd) (ht : SmT2 t) (a b : List Cm) (ha : SmL a) (hb : SmL b) : PC Try.prog 60 [ndA t, cmA a, cmA b] (tbV (pairTree t a b)) := by
  have hF := specPairFits_pc t ht a b ha hb
  have hS := specSafeOf_d a b ha hb
  have hA := specLogApply_pc t ht a ha
  refine pc_enter Try.func60 rfl rfl fun w0 fb => go_on ?_; (try simp only [Try.ntmps60, push_cast, simprocAttr])
  refine at_call ?_
  (try simp only [push_cast, simprocAttr])
  refine rwc_v hF ?_
  (try simp only [push_cast, simprocAttr])
  (refine at_dropS [6] (by refine wk_ok ?_ ?_ ?_ ?_ <;> simp [dropS, dropT, hasN, delL, hdel, leL, leH, idsL, idsA, idsR, inH, hget, sameRow]) ?_; simp only [dropS, dropT, hasN, delL, hdel, idsA, idsL, hget, List.map_cons, List.map_nil, List.all_cons, List.all_nil, List.append_nil, Bool.not_false, Bool.not_true, Bool.and_true, if_true, if_false, simprocAttr])
  refine go_on ?_
  (try simp only [push_cast, simprocAttr])
  cases hf : pairFits t a b with
  | false =>
    have e : pairTree t a b = none := by simp [pairTree, hf]
    (try simp only [hf, Bool.not_false, push_cast, simprocAttr])
    refine at_retf ?_; simp only [Try.results60, push_cast, simprocAttr]
    simp [tbV, vX, e, ixOf]
  | true =>
    obtain ⟨ta, tb, h⟩ := (pairFits_iff t a b).1 hf
    obtain ⟨hc1, hc2⟩ := pf_cv hf
    have e1 : lap t a = (ta, (a.length : Int)) := by
      unfold lap
      have : lV a = true := by unfold canonV at hc1; simp only [Bool.and_eq_true] at hc1; exact hc1.1.1
      rw [if_pos (by rw [(tV_iff t).2 h.tv, this]; rfl), h.fa]
    rw [e1] at hA
    have hta : SmT2 ta := sm_tv h.tva
    have hsv : lV (safeOf a b) = true := lV_mk h.safe_co.cv (by have := safeOf_len a b; have := canonV_le hc2; omega)
    have hB := specLogApply_pc ta hta (safeOf a b) (sm_safe hb)
    have e2 : lap ta (safeOf a b) = ((apAll ta (safeOf a b)).1, ((apAll ta (safeOf a b)).2 : Int)) := by
      unfold lap
      rw [if_pos (by rw [(tV_iff ta).2 h.tva, hsv]; rfl)]
    rw [e2] at hB
    (try simp only [hf, Bool.not_true, push_cast, simprocAttr])
    ((try simp only [push_cast, simprocAttr]); refine at_share2 (by simp [isC2, isC]) (by first | rfl | simp [ren]) (hA) (go_on ?_); (try simp only [push_cast, simprocAttr]))
    ((try simp only [push_cast, simprocAttr]); refine at_share2 (by simp [isC2, isC]) (by first | rfl | simp [ren]) (hS) (go_on ?_); (try simp only [push_cast, simprocAttr]))
    ((try simp only [push_cast, simprocAttr]); refine at_share2 (by simp [isC2, isC]) (by first | rfl | simp [ren]) (hB) (go_on ?_); (try simp only [push_cast, simprocAttr]))
    by_cases hn : (apAll ta (safeOf a b)).2 = (safeOf a b).length
    · have i0 : eqI ((apAll ta (safeOf a b)).2 : Int) (safeOf a b).length = true := eqI_t (by omega)
      have e : pairTree t a b = some (apAll ta (safeOf a b)).1 := h.tree.2 (by rw [← hn])
      (try simp only [i0, Bool.not_true, push_cast, simprocAttr])
      refine at_ret ?_; simp only [Try.results60, push_cast, simprocAttr]
      simp [tbV, vX, e]
    · have i0 : eqI ((apAll ta (safeOf a b)).2 : Int) (safeOf a b).length = false := eqI_f (by omega)
      have e : pairTree t a b = none := by
        cases hx : pairTree t a b with
        | none => rfl
        | some T => exact absurd (by rw [h.tree.1 hx]) hn
      (try simp only [i0, Bool.not_false, push_cast, simprocAttr])
      refine at_retf ?_; simp only [Try.results60, push_cast, simprocAttr]
      simp [tbV, vX, e, ixOf]
theorem specPairBase_pc (t : List Nd) (ht : SmT2 t) (a b : List Cm) (ha : SmL a) (hb : SmL b) : PC Try.prog 59 [ndA t, cmA a, cmA b] (tbV (pairBase t a b)) := by
  have hF := specPairFits_pc t ht a b ha hb
  refine pc_enter Try.func59 rfl rfl fun w0 fb => go_on ?_; (try simp only [Try.ntmps59, push_cast, simprocAttr])
  refine at_call ?_
  (try simp only [push_cast, simprocAttr])
  refine rwc_v hF ?_
  (try simp only [push_cast, simprocAttr])
  (refine at_dropS [6] (by refine wk_ok ?_ ?_ ?_ ?_ <;> simp [dropS, dropT, hasN, delL, hdel, leL, leH, idsL, idsA, idsR, inH, hget, sameRow]) ?_; simp only [dropS, dropT, hasN, delL, hdel, idsA, idsL, hget, List.map_cons, List.map_nil, List.all_cons, List.all_nil, List.append_nil, Bool.not_false, Bool.not_true, Bool.and_true, if_true, if_false, simprocAttr])
  refine go_on ?_
  (try simp only [push_cast, simprocAttr])
  cases hf : pairFits t a b with
  | false =>
    have e : pairBase t a b = none := by simp [pairBase, hf]
    (try simp only [hf, Bool.not_false, push_cast, simprocAttr])
    refine at_retf ?_; simp only [Try.results59, push_cast, simprocAttr]
    simp [tbV, vX, e, ixOf]
  | true =>
    obtain ⟨ta, tb, h⟩ := (pairFits_iff t a b).1 hf
    obtain ⟨hc1, hc2⟩ := pf_cv hf
    have hl1 := canonV_le hc1
    have hl2 := canonV_le hc2
    have hK := l21Kept_pc a b ha hb hc1 hc2
    have hkl := kept_len_le a b
    obtain ⟨q, hq⟩ : ∃ q, q = cSort (kept a b) := ⟨_, rfl⟩
    have hql : q.length = (kept a b).length := by rw [hq, cSort_len]
    have hqc : ∀ c ∈ q, CV c := fun c hc => kept_cv h c ((cSort_perm _).mem_iff.1 (by rw [← hq]; exact hc))
    rw [← hq] at hK
    have hqs : SmL q := ⟨by omega, fun c hc => by have h2 := hqc c hc; have := (pV_len h2.p h2.r).2; omega⟩
    have hL := specLogFits_pc t ht q hqs
    have hA := specLogApply_pc t ht q hqs
    (try simp only [hf, Bool.not_true, push_cast, simprocAttr])
    ((try simp only [push_cast, simprocAttr]); refine at_share2 (by simp [isC2, isC]) (by first | rfl | simp [ren]) (hK) (go_on ?_); (try simp only [push_cast, simprocAttr]))
    (refine at_call ?_; (try simp only [push_cast, simprocAttr]); refine rwc_v (hL) (go_on ?_); (try simp only [push_cast, simprocAttr]))
    cases hfq : fits t q with
    | false =>
      have e : pairBase t a b = none := by
        cases hx : pairBase t a b with
        | none => rfl
        | some B =>
          obtain ⟨g1, g2⟩ := h.base_iff.1 hx
          rw [← hq] at g2
          have : fits t q = true := by
            unfold fits
            rw [(tV_iff t).2 h.tv, lV_mk hqc (by omega), g2]
            simp [hql]
          rw [hfq] at this; cases this
      (try simp only [hfq, Bool.not_false, push_cast, simprocAttr])
      refine at_retf ?_; simp only [Try.results59, push_cast, simprocAttr]
      simp [tbV, vX, e, ixOf]
    | true =>
      have hfq2 := hfq
      unfold fits at hfq2
      simp only [Bool.and_eq_true, decide_eq_true_eq] at hfq2
      obtain ⟨⟨f1, f2⟩, f3⟩ := hfq2
      have e1 : lap t q = ((apAll t q).1, ((apAll t q).2 : Int)) := by
        unfold lap
        rw [if_pos (by rw [f1, f2]; rfl)]
      rw [e1] at hA
      have e : pairBase t a b = some (apAll t q).1 := h.base_iff.2 ⟨by have := lV_len f2; omega, by rw [← hq, ← hql, ← f3]⟩
      (try simp only [hfq, Bool.not_true, push_cast, simprocAttr])
      ((try simp only [push_cast, simprocAttr]); refine at_share2 (by simp [isC2, isC]) (by first | rfl | simp [ren]) (hA) (go_on ?_); (try simp only [push_cast, simprocAttr]))
      refine at_ret ?_; simp only [Try.results59, push_cast, simprocAttr]
      simp [tbV, vX, e]
end Go.Proofs.Ytdjglbedimpldaa
/-
  Walks: impl.SessionRun, read as data.
-/
namespace Go.Proofs.Ytdjglbedimpldaa
open Go Go.RowKit Go.Proofs
theorem cloneTree_d (l : List Nd) (hl : l.length < 4294967281) : PC Try.prog 34 [ndA l] (vX (ndA l)) := by
  have := (cloneTree_pc l hl).frzX
  simpa [viewN, hpOf, hget, isC, tk] using this
theorem SiteCanon_n {s : St} (h : siteV s = true) : canonV (siteC s) = true := by
  obtain ⟨t, L, hs⟩ := (siteV_iff s).1 h
  rw [hs.C]
  exact (canonV_iff L).2 ⟨hs.co, hs.l20⟩
def srV (x : Option (St × St)) : AV → List Row → Prop := vX (.tup (match x with
  | some (x, y) => [stA' x, stA' y, bA true]
  | none => [st00, st00, bA false]))
attribute [local irreducible] RWp AW run kPe pe Kt effA gd gu br retR RDp runD kPeD brW gW effD
set_option maxRecDepth 100000
end Go.Proofs.Ytdjglbedimpldaa
/-
  Walks: spec.SessionRun.
-/
namespace Go.Proofs.Ytdjglbedimpldaa
open Go Go.RowKit Go.Proofs
attribute [local irreducible] RWp AW run kPe pe Kt effA gd gu br retR RDp runD kPeD brW gW effD
set_option maxRecDepth 100000
theorem specSessionRun_d (a b : St) (ha : SmS a) (hb : SmS b) : PC Try.prog 49 [stA' a, stA' b] (srV (sRun a b)) := by
  have hM := l42Ok_pc a b ha hb
  have hA := specSiteCanon_pc a ha
  have hB := specSiteCanon_pc b hb
  have s1 := siteC_sm a
  have s2 := siteC_sm b
  have hP := specPairBase_pc a.base ha.t (siteC a) (siteC b) s1 s2
  have hT := specPairTree_pc a.base ha.t (siteC a) (siteC b) s1 s2
  have hU := specPairTree_pc a.base ha.t (siteC b) (siteC a) s2 s1
  have hL := specLeftOf_d (siteC a) (siteC b) s1 s2
  have hR := specLeftOf_d (siteC b) (siteC a) s2 s1
  unfold tbV at hP hT hU
  unfold stA' stC at *
  unfold srV
  refine PC.toF ?_
  refine pc_enter Try.func49 rfl rfl fun w0 fb => go_on ?_; (try simp only [Try.ntmps49, push_cast, simprocAttr])
  (refine at_call ?_; (try simp only [push_cast, simprocAttr]); refine rwc_v (hM) (go_on ?_); (try simp only [push_cast, simprocAttr]))
  cases h : meet a b with
  | false =>
    have e : sRun a b = none := by simp [sRun, h]
    (try simp only [h, Bool.not_false, push_cast, simprocAttr])
    refine at_ret ?_; simp only [Try.results49, push_cast, simprocAttr]
    simp [vF, viewN, isC, hpOf, hget, tk, ixOf, e, st00]
  | true =>
    (try simp only [h, Bool.not_true, push_cast, simprocAttr])
    ((try simp only [push_cast, simprocAttr]); refine at_share2 (by simp [isC2, isC]) (by first | rfl | simp [ren]) (hA) (go_on ?_); (try simp only [push_cast, simprocAttr]))
    ((try simp only [push_cast, simprocAttr]); refine at_share2 (by simp [isC2, isC]) (by first | rfl | simp [ren]) (hB) (go_on ?_); (try simp only [push_cast, simprocAttr]))
    ((try simp only [push_cast, simprocAttr]); refine at_share2 (by simp [isC2, isC]) (by first | rfl | simp [ren]) (hP) (go_on ?_); (try simp only [push_cast, simprocAttr]))
    ((try simp only [push_cast, simprocAttr]); refine at_share2 (by simp [isC2, isC]) (by first | rfl | simp [ren]) (hT) (go_on ?_); (try simp only [push_cast, simprocAttr]))
    ((try simp only [push_cast, simprocAttr]); refine at_share2 (by simp [isC2, isC]) (by first | rfl | simp [ren]) (hU) (go_on ?_); (try simp only [push_cast, simprocAttr]))
    cases e1 : pairBase a.base (siteC a) (siteC b) with
    | none =>
      have e : sRun a b = none := by simp [sRun, h, e1]
      (try simp only [e1, Option.isSome_none, Bool.not_false, push_cast, simprocAttr])
      refine at_ret ?_; simp only [Try.results49, push_cast, simprocAttr]
      simp [vF, viewN, isC, hpOf, hget, tk, ixOf, e, st00]
    | some t =>
    cases e2 : pairTree a.base (siteC a) (siteC b) with
    | none =>
      have e : sRun a b = none := by simp [sRun, h, e1, e2]
      (try simp only [e1, e2, Option.isSome_none, Option.isSome_some, Bool.not_false, Bool.not_true, push_cast, simprocAttr])
      refine at_ret ?_; simp only [Try.results49, push_cast, simprocAttr]
      simp [vF, viewN, isC, hpOf, hget, tk, ixOf, e, st00]
    | some u =>
    cases e3 : pairTree a.base (siteC b) (siteC a) with
    | none =>
      have e : sRun a b = none := by simp [sRun, h, e1, e2, e3]
      (try simp only [e1, e2, e3, Option.isSome_none, Option.isSome_some, Bool.not_false, Bool.not_true, push_cast, simprocAttr])
      refine at_ret ?_; simp only [Try.results49, push_cast, simprocAttr]
      simp [vF, viewN, isC, hpOf, hget, tk, ixOf, e, st00]
    | some v =>
    have e : sRun a b = some (⟨a.ep + 1, t, leftOf (siteC a) (siteC b)⟩, ⟨a.ep + 1, t, leftOf (siteC b) (siteC a)⟩) := by simp [sRun, h, e1, e2, e3]
    have hm := (meet_iff a b).1 h
    obtain ⟨ta, tb, La, Lb, hsa, hsb, hbb, hee, hlt⟩ := hm
    have hep := hsa.ep
    have htl : t.length ≤ 10 := by
      obtain ⟨x, y, hpf⟩ := (pairFits_iff a.base (siteC a) (siteC b)).1 (by
        unfold pairBase at e1
        split at e1
        · rename_i hh; simp only [Bool.and_eq_true] at hh; exact hh.1
        · cases e1)
      exact (hpf.base_ov e1).2.le
    have w1 : IntKind.i64.wrap (a.ep + 1) = a.ep + 1 := wr _ (by omega)
    (try simp only [e1, e2, e3, Option.isSome_some, Bool.not_true, Option.getD_some, push_cast, simprocAttr])
    refine at_draw rfl (by kernel_rfl) ?_; simp only [push_cast, simprocAttr]
    (try simp only [w1, push_cast, simprocAttr])
    (refine at_shareD (by simp [isC2, isC]) (by first | rfl | simp [ren]) hL ?_; (try simp only [push_cast, simprocAttr]))
    (try simp only [w1, push_cast, simprocAttr])
    refine at_done (by kernel_rfl) (by kernel_rfl) (go_on ?_)
    (try simp only [push_cast, simprocAttr])
    refine at_draw rfl (by kernel_rfl) ?_; simp only [push_cast, simprocAttr]
    (try simp only [w1, push_cast, simprocAttr])
    (try simp only [effD_app2, w1, push_cast, simprocAttr])
    refine at_chkD (by omega) ?_
    (try simp only [push_cast, simprocAttr])
    (refine at_shareD (by simp [isC2, isC]) (by first | rfl | simp [ren]) hR ?_; (try simp only [push_cast, simprocAttr]))
    refine at_done (by kernel_rfl) (by kernel_rfl) (go_on ?_)
    (try simp only [push_cast, simprocAttr])
    refine at_draw rfl (by kernel_rfl) ?_; simp only [push_cast, simprocAttr]
    refine at_done (by kernel_rfl) (by kernel_rfl) (go_on ?_)
    (try simp only [push_cast, simprocAttr])
    refine at_ret ?_; simp only [Try.results49, push_cast, simprocAttr]
    simp [vF, viewN, isC, hpOf, hget, tk, ixOf, e, stC]
end Go.Proofs.Ytdjglbedimpldaa
/-
  Walks: sessions in steps: SessionNew, SessionRecover (read as data).
-/
namespace Go.Proofs.Ytdjglbedimpldaa
open Go Go.RowKit Go.Proofs
theorem clone_d (s : St) (h1 : s.base.length < 4294967281) (h2 : s.log.length < 4294967281) : PC Try.prog 19 [stA' s] (vX (stA' s)) := by
  have := (clone_pc s h1 h2).frzX
  simpa [viewN, hpOf, hget, stO, stA', stC, isC, tk] using this
def ssC (s : Ss) : List AV := [iA s.A.ep, ndA s.A.base, cmA s.A.log, iA s.B.ep, ndA s.B.base, cmA s.B.log, bA s.plan, iA s.nA.ep, ndA s.nA.base, cmA s.nA.log, iA s.nB.ep, ndA s.nB.base, cmA s.nB.log]
abbrev ssA (s : Ss) : AV := .agg (ssC s)
structure SmSs (s : Ss) : Prop where
  A : SmS s.A
  B : SmS s.B
  nA : SmS s.nA
  nB : SmS s.nB
theorem SmS.c1 {s : St} (h : SmS s) : s.base.length < 4294967281 := by have := h.t.n; omega
theorem SmS.c2 {s : St} (h : SmS s) : s.log.length < 4294967281 := by have := h.l.n; omega
attribute [local irreducible] RWp AW run kPe pe Kt effA gd gu br retR RDp runD kPeD brW gW effD
set_option maxRecDepth 100000
theorem SessionRecover_d (s : Ss) (hs : SmSs s) : PC Try.prog 8 [ssA s] (vX (.tup [stA' (sRec s).1, stA' (sRec s).2])) := by
  have h1 := clone_d s.A hs.A.c1 hs.A.c2
  have h2 := clone_d s.B hs.B.c1 hs.B.c2
  have h3 := clone_d s.nA hs.nA.c1 hs.nA.c2
  have h4 := clone_d s.nB hs.nB.c1 hs.nB.c2
  unfold stA' stC at *
  unfold ssA ssC
  refine pc_enter Try.func8 rfl rfl fun w0 fb => go_on ?_; (try simp only [Try.ntmps8, push_cast, simprocAttr])
  cases hp : s.plan with
  | true =>
    (try simp only [hp, push_cast, simprocAttr])
    refine at_draw rfl (by kernel_rfl) ?_; simp only [push_cast, simprocAttr]
    (refine at_shareD (by simp [isC2, isC]) (by first | rfl | simp [ren]) h3 ?_; (try simp only [push_cast, simprocAttr]))
    (refine at_shareD (by simp [isC2, isC]) (by first | rfl | simp [ren]) h4 ?_; (try simp only [push_cast, simprocAttr]))
    refine at_done (by kernel_rfl) (by kernel_rfl) (go_on ?_)
    (try simp only [push_cast, simprocAttr])
    refine at_ret ?_; simp only [Try.results8, push_cast, simprocAttr]
    simp [vX, sRec, hp]
  | false =>
    (try simp only [hp, push_cast, simprocAttr])
    refine at_draw rfl (by kernel_rfl) ?_; simp only [push_cast, simprocAttr]
    (refine at_shareD (by simp [isC2, isC]) (by first | rfl | simp [ren]) h1 ?_; (try simp only [push_cast, simprocAttr]))
    (refine at_shareD (by simp [isC2, isC]) (by first | rfl | simp [ren]) h2 ?_; (try simp only [push_cast, simprocAttr]))
    refine at_done (by kernel_rfl) (by kernel_rfl) (go_on ?_)
    (try simp only [push_cast, simprocAttr])
    refine at_ret ?_; simp only [Try.results8, push_cast, simprocAttr]
    simp [vX, sRec, hp]
end Go.Proofs.Ytdjglbedimpldaa
/-
  Walks: sessions that an exact law is handed: their size, copies, marks.
-/
namespace Go.Proofs.Ytdjglbedimpldaa
open Go Go.RowKit Go.Proofs
structure SsOk (s : Ss) : Prop where
  A : SiteOk s.A
  B : SiteOk s.B
  nA : SiteOk s.nA
  nB : SiteOk s.nB
set_option maxRecDepth 100000
section
variable {H : Type} {enc : TypeId × Value → H} {W : World} {base : Nat} {sp : Nat → Bool} {held : Bool} {fuel : Nat} {x : DataW H × List MemPlace}
theorem thirteen_of {α : Type} {l : List α} (h : l.length = 13) : ∃ a0 a1 a2 a3 a4 a5 a6 a7 a8 a9 b0 b1 b2, l = [a0, a1, a2, a3, a4, a5, a6, a7, a8, a9, b0, b1, b2] := by
  match l, h with
  | [a0, a1, a2, a3, a4, a5, a6, a7, a8, a9, b0, b1, b2], _ => exact ⟨a0, a1, a2, a3, a4, a5, a6, a7, a8, a9, b0, b1, b2, rfl⟩
theorem site_parts {lv : Nat → Prop} {s : St} {a b c : Value} (h : C lv 0 W (stA' s) (.agg #[a, b, c])) : C lv 0 W (iA s.ep) a ∧ C lv 0 W (ndA s.base) b ∧ C lv 0 W (cmA s.log) c := by
  cases h with
  | agg vs hs hg => exact ⟨hg 0 _ rfl, hg 1 _ rfl, hg 2 _ rfl⟩
theorem open_session {lv : Nat → Prop} {cs : Array Value} (hlv : ∀ b, b < W.heap.size → ¬ lv b) (h : DataW.trod enc Try.prog W 0 sp held fuel 27 cs.toList = some x) :
    ∃ s : Ss, C lv 0 W (ssA s) (.agg cs) ∧ SsOk s := by
  obtain ⟨cs⟩ := cs
  simp only at h
  obtain ⟨xs, n, rfl, rfl, hl, hlen, hf⟩ := DataW.trod_struct Try.underlying27 h
  rw [show Try.prog.cellsOf 27 = 13 by kernel_rfl] at hl
  obtain ⟨a0, a1, a2, a3, a4, a5, a6, a7, a8, a9, b0, b1, b2, rfl⟩ := thirteen_of hl
  obtain ⟨y0, y1, y2, y3, y4, rfl⟩ := five_of hlen
  have h0 := hf 0 _ rfl
  have h1 := hf 1 _ rfl
  have h2 := hf 2 _ rfl
  have h3 := hf 3 _ rfl
  have h4 := hf 4 _ rfl
  simp only [show Try.prog.cellsOf 4 = 1 by kernel_rfl, show Try.prog.cellsOf 25 = 3 by kernel_rfl, List.drop, List.take, List.getElem?_cons_zero, List.getElem?_cons_succ] at h0 h1 h2 h3 h4
  obtain ⟨s0, c0, o0⟩ := open_site (cs := #[a0, a1, a2]) hlv h0
  obtain ⟨s1, c1, o1⟩ := open_site (cs := #[a3, a4, a5]) hlv h1
  obtain ⟨p, e2, _⟩ := DataW.trod_bool Try.underlying4 h2
  obtain ⟨s3, c3, o3⟩ := open_site (cs := #[a7, a8, a9]) hlv h3
  obtain ⟨s4, c4, o4⟩ := open_site (cs := #[b0, b1, b2]) hlv h4
  cases e2
  obtain ⟨d0, d1, d2⟩ := site_parts c0
  obtain ⟨d3, d4, d5⟩ := site_parts c1
  obtain ⟨d6, d7, d8⟩ := site_parts c3
  obtain ⟨d9, da, db⟩ := site_parts c4
  refine ⟨⟨s0, s1, p, s3, s4⟩, C.agg _ rfl fun j a ha => ?_, ⟨o0, o1, o3, o4⟩⟩
  rcases j with _ | _ | _ | _ | _ | _ | _ | _ | _ | _ | _ | _ | _ | j
  · cases ha; exact d0
  · cases ha; exact d1
  · cases ha; exact d2
  · cases ha; exact d3
  · cases ha; exact d4
  · cases ha; exact d5
  · cases ha; exact C.v
  · cases ha; exact d6
  · cases ha; exact d7
  · cases ha; exact d8
  · cases ha; exact d9
  · cases ha; exact da
  · cases ha; exact db
  · simp [ssC] at ha
end
def szSs (s : Ss) (left : Int) : Int :=
  if szT s.A left < 0 then -1 else if szT s.B (szT s.A left) < 0 then -1 else if szT s.nA (szT s.B (szT s.A left)) < 0 then -1 else if szT s.nB (szT s.nA (szT s.B (szT s.A left))) < 0 then -1 else szT s.nB (szT s.nA (szT s.B (szT s.A left)))
/-- What a session's size says. -/
structure SsSz (s : Ss) : Prop where
  sm : SmSs s
  A1 : s.A.base.length ≤ 1048576
  A2 : s.A.log.length ≤ 1048576
  B1 : s.B.base.length ≤ 1048576
  B2 : s.B.log.length ≤ 1048576
  nA1 : s.nA.base.length ≤ 1048576
  nA2 : s.nA.log.length ≤ 1048576
  nB1 : s.nB.base.length ≤ 1048576
  nB2 : s.nB.log.length ≤ 1048576
theorem szSs_ok {s : Ss} {left : Int} (h0 : 0 ≤ left) (h1 : left ≤ 1048576) (h : 0 ≤ szSs s left) : SsSz s := by
  unfold szSs at h
  split at h
  · omega
  split at h
  · omega
  split at h
  · omega
  split at h
  · omega
  rename_i g1 g2 g3 g4
  obtain ⟨a0, a1, a2, _⟩ := szT_ok (s := s.A) h0 h1 (by omega)
  obtain ⟨b0, b1, b2, _⟩ := szT_ok (s := s.B) (left := szT s.A left) (by omega) (by omega) (by omega)
  obtain ⟨c0, c1, c2, _⟩ := szT_ok (s := s.nA) (left := szT s.B (szT s.A left)) (by omega) (by omega) (by omega)
  obtain ⟨d0, d1, d2, _⟩ := szT_ok (s := s.nB) (left := szT s.nA (szT s.B (szT s.A left))) (by omega) (by omega) (by omega)
  exact ⟨⟨szT_sm (s := s.A) h0 h1 (by omega), szT_sm (left := szT s.A left) (by omega) (by omega) (by omega), szT_sm (left := szT s.B (szT s.A left)) (by omega) (by omega) (by omega), szT_sm (left := szT s.nA (szT s.B (szT s.A left))) (by omega) (by omega) (by omega)⟩, a1, a2, b1, b2, c1, c2, d1, d2⟩
/-- A session, its lists in rows of their own. -/
def ssO8 (s : Ss) : AV := .agg [iA s.A.ep, .o 0 s.A.base.length, .o 1 s.A.log.length, iA s.B.ep, .o 2 s.B.base.length, .o 3 s.B.log.length, bA s.plan, iA s.nA.ep, .o 4 s.nA.base.length, .o 5 s.nA.log.length, iA s.nB.ep, .o 6 s.nB.base.length, .o 7 s.nB.log.length]
def rows8 (s : Ss) : List Row := [rowN s.A.base, rowC s.A.log, rowN s.B.base, rowC s.B.log, rowN s.nA.base, rowC s.nA.log, rowN s.nB.base, rowC s.nB.log]
theorem flat_8 (s : Ss) : FlatR (rows8 s) := flat_app (flat_nc s.A.base s.A.log) (flat_app (flat_nc s.B.base s.B.log) (flat_app (flat_nc s.nA.base s.nA.log) (flat_nc s.nB.base s.nB.log)))
attribute [local irreducible] RWp AW run kPe pe Kt effA gd gu br retR RDp runD kPeD brW gW effD
set_option maxRecDepth 100000
theorem szSession_pc (s : Ss) (left : Int) (h0 : 0 ≤ left) (h1 : left ≤ 1048576) (q : SsOk s) : PC Try.prog 5 [ssA s, iA left] (vI (szSs s left)) := by
  have hA := szSite_pc s.A left h0 h1 q.A
  unfold ssA ssC
  unfold stA' stC at hA
  refine pc_enter Try.func5 rfl rfl fun w0 fb => go_on ?_; (try simp only [Try.ntmps5, push_cast, simprocAttr])
  (refine at_call ?_; (try simp only [push_cast, simprocAttr]); refine rwc_v (hA) (go_on ?_); (try simp only [push_cast, simprocAttr]))
  refine at_b (fun hb => ?_) (fun hb => ?_)
  · have := of_ltI_t hb
    (try simp only [hb, push_cast, simprocAttr])
    refine at_ret ?_; simp only [Try.results5, push_cast, simprocAttr]
    simp [vX, szSs, this]
  have g1 := of_ltI_f hb
  obtain ⟨a0, _⟩ := szT_ok h0 h1 g1
  have hB := szSite_pc s.B (szT s.A left) g1 (by omega) q.B
  unfold stA' stC at hB
  (try simp only [hb, push_cast, simprocAttr])
  (refine at_call ?_; (try simp only [push_cast, simprocAttr]); refine rwc_v (hB) (go_on ?_); (try simp only [push_cast, simprocAttr]))
  refine at_b (fun hb2 => ?_) (fun hb2 => ?_)
  · have := of_ltI_t hb2
    (try simp only [hb2, push_cast, simprocAttr])
    refine at_ret ?_; simp only [Try.results5, push_cast, simprocAttr]
    simp [vX, szSs, this]
  have g2 := of_ltI_f hb2
  obtain ⟨b0, _⟩ := szT_ok g1 (by omega) g2
  have hC := szSite_pc s.nA (szT s.B (szT s.A left)) g2 (by omega) q.nA
  unfold stA' stC at hC
  (try simp only [hb2, push_cast, simprocAttr])
  (refine at_call ?_; (try simp only [push_cast, simprocAttr]); refine rwc_v (hC) (go_on ?_); (try simp only [push_cast, simprocAttr]))
  refine at_b (fun hb3 => ?_) (fun hb3 => ?_)
  · have := of_ltI_t hb3
    (try simp only [hb3, push_cast, simprocAttr])
    refine at_ret ?_; simp only [Try.results5, push_cast, simprocAttr]
    simp [vX, szSs, this]
  have g3 := of_ltI_f hb3
  obtain ⟨c0, _⟩ := szT_ok g2 (by omega) g3
  have hD := szSite_pc s.nB (szT s.nA (szT s.B (szT s.A left))) g3 (by omega) q.nB
  unfold stA' stC at hD
  (try simp only [hb3, push_cast, simprocAttr])
  (refine at_call ?_; (try simp only [push_cast, simprocAttr]); refine rwc_v (hD) (go_on ?_); (try simp only [push_cast, simprocAttr]))
  refine at_b (fun hb4 => ?_) (fun hb4 => ?_)
  · have := of_ltI_t hb4
    (try simp only [hb4, push_cast, simprocAttr])
    refine at_ret ?_; simp only [Try.results5, push_cast, simprocAttr]
    simp [vX, szSs, this]
  have g4 := of_ltI_f hb4
  (try simp only [hb4, push_cast, simprocAttr])
  refine at_ret ?_; simp only [Try.results5, push_cast, simprocAttr]
  have e1 : ¬ szT s.A left < 0 := by omega
  have e2 : ¬ szT s.B (szT s.A left) < 0 := by omega
  have e3 : ¬ szT s.nA (szT s.B (szT s.A left)) < 0 := by omega
  have e4 : ¬ szT s.nB (szT s.nA (szT s.B (szT s.A left))) < 0 := by omega
  simp [vX, szSs, e1, e2, e3, e4]
theorem toSession_pc (s : Ss) (q : SsSz s) : PC Try.prog 7 [ssA s] (rX (ssO8 s) (rows8 s)) := by
  have hA := toSite_pc s.A q.A1 q.A2
  have hB := toSite_pc s.B q.B1 q.B2
  have hC := toSite_pc s.nA q.nA1 q.nA2
  have hD := toSite_pc s.nB q.nB1 q.nB2
  unfold ssA ssC
  unfold stA' stC at hA hB hC hD
  unfold stO at hA hB hC hD
  refine pc_enter Try.func7 rfl rfl fun w0 fb => go_on ?_; (try simp only [Try.ntmps7, push_cast, simprocAttr])
  (refine at_call ?_; (try simp only [push_cast, simprocAttr]); refine rwc_r (hA) (by simp [flatV, flatL]) (flat_nc _ _) (by simp [frB, baseOf]) (go_on ?_); (try simp only [push_cast, simprocAttr]))
  (refine at_call ?_; (try simp only [push_cast, simprocAttr]); refine rwc_r (hB) (by simp [flatV, flatL]) (flat_nc _ _) (by simp [frB, baseOf]) (go_on ?_); (try simp only [push_cast, simprocAttr]))
  (refine at_call ?_; (try simp only [push_cast, simprocAttr]); refine rwc_r (hC) (by simp [flatV, flatL]) (flat_nc _ _) (by simp [frB, baseOf]) (go_on ?_); (try simp only [push_cast, simprocAttr]))
  (refine at_call ?_; (try simp only [push_cast, simprocAttr]); refine rwc_r (hD) (by simp [flatV, flatL]) (flat_nc _ _) (by simp [frB, baseOf]) (go_on ?_); (try simp only [push_cast, simprocAttr]))
  refine at_ret ?_; simp only [Try.results7, push_cast, simprocAttr]
  simp [rX, ixOf, ssO8, rows8]
theorem ss_ext (a b : Ss) : a = b ↔ a.A = b.A ∧ a.B = b.B ∧ a.plan = b.plan ∧ a.nA = b.nA ∧ a.nB = b.nB := by
  cases a; cases b; simp
theorem eqSession_pc (a b : Ss) (ha : SmSs a) : PC Try.prog 10 [ssA a, ssA b] (vB (decide (a = b))) := by
  have h1 := eqSite_pc a.A b.A ha.A.c1 ha.A.c2
  have h2 := eqSite_pc a.B b.B ha.B.c1 ha.B.c2
  have h3 := eqSite_pc a.nA b.nA ha.nA.c1 ha.nA.c2
  have h4 := eqSite_pc a.nB b.nB ha.nB.c1 ha.nB.c2
  unfold ssA ssC
  unfold stA' stC at h1 h2 h3 h4
  refine pc_enter Try.func10 rfl rfl fun w0 fb => go_on ?_; (try simp only [Try.ntmps10, push_cast, simprocAttr])
  repeat' first | (refine at_b (fun hb => ?_) (fun hb => ?_) <;> simp only [hb, push_cast, simprocAttr]) | (refine at_ret ?_; simp only [Try.results10, push_cast, simprocAttr]) | (refine at_call ?_; (try simp only [push_cast, simprocAttr]); refine rwc_v (by first | exact h1 | exact h2 | exact h3 | exact h4) (go_on ?_); simp only [push_cast, simprocAttr]) | (show RWp _ _ _ _ _; simp only [push_cast, simprocAttr])
  all_goals simp only [Bool.not_eq_true', Bool.not_eq_false', beq_iff_eq, beq_eq_false_iff_ne, decide_eq_true_eq, decide_eq_false_iff_not] at *
  all_goals simp [vX, ss_ext a b, *]
end Go.Proofs.Ytdjglbedimpldaa
/-
  Walks: sessions in steps: SessionNew (read as data).
-/
namespace Go.Proofs.Ytdjglbedimpldaa
open Go Go.RowKit Go.Proofs
def z3 : List AV := [iA 0, .v (.slice none 0 0), .v (.slice none 0 0)]
def ss00 : AV := .agg (z3 ++ z3 ++ [bA false] ++ z3 ++ z3)
def ssV (x : Option Ss) (st : AV) : AV → List Row → Prop := vX (.tup [st, bA x.isSome])
attribute [local irreducible] RWp AW run kPe pe Kt effA gd gu br retR RDp runD kPeD brW gW effD
set_option maxRecDepth 100000
end Go.Proofs.Ytdjglbedimpldaa
/-
  Walks: sessions in steps: SessionStep (read as data).
-/
namespace Go.Proofs.Ytdjglbedimpldaa
open Go Go.RowKit Go.Proofs
attribute [local irreducible] RWp AW run kPe pe Kt effA gd gu br retR RDp runD kPeD brW gW effD
set_option maxRecDepth 100000
end Go.Proofs.Ytdjglbedimpldaa
/-
  Walks: sessions in steps: SessionStep behind its plan (read as data).
-/
namespace Go.Proofs.Ytdjglbedimpldaa
open Go Go.RowKit Go.Proofs
attribute [local irreducible] RWp AW run kPe pe Kt effA gd gu br retR RDp runD kPeD brW gW effD
set_option maxRecDepth 100000
end Go.Proofs.Ytdjglbedimpldaa
/-
  Walks: spec.SessionNew (read as data).
-/
namespace Go.Proofs.Ytdjglbedimpldaa
open Go Go.RowKit Go.Proofs
theorem l41Copy_d (s : St) (h1 : s.base.length < 4294967281) (h2 : s.log.length < 4294967281) : PC Try.prog 17 [stA' s] (vX (stA' s)) := by
  have := (l41Copy_pc s h1 h2).frzX
  simpa [viewN, hpOf, hget, stO, stA', stC, isC, tk] using this
attribute [local irreducible] RWp AW run kPe pe Kt effA gd gu br retR RDp runD kPeD brW gW effD
set_option maxRecDepth 100000
end Go.Proofs.Ytdjglbedimpldaa
/-
  Walks: laws.sameSession.
-/
namespace Go.Proofs.Ytdjglbedimpldaa
open Go Go.RowKit Go.Proofs
theorem ss_eq (a b : Ss) : decide (a = b) = ((a.plan == b.plan) && decide (a.A = b.A) && decide (a.B = b.B) && decide (a.nA = b.nA) && decide (a.nB = b.nB)) := by
  rw [Bool.eq_iff_iff]
  cases a; cases b
  simp [and_assoc]
  constructor
  · rintro ⟨h1, h2, h3, h4, h5⟩; exact ⟨h3, h1, h2, h4, h5⟩
  · rintro ⟨h3, h1, h2, h4, h5⟩; exact ⟨h1, h2, h3, h4, h5⟩
attribute [local irreducible] RWp AW run kPe pe Kt effA gd gu br retR RDp runD kPeD brW gW effD
set_option maxRecDepth 100000
end Go.Proofs.Ytdjglbedimpldaa
/-
  Walks: impl.TreeGet.
-/
namespace Go.Proofs.Ytdjglbedimpldaa
open Go Go.RowKit Go.Proofs
attribute [local irreducible] RWp AW run kPe pe Kt effA gd gu br retR RDp runD kPeD brW gW effD
set_option maxRecDepth 100000
end Go.Proofs.Ytdjglbedimpldaa
/-
  Walks: sessions, read as data, with the empty side and the empty session where there is none.
-/
namespace Go.Proofs.Ytdjglbedimpldaa
open Go Go.RowKit Go.Proofs
def rA (a b : St) : St := ((sRun a b).map (·.1)).getD st0
def rB (a b : St) : St := ((sRun a b).map (·.2)).getD st0
theorem rA_some {a b x y : St} (h : sRun a b = some (x, y)) : rA a b = x := by simp [rA, h]
theorem rB_some {a b x y : St} (h : sRun a b = some (x, y)) : rB a b = y := by simp [rB, h]
theorem rA_none {a b : St} (h : sRun a b = none) : rA a b = st0 := by simp [rA, h]
theorem rB_none {a b : St} (h : sRun a b = none) : rB a b = st0 := by simp [rB, h]
theorem siteV_sm {s : St} (h : siteV s = true) : SmS s := by
  obtain ⟨t, L, h3⟩ := (siteV_iff s).1 h
  have := lV_len h3.lv
  refine ⟨sm_tv h3.tv, ⟨by omega, fun c hc => ?_⟩⟩
  have hc := lV_cv h3.lv c hc
  have := (pV_len hc.p hc.r).2
  omega
theorem st0_sm : SmS st0 := ⟨⟨⟨by simp [st0], fun n hn => by simp [st0] at hn⟩, by simp [st0]⟩, ⟨by simp [st0], fun c hc => by simp [st0] at hc⟩⟩
theorem rA_sm (a b : St) : SmS (rA a b) := by
  cases hr : sRun a b with
  | none => rw [rA_none hr]; exact st0_sm
  | some p =>
    obtain ⟨x, y⟩ := p
    rw [rA_some hr]
    exact siteV_sm (law_session hr).1
theorem rB_sm (a b : St) : SmS (rB a b) := by
  cases hr : sRun a b with
  | none => rw [rB_none hr]; exact st0_sm
  | some p =>
    obtain ⟨x, y⟩ := p
    rw [rB_some hr]
    exact siteV_sm (law_session hr).2.1
theorem srV_e {P : Program} {f : FuncId} {args : List AV} {a b : St} (h : PC P f args (srV (sRun a b))) : PC P f args (vX (.tup [stA' (rA a b), stA' (rB a b), bA (sRun a b).isSome])) := by
  cases hr : sRun a b with
  | none =>
    rw [hr] at h
    rw [rA_none hr, rB_none hr]
    refine PC.less h fun h loc w v hg => hg.tup2 rfl fun j x y u h1 h2 h3 => ?_
    rcases j with _ | _ | _ | j
    · cases h1; cases h2; exact nil_st0 h3
    · cases h1; cases h2; exact nil_st0 h3
    · cases h1; cases h2; exact h3
    · cases h1
  | some p =>
    obtain ⟨x, y⟩ := p
    rw [hr] at h
    rw [rA_some hr, rB_some hr]
    exact h
theorem specSessionRun_e (a b : St) (ha : SmS a) (hb : SmS b) : PC Try.prog 49 [stA' a, stA' b] (vX (.tup [stA' (rA a b), stA' (rB a b), bA (sRun a b).isSome])) := srV_e (specSessionRun_d a b ha hb)
theorem nil_ss {h : Hp} {loc : Loc} {w : World} {v : Value} (a b : St) (p : Bool) (hg : G h loc w (.agg (stC a ++ stC b ++ [bA p] ++ z3 ++ z3)) v) : G h loc w (ssA ⟨a, b, p, st0, st0⟩) v := by
  refine hg.agg2 rfl fun j x y u h1 h2 h3 => ?_
  rcases j with _ | _ | _ | _ | _ | _ | _ | _ | _ | _ | _ | _ | _ | j
  all_goals first
    | (cases h1; cases h2; exact h3)
    | (cases h1; cases h2; exact h3.nil2)
    | cases h1
theorem nil_ss0 {h : Hp} {loc : Loc} {w : World} {v : Value} (hg : G h loc w ss00 v) : G h loc w (ssA ss0) v := by
  refine hg.agg2 rfl fun j x y u h1 h2 h3 => ?_
  rcases j with _ | _ | _ | _ | _ | _ | _ | _ | _ | _ | _ | _ | _ | j
  all_goals first
    | (cases h1; cases h2; exact h3)
    | (cases h1; cases h2; exact h3.nil2)
    | cases h1
theorem ss_e0 {P : Program} {f : FuncId} {args : List AV} (h : PC P f args (vX (.tup [ss00, bA false]))) : PC P f args (vX (.tup [ssA ss0, bA false])) := by
  refine PC.less h fun h loc w v hg => hg.tup2 rfl fun j x y u h1 h2 h3 => ?_
  rcases j with _ | _ | j
  · cases h1; cases h2; exact nil_ss0 h3
  · cases h1; cases h2; exact h3
  · cases h1
theorem ss_e1 {P : Program} {f : FuncId} {args : List AV} {a b : St} {p : Bool} (h : PC P f args (vX (.tup [.agg (stC a ++ stC b ++ [bA p] ++ z3 ++ z3), bA true]))) : PC P f args (vX (.tup [ssA ⟨a, b, p, st0, st0⟩, bA true])) := by
  refine PC.less h fun h loc w v hg => hg.tup2 rfl fun j x y u h1 h2 h3 => ?_
  rcases j with _ | _ | j
  · cases h1; cases h2; exact nil_ss _ _ _ h3
  · cases h1; cases h2; exact h3
  · cases h1
def ssO (x : Option Ss) : AV → List Row → Prop := vX (.tup [ssA (x.getD ss0), bA x.isSome])
end Go.Proofs.Ytdjglbedimpldaa
/-
  Plain: the sessions that four steps pass through.
-/
namespace Go.Proofs.Ytdjglbedimpldaa
open Go Go.RowKit Go.Proofs
def sq (a b x y : St) : Nat → Ss
  | 0 => ⟨a, b, false, st0, st0⟩
  | 1 => ⟨a, b, true, x, y⟩
  | 2 => ⟨x, b, true, x, y⟩
  | 3 => ⟨x, y, true, x, y⟩
  | _ => ⟨x, y, false, st0, st0⟩
theorem sq_sm {a b x y : St} (ha : SmS a) (hb : SmS b) (hx : SmS x) (hy : SmS y) (k : Nat) : SmSs (sq a b x y k) := by
  rcases k with _ | _ | _ | _ | k
  · exact ⟨ha, hb, st0_sm, st0_sm⟩
  · exact ⟨ha, hb, hx, hy⟩
  · exact ⟨hx, hb, hx, hy⟩
  · exact ⟨hx, hy, hx, hy⟩
  · exact ⟨hx, hy, st0_sm, st0_sm⟩
theorem sq_step {a b x y : St} (h : sRun a b = some (x, y)) (k : Nat) (hk : k < 4) : sStep (sq a b x y k) = some (sq a b x y (k + 1)) := by
  obtain ⟨h1, h2, h3, h4⟩ := law_steps h
  rcases k with _ | _ | _ | _ | k
  · exact h1
  · exact h2
  · exact h3
  · exact h4
  · omega
theorem sq_rec {a b x y : St} (k : Nat) : sRec (sq a b x y k) = if k = 0 then (a, b) else (x, y) := by
  rcases k with _ | _ | _ | _ | k <;> simp [sRec, sq]
end Go.Proofs.Ytdjglbedimpldaa
/-
  Walks: spec.SessionStep.
-/
namespace Go.Proofs.Ytdjglbedimpldaa
open Go Go.RowKit Go.Proofs
attribute [local irreducible] RWp AW run kPe pe Kt effA gd gu br retR RDp runD kPeD brW gW effD
set_option maxRecDepth 100000
theorem l42Empty_pc : PC Try.prog 51 [] (rX (stO st0) [rowN [], rowC []]) := by
  unfold stO st0
  refine pc_enter Try.func51 rfl rfl fun w0 fb => go_on ?_; (try simp only [Try.ntmps51, push_cast, simprocAttr])
  refine at_ret ?_; simp only [Try.results51, push_cast, simprocAttr]
  simp [rX, ixOf, rowN, rowC]
theorem l42Logs_pc (a b : List Cm) (hl : a.length < 4294967281) : PC Try.prog 81 [cmA a, cmA b] (vB (decide (a = b))) := by
  refine pc_enter Try.func81 rfl rfl fun w0 fb => go_on ?_; (try simp only [Try.ntmps81, push_cast, simprocAttr])
  refine at_b (fun hb => ?_) (fun hb => ?_)
  · have h1 := of_eqI_f (not_t hb)
    have h2 : a ≠ b := by rintro rfl; exact h1 rfl
    (try simp only [hb, push_cast, simprocAttr])
    refine at_ret ?_; simp only [Try.results81, push_cast, simprocAttr]
    simp [vX, h2]
  · have h1 : a.length = b.length := by have := of_eqI_t (not_f hb); omega
    (try simp only [hb, push_cast, simprocAttr])
    refine at_loop (X := Nat) (fun k => [(5, iA k)]) (fun _ => []) (fun k => k ≤ a.length ∧ decide (a = b) = decide (a.drop k = b.drop k)) (fun k => a.length - k) 0 ⟨Nat.zero_le _, rfl⟩ ?_ ?_
    · (refine wk_ok ?_ ?_ ?_ ?_ <;> simp [leL, leH, idsL, idsA, idsR, inH, hget, sameRow, upA, hvA, dsts, dstO, setA_0, setA_1, setA_8, List.append, List.cons_append, List.nil_append])
    · rintro k ⟨q1, q2⟩
      simp only [upA, hvA, dsts, dstO, setA_0, setA_1, setA_8, List.append, List.cons_append, List.nil_append]
      refine go_on ?_
      (try simp only [push_cast, simprocAttr])
      refine at_b (fun hg => ?_) (fun hg => ?_)
      · have hlt := lt_tt hg
        obtain ⟨x, hx⟩ := get_of_lt hlt
        obtain ⟨y, hy⟩ := get_of_lt (l := b) (k := k) (by omega)
        have i1 := ix_n hx
        have i3 := ix_n hy
        have i2 := map_get cmC hx
        have i4 := map_get cmC hy
        simp only [cmC] at i2 i4
        rw [drop_of_get hx, drop_of_get hy] at q2
        have w2 := wr ((k : Int) + 1) (by omega)
        (try simp only [hg, push_cast, simprocAttr])
        refine at_draw rfl (by kernel_rfl) ?_
        (try simp only [i1, i2, i3, i4, ctg, cth, cmg, cmh, push_cast, simprocAttr])
        refine at_done (by kernel_rfl) (by kernel_rfl) (go_on ?_)
        have e := cm_eq x y
        (try simp only [e, push_cast, simprocAttr])
        refine at_b (fun hn => ?_) (fun hn => ?_)
        · have hxy : x ≠ y := by simpa using hn
          (try simp only [hn, push_cast, simprocAttr])
          refine at_ret ?_; simp only [Try.results81, push_cast, simprocAttr]
          simp [vX, q2, hxy]
        · have hxy : x = y := by simpa using hn
          (try simp only [hn, w2, push_cast, simprocAttr])
          refine at_fin ⟨k + 1, ⟨by omega, ?_⟩, by omega, ?_⟩
          · rw [q2]; simp [hxy]
          · (refine wk_ok ?_ ?_ ?_ ?_ <;> simp [leL, leH, idsL, idsA, idsR, inH, hget, sameRow, upA, hvA, dsts, dstO, setA_0, setA_1, setA_8, List.append, List.cons_append, List.nil_append])
      · have h3 := lt_ff hg
        (try simp only [hg, push_cast, simprocAttr])
        refine at_ret ?_; simp only [Try.results81, push_cast, simprocAttr]
        rw [List.drop_of_length_le h3, List.drop_of_length_le (by omega)] at q2
        simp [vX, q2]
theorem l42Sites_pc (a b : St) (ha : SmS a) (hb : SmS b) : PC Try.prog 62 [stA' a, stA' b] (vB (decide (a = b))) := by
  have h1 := l42Trees_pc a.base b.base ha.c1
  have h2 := l42Logs_pc a.log b.log ha.c2
  unfold stA' stC at *
  refine pc_enter Try.func62 rfl rfl fun w0 fb => go_on ?_; (try simp only [Try.ntmps62, push_cast, simprocAttr])
  repeat' first | (refine at_b (fun hb => ?_) (fun hb => ?_) <;> simp only [hb, push_cast, simprocAttr]) | (refine at_ret ?_; simp only [Try.results62, push_cast, simprocAttr]) | (refine at_call ?_; (try simp only [push_cast, simprocAttr]); refine rwc_v (by first | exact h1 | exact h2) (go_on ?_); simp only [push_cast, simprocAttr]) | (show RWp _ _ _ _ _; simp only [push_cast, simprocAttr])
  all_goals simp only [Bool.not_eq_true', Bool.not_eq_false', eqI_d, decide_eq_true_eq, decide_eq_false_iff_not] at *
  all_goals simp [vX, st_ext a b, *]
theorem l42Moved_pc (a b : St) (ha : SmS a) (hb : SmS b) : PC Try.prog 50 [stA' a, stA' b] (vB (decide (a = b))) := by
  have h1 := l42Sites_pc a b ha hb
  unfold stA' stC at *
  refine pc_enter Try.func50 rfl rfl fun w0 fb => go_on ?_; (try simp only [Try.ntmps50, push_cast, simprocAttr])
  (refine at_call ?_; (try simp only [push_cast, simprocAttr]); refine rwc_v (h1) (go_on ?_); (try simp only [push_cast, simprocAttr]))
  refine at_ret ?_; simp only [Try.results50, push_cast, simprocAttr]
  simp [vX]
end Go.Proofs.Ytdjglbedimpldaa
/-
  Walks: spec.SessionStep (read as data).
-/
namespace Go.Proofs.Ytdjglbedimpldaa
open Go Go.RowKit Go.Proofs
theorem l42Empty_d : PC Try.prog 51 [] (vX (stA' st0)) := by
  have := l42Empty_pc.frzX
  simp [viewN, hpOf, hget, stO, isC, tk, st0, rowN, rowC] at this
  exact this
attribute [local irreducible] RWp AW run kPe pe Kt effA gd gu br retR RDp runD kPeD brW gW effD
set_option maxRecDepth 100000
theorem specSessionStep_d0 (s : Ss) (hs : SmSs s) (hp : s.plan = false) (h : sRun s.A s.B = none) : PC Try.prog 41 [ssA s] (vX (.tup [ss00, bA false])) := by
  have h1 := l41Copy_d s.A hs.A.c1 hs.A.c2
  have h2 := l41Copy_d s.B hs.B.c1 hs.B.c2
  have h3 := l41Copy_d s.nA hs.nA.c1 hs.nA.c2
  have h4 := l41Copy_d s.nB hs.nB.c1 hs.nB.c2
  have hR := specSessionRun_d s.A s.B hs.A hs.B
  rw [h] at hR
  unfold srV at hR
  unfold stA' stC at *
  unfold st00 at hR
  unfold ssA ssC
  rw [hp]
  refine pc_enter Try.func41 rfl rfl fun w0 fb => go_on ?_; (try simp only [Try.ntmps41, push_cast, simprocAttr])
  refine at_draw rfl (by kernel_rfl) ?_; simp only [push_cast, simprocAttr]
  (refine at_shareD (by simp [isC2, isC]) (by first | rfl | simp [ren]) h1 ?_; (try simp only [push_cast, simprocAttr]))
  (refine at_shareD (by simp [isC2, isC]) (by first | rfl | simp [ren]) h2 ?_; (try simp only [push_cast, simprocAttr]))
  (refine at_shareD (by simp [isC2, isC]) (by first | rfl | simp [ren]) h3 ?_; (try simp only [push_cast, simprocAttr]))
  (refine at_shareD (by simp [isC2, isC]) (by first | rfl | simp [ren]) h4 ?_; (try simp only [push_cast, simprocAttr]))
  refine at_done (by kernel_rfl) (by kernel_rfl) (go_on ?_)
  (try simp only [Bool.not_false, push_cast, simprocAttr])
  ((try simp only [push_cast, simprocAttr]); refine at_share2 (by simp [isC2, isC]) (by first | rfl | simp [ren]) (hR) (go_on ?_); (try simp only [push_cast, simprocAttr]))
  (try simp only [Bool.not_false, push_cast, simprocAttr])
  refine at_ret ?_; simp only [Try.results41, push_cast, simprocAttr]
  simp [vX, ss00, z3]
theorem specSessionStep_d1 (s : Ss) (hs : SmSs s) (hp : s.plan = false) (x y : St) (h : sRun s.A s.B = some (x, y)) : PC Try.prog 41 [ssA s] (vX (.tup [.agg (stC s.A ++ stC s.B ++ [bA true] ++ stC x ++ stC y), bA true])) := by
  have h1 := l41Copy_d s.A hs.A.c1 hs.A.c2
  have h2 := l41Copy_d s.B hs.B.c1 hs.B.c2
  have h3 := l41Copy_d s.nA hs.nA.c1 hs.nA.c2
  have h4 := l41Copy_d s.nB hs.nB.c1 hs.nB.c2
  have hR := specSessionRun_d s.A s.B hs.A hs.B
  rw [h] at hR
  unfold srV at hR
  unfold stA' stC at *
  unfold ssA ssC
  rw [hp]
  refine pc_enter Try.func41 rfl rfl fun w0 fb => go_on ?_; (try simp only [Try.ntmps41, push_cast, simprocAttr])
  refine at_draw rfl (by kernel_rfl) ?_; simp only [push_cast, simprocAttr]
  (refine at_shareD (by simp [isC2, isC]) (by first | rfl | simp [ren]) h1 ?_; (try simp only [push_cast, simprocAttr]))
  (refine at_shareD (by simp [isC2, isC]) (by first | rfl | simp [ren]) h2 ?_; (try simp only [push_cast, simprocAttr]))
  (refine at_shareD (by simp [isC2, isC]) (by first | rfl | simp [ren]) h3 ?_; (try simp only [push_cast, simprocAttr]))
  (refine at_shareD (by simp [isC2, isC]) (by first | rfl | simp [ren]) h4 ?_; (try simp only [push_cast, simprocAttr]))
  refine at_done (by kernel_rfl) (by kernel_rfl) (go_on ?_)
  (try simp only [Bool.not_false, push_cast, simprocAttr])
  ((try simp only [push_cast, simprocAttr]); refine at_share2 (by simp [isC2, isC]) (by first | rfl | simp [ren]) (hR) (go_on ?_); (try simp only [push_cast, simprocAttr]))
  (try simp only [Bool.not_true, push_cast, simprocAttr])
  refine at_ret ?_; simp only [Try.results41, push_cast, simprocAttr]
  simp [vX]
theorem specSessionStep_d2 (s : Ss) (hs : SmSs s) (hp : s.plan = true) : PC Try.prog 41 [ssA s] (vX (.tup [.agg (if s.A ≠ s.nA then stC s.nA ++ stC s.B ++ [bA true] ++ stC s.nA ++ stC s.nB else if s.B ≠ s.nB then stC s.A ++ stC s.nB ++ [bA true] ++ stC s.nA ++ stC s.nB else stC s.A ++ stC s.B ++ [bA false] ++ stC st0 ++ stC st0), bA true])) := by
  have h1 := l41Copy_d s.A hs.A.c1 hs.A.c2
  have h2 := l41Copy_d s.B hs.B.c1 hs.B.c2
  have h3 := l41Copy_d s.nA hs.nA.c1 hs.nA.c2
  have h4 := l41Copy_d s.nB hs.nB.c1 hs.nB.c2
  have hS := l42Moved_pc s.A s.nA hs.A hs.nA
  have hT := l42Moved_pc s.B s.nB hs.B hs.nB
  have hE := l42Empty_d
  unfold stA' stC at *
  unfold ssA ssC
  rw [hp]
  refine pc_enter Try.func41 rfl rfl fun w0 fb => go_on ?_; (try simp only [Try.ntmps41, push_cast, simprocAttr])
  refine at_draw rfl (by kernel_rfl) ?_; simp only [push_cast, simprocAttr]
  (refine at_shareD (by simp [isC2, isC]) (by first | rfl | simp [ren]) h1 ?_; (try simp only [push_cast, simprocAttr]))
  (refine at_shareD (by simp [isC2, isC]) (by first | rfl | simp [ren]) h2 ?_; (try simp only [push_cast, simprocAttr]))
  (refine at_shareD (by simp [isC2, isC]) (by first | rfl | simp [ren]) h3 ?_; (try simp only [push_cast, simprocAttr]))
  (refine at_shareD (by simp [isC2, isC]) (by first | rfl | simp [ren]) h4 ?_; (try simp only [push_cast, simprocAttr]))
  refine at_done (by kernel_rfl) (by kernel_rfl) (go_on ?_)
  (try simp only [Bool.not_true, push_cast, simprocAttr])
  (refine at_call ?_; (try simp only [push_cast, simprocAttr]); refine rwc_v (hS) (go_on ?_); (try simp only [push_cast, simprocAttr]))
  by_cases e1 : s.A = s.nA
  · have d1 : decide (s.A = s.nA) = true := by simpa using e1
    (try simp only [d1, Bool.not_true, push_cast, simprocAttr])
    (refine at_call ?_; (try simp only [push_cast, simprocAttr]); refine rwc_v (hT) (go_on ?_); (try simp only [push_cast, simprocAttr]))
    by_cases e2 : s.B = s.nB
    · have d2 : decide (s.B = s.nB) = true := by simpa using e2
      (try simp only [d2, Bool.not_true, push_cast, simprocAttr])
      ((try simp only [push_cast, simprocAttr]); refine at_share2 (by simp [isC2, isC]) (by first | rfl | simp [ren]) (hE) (go_on ?_); (try simp only [push_cast, simprocAttr]))
      ((try simp only [push_cast, simprocAttr]); refine at_share2 (by simp [isC2, isC]) (by first | rfl | simp [ren]) (hE) (go_on ?_); (try simp only [push_cast, simprocAttr]))
      refine at_ret ?_; simp only [Try.results41, push_cast, simprocAttr]
      simp [vX, e1, e2]
    · have d2 : decide (s.B = s.nB) = false := by simpa using e2
      (try simp only [d2, Bool.not_false, push_cast, simprocAttr])
      ((try simp only [push_cast, simprocAttr]); refine at_share2 (by simp [isC2, isC]) (by first | rfl | simp [ren]) (h4) (go_on ?_); (try simp only [push_cast, simprocAttr]))
      refine at_ret ?_; simp only [Try.results41, push_cast, simprocAttr]
      simp [vX, e1, e2]
  · have d1 : decide (s.A = s.nA) = false := by simpa using e1
    (try simp only [d1, Bool.not_false, push_cast, simprocAttr])
    ((try simp only [push_cast, simprocAttr]); refine at_share2 (by simp [isC2, isC]) (by first | rfl | simp [ren]) (h3) (go_on ?_); (try simp only [push_cast, simprocAttr]))
    refine at_ret ?_; simp only [Try.results41, push_cast, simprocAttr]
    simp [vX, e1]
theorem specSessionStep_e (s : Ss) (hs : SmSs s) : PC Try.prog 41 [ssA s] (ssO (sStep s)) := by
  cases hp : s.plan with
  | false =>
    cases hr : sRun s.A s.B with
    | none => simpa [ssO, sStep, hp, hr] using ss_e0 (specSessionStep_d0 s hs hp hr)
    | some p =>
      obtain ⟨x, y⟩ := p
      have := specSessionStep_d1 s hs hp x y hr
      simpa [ssO, sStep, hp, hr, ssA, ssC, stC] using this
  | true =>
    have := specSessionStep_d2 s hs hp
    by_cases h1 : s.A = s.nA
    · by_cases h2 : s.B = s.nB
      · simp only [h1, h2, ne_eq, not_true_eq_false, if_false] at this
        simpa [ssO, sStep, hp, h1, h2, ssA, ssC, stC] using this
      · simp only [h1, h2, ne_eq, not_true_eq_false, not_false_eq_true, if_false, if_true] at this
        simpa [ssO, sStep, hp, h1, h2, ssA, ssC, stC] using this
    · simp only [h1, ne_eq, not_false_eq_true, if_true] at this
      simpa [ssO, sStep, hp, h1, ssA, ssC, stC] using this
theorem specSessionRecover_d (s : Ss) (hs : SmSs s) : PC Try.prog 6 [ssA s] (vX (.tup [stA' (sRec s).1, stA' (sRec s).2])) := by
  have h1 := l41Copy_d s.A hs.A.c1 hs.A.c2
  have h2 := l41Copy_d s.B hs.B.c1 hs.B.c2
  have h3 := l41Copy_d s.nA hs.nA.c1 hs.nA.c2
  have h4 := l41Copy_d s.nB hs.nB.c1 hs.nB.c2
  unfold stA' stC at *
  unfold ssA ssC
  refine pc_enter Try.func6 rfl rfl fun w0 fb => go_on ?_; (try simp only [Try.ntmps6, push_cast, simprocAttr])
  cases hp : s.plan with
  | true =>
    (try simp only [hp, push_cast, simprocAttr])
    refine at_draw rfl (by kernel_rfl) ?_; simp only [push_cast, simprocAttr]
    (refine at_shareD (by simp [isC2, isC]) (by first | rfl | simp [ren]) h3 ?_; (try simp only [push_cast, simprocAttr]))
    (refine at_shareD (by simp [isC2, isC]) (by first | rfl | simp [ren]) h4 ?_; (try simp only [push_cast, simprocAttr]))
    refine at_done (by kernel_rfl) (by kernel_rfl) (go_on ?_)
    (try simp only [push_cast, simprocAttr])
    refine at_ret ?_; simp only [Try.results6, push_cast, simprocAttr]
    simp [vX, sRec, hp]
  | false =>
    (try simp only [hp, push_cast, simprocAttr])
    refine at_draw rfl (by kernel_rfl) ?_; simp only [push_cast, simprocAttr]
    (refine at_shareD (by simp [isC2, isC]) (by first | rfl | simp [ren]) h1 ?_; (try simp only [push_cast, simprocAttr]))
    (refine at_shareD (by simp [isC2, isC]) (by first | rfl | simp [ren]) h2 ?_; (try simp only [push_cast, simprocAttr]))
    refine at_done (by kernel_rfl) (by kernel_rfl) (go_on ?_)
    (try simp only [push_cast, simprocAttr])
    refine at_ret ?_; simp only [Try.results6, push_cast, simprocAttr]
    simp [vX, sRec, hp]
theorem sStep_sm {s o : Ss} (hs : SmSs s) (h : sStep s = some o) : SmSs o := by
  unfold sStep at h
  split at h
  · split at h
    · rename_i x y hr
      cases h
      exact ⟨hs.A, hs.B, siteV_sm (law_session hr).1, siteV_sm (law_session hr).2.1⟩
    · cases h
  · split at h
    · cases h; exact ⟨hs.nA, hs.B, hs.nA, hs.nB⟩
    · split at h
      · cases h; exact ⟨hs.A, hs.nB, hs.nA, hs.nB⟩
      · cases h; exact ⟨hs.A, hs.B, st0_sm, st0_sm⟩
theorem ss0_sm : SmSs ss0 := ⟨st0_sm, st0_sm, st0_sm, st0_sm⟩
theorem sStepO_sm {s : Ss} (hs : SmSs s) : SmSs ((sStep s).getD ss0) := by
  cases h : sStep s with
  | none => exact ss0_sm
  | some o => exact sStep_sm hs h
end Go.Proofs.Ytdjglbedimpldaa
