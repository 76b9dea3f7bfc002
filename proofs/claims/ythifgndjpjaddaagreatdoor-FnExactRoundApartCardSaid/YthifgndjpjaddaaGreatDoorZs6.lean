/- A part of the proof of the session laws: texts W58 M34 M35 D9 D10 W59 W60 D12 Y10 D13 W61 W62 W28 W63 W64 W65 Y11 Y11b Y11c Y12. -/
import Derived.Test.YthifgndjpjaddaaGreatDoorZs5
import Derived.Test.YthifgndjpjaddaaGreatDoorZs4
set_option linter.unusedSimpArgs false
set_option linter.unusedVariables false
/-
  Walks: impl.play.
-/
namespace Go.Proofs.YthifgndjpjaddaaGreatDoor
open Go Go.RowKit Go.Proofs
def pl (t : List Nd) (l : List Ev) : St × St × List Int := play 0 ⟨0, t, []⟩ ⟨0, t, []⟩ l
structure PJ (t : List Nd) (l : List Ev) (k : Nat) (a b : St) (ds : List Int) : Prop where
  hk : k ≤ l.length
  sa : SmS a
  sb : SmS b
  n : ds.length ≤ k
  e : pl t l = ((play k a b (l.drop k)).1, (play k a b (l.drop k)).2.1, ds ++ (play k a b (l.drop k)).2.2)
theorem PJ.init {t : List Nd} (ht : SmT2 t) (l : List Ev) : PJ t l 0 ⟨0, t, []⟩ ⟨0, t, []⟩ [] :=
  ⟨Nat.zero_le _, ⟨ht, st0_sm.l⟩, ⟨ht, st0_sm.l⟩, Nat.le_refl _, by simp [pl]⟩
theorem PJ.step {t : List Nd} {l : List Ev} {k : Nat} {a b : St} {ds : List Int} (h : PJ t l k a b ds) {e : Ev} (he : l[k]? = some e) {a' b' : St} {ok : Bool} (hr : evDo a b e = (a', b', ok)) (ha : SmS a') (hb : SmS b') :
    PJ t l (k + 1) a' b' (if ok then ds ++ [(k : Int)] else ds) := by
  have hk := lt_of_some he
  refine ⟨hk, ha, hb, ?_, ?_⟩
  · have := h.n
    split
    · simp; omega
    · omega
  · rw [h.e, drop_of_get he]
    simp only [play, hr]
    have hc : ((k + 1 : Nat) : Int) = (k : Int) + 1 := by simp
    rw [hc]
    cases ok <;> simp
theorem PJ.done {t : List Nd} {l : List Ev} {k : Nat} {a b : St} {ds : List Int} (h : PJ t l k a b ds) (hk : l.length ≤ k) : pl t l = (a, b, ds) := by
  rw [h.e, List.drop_of_length_le hk]
  simp [play]
theorem evDo_1 {a b : St} {e : Ev} (h : e.k = 1) : evDo a b e = ((siteDo a e.c).1, b, (siteDo a e.c).2) := by simp [evDo, h]
theorem evDo_2 {a b : St} {e : Ev} (h : e.k = 2) : evDo a b e = (a, (siteDo b e.c).1, (siteDo b e.c).2) := by simp [evDo, h]
theorem evDo_n {a b : St} {e : Ev} (h1 : e.k ≠ 1) (h2 : e.k ≠ 2) (hr : sRun a b = none) : evDo a b e = (a, b, false) := by simp [evDo, h1, h2, hr]
theorem evDo_s {a b x y : St} {e : Ev} (h1 : e.k ≠ 1) (h2 : e.k ≠ 2) (hr : sRun a b = some (x, y)) : evDo a b e = (x, y, true) := by simp [evDo, h1, h2, hr]
attribute [local irreducible] RWp AW run kPe pe Kt effA gd gu br retR RDp runD kPeD brW gW effD
set_option maxRecDepth 100000
theorem play_d (t : List Nd) (ht : SmT2 t) (l : List Ev) (hl : SmE l) : PC Tryz.prog 36 [ndA t, evsA l] (vX (.tup [stA' (pl t l).1, stA' (pl t l).2.1, .sl 1 ((pl t l).2.2.map inC)])) := by
  have hT := cloneTree_d t (by have := ht.n; omega)
  have hn := hl.n
  unfold stA' stC
  refine PC.toF ?_
  refine pc_enter Tryz.func36 rfl rfl fun w0 fb => go_on ?_; (try simp only [Tryz.ntmps36, push_cast, simprocAttr])
  ((try simp only [push_cast, simprocAttr]); refine at_share2 (by simp [isC2, isC]) (by first | rfl | simp [ren]) (hT) (go_on ?_); (try simp only [push_cast, simprocAttr]))
  ((try simp only [push_cast, simprocAttr]); refine at_share2 (by simp [isC2, isC]) (by first | rfl | simp [ren]) (hT) (go_on ?_); (try simp only [push_cast, simprocAttr]))
  refine at_loop (X := Nat × St × St × List Int) (fun x => [(9, .o 9 x.2.2.2.length), (23, iA x.1)]) (fun x => [(4, ⟨45, 3, [[iA 0, .v (.slice none 0 0), .v (.slice none 0 0)]], true⟩), (5, ⟨45, 3, [[iA 0, .v (.slice none 0 0), .v (.slice none 0 0)]], true⟩), (6, ⟨3, 1, [], true⟩), (7, ⟨45, 3, [[iA x.2.1.ep, ndA x.2.1.base, cmA x.2.1.log]], true⟩), (8, ⟨45, 3, [[iA x.2.2.1.ep, ndA x.2.2.1.base, cmA x.2.2.1.log]], true⟩), (9, ⟨3, 1, x.2.2.2.map inC, true⟩)]) (fun x => PJ t l x.1 x.2.1 x.2.2.1 x.2.2.2) (fun x => l.length - x.1) (0, ⟨0, t, []⟩, ⟨0, t, []⟩, []) (PJ.init ht l) ?_ ?_
  · refine wk_nil ?_ ?_ ?_ ?_ <;> simp [leL, leN, rowN2, nlE, nlC, nlv, idsL, idsA, idsR, inH, hget, upA, hvA, dsts, dstO, setA_0, setA_1, setA_8, List.append, List.cons_append, List.nil_append]
  · rintro ⟨k, a, b, ds⟩ hJ
    simp only [upA, hvA, dsts, dstO, setA_0, setA_1, setA_8, List.append, List.cons_append, List.nil_append]
    refine go_on ?_
    (try simp only [push_cast, simprocAttr])
    refine at_b (fun hg => ?_) (fun hg => ?_)
    · have hlt := lt_tt hg
      obtain ⟨e, he⟩ := get_of_lt hlt
      have i1 := ix_n he
      have i2 := map_get evC he
      simp only [evC] at i2
      have hp := hl.p e (List.mem_of_getElem? he)
      have w1 := wr ((k : Int) + 1) (by omega)
      have hdn : ds.length ≤ k := hJ.n
      have hmap : ds.map inC ++ [[iA (k : Int)]] = (ds ++ [(k : Int)]).map inC := by rw [List.map_append]; rfl
      (try simp only [hg, i1, i2, push_cast, simprocAttr])
      by_cases h1 : e.k = 1
      · have j1 : eqI e.k 1 = true := eqI_t h1
        have hS := SiteDo_d a hJ.sa e.c hp
        have hsm := siteDo_sm hJ.sa hp (s := a)
        obtain ⟨o, ok, hoo⟩ : ∃ o ok, siteDo a e.c = (o, ok) := ⟨_, _, rfl⟩
        have hJ2 := hJ.step he (evDo_1 h1) (by rw [hoo]; rw [hoo] at hsm; exact hsm) hJ.sb
        rw [hoo] at hS hJ2
        simp only at hS hJ2
        unfold stA' stC cmdA cmC at hS
        (try simp only [j1, push_cast, simprocAttr])
        ((try simp only [push_cast, simprocAttr]); refine at_share2 (by simp [isC2, isC]) (by first | rfl | simp [ren]) (hS) (go_on ?_); (try simp only [push_cast, simprocAttr]))
        cases ok with
        | false =>
          (try simp only [w1, push_cast, simprocAttr])
          refine at_fin ⟨(k + 1, o, b, ds), hJ2, by dsimp only; omega, ?_⟩
          (refine wk_ok ?_ ?_ ?_ ?_ <;> simp [leL, leH, idsL, idsA, idsR, inH, hget, sameRow, upA, hvA, dsts, dstO, setA_0, setA_1, setA_8, List.append, List.cons_append, List.nil_append])
        | true =>
          (try simp only [w1, push_cast, simprocAttr])
          refine at_chk (by omega) ?_
          (try simp only [w1, hmap, push_cast, simprocAttr])
          refine at_fin ⟨(k + 1, o, b, ds ++ [(k : Int)]), hJ2, by dsimp only; omega, ?_⟩
          simp only [List.length_append, List.length_cons, List.length_nil]
          (refine wk_ok ?_ ?_ ?_ ?_ <;> simp [leL, leH, idsL, idsA, idsR, inH, hget, sameRow, upA, hvA, dsts, dstO, setA_0, setA_1, setA_8, List.append, List.cons_append, List.nil_append])
      · have j1 : eqI e.k 1 = false := eqI_f h1
        by_cases h2 : e.k = 2
        · have j2 : eqI e.k 2 = true := eqI_t h2
          have hS := SiteDo_d b hJ.sb e.c hp
          have hsm := siteDo_sm hJ.sb hp (s := b)
          obtain ⟨o, ok, hoo⟩ : ∃ o ok, siteDo b e.c = (o, ok) := ⟨_, _, rfl⟩
          have hJ2 := hJ.step he (evDo_2 h2) hJ.sa (by rw [hoo]; rw [hoo] at hsm; exact hsm)
          rw [hoo] at hS hJ2
          simp only at hS hJ2
          unfold stA' stC cmdA cmC at hS
          (try simp only [j1, j2, push_cast, simprocAttr])
          ((try simp only [push_cast, simprocAttr]); refine at_share2 (by simp [isC2, isC]) (by first | rfl | simp [ren]) (hS) (go_on ?_); (try simp only [push_cast, simprocAttr]))
          cases ok with
          | false =>
            (try simp only [w1, push_cast, simprocAttr])
            refine at_fin ⟨(k + 1, a, o, ds), hJ2, by dsimp only; omega, ?_⟩
            (refine wk_ok ?_ ?_ ?_ ?_ <;> simp [leL, leH, idsL, idsA, idsR, inH, hget, sameRow, upA, hvA, dsts, dstO, setA_0, setA_1, setA_8, List.append, List.cons_append, List.nil_append])
          | true =>
            (try simp only [w1, push_cast, simprocAttr])
            refine at_chk (by omega) ?_
            (try simp only [w1, hmap, push_cast, simprocAttr])
            refine at_fin ⟨(k + 1, a, o, ds ++ [(k : Int)]), hJ2, by dsimp only; omega, ?_⟩
            simp only [List.length_append, List.length_cons, List.length_nil]
            (refine wk_ok ?_ ?_ ?_ ?_ <;> simp [leL, leH, idsL, idsA, idsR, inH, hget, sameRow, upA, hvA, dsts, dstO, setA_0, setA_1, setA_8, List.append, List.cons_append, List.nil_append])
        · have j2 : eqI e.k 2 = false := eqI_f h2
          have hR := SessionRun_e a b hJ.sa hJ.sb
          unfold stA' stC at hR
          (try simp only [j1, j2, push_cast, simprocAttr])
          ((try simp only [push_cast, simprocAttr]); refine at_share2 (by simp [isC2, isC]) (by first | rfl | simp [ren]) (hR) (go_on ?_); (try simp only [push_cast, simprocAttr]))
          cases hr : sRun a b with
          | none =>
            have hJ2 := hJ.step he (evDo_n h1 h2 hr) hJ.sa hJ.sb
            (try simp only [hr, Option.isSome_none, w1, push_cast, simprocAttr])
            refine at_fin ⟨(k + 1, a, b, ds), hJ2, by dsimp only; omega, ?_⟩
            (refine wk_ok ?_ ?_ ?_ ?_ <;> simp [leL, leH, idsL, idsA, idsR, inH, hget, sameRow, upA, hvA, dsts, dstO, setA_0, setA_1, setA_8, List.append, List.cons_append, List.nil_append])
          | some xy =>
            obtain ⟨x, y⟩ := xy
            have hJ2 := hJ.step he (evDo_s h1 h2 hr) (siteV_sm (law_session hr).1) (siteV_sm (law_session hr).2.1)
            (try simp only [hr, Option.isSome_some, rA_some hr, rB_some hr, w1, push_cast, simprocAttr])
            refine at_draw rfl (by kernel_rfl) ?_; simp only [push_cast, simprocAttr]
            refine at_done (by kernel_rfl) (by kernel_rfl) (go_on ?_)
            (try simp only [w1, push_cast, simprocAttr])
            refine at_chk (by omega) ?_
            (try simp only [w1, hmap, push_cast, simprocAttr])
            refine at_fin ⟨(k + 1, x, y, ds ++ [(k : Int)]), hJ2, by dsimp only; omega, ?_⟩
            simp only [List.length_append, List.length_cons, List.length_nil]
            (refine wk_ok ?_ ?_ ?_ ?_ <;> simp [leL, leH, idsL, idsA, idsR, inH, hget, sameRow, upA, hvA, dsts, dstO, setA_0, setA_1, setA_8, List.append, List.cons_append, List.nil_append])
    · have h3 := lt_ff hg
      have hd := hJ.done h3
      (try simp only [hg, push_cast, simprocAttr])
      refine at_draw rfl (by kernel_rfl) ?_; simp only [push_cast, simprocAttr]
      refine at_done (by kernel_rfl) (by kernel_rfl) (go_on ?_)
      (try simp only [push_cast, simprocAttr])
      refine at_ret ?_; simp only [Tryz.results36, push_cast, simprocAttr]
      rw [hd]
      simp [vF, viewN, isC, hpOf, hget, tk, ixOf]
end Go.Proofs.YthifgndjpjaddaaGreatDoor
/-
  The abstract machine: a region that draws its order, several calls within that borrow a row, and operations that wait for none of them.
-/
namespace Go.Proofs.YthifgndjpjaddaaGreatDoor
open Go Go.RowKit

/-! ### Moves of slots that nothing writes: they see no row -/
section
variable {P : Program} {w0 : World} {lent : Lent} {Q : Exit → Act → World → Prop}
end

end Go.Proofs.YthifgndjpjaddaaGreatDoor
/-
  The abstract machine: what a call that was lent rows leaves anew, read as data.
-/
namespace Go.Proofs.YthifgndjpjaddaaGreatDoor
open Go Go.RowKit

end Go.Proofs.YthifgndjpjaddaaGreatDoor
/-
  Walks: the draws: two sides.
-/
namespace Go.Proofs.YthifgndjpjaddaaGreatDoor
open Go Go.RowKit Go.Proofs
def frzRow (ids : List Nat) (h : Hp) (row : Row) : Row := if (row.es.all fun e => e.all fun x => (idsA x).all fun r => !hasN ids r) = true then row else ⟨row.E, row.sz, row.es.map (·.map (viewN 3 h)), true⟩
def frzH (ids : List Nat) (h : Hp) : Hp → Hp
  | [] => []
  | (r, row) :: l => (r, frzRow ids h row) :: frzH ids h l
def frzS2 (ids : List Nat) (s : AS) : AS := ⟨s.t.map (frzT ids s.h), frzH ids s.h (delL s.h ids)⟩
theorem at_frzS2 {P : Program} {w0 : World} {lent : Lent} {Q : Exit → Act → World → Prop} {k : List It} {s : AS} (ids : List Nat) (h : Wk s (frzS2 ids s)) (h' : AW P w0 lent Q k (frzS2 ids s)) : AW P w0 lent Q k s := at_frz h h'
attribute [local irreducible] RWp AW run kPe pe Kt effA gd gu br retR RDp runD kPeD brW gW effD
set_option maxRecDepth 100000
end Go.Proofs.YthifgndjpjaddaaGreatDoor
/-
  Walks: the draws of two sides (DrawSessionRun, DrawSessionClashes, DrawSessionNew).
-/
namespace Go.Proofs.YthifgndjpjaddaaGreatDoor
open Go Go.RowKit Go.Proofs
attribute [local irreducible] RWp AW run kPe pe Kt effA gd gu br retR RDp runD kPeD brW gW effD
set_option maxRecDepth 100000
end Go.Proofs.YthifgndjpjaddaaGreatDoor
/-
  Walks: spec.l43Ok, l43Do, l43Play.
-/
namespace Go.Proofs.YthifgndjpjaddaaGreatDoor
open Go Go.RowKit Go.Proofs
abbrev evtA (e : Ev) : AV := .agg (evC e)
theorem evDo_sm {a b : St} {e : Ev} (ha : SmS a) (hb : SmS b) (hp : e.c.p.length < 4294967281) : SmS (evDo a b e).1 ∧ SmS (evDo a b e).2.1 := by
  by_cases h1 : e.k = 1
  · rw [evDo_1 h1]; exact ⟨siteDo_sm ha hp, hb⟩
  · by_cases h2 : e.k = 2
    · rw [evDo_2 h2]; exact ⟨ha, siteDo_sm hb hp⟩
    · cases hr : sRun a b with
      | none => rw [evDo_n h1 h2 hr]; exact ⟨ha, hb⟩
      | some xy =>
        obtain ⟨x, y⟩ := xy
        rw [evDo_s h1 h2 hr]
        exact ⟨siteV_sm (law_session hr).1, siteV_sm (law_session hr).2.1⟩
attribute [local irreducible] RWp AW run kPe pe Kt effA gd gu br retR RDp runD kPeD brW gW effD
set_option maxRecDepth 100000
theorem l43Do_d (a b : St) (e : Ev) (ha : SmS a) (hb : SmS b) (hp : e.c.p.length < 4294967281) : PC Tryz.prog 53 [stA' a, stA' b, evtA e] (vX (.tup [stA' (evDo a b e).1, stA' (evDo a b e).2.1, bA (evDo a b e).2.2])) := by
  have hS1 := specSiteDo_d a ha e.c hp
  have hS2 := specSiteDo_d b hb e.c hp
  have hR := specSessionRun_e a b ha hb
  unfold evtA evC
  unfold stA' stC at *
  unfold cmdA cmC at hS1 hS2
  refine pc_enter Tryz.func53 rfl rfl fun w0 fb => go_on ?_; (try simp only [Tryz.ntmps53, push_cast, simprocAttr])
  by_cases h1 : e.k = 1
  · have j1 : eqI e.k 1 = true := eqI_t h1
    rw [evDo_1 h1]
    (try simp only [j1, push_cast, simprocAttr])
    ((try simp only [push_cast, simprocAttr]); refine at_share2 (by simp [isC2, isC]) (by first | rfl | simp [ren]) (hS1) (go_on ?_); (try simp only [push_cast, simprocAttr]))
    refine at_draw rfl (by kernel_rfl) ?_; simp only [push_cast, simprocAttr]
    refine at_done (by kernel_rfl) (by kernel_rfl) (go_on ?_)
    (try simp only [push_cast, simprocAttr])
    refine at_ret ?_; simp only [Tryz.results53, push_cast, simprocAttr]
    simp [vX]
  · have j1 : eqI e.k 1 = false := eqI_f h1
    by_cases h2 : e.k = 2
    · have j2 : eqI e.k 2 = true := eqI_t h2
      rw [evDo_2 h2]
      (try simp only [j1, j2, push_cast, simprocAttr])
      ((try simp only [push_cast, simprocAttr]); refine at_share2 (by simp [isC2, isC]) (by first | rfl | simp [ren]) (hS2) (go_on ?_); (try simp only [push_cast, simprocAttr]))
      refine at_draw rfl (by kernel_rfl) ?_; simp only [push_cast, simprocAttr]
      refine at_done (by kernel_rfl) (by kernel_rfl) (go_on ?_)
      (try simp only [push_cast, simprocAttr])
      refine at_ret ?_; simp only [Tryz.results53, push_cast, simprocAttr]
      simp [vX]
    · have j2 : eqI e.k 2 = false := eqI_f h2
      (try simp only [j1, j2, push_cast, simprocAttr])
      ((try simp only [push_cast, simprocAttr]); refine at_share2 (by simp [isC2, isC]) (by first | rfl | simp [ren]) (hR) (go_on ?_); (try simp only [push_cast, simprocAttr]))
      cases hr : sRun a b with
      | none =>
        rw [evDo_n h1 h2 hr]
        (try simp only [hr, Option.isSome_none, Bool.not_false, push_cast, simprocAttr])
        refine at_draw rfl (by kernel_rfl) ?_; simp only [push_cast, simprocAttr]
        refine at_done (by kernel_rfl) (by kernel_rfl) (go_on ?_)
        (try simp only [push_cast, simprocAttr])
        refine at_ret ?_; simp only [Tryz.results53, push_cast, simprocAttr]
        simp [vX]
      | some xy =>
        obtain ⟨x, y⟩ := xy
        rw [evDo_s h1 h2 hr]
        (try simp only [hr, Option.isSome_some, rA_some hr, rB_some hr, Bool.not_true, push_cast, simprocAttr])
        refine at_draw rfl (by kernel_rfl) ?_; simp only [push_cast, simprocAttr]
        refine at_done (by kernel_rfl) (by kernel_rfl) (go_on ?_)
        (try simp only [push_cast, simprocAttr])
        refine at_ret ?_; simp only [Tryz.results53, push_cast, simprocAttr]
        simp [vX]
theorem l43Ok_pc (t : List Nd) (ht : SmT t) (l : List Ev) (hl : SmE l) : PC Tryz.prog 31 [ndA t, evsA l] (vB (rdV t l)) := by
  have hT := specTreeValid_pc t ht
  have hn := hl.n
  refine pc_enter Tryz.func31 rfl rfl fun w0 fb => go_on ?_; (try simp only [Tryz.ntmps31, push_cast, simprocAttr])
  refine at_loop (X := Nat) (fun k => [(5, iA k)]) (fun _ => []) (fun k => k ≤ l.length ∧ l.all evV = (l.drop k).all evV) (fun k => l.length - k) 0 ⟨Nat.zero_le _, rfl⟩ ?_ ?_
  · (refine wk_ok ?_ ?_ ?_ ?_ <;> simp [leL, leH, idsL, idsA, idsR, inH, hget, sameRow, upA, hvA, dsts, dstO, setA_0, setA_1, setA_8, List.append, List.cons_append, List.nil_append])
  · rintro k ⟨q1, q2⟩
    simp only [upA, hvA, dsts, dstO, setA_0, setA_1, setA_8, List.append, List.cons_append, List.nil_append]
    refine go_on ?_
    (try simp only [push_cast, simprocAttr])
    refine at_b (fun hg => ?_) (fun hg => ?_)
    · have hlt := lt_tt hg
      obtain ⟨e, he⟩ := get_of_lt hlt
      have i1 := ix_n he
      have i2 := map_get evC he
      simp only [evC] at i2
      have hp := hl.p e (List.mem_of_getElem? he)
      have hC := specCommandValid_pc e.c hp
      unfold cmdA cmC at hC
      have hI := l6In_pc e.k 1 3
      rw [drop_of_get he] at q2
      simp only [List.all_cons] at q2
      have w1 := wr ((k : Int) + 1) (by omega)
      (try simp only [hg, i1, i2, push_cast, simprocAttr])
      (refine at_call ?_; (try simp only [push_cast, simprocAttr]); refine rwc_v (hI) (go_on ?_); (try simp only [push_cast, simprocAttr]))
      by_cases h3 : e.k = 3
      · have d1 : inR e.k 1 3 = true := by simp [inR, h3]
        have j3 : eqI e.k 3 = true := eqI_t h3
        rw [evV_3 h3] at q2
        (try simp only [d1, j3, Bool.not_true, ctg, cth, cmg, cmh, push_cast, simprocAttr])
        have e0 : (decide (e.c.p = []) && ((eqI e.c.a.k 0 && eqI e.c.a.v 0) && (eqI e.c.b.k 0 && eqI e.c.b.v 0))) = decide (e.c = cm0) := cm_eq e.c cm0
        cases hv : decide (e.c = cm0) with
        | false =>
          (try simp only [e0, hv, Bool.not_false, push_cast, simprocAttr])
          refine at_ret ?_; simp only [Tryz.results31, push_cast, simprocAttr]
          simp only [hv, Bool.false_and] at q2
          simp [vX, rdV, q2]
        | true =>
          (try simp only [e0, hv, j3, Bool.not_true, w1, push_cast, simprocAttr])
          refine at_fin ⟨k + 1, ⟨by omega, by rw [q2, hv]; rfl⟩, by omega, ?_⟩
          (refine wk_ok ?_ ?_ ?_ ?_ <;> simp [leL, leH, idsL, idsA, idsR, inH, hget, sameRow, upA, hvA, dsts, dstO, setA_0, setA_1, setA_8, List.append, List.cons_append, List.nil_append])
      · have j3 : eqI e.k 3 = false := eqI_f h3
        by_cases h12 : e.k = 1 ∨ e.k = 2
        · have d1 : inR e.k 1 3 = true := by rcases h12 with h | h <;> simp [inR, h]
          have ev : evV e = cmV e.c := h12.elim evV_1 evV_2
          rw [ev] at q2
          (try simp only [d1, j3, Bool.not_true, Bool.not_false, push_cast, simprocAttr])
          (refine at_call ?_; (try simp only [push_cast, simprocAttr]); refine rwc_v (hC) (go_on ?_); (try simp only [push_cast, simprocAttr]))
          cases hv : cmV e.c with
          | false =>
            (try simp only [hv, Bool.not_false, push_cast, simprocAttr])
            refine at_ret ?_; simp only [Tryz.results31, push_cast, simprocAttr]
            simp [vX, rdV, q2, hv]
          | true =>
            (try simp only [hv, j3, Bool.not_true, w1, push_cast, simprocAttr])
            refine at_fin ⟨k + 1, ⟨by omega, by rw [q2, hv]; rfl⟩, by omega, ?_⟩
            (refine wk_ok ?_ ?_ ?_ ?_ <;> simp [leL, leH, idsL, idsA, idsR, inH, hget, sameRow, upA, hvA, dsts, dstO, setA_0, setA_1, setA_8, List.append, List.cons_append, List.nil_append])
        · have d1 : inR e.k 1 3 = false := by simp only [inR, Bool.and_eq_false_iff, decide_eq_false_iff_not]; omega
          rw [evV_n (fun h => h12 (.inl h)) (fun h => h12 (.inr h)) h3] at q2
          (try simp only [d1, Bool.not_false, push_cast, simprocAttr])
          refine at_ret ?_; simp only [Tryz.results31, push_cast, simprocAttr]
          simp [vX, rdV, q2]
    · have h3 := lt_ff hg
      rw [List.drop_of_length_le h3] at q2
      have e1 : rdV t l = (tV t && leI (l.length : Int) 24) := by
        unfold rdV leI
        rw [q2]
        cases tV t <;> simp <;> omega
      (try simp only [hg, push_cast, simprocAttr])
      (refine at_call ?_; (try simp only [push_cast, simprocAttr]); refine rwc_v (hT) (go_on ?_); (try simp only [push_cast, simprocAttr]))
      cases hv : tV t with
      | false =>
        (try simp only [hv, push_cast, simprocAttr])
        refine at_ret ?_; simp only [Tryz.results31, push_cast, simprocAttr]
        simp [vX, e1, hv]
      | true =>
        (try simp only [hv, push_cast, simprocAttr])
        refine at_ret ?_; simp only [Tryz.results31, push_cast, simprocAttr]
        simp [vX, e1, hv]
theorem l43Play_d (t : List Nd) (ht : SmT2 t) (l : List Ev) (hl : SmE l) : PC Tryz.prog 32 [ndA t, evsA l] (vX (.tup [stA' (pl t l).1, stA' (pl t l).2.1, .sl 1 ((pl t l).2.2.map inC)])) := by
  have htn := ht.n
  have hn := hl.n
  have hL := l41Copy_pc ⟨0, t, []⟩ (by simp only; omega) (by simp)
  unfold stA' stC stO at hL
  simp only [List.length_nil] at hL
  unfold stA' stC
  refine PC.toF ?_
  refine pc_enter Tryz.func32 rfl rfl fun w0 fb => go_on ?_; (try simp only [Tryz.ntmps32, push_cast, simprocAttr])
  refine at_chk (by omega) ?_
  (try simp only [push_cast, simprocAttr])
  refine at_call ?_
  (try simp only [Nat.zero_add, push_cast, simprocAttr])
  refine rwc_r hL (by simp [flatV, flatL]) (flat_nc _ _) (by simp [frB, baseOf]) ?_
  (try simp only [push_cast, simprocAttr])
  (refine at_frzS2 [15, 18, 22000, 22001] (by refine wk_frz ?_ ?_ ?_ ?_ <;> simp [rowN, rowC, frzS2, frzH, frzRow, frzT, hasN, delL, hdel, leF, leHF, rowF, frzB, idsL, idsA, idsR, inH, hget, sameRow, viewN, tk]) ?_; simp only [rowN, rowC, frzS2, frzH, frzRow, frzT, hasN, delL, hdel, idsA, idsL, viewN, hget, tk, isC, List.map_cons, List.map_nil, List.all_cons, List.all_nil, List.append_nil, List.drop, List.getElem?_cons_zero, List.getElem?_cons_succ, Bool.not_false, Bool.not_true, Bool.and_true, if_true, if_false, Nat.zero_add, List.length_map, simprocAttr])
  refine go_on ?_
  (try simp only [push_cast, simprocAttr])
  refine at_loop (X := Nat × St × St × List Int) (fun x => [(7, .o 14 x.2.2.2.length), (10, iA x.1), (14, .any)]) (fun x => [(4, ⟨45, 3, [[iA 0, .v (.slice none 0 0), .v (.slice none 0 0)]], true⟩), (5, ⟨45, 3, [[iA 0, .v (.slice none 0 0), .v (.slice none 0 0)]], true⟩), (6, ⟨3, 1, [], true⟩), (14, ⟨3, 1, x.2.2.2.map inC, true⟩), (8, ⟨45, 3, [[iA x.2.1.ep, ndA x.2.1.base, cmA x.2.1.log]], true⟩), (9, ⟨45, 3, [[iA x.2.2.1.ep, ndA x.2.2.1.base, cmA x.2.2.1.log]], true⟩)]) (fun x => PJ t l x.1 x.2.1 x.2.2.1 x.2.2.2) (fun x => l.length - x.1) (0, ⟨0, t, []⟩, ⟨0, t, []⟩, []) (PJ.init ht l) ?_ ?_
  · (refine wk_ok ?_ ?_ ?_ ?_ <;> simp [leL, leH, idsL, idsA, idsR, inH, hget, sameRow, upA, hvA, dsts, dstO, setA_0, setA_1, setA_8, List.append, List.cons_append, List.nil_append])
  · rintro ⟨k, a, b, ds⟩ hJ
    simp only [upA, hvA, dsts, dstO, setA_0, setA_1, setA_8, List.append, List.cons_append, List.nil_append]
    refine go_on ?_
    (try simp only [push_cast, simprocAttr])
    refine at_b (fun hg => ?_) (fun hg => ?_)
    · have hlt := lt_tt hg
      obtain ⟨e, he⟩ := get_of_lt hlt
      have i1 := ix_n he
      have i2 := map_get evC he
      simp only [evC] at i2
      have hp := hl.p e (List.mem_of_getElem? he)
      have w1 := wr ((k : Int) + 1) (by omega)
      have hdn : ds.length ≤ k := hJ.n
      have hmap : ds.map inC ++ [[iA (k : Int)]] = (ds ++ [(k : Int)]).map inC := by rw [List.map_append]; rfl
      have hD := l43Do_d a b e hJ.sa hJ.sb hp
      obtain ⟨a', b', ok, hr⟩ : ∃ a' b' ok, evDo a b e = (a', b', ok) := ⟨_, _, _, rfl⟩
      have hsm := evDo_sm hJ.sa hJ.sb hp (e := e)
      rw [hr] at hD hsm
      have hJ2 := hJ.step he hr hsm.1 hsm.2
      simp only at hD
      unfold stA' stC at hD
      unfold evtA evC at hD
      (try simp only [hg, push_cast, simprocAttr])
      refine at_draw rfl (by kernel_rfl) ?_; simp only [push_cast, simprocAttr]
      (try simp only [i1, i2, push_cast, simprocAttr])
      (refine at_shareD (by simp [isC2, isC]) (by first | rfl | simp [ren]) hD ?_; (try simp only [push_cast, simprocAttr]))
      refine at_done (by kernel_rfl) (by kernel_rfl) (go_on ?_)
      cases ok with
      | false =>
        (try simp only [w1, push_cast, simprocAttr])
        refine at_fin ⟨(k + 1, a', b', ds), hJ2, by dsimp only; omega, ?_⟩
        (refine wk_ok ?_ ?_ ?_ ?_ <;> simp [leL, leH, idsL, idsA, idsR, inH, hget, sameRow, upA, hvA, dsts, dstO, setA_0, setA_1, setA_8, List.append, List.cons_append, List.nil_append])
      | true =>
        (try simp only [w1, push_cast, simprocAttr])
        refine at_chk (by omega) ?_
        (try simp only [w1, hmap, push_cast, simprocAttr])
        refine at_fin ⟨(k + 1, a', b', ds ++ [(k : Int)]), hJ2, by dsimp only; omega, ?_⟩
        simp only [List.length_append, List.length_cons, List.length_nil]
        (refine wk_ok ?_ ?_ ?_ ?_ <;> simp [leL, leH, idsL, idsA, idsR, inH, hget, sameRow, upA, hvA, dsts, dstO, setA_0, setA_1, setA_8, List.append, List.cons_append, List.nil_append])
    · have h3 := lt_ff hg
      have hd := hJ.done h3
      (try simp only [hg, push_cast, simprocAttr])
      refine at_draw rfl (by kernel_rfl) ?_; simp only [push_cast, simprocAttr]
      refine at_done (by kernel_rfl) (by kernel_rfl) (go_on ?_)
      (try simp only [push_cast, simprocAttr])
      refine at_ret ?_; simp only [Tryz.results32, push_cast, simprocAttr]
      rw [hd]
      simp [vF, viewN, isC, hpOf, hget, tk, ixOf]
end Go.Proofs.YthifgndjpjaddaaGreatDoor
/-
  Walks: RoundPlay (impl, spec), impl.RoundDone, read as data.
-/
namespace Go.Proofs.YthifgndjpjaddaaGreatDoor
open Go Go.RowKit Go.Proofs
theorem rPlay_t {t : List Nd} {l : List Ev} (h : rdV t l = true) : rPlay t l = ((pl t l).1, (pl t l).2.1, (l.length : Int) - ((pl t l).2.2.length : Int)) := by simp [rPlay, h, pl]
theorem rPlay_f {t : List Nd} {l : List Ev} (h : rdV t l = false) : rPlay t l = (st0, st0, -1) := by simp [rPlay, h]
theorem rDone_t {t : List Nd} {l : List Ev} (h : rdV t l = true) : rDone t l = (pl t l).2.2 := by simp [rDone, h, pl]
theorem rDone_f {t : List Nd} {l : List Ev} (h : rdV t l = false) : rDone t l = [] := by simp [rDone, h]
attribute [local irreducible] RWp AW run kPe pe Kt effA gd gu br retR RDp runD kPeD brW gW effD
set_option maxRecDepth 100000
theorem RoundDone_0 (t : List Nd) (ht : SmT2 t) (l : List Ev) (hl : SmE l) (h : rdV t l = false) : PC Tryz.prog 11 [ndA t, evsA l] (vX (.sl 1 [])) := by
  have hV := roundValid_pc t ht.s l hl
  rw [h] at hV
  · refine PC.toF ?_
    refine pc_enter Tryz.func11 rfl rfl fun w0 fb => go_on ?_; (try simp only [Tryz.ntmps11, push_cast, simprocAttr])
    refine at_call ?_
    (try simp only [push_cast, simprocAttr])
    refine rwc_v hV ?_
    (try simp only [push_cast, simprocAttr])
    (refine at_dropS [4] (by refine wk_ok ?_ ?_ ?_ ?_ <;> simp [dropS, dropT, hasN, delL, hdel, leL, leH, idsL, idsA, idsR, inH, hget, sameRow]) ?_; simp only [dropS, dropT, hasN, delL, hdel, idsA, idsL, hget, List.map_cons, List.map_nil, List.all_cons, List.all_nil, List.append_nil, Bool.not_false, Bool.not_true, Bool.and_true, if_true, if_false, simprocAttr])
    refine go_on ?_
    (try simp only [Bool.not_false, push_cast, simprocAttr])
    refine at_ret ?_; simp only [Tryz.results11, push_cast, simprocAttr]
    simp [vF, viewN, isC, hpOf, hget, tk, ixOf]
theorem RoundDone_1 (t : List Nd) (ht : SmT2 t) (l : List Ev) (hl : SmE l) (h : rdV t l = true) : PC Tryz.prog 11 [ndA t, evsA l] (vX (.sl 1 ((pl t l).2.2.map inC))) := by
  have hV := roundValid_pc t ht.s l hl
  have hP := play_d t ht l hl
  rw [h] at hV
  unfold stA' stC at *
  refine pc_enter Tryz.func11 rfl rfl fun w0 fb => go_on ?_; (try simp only [Tryz.ntmps11, push_cast, simprocAttr])
  (refine at_call ?_; (try simp only [push_cast, simprocAttr]); refine rwc_v (hV) (go_on ?_); (try simp only [push_cast, simprocAttr]))
  (try simp only [Bool.not_true, push_cast, simprocAttr])
  ((try simp only [push_cast, simprocAttr]); refine at_share2 (by simp [isC2, isC]) (by first | rfl | simp [ren]) (hP) (go_on ?_); (try simp only [push_cast, simprocAttr]))
  refine at_ret ?_; simp only [Tryz.results11, push_cast, simprocAttr]
  simp [vX]
theorem RoundDone_d (t : List Nd) (ht : SmT2 t) (l : List Ev) (hl : SmE l) : PC Tryz.prog 11 [ndA t, evsA l] (vX (.sl 1 ((rDone t l).map inC))) := by
  cases h : rdV t l with
  | false => rw [rDone_f h]; exact RoundDone_0 t ht l hl h
  | true => rw [rDone_t h]; exact RoundDone_1 t ht l hl h
end Go.Proofs.YthifgndjpjaddaaGreatDoor
/-
  Walks: the draws of rounds (DrawRoundPlay).
-/
namespace Go.Proofs.YthifgndjpjaddaaGreatDoor
open Go Go.RowKit Go.Proofs
attribute [local irreducible] RWp AW run kPe pe Kt effA gd gu br retR RDp runD kPeD brW gW effD
set_option maxRecDepth 100000
set_option maxHeartbeats 1000000
end Go.Proofs.YthifgndjpjaddaaGreatDoor
/-
  Walks: the laws' own helpers at events: sizes, copies, equalities, marks (printed by gen_Y10.py).
-/
namespace Go.Proofs.YthifgndjpjaddaaGreatDoor
open Go Go.RowKit Go.Proofs
theorem ev_ext (a b : Ev) : a = b ↔ a.k = b.k ∧ a.c = b.c := by
  obtain ⟨a1, a2⟩ := a
  obtain ⟨b1, b2⟩ := b
  simp
theorem flat_ev {E : TypeId} {sz : Nat} {cl : Bool} (l : List Ev) : FlatR [⟨E, sz, l.map evC, cl⟩] := flat1 l evC fun _ => rfl
abbrev rowEv (l : List Ev) : Row := ⟨70, 6, l.map evC, true⟩
def mkEv : Nat → List Ev → List Ev
  | _, [] => []
  | k, _ :: l => ⟨(k : Int), ⟨mkT (k + 1), ⟨(k : Int) + 1 + 1, (k : Int) + 1 + 1 + 1⟩, ⟨(k : Int) + 1 + 1 + 1 + 1, (k : Int) + 1 + 1 + 1 + 1 + 1⟩⟩⟩ :: mkEv (k + 6) l
theorem mkEv_len : ∀ (l : List Ev) (k : Nat), (mkEv k l).length = l.length
  | [], _ => rfl
  | _ :: l, k => by simp [mkEv, mkEv_len l]
theorem mkEv_get : ∀ (l : List Ev) (k i : Nat), i < l.length → (mkEv k l)[i]? = some ⟨((k + 6 * i : Nat) : Int), ⟨mkT (k + 6 * i + 1), ⟨((k + 6 * i : Nat) : Int) + 1 + 1, ((k + 6 * i : Nat) : Int) + 1 + 1 + 1⟩, ⟨((k + 6 * i : Nat) : Int) + 1 + 1 + 1 + 1, ((k + 6 * i : Nat) : Int) + 1 + 1 + 1 + 1 + 1⟩⟩⟩
  | [], _, _, h => by simp at h
  | x :: l, k, 0, _ => by simp [mkEv]
  | x :: l, k, i + 1, h => by
    rw [mkEv, List.getElem?_cons_succ, mkEv_get l (k + 6) i (by simpa using h), show k + 6 + 6 * i = k + 6 * (i + 1) from by omega]
def upEv (k : Nat) (l : List Ev) (i : Nat) : List Ev := (mkEv k l).take i ++ l.drop i
theorem upEv_len (k : Nat) (l : List Ev) (i : Nat) (h : i ≤ l.length) : (upEv k l i).length = l.length := by simp [upEv, mkEv_len]; omega
attribute [local irreducible] RWp AW run kPe pe Kt effA gd gu br retR RDp runD kPeD brW gW effD
set_option maxRecDepth 100000
theorem toEvent_pc (e : Ev) : PC Tryz.prog 34 [.agg (evC e)] (vX (.agg (evC e))) := by
  have h1 := toCommand_pc e.c
  unfold cmC at h1
  unfold evC
  refine pc_enter Tryz.func34 rfl rfl fun w0 fb => go_on ?_; (try simp only [Tryz.ntmps34, push_cast, simprocAttr])
  (refine at_call ?_; (try simp only [push_cast, simprocAttr]); refine rwc_d (h1) (by simp [flatV, flatL, ctC, ndC, cmC]) (by simp [ren, ctC, ndC, cmC]) (go_on ?_); (try simp only [push_cast, simprocAttr]))
  refine at_ret ?_; simp only [Tryz.results34, push_cast, simprocAttr]
  simp [vX]
theorem eqEvent_pc (a b : Ev) : PC Tryz.prog 38 [.agg (evC a), .agg (evC b)] (vB (decide (a = b))) := by
  have h1 := eqCommand_pc a.c b.c
  unfold cmC at h1
  unfold evC
  refine pc_enter Tryz.func38 rfl rfl fun w0 fb => go_on ?_; (try simp only [Tryz.ntmps38, push_cast, simprocAttr])
  repeat' first | (refine at_b (fun hb => ?_) (fun hb => ?_) <;> simp only [hb, push_cast, simprocAttr]) | (refine at_ret ?_; simp only [Tryz.results38, push_cast, simprocAttr]) | (refine at_call ?_; (try simp only [push_cast, simprocAttr]); refine rwc_v (by first | exact h1) (go_on ?_); simp only [push_cast, simprocAttr]) | (show RWp _ _ _ _ _; simp only [push_cast, simprocAttr])
  all_goals simp only [Bool.not_eq_true', Bool.not_eq_false', eqI_d, decide_eq_true_eq, decide_eq_false_iff_not] at *
  all_goals simp [vX, ev_ext a b, *]
theorem szEvent_pc (e : Ev) (left : Int) (h0 : 0 ≤ left) (h1 : left ≤ 1048576) (hp : e.c.p.length ≤ 9223372036854775807) : PC Tryz.prog 30 [.agg (evC e), iA left] (vI (sz1 left e.c.p.length)) := by
  have hS := szCommand_pc e.c left h0 h1 hp
  unfold cmC at hS
  unfold evC
  refine pc_enter Tryz.func30 rfl rfl fun w0 fb => go_on ?_; (try simp only [Tryz.ntmps30, push_cast, simprocAttr])
  (refine at_call ?_; (try simp only [push_cast, simprocAttr]); refine rwc_v (hS) (go_on ?_); (try simp only [push_cast, simprocAttr]))
  by_cases hz : left - (e.c.p.length : Int) < 0
  · have e2 : sz1 left e.c.p.length = -1 := by unfold sz1; rw [if_pos hz]
    rw [e2]
    (try simp only [show ltI (-1) 0 = true from rfl, push_cast, simprocAttr])
    refine at_ret ?_; simp only [Tryz.results30, push_cast, simprocAttr]
    simp [vX]
  · have e2 : sz1 left e.c.p.length = left - e.c.p.length := by unfold sz1; rw [if_neg hz]
    have e3 : ltI (left - (e.c.p.length : Int)) 0 = false := ltI_f (by omega)
    rw [e2]
    (try simp only [e3, push_cast, simprocAttr])
    refine at_ret ?_; simp only [Tryz.results30, push_cast, simprocAttr]
    simp [vX]
theorem szEventS_pc (l : List Ev) (left : Int) (h0 : 0 ≤ left) (h1 : left ≤ 1048576) (hl : l.length ≤ 9223372036854775807) (hp : ∀ n ∈ l, n.c.p.length ≤ 9223372036854775807) :
    PC Tryz.prog 7 [.sl 6 (l.map evC), iA left] (vI (szS left (l.map fun n => n.c.p.length))) := by
  have w1 := wr (left - (l.length : Int)) (by omega)
  refine pc_enter Tryz.func7 rfl rfl fun w0 fb => go_on ?_; (try simp only [Tryz.ntmps7, push_cast, simprocAttr])
  (try simp only [w1, push_cast, simprocAttr])
  refine at_b (fun hb => ?_) (fun hb => ?_)
  · have := of_ltI_t hb
    (try simp only [hb, push_cast, simprocAttr])
    refine at_ret ?_; simp only [Tryz.results7, push_cast, simprocAttr]
    simp [vX, szS, this]
  · have h2 := of_ltI_f hb
    have e : szS left (l.map fun n => n.c.p.length) = szF (left - l.length) (l.map fun n => n.c.p.length) := by unfold szS; rw [if_neg (by simp; omega), List.length_map]
    rw [e]
    (try simp only [hb, push_cast, simprocAttr])
    refine at_loop (X := Nat × Int) (fun x => [(1, iA x.2), (5, iA x.1)]) (fun _ => []) (fun x => x.1 ≤ l.length ∧ 0 ≤ x.2 ∧ x.2 ≤ 1048576 ∧ szF (left - l.length) (l.map fun n => n.c.p.length) = szF x.2 ((l.drop x.1).map fun n => n.c.p.length)) (fun x => l.length - x.1) (0, left - l.length) ⟨Nat.zero_le _, h2, by dsimp only; omega, rfl⟩ ?_ ?_
    · (refine wk_ok ?_ ?_ ?_ ?_ <;> simp [leL, leH, idsL, idsA, idsR, inH, hget, sameRow, upA, hvA, dsts, dstO, setA_0, setA_1, setA_8, List.append, List.cons_append, List.nil_append])
    · rintro ⟨k, r⟩ ⟨q1, q2, q3, q4⟩
      simp only at q1 q2 q3 q4
      simp only [upA, hvA, dsts, dstO, setA_0, setA_1, setA_8, List.append, List.cons_append, List.nil_append]
      refine go_on ?_
      (try simp only [push_cast, simprocAttr])
      refine at_b (fun hg => ?_) (fun hg => ?_)
      · have hlt := lt_tt hg
        obtain ⟨x, hk⟩ := get_of_lt hlt
        have i1 := ix_n hk
        have i2 := map_get evC hk
        have hS := szEvent_pc x r q2 q3 (hp x (mem_of_get hk))
        simp only [evC] at i2 hS
        rw [drop_of_get hk, List.map_cons, szF] at q4
        have w2 := wr ((k : Int) + 1) (by omega)
        (try simp only [hg, i1, i2, push_cast, simprocAttr])
        (refine at_call ?_; (try simp only [push_cast, simprocAttr]); refine rwc_v (hS) (go_on ?_); (try simp only [push_cast, simprocAttr]))
        by_cases hz : r - (x.c.p.length : Int) < 0
        · have e2 : sz1 r x.c.p.length = -1 := by unfold sz1; rw [if_pos hz]
          rw [e2]
          (try simp only [show ltI (-1) 0 = true from rfl, push_cast, simprocAttr])
          refine at_ret ?_; simp only [Tryz.results7, push_cast, simprocAttr]
          rw [if_pos hz] at q4
          simp [vX, q4]
        · have e2 : sz1 r x.c.p.length = r - x.c.p.length := by unfold sz1; rw [if_neg hz]
          have e3 : ltI (r - (x.c.p.length : Int)) 0 = false := ltI_f (by omega)
          rw [e2]
          (try simp only [e3, w2, push_cast, simprocAttr])
          rw [if_neg hz] at q4
          refine at_fin ⟨(k + 1, r - x.c.p.length), ⟨by dsimp only; omega, by dsimp only; omega, by dsimp only; omega, q4⟩, by dsimp only; omega, ?_⟩
          (refine wk_ok ?_ ?_ ?_ ?_ <;> simp [leL, leH, idsL, idsA, idsR, inH, hget, sameRow, upA, hvA, dsts, dstO, setA_0, setA_1, setA_8, List.append, List.cons_append, List.nil_append])
      · have h3 := lt_ff hg
        rw [List.drop_of_length_le h3] at q4
        (try simp only [hg, push_cast, simprocAttr])
        refine at_ret ?_; simp only [Tryz.results7, push_cast, simprocAttr]
        simp [vX, q4, szF]
theorem toEventS_pc (l : List Ev) (hl : l.length ≤ 1048576) : PC Tryz.prog 10 [.sl 6 (l.map evC)] (rX (.o 0 l.length) [rowEv l]) := by
  refine pc_enter Tryz.func10 rfl rfl fun w0 fb => go_on ?_; (try simp only [Tryz.ntmps10, push_cast, simprocAttr])
  refine at_chk ⟨by omega, by omega⟩ ?_
  refine at_loop (X := Nat) (fun k => [(4, iA k)]) (fun k => [(2, rowEv []), (7, ⟨70, 6, (l.take k).map evC ++ List.replicate (l.length - k) [iA 0, AV.v (Value.string ⟨#[]⟩), iA 0, iA 0, iA 0, iA 0], true⟩)]) (fun k => k ≤ l.length) (fun k => l.length - k) 0 (Nat.zero_le _) ?_ ?_
  · (refine wk_ok ?_ ?_ ?_ ?_ <;> simp [leL, leH, idsL, idsA, idsR, inH, hget, sameRow, upA, hvA, dsts, dstO, setA_0, setA_1, setA_8, List.append, List.cons_append, List.nil_append])
  · intro k h1
    simp only [upA, hvA, dsts, dstO, setA_0, setA_1, setA_8, List.append, List.cons_append, List.nil_append]
    refine go_on ?_
    (try simp only [push_cast, simprocAttr])
    refine at_b (fun hg => ?_) (fun hg => ?_)
    · have hlt := lt_tt hg
      obtain ⟨x, hk⟩ := get_of_lt hlt
      have i1 := ix_n hk
      have i2 := map_get evC hk
      have hT := toEvent_pc x
      simp only [evC] at i2 hT
      have w2 := wr ((k : Int) + 1) (by omega)
      obtain ⟨es, hes⟩ : ∃ es, es = (l.take k).map evC ++ List.replicate (l.length - k) [iA 0, AV.v (Value.string ⟨#[]⟩), iA 0, iA 0, iA 0, iA 0] := ⟨_, rfl⟩
      have hlen : ((l.take k).map evC).length = k := by rw [List.length_map, List.length_take]; omega
      have i3 : es[k]? = some [iA 0, AV.v (Value.string ⟨#[]⟩), iA 0, iA 0, iA 0, iA 0] := by rw [hes, List.getElem?_append_right (by omega), hlen, Nat.sub_self, List.getElem?_replicate, if_pos (by omega)]
      have hset : es.set k [iA x.k, sA x.c.p, iA x.c.a.k, iA x.c.a.v, iA x.c.b.k, iA x.c.b.v] = (l.take (k + 1)).map evC ++ List.replicate (l.length - (k + 1)) [iA 0, AV.v (Value.string ⟨#[]⟩), iA 0, iA 0, iA 0, iA 0] := by
        rw [hes, List.set_append_right _ _ (by omega), hlen, Nat.sub_self, List.take_add_one, hk, show l.length - k = (l.length - (k + 1)) + 1 by omega, List.replicate_succ, List.set_cons_zero]
        simp [evC]
      rw [← hes]
      (try simp only [hg, i1, i2, push_cast, simprocAttr])
      (refine at_call ?_; (try simp only [push_cast, simprocAttr]); refine rwc_d (hT) (by simp [flatV, flatL, ctC, ndC, cmC]) (by simp [ren, ctC, ndC, cmC]) (go_on ?_); (try simp only [push_cast, simprocAttr]))
      (try simp only [i1, i3, List.length_replicate, w2, push_cast, simprocAttr])
      refine at_fin ⟨k + 1, by omega, by omega, ?_⟩
      rw [hset]
      (refine wk_ok ?_ ?_ ?_ ?_ <;> simp [leL, leH, idsL, idsA, idsR, inH, hget, sameRow, upA, hvA, dsts, dstO, setA_0, setA_1, setA_8, List.append, List.cons_append, List.nil_append])
    · have h3 := lt_ff hg
      have hk : k = l.length := by omega
      subst hk
      (try simp only [hg, push_cast, simprocAttr])
      refine at_ret ?_; simp only [Tryz.results10, push_cast, simprocAttr]
      simp [rX, ixOf]
theorem eqEventS_pc (a b : List Ev) (hl : a.length < 4294967281) : PC Tryz.prog 14 [.sl 6 (a.map evC), .sl 6 (b.map evC)] (vB (decide (a = b))) := by
  refine pc_enter Tryz.func14 rfl rfl fun w0 fb => go_on ?_; (try simp only [Tryz.ntmps14, push_cast, simprocAttr])
  refine at_b (fun hb => ?_) (fun hb => ?_)
  · have h1 := of_eqI_f (not_t hb)
    have h2 : a ≠ b := by rintro rfl; exact h1 rfl
    (try simp only [hb, push_cast, simprocAttr])
    refine at_ret ?_; simp only [Tryz.results14, push_cast, simprocAttr]
    simp [vX, h2]
  · have h1 : a.length = b.length := by have := of_eqI_t (not_f hb); omega
    (try simp only [hb, push_cast, simprocAttr])
    refine at_loop (X := Nat) (fun k => [(5, iA k)]) (fun _ => []) (fun k => k ≤ a.length ∧ decide (a = b) = decide (a.drop k = b.drop k)) (fun k => a.length - k) 0 ⟨Nat.zero_le _, rfl⟩ ?_ ?_
    · (refine wk_ok ?_ ?_ ?_ ?_ <;> simp [leL, leH, idsL, idsA, idsR, inH, hget, sameRow, upA, hvA, dsts, dstO, setA_0, setA_1, setA_8, List.append, List.cons_append, List.nil_append])
    · rintro k ⟨q1, q2⟩
      simp only [upA, hvA, dsts, dstO, setA_0, setA_1, setA_8, List.append, List.cons_append, List.nil_append]
      refine go_on ?_
      (try simp only [push_cast, simprocAttr])
      refine at_b (fun hg => ?_) (fun hg => ?_)
      · have hlt := lt_tt hg
        obtain ⟨x, hx⟩ := get_of_lt hlt
        obtain ⟨y, hy⟩ := get_of_lt (l := b) (k := k) (by omega)
        have i1 := ix_n hx
        have i3 := ix_n hy
        have i2 := map_get evC hx
        have i4 := map_get evC hy
        have hE := eqEvent_pc x y
        simp only [evC] at i2 i4 hE
        rw [drop_of_get hx, drop_of_get hy] at q2
        have w2 := wr ((k : Int) + 1) (by omega)
        (try simp only [hg, push_cast, simprocAttr])
        refine at_draw rfl (by kernel_rfl) ?_
        (try simp only [i1, i2, i3, i4, push_cast, simprocAttr])
        repeat' first | (refine at_bWn (fun hb => ?_) (fun hb => ?_) <;> simp only [i1, i2, i3, i4, hb, push_cast, simprocAttr]) | (refine at_bW (fun hb => ?_) (fun hb => ?_) <;> simp only [i1, i2, i3, i4, hb, push_cast, simprocAttr]) | (refine at_callD (by simp [clB, idsL, idsA, hget]) ?_; (try simp only [push_cast, simprocAttr]); first | (refine rcd_v (hE) ?_; simp only [i1, i2, i3, i4, push_cast, simprocAttr]) | (refine rcd_d (hE) (by simp [flatV, flatL, ctC, ndC, cmC]) (by simp [ren, ctC, ndC, cmC]) ?_; simp only [i1, i2, i3, i4, push_cast, simprocAttr])) | (refine at_done (by kernel_rfl) (by kernel_rfl) (go_on ?_); (try simp only [i1, i2, i3, i4, push_cast, simprocAttr]))
        refine at_b (fun hn => ?_) (fun hn => ?_)
        · (try simp only [hn, push_cast, simprocAttr])
          refine at_ret ?_; simp only [Tryz.results14, push_cast, simprocAttr]
          have := not_t hn
          simp only [decide_eq_false_iff_not] at this
          simp [vX, q2, this]
        · have hn' := not_f hn
          simp only [decide_eq_true_eq] at hn'
          (try simp only [hn, w2, push_cast, simprocAttr])
          refine at_fin ⟨k + 1, ⟨by omega, ?_⟩, by omega, ?_⟩
          · rw [q2]; simp [hn']
          · (refine wk_ok ?_ ?_ ?_ ?_ <;> simp [leL, leH, idsL, idsA, idsR, inH, hget, sameRow, upA, hvA, dsts, dstO, setA_0, setA_1, setA_8, List.append, List.cons_append, List.nil_append])
      · have h3 := lt_ff hg
        rw [List.drop_of_length_le h3, List.drop_of_length_le (by omega)] at q2
        (try simp only [hg, push_cast, simprocAttr])
        refine at_ret ?_; simp only [Tryz.results14, push_cast, simprocAttr]
        simp [vX, q2]
theorem markEventS_pcl (l : List Ev) (k : Nat) (h0 : 0 < k) (hk : k + 6 * l.length ≤ 4611686018427387904) : PCL Tryz.prog 16 [rowEv l] (mvF none) [.o 0 l.length, iA k] (markD (k + 6 * l.length) (rowEv (mkEv k l))) := by
  refine pcl_enter Tryz.func16 rfl rfl (by simp) fun w0 fb loc => go_on ?_; simp only [Tryz.ntmps16, hpL, nmL, mvF, renL, decide_true, decide_false, push_cast, simprocAttr]
  refine at_loop (X := Nat) (fun i => [(1, iA ((k + 6 * i : Nat) : Int)), (5, iA i)]) (fun i => [(500000, rowEv (upEv k l i))]) (fun i => i ≤ l.length) (fun i => l.length - i) 0 (Nat.zero_le _) ?_ ?_
  · (refine wk_frz ?_ ?_ ?_ ?_ <;> simp [rowEv, upEv, leF, leHF, frzB, idsL, idsA, idsR, inH, hget, sameRow, viewN, tk, upA, hvA, dsts, dstO, setA_0, setA_1, setA_8, List.append, List.cons_append, List.nil_append])
  · rintro i hi
    simp only [upA, hvA, dsts, dstO, setA_0, setA_1, setA_8, List.append, List.cons_append, List.nil_append]
    refine go_on ?_
    (try simp only [push_cast, simprocAttr])
    by_cases hlt : i < l.length
    · have i0 : ltI (i : Int) l.length = true := ltI_t (by omega)
      have hlen := upEv_len k l i hi
      have hm := markText_pc (k + 6 * i + 1) (by omega) (by omega)
      obtain ⟨x, hx⟩ := get_of_lt hlt
      have hux : (upEv k l i)[i]? = some x := by unfold upEv; rw [up_get (by rw [mkEv_len]; exact hi)]; exact hx
      have i1 := ix_n hx
      have i2 := map_get evC hux
      have i3 : ∀ e, ((List.map evC (upEv k l i)).set i e)[i]? = some e := fun e => by rw [List.getElem?_set_self (by rw [List.length_map]; omega)]
      have hs : (List.map evC (upEv k l i)).set i [iA ((k + 6 * i : Nat) : Int), sA (mkT (k + 6 * i + 1)), iA ((k + 6 * i : Nat) + 1 + 1), iA ((k + 6 * i : Nat) + 1 + 1 + 1), iA ((k + 6 * i : Nat) + 1 + 1 + 1 + 1), iA ((k + 6 * i : Nat) + 1 + 1 + 1 + 1 + 1)] = List.map evC (upEv k l (i + 1)) := by
        unfold upEv
        rw [← up_set (mkEv_get l k i hlt) hlt, List.map_set]
        rfl
      have w1 : IntKind.i64.wrap ((k : Int) + 6 * (i : Int) + 1) = (k : Int) + 6 * (i : Int) + 1 := wr _ (by omega)
      have w2 : IntKind.i64.wrap ((k : Int) + 6 * (i : Int) + 1 + 1) = (k : Int) + 6 * (i : Int) + 1 + 1 := wr _ (by omega)
      have w3 : IntKind.i64.wrap ((k : Int) + 6 * (i : Int) + 1 + 1 + 1) = (k : Int) + 6 * (i : Int) + 1 + 1 + 1 := wr _ (by omega)
      have w6 : IntKind.i64.wrap ((k : Int) + 6 * (i : Int) + 1 + 1 + 1 + 1) = (k : Int) + 6 * (i : Int) + 1 + 1 + 1 + 1 := wr _ (by omega)
      have w7 : IntKind.i64.wrap ((k : Int) + 6 * (i : Int) + 1 + 1 + 1 + 1 + 1) = (k : Int) + 6 * (i : Int) + 1 + 1 + 1 + 1 + 1 := wr _ (by omega)
      have w8 : IntKind.i64.wrap ((k : Int) + 6 * (i : Int) + 1 + 1 + 1 + 1 + 1 + 1) = (k : Int) + 6 * (i : Int) + 1 + 1 + 1 + 1 + 1 + 1 := wr _ (by omega)
      have w4 : IntKind.i64.wrap ((i : Int) + 1) = (i : Int) + 1 := wr _ (by omega)
      push_cast at hs
      push_cast at hm
      simp only [evC] at i2
      (try simp only [i0, i1, i2, i3, w1, push_cast, simprocAttr])
      (refine at_call ?_; (try simp only [push_cast, simprocAttr]); refine rwc_v (hm) (go_on ?_); (try simp only [push_cast, simprocAttr]))
      (try simp only [i1, i2, i3, w1, w2, w3, w4, w6, w7, w8, List.set_set, hs, push_cast, simprocAttr])
      have e5 : (k : Int) + 6 * ((i + 1 : Nat) : Int) = (k : Int) + 6 * (i : Int) + 1 + 1 + 1 + 1 + 1 + 1 := by omega
      refine at_fin ⟨i + 1, by omega, by omega, ?_⟩
      simp only [e5]
      (refine wk_frz ?_ ?_ ?_ ?_ <;> simp [rowEv, leF, leHF, frzB, idsL, idsA, idsR, inH, hget, sameRow, viewN, tk, upA, hvA, dsts, dstO, setA_0, setA_1, setA_8, List.append, List.cons_append, List.nil_append])
    · have i0 : ltI (i : Int) l.length = false := ltI_f (by omega)
      obtain rfl : i = l.length := by omega
      have e : upEv k l l.length = mkEv k l := by unfold upEv; rw [List.drop_length, List.append_nil, List.take_of_length_le (by rw [mkEv_len]; exact Nat.le_refl _)]
      have hfin : markD (k + 6 * l.length) (rowEv (mkEv k l)) (iA ((k + 6 * l.length : Nat) : Int)) [rowEv (mkEv k l)] [] := ⟨rfl, rfl, rfl⟩
      (try simp only [i0, e, push_cast, simprocAttr])
      (refine at_retL ?_; simp only [Tryz.results16, retL, push_cast, simprocAttr]; simpa [show List.range 1 = [0] from rfl, show List.range 2 = [0, 1] from rfl, show List.range 3 = [0, 1, 2] from rfl, nmL, mvF, ndB, ixOf, rowsOf, hget, rowS, rowN, rowC] using  hfin)
end Go.Proofs.YthifgndjpjaddaaGreatDoor
/-
  Walks: the draws of rounds (DrawRoundPlay, DrawRoundApart).
-/
namespace Go.Proofs.YthifgndjpjaddaaGreatDoor
open Go Go.RowKit Go.Proofs
attribute [local irreducible] RWp AW run kPe pe Kt effA gd gu br retR RDp runD kPeD brW gW effD
set_option maxRecDepth 100000
end Go.Proofs.YthifgndjpjaddaaGreatDoor
/-
  Walks: rounds: own rows read as data at a call; what rounds leave is small.
-/
namespace Go.Proofs.YthifgndjpjaddaaGreatDoor
open Go Go.RowKit Go.Proofs
theorem rPlay_sm (t : List Nd) (l : List Ev) : SmS (rPlay t l).1 ∧ SmS (rPlay t l).2.1 := by
  cases hv : rdV t l with
  | false => rw [rPlay_f hv]; exact ⟨st0_sm, st0_sm⟩
  | true =>
    have h : 0 ≤ (rPlay t l).2.2 := by
      have := rPlay_neg t l
      rw [hv] at this
      have := mt this.1 (by simp)
      omega
    obtain ⟨h1, h2, _⟩ := law_round h
    exact ⟨siteV_sm h1, siteV_sm h2⟩
theorem rDone_len (t : List Nd) (l : List Ev) : (rDone t l).length ≤ l.length := by
  unfold rDone
  split
  · exact play_len l 0 _ _
  · simp
end Go.Proofs.YthifgndjpjaddaaGreatDoor
/-
  Walks: own rows read as data at a call; what points into them is forgotten.
-/
namespace Go.Proofs.YthifgndjpjaddaaGreatDoor
open Go Go.RowKit Go.Proofs
end Go.Proofs.YthifgndjpjaddaaGreatDoor
/-
  Walks: impl.TreeChanged, impl.CanonDiff.
-/
namespace Go.Proofs.YthifgndjpjaddaaGreatDoor
open Go Go.RowKit Go.Proofs
def fltP (a b : List Nd) (l : List Str) : List Str := l.filter fun p => decide (getC a p ≠ getC b p)
theorem chg_eq {a b : List Nd} (ha : tV a = true) (hb : tV b = true) : chg a b = fltP a b (mrg a b) := by unfold chg fltP; rw [if_pos (by simp [ha, hb])]
theorem chg_no {a b : List Nd} (h : (tV a && tV b) = false) : chg a b = [] := by unfold chg; rw [if_neg (by simp [h])]
theorem fltP_y {a b : List Nd} {p : Str} (l : List Str) (h : getC a p ≠ getC b p) : fltP a b (p :: l) = p :: fltP a b l := by unfold fltP; rw [List.filter_cons, if_pos (by simpa using h)]
theorem fltP_n {a b : List Nd} {p : Str} (l : List Str) (h : getC a p = getC b p) : fltP a b (p :: l) = fltP a b l := by unfold fltP; rw [List.filter_cons, if_neg (by simpa using h)]
theorem mrg_lt {x y : Nd} {a b : List Nd} (h : slt x.p y.p = true) : mrg (x :: a) (y :: b) = x.p :: mrg a (y :: b) := by rw [mrg, if_pos h]
theorem mrg_gt {x y : Nd} {a b : List Nd} (h1 : slt x.p y.p = false) (h : slt y.p x.p = true) : mrg (x :: a) (y :: b) = y.p :: mrg (x :: a) b := by rw [mrg, if_neg (by simp [h1]), if_pos h]
theorem mrg_same {x y : Nd} {a b : List Nd} (h1 : slt x.p y.p = false) (h : slt y.p x.p = false) : mrg (x :: a) (y :: b) = x.p :: mrg a b := by rw [mrg, if_neg (by simp [h1]), if_neg (by simp [h])]
theorem mrg_l (x : Nd) (a : List Nd) : mrg (x :: a) [] = x.p :: mrg a [] := by cases a <;> simp [mrg]
theorem mrg_r (y : Nd) (b : List Nd) : mrg [] (y :: b) = y.p :: mrg [] b := by simp [mrg]
def mksC (ms : List Nat) : List Oper → Nat → Bool
  | [], i => decide (ms.length = i)
  | o :: l, i => (match ms[i]? with
    | some m => m == mk1 (ms.take i) o.after.toList
    | none => false) && mksC ms l (i + 1)
theorem mksC_ok (ms : List Nat) : ∀ (l : List Oper) (i : Nat), mksC ms l i = true → mks l (ms.take i) = ms
  | [], i, h => by
    simp only [mksC, decide_eq_true_eq] at h
    simp [mks, ← h]
  | o :: l, i, h => by
    simp only [mksC, Bool.and_eq_true] at h
    obtain ⟨h1, h2⟩ := h
    split at h1
    · rename_i m hm
      have e : m = mk1 (ms.take i) o.after.toList := by simpa using h1
      have := mksC_ok ms l (i + 1) h2
      rw [List.take_add_one, hm] at this
      simp only [mks, ← e]
      exact this
    · cases h1
/-- The end of a long drawn region whose operations write nothing: its masks told. -/
theorem at_done_q {P : Program} {w0 : World} {lent : Lent} {Q : Exit → Act → World → Prop} {ops : List Oper} {k : List It} {s s' : AS} {evs : List E} (ms : List Nat) (h0 : mksC ms ops 0 = true) (h1 : evs.all plB = true)
    (h2 : prP (evs.map fun e => (e.d, e.rd)) ms (evs.map fun e => (e.d, e.rd)) 0 = true) (h : AW P w0 lent Q k s') : RDp P (KD P w0 lent Q ops k s) (.done evs s') :=
  at_done_p h1 (by have := mksC_ok ms ops 0 h0; rw [List.take_zero] at this; rw [this]; exact h2) h
attribute [local irreducible] RWp AW run kPe pe Kt effA gd gu br retR RDp runD kPeD brW gW effD
set_option maxRecDepth 100000
set_option maxHeartbeats 4000000
theorem TreeChanged_pc (a b : List Nd) (ha : SmT a) (hb : SmT b) : PC Tryz.prog 42 [ndA a, ndA b] (rX (.o 0 (chg a b).length) [rowS (chg a b)]) := by
  refine pc_enter Tryz.func42 rfl rfl fun w0 fb => go_on ?_; (try simp only [Tryz.ntmps42, push_cast, simprocAttr])
  refine at_call ?_
  (try simp only [push_cast, simprocAttr])
  refine rwc_v (TreeValid_pc a ha) ?_
  (try simp only [push_cast, simprocAttr])
  (refine at_dropS [4] (by refine wk_ok ?_ ?_ ?_ ?_ <;> simp [dropS, dropT, hasN, delL, hdel, leL, leH, idsL, idsA, idsR, inH, hget, sameRow]) ?_; simp only [dropS, dropT, hasN, delL, hdel, idsA, idsL, hget, List.map_cons, List.map_nil, List.all_cons, List.all_nil, List.append_nil, Bool.not_false, Bool.not_true, Bool.and_true, if_true, if_false, simprocAttr])
  refine go_on ?_
  (try simp only [push_cast, simprocAttr])
  cases hva : tV a with
  | false =>
    have e := chg_no (a := a) (b := b) (by simp [hva])
    (try simp only [hva, Bool.not_false, push_cast, simprocAttr])
    refine at_ret ?_; simp only [Tryz.results42, push_cast, simprocAttr]
    simp [rX, e, ixOf, rowS]
  | true =>
  (try simp only [hva, Bool.not_true, push_cast, simprocAttr])
  (refine at_call ?_; (try simp only [push_cast, simprocAttr]); refine rwc_v (TreeValid_pc b hb) (go_on ?_); (try simp only [push_cast, simprocAttr]))
  cases hvb : tV b with
  | false =>
    have e := chg_no (a := a) (b := b) (by simp [hvb])
    (try simp only [hvb, Bool.not_false, push_cast, simprocAttr])
    refine at_ret ?_; simp only [Tryz.results42, push_cast, simprocAttr]
    simp [rX, e, ixOf, rowS]
  | true =>
  have hla := ((tV_iff a).1 hva).le
  have hlb := ((tV_iff b).1 hvb).le
  have hE := chg_eq hva hvb
  (try simp only [hvb, Bool.not_true, push_cast, simprocAttr])
  refine at_loop (X := Nat × Nat × List Str) (fun x => [(5, .o 5 x.2.2.length), (6, iA x.1), (7, iA x.2.1)]) (fun x => [(5, rowS x.2.2)])
    (fun x => x.1 ≤ a.length ∧ x.2.1 ≤ b.length ∧ x.2.2.length ≤ x.1 + x.2.1 ∧ chg a b = x.2.2 ++ fltP a b (mrg (a.drop x.1) (b.drop x.2.1))) (fun x => a.length + b.length - (x.1 + x.2.1)) (0, 0, []) ⟨Nat.zero_le _, Nat.zero_le _, by simp, hE⟩ ?_ ?_
  · (refine wk_ok ?_ ?_ ?_ ?_ <;> simp [rowS, leL, leH, idsL, idsA, idsR, inH, hget, sameRow, upA, hvA, dsts, dstO, setA_0, setA_1, setA_8, List.append, List.cons_append, List.nil_append])
  · rintro ⟨i, k, o⟩ ⟨q1, q2, q3, q4⟩
    simp only at q1 q2 q3 q4
    simp only [upA, hvA, dsts, dstO, setA_0, setA_1, setA_8, List.append, List.cons_append, List.nil_append]
    refine go_on ?_
    (try simp only [push_cast, simprocAttr])
    have w1 : IntKind.i64.wrap ((i : Int) + 1) = (i : Int) + 1 := wr _ (by omega)
    have w2 : IntKind.i64.wrap ((k : Int) + 1) = (k : Int) + 1 := wr _ (by omega)
    by_cases hi : i < a.length
    · obtain ⟨x, hx⟩ := get_of_lt hi
      have i0 : ltI (i : Int) a.length = true := ltI_t (by omega)
      have i3 : eqI (i : Int) a.length = false := eqI_f (by omega)
      have i1 := ix_n hx
      have i2 := map_get ndC hx
      simp only [ndC] at i2
      have hda := drop_of_get hx
      by_cases hk : k < b.length
      · obtain ⟨y, hy⟩ := get_of_lt hk
        have k0 : ltI (k : Int) b.length = true := ltI_t (by omega)
        have k3 : eqI (k : Int) b.length = false := eqI_f (by omega)
        have k1 := ix_n hy
        have k2 := map_get ndC hy
        simp only [ndC] at k2
        have hdb := drop_of_get hy
        (try simp only [i0, push_cast, simprocAttr])
        cases h1 : slt x.p y.p with
        | true =>
          refine at_draw rfl (by kernel_rfl) ?_
          (try simp only [push_cast, simprocAttr])
          (try simp only [k3, push_cast, simprocAttr])
          (try simp only [i0, push_cast, simprocAttr])
          (try simp only [i1, i2, push_cast, simprocAttr])
          (try simp only [k1, k2, push_cast, simprocAttr])
          (try simp only [i1, i2, push_cast, simprocAttr])
          (try simp only [h1, push_cast, simprocAttr])
          refine at_done_q [0, 0, 2, 7, 15, 31, 31, 95, 255, 511, 1023, 1023, 4095, 8191, 16383, 1023, 1023, 99327, 230399, 492543, 1048575, 2097151, 4194303, 8388607] (by kernel_rfl) (by kernel_rfl) (by simp only [List.map_cons, List.map_nil]; kernel_rfl) (go_on ?_)
          as_aux_lemma =>
            (try simp only [i0, k0, i1, i2, w1, h1, push_cast, simprocAttr])
            (refine at_call ?_; (try simp only [push_cast, simprocAttr]); refine rwc_d (get_pc a (by omega) x.p) (by simp [flatV, flatL, ctC, ndC, cmC]) (by simp [ren, ctC, ndC, cmC]) (go_on ?_); (try simp only [push_cast, simprocAttr]))
            (refine at_call ?_; (try simp only [push_cast, simprocAttr]); refine rwc_d (get_pc b (by omega) x.p) (by simp [flatV, flatL, ctC, ndC, cmC]) (by simp [ren, ctC, ndC, cmC]) (go_on ?_); (try simp only [push_cast, simprocAttr]))
            have e : (eqI (getC a x.p).k (getC b x.p).k && eqI (getC a x.p).v (getC b x.p).v) = decide (getC a x.p = getC b x.p) := ct_eq _ _
            (try simp only [ctg, cth, e, push_cast, simprocAttr])
            refine at_b (fun hn => ?_) (fun hn => ?_)
            · have hne : getC a x.p ≠ getC b x.p := by simpa using hn
              have happ : o.map sC ++ [[sA x.p]] = (o ++ [x.p]).map sC := by rw [List.map_append]; rfl
              (try simp only [hn, rowS, push_cast, simprocAttr])
              refine at_chk (by omega) ?_
              (try simp only [happ, rowS, push_cast, simprocAttr])
              refine at_fin ⟨(i + 1, k, o ++ [x.p]), ⟨by dsimp only; omega, by dsimp only; omega, by simp; omega, ?_⟩, by dsimp only; omega, ?_⟩
              · dsimp only
                rw [q4, hda, hdb, mrg_lt h1, ← hdb, fltP_y _ hne]
                simp
              · (refine wk_ok ?_ ?_ ?_ ?_ <;> simp [rowS, sC, leL, leH, idsL, idsA, idsR, inH, hget, sameRow, upA, hvA, dsts, dstO, setA_0, setA_1, setA_8, List.append, List.cons_append, List.nil_append])
            · have hne : getC a x.p = getC b x.p := by simpa using hn
              (try simp only [hn, push_cast, simprocAttr])
              refine at_fin ⟨(i + 1, k, o), ⟨by dsimp only; omega, by dsimp only; omega, by dsimp only; omega, ?_⟩, by dsimp only; omega, ?_⟩
              · dsimp only
                rw [q4, hda, hdb, mrg_lt h1, ← hdb, fltP_n _ hne]
              · (refine wk_ok ?_ ?_ ?_ ?_ <;> simp [rowS, leL, leH, idsL, idsA, idsR, inH, hget, sameRow, upA, hvA, dsts, dstO, setA_0, setA_1, setA_8, List.append, List.cons_append, List.nil_append])
        | false =>
          refine at_draw rfl (by kernel_rfl) ?_
          (try simp only [push_cast, simprocAttr])
          (try simp only [k3, push_cast, simprocAttr])
          (try simp only [i0, push_cast, simprocAttr])
          (try simp only [i1, i2, push_cast, simprocAttr])
          (try simp only [k1, k2, push_cast, simprocAttr])
          (try simp only [i1, i2, push_cast, simprocAttr])
          (try simp only [h1, push_cast, simprocAttr])
          refine at_done_q [0, 0, 2, 7, 15, 31, 31, 95, 255, 511, 1023, 1023, 4095, 8191, 16383, 1023, 1023, 99327, 230399, 492543, 1048575, 2097151, 4194303, 8388607] (by kernel_rfl) (by kernel_rfl) (by simp only [List.map_cons, List.map_nil]; kernel_rfl) (go_on ?_)
          as_aux_lemma =>
            (try simp only [h1, push_cast, simprocAttr])
            cases h2 : slt y.p x.p with
            | true =>
              refine at_draw rfl (by kernel_rfl) ?_
              (try simp only [push_cast, simprocAttr])
              (try simp only [i3, push_cast, simprocAttr])
              (try simp only [i1, i2, push_cast, simprocAttr])
              (try simp only [k1, k2, push_cast, simprocAttr])
              (try simp only [i1, i2, push_cast, simprocAttr])
              (try simp only [h2, push_cast, simprocAttr])
              refine at_done_q [0, 0, 2, 7, 15, 31, 31, 127, 255, 511, 31, 31, 3103, 7199, 15391, 32767, 65535, 131071] (by kernel_rfl) (by kernel_rfl) (by simp only [List.map_cons, List.map_nil]; kernel_rfl) (go_on ?_)
              as_aux_lemma =>
                (try simp only [k1, k2, w2, h2, push_cast, simprocAttr])
                (refine at_call ?_; (try simp only [push_cast, simprocAttr]); refine rwc_d (get_pc a (by omega) y.p) (by simp [flatV, flatL, ctC, ndC, cmC]) (by simp [ren, ctC, ndC, cmC]) (go_on ?_); (try simp only [push_cast, simprocAttr]))
                (refine at_call ?_; (try simp only [push_cast, simprocAttr]); refine rwc_d (get_pc b (by omega) y.p) (by simp [flatV, flatL, ctC, ndC, cmC]) (by simp [ren, ctC, ndC, cmC]) (go_on ?_); (try simp only [push_cast, simprocAttr]))
                have e : (eqI (getC a y.p).k (getC b y.p).k && eqI (getC a y.p).v (getC b y.p).v) = decide (getC a y.p = getC b y.p) := ct_eq _ _
                (try simp only [ctg, cth, e, push_cast, simprocAttr])
                refine at_b (fun hn => ?_) (fun hn => ?_)
                · have hne : getC a y.p ≠ getC b y.p := by simpa using hn
                  have happ : o.map sC ++ [[sA y.p]] = (o ++ [y.p]).map sC := by rw [List.map_append]; rfl
                  (try simp only [hn, rowS, push_cast, simprocAttr])
                  refine at_chk (by omega) ?_
                  (try simp only [happ, rowS, push_cast, simprocAttr])
                  refine at_fin ⟨(i, k + 1, o ++ [y.p]), ⟨by dsimp only; omega, by dsimp only; omega, by simp; omega, ?_⟩, by dsimp only; omega, ?_⟩
                  · dsimp only
                    rw [q4, hda, hdb, mrg_gt h1 h2, ← hda, fltP_y _ hne]
                    simp
                  · (refine wk_ok ?_ ?_ ?_ ?_ <;> simp [rowS, sC, leL, leH, idsL, idsA, idsR, inH, hget, sameRow, upA, hvA, dsts, dstO, setA_0, setA_1, setA_8, List.append, List.cons_append, List.nil_append])
                · have hne : getC a y.p = getC b y.p := by simpa using hn
                  (try simp only [hn, push_cast, simprocAttr])
                  refine at_fin ⟨(i, k + 1, o), ⟨by dsimp only; omega, by dsimp only; omega, by dsimp only; omega, ?_⟩, by dsimp only; omega, ?_⟩
                  · dsimp only
                    rw [q4, hda, hdb, mrg_gt h1 h2, ← hda, fltP_n _ hne]
                  · (refine wk_ok ?_ ?_ ?_ ?_ <;> simp [rowS, leL, leH, idsL, idsA, idsR, inH, hget, sameRow, upA, hvA, dsts, dstO, setA_0, setA_1, setA_8, List.append, List.cons_append, List.nil_append])
            | false =>
              refine at_draw rfl (by kernel_rfl) ?_
              (try simp only [push_cast, simprocAttr])
              (try simp only [i3, push_cast, simprocAttr])
              (try simp only [i1, i2, push_cast, simprocAttr])
              (try simp only [k1, k2, push_cast, simprocAttr])
              (try simp only [i1, i2, push_cast, simprocAttr])
              (try simp only [h2, push_cast, simprocAttr])
              refine at_done_q [0, 0, 2, 7, 15, 31, 31, 127, 255, 511, 31, 31, 3103, 7199, 15391, 32767, 65535, 131071] (by kernel_rfl) (by kernel_rfl) (by simp only [List.map_cons, List.map_nil]; kernel_rfl) (go_on ?_)
              as_aux_lemma =>
                (try simp only [h2, push_cast, simprocAttr])
                (try simp only [i1, push_cast, simprocAttr])
                simp -implicitDefEqProofs only [i2, push_cast, simprocAttr]
                (try simp only [w1, w2, push_cast, simprocAttr])
                (refine at_call ?_; (try simp only [push_cast, simprocAttr]); refine rwc_d (get_pc a (by omega) x.p) (by simp [flatV, flatL, ctC, ndC, cmC]) (by simp [ren, ctC, ndC, cmC]) (go_on ?_); (try simp only [push_cast, simprocAttr]))
                (refine at_call ?_; (try simp only [push_cast, simprocAttr]); refine rwc_d (get_pc b (by omega) x.p) (by simp [flatV, flatL, ctC, ndC, cmC]) (by simp [ren, ctC, ndC, cmC]) (go_on ?_); (try simp only [push_cast, simprocAttr]))
                have e : (eqI (getC a x.p).k (getC b x.p).k && eqI (getC a x.p).v (getC b x.p).v) = decide (getC a x.p = getC b x.p) := ct_eq _ _
                (try simp only [ctg, cth, e, push_cast, simprocAttr])
                refine at_b (fun hn => ?_) (fun hn => ?_)
                · have hne : getC a x.p ≠ getC b x.p := by simpa using hn
                  have happ : o.map sC ++ [[sA x.p]] = (o ++ [x.p]).map sC := by rw [List.map_append]; rfl
                  (try simp only [hn, rowS, push_cast, simprocAttr])
                  refine at_chk (by omega) ?_
                  (try simp only [happ, rowS, push_cast, simprocAttr])
                  refine at_fin ⟨(i + 1, k + 1, o ++ [x.p]), ⟨by dsimp only; omega, by dsimp only; omega, by simp; omega, ?_⟩, by dsimp only; omega, ?_⟩
                  · dsimp only
                    rw [q4, hda, hdb, mrg_same h1 h2, fltP_y _ hne]
                    simp
                  · (refine wk_ok ?_ ?_ ?_ ?_ <;> simp [rowS, sC, leL, leH, idsL, idsA, idsR, inH, hget, sameRow, upA, hvA, dsts, dstO, setA_0, setA_1, setA_8, List.append, List.cons_append, List.nil_append])
                · have hne : getC a x.p = getC b x.p := by simpa using hn
                  (try simp only [hn, push_cast, simprocAttr])
                  refine at_fin ⟨(i + 1, k + 1, o), ⟨by dsimp only; omega, by dsimp only; omega, by dsimp only; omega, ?_⟩, by dsimp only; omega, ?_⟩
                  · dsimp only
                    rw [q4, hda, hdb, mrg_same h1 h2, fltP_n _ hne]
                  · (refine wk_ok ?_ ?_ ?_ ?_ <;> simp [rowS, leL, leH, idsL, idsA, idsR, inH, hget, sameRow, upA, hvA, dsts, dstO, setA_0, setA_1, setA_8, List.append, List.cons_append, List.nil_append])
      · have k3 : eqI (k : Int) b.length = true := eqI_t (by omega)
        have hdb : b.drop k = [] := List.drop_of_length_le (by omega)
        (try simp only [i0, push_cast, simprocAttr])
        refine at_draw rfl (by kernel_rfl) ?_
        (try simp only [push_cast, simprocAttr])
        (try simp only [k3, push_cast, simprocAttr])
        refine at_done_q [0, 0, 2, 7, 15, 31, 31, 95, 255, 511, 1023, 1023, 4095, 8191, 16383, 1023, 1023, 99327, 230399, 492543, 1048575, 2097151, 4194303, 8388607] (by kernel_rfl) (by kernel_rfl) (by simp only [List.map_cons, List.map_nil]; kernel_rfl) (go_on ?_)
        as_aux_lemma =>
          (try simp only [i1, i2, w1, push_cast, simprocAttr])
          (refine at_call ?_; (try simp only [push_cast, simprocAttr]); refine rwc_d (get_pc a (by omega) x.p) (by simp [flatV, flatL, ctC, ndC, cmC]) (by simp [ren, ctC, ndC, cmC]) (go_on ?_); (try simp only [push_cast, simprocAttr]))
          (refine at_call ?_; (try simp only [push_cast, simprocAttr]); refine rwc_d (get_pc b (by omega) x.p) (by simp [flatV, flatL, ctC, ndC, cmC]) (by simp [ren, ctC, ndC, cmC]) (go_on ?_); (try simp only [push_cast, simprocAttr]))
          have e : (eqI (getC a x.p).k (getC b x.p).k && eqI (getC a x.p).v (getC b x.p).v) = decide (getC a x.p = getC b x.p) := ct_eq _ _
          (try simp only [ctg, cth, e, push_cast, simprocAttr])
          refine at_b (fun hn => ?_) (fun hn => ?_)
          · have hne : getC a x.p ≠ getC b x.p := by simpa using hn
            have happ : o.map sC ++ [[sA x.p]] = (o ++ [x.p]).map sC := by rw [List.map_append]; rfl
            (try simp only [hn, rowS, push_cast, simprocAttr])
            refine at_chk (by omega) ?_
            (try simp only [happ, rowS, push_cast, simprocAttr])
            refine at_fin ⟨(i + 1, k, o ++ [x.p]), ⟨by dsimp only; omega, by dsimp only; omega, by simp; omega, ?_⟩, by dsimp only; omega, ?_⟩
            · dsimp only
              rw [q4, hda, hdb, mrg_l, fltP_y _ hne]
              simp
            · (refine wk_ok ?_ ?_ ?_ ?_ <;> simp [rowS, sC, leL, leH, idsL, idsA, idsR, inH, hget, sameRow, upA, hvA, dsts, dstO, setA_0, setA_1, setA_8, List.append, List.cons_append, List.nil_append])
          · have hne : getC a x.p = getC b x.p := by simpa using hn
            (try simp only [hn, push_cast, simprocAttr])
            refine at_fin ⟨(i + 1, k, o), ⟨by dsimp only; omega, by dsimp only; omega, by dsimp only; omega, ?_⟩, by dsimp only; omega, ?_⟩
            · dsimp only
              rw [q4, hda, hdb, mrg_l, fltP_n _ hne]
            · (refine wk_ok ?_ ?_ ?_ ?_ <;> simp [rowS, leL, leH, idsL, idsA, idsR, inH, hget, sameRow, upA, hvA, dsts, dstO, setA_0, setA_1, setA_8, List.append, List.cons_append, List.nil_append])
    · have i0 : ltI (i : Int) a.length = false := ltI_f (by omega)
      have i3 : eqI (i : Int) a.length = true := eqI_t (by omega)
      have hda : a.drop i = [] := List.drop_of_length_le (by omega)
      by_cases hk : k < b.length
      · obtain ⟨y, hy⟩ := get_of_lt hk
        have k0 : ltI (k : Int) b.length = true := ltI_t (by omega)
        have k3 : eqI (k : Int) b.length = false := eqI_f (by omega)
        have k1 := ix_n hy
        have k2 := map_get ndC hy
        simp only [ndC] at k2
        have hdb := drop_of_get hy
        (try simp only [i0, k0, push_cast, simprocAttr])
        refine at_draw rfl (by kernel_rfl) ?_
        (try simp only [push_cast, simprocAttr])
        (try simp only [k3, push_cast, simprocAttr])
        (try simp only [i0, push_cast, simprocAttr])
        refine at_done_q [0, 0, 2, 7, 15, 31, 31, 95, 255, 511, 1023, 1023, 4095, 8191, 16383, 1023, 1023, 99327, 230399, 492543, 1048575, 2097151, 4194303, 8388607] (by kernel_rfl) (by kernel_rfl) (by simp only [List.map_cons, List.map_nil]; kernel_rfl) (go_on ?_)
        as_aux_lemma =>
          (try simp only [push_cast, simprocAttr])
          refine at_draw rfl (by kernel_rfl) ?_
          (try simp only [push_cast, simprocAttr])
          (try simp only [i3, push_cast, simprocAttr])
          refine at_done_q [0, 0, 2, 7, 15, 31, 31, 127, 255, 511, 31, 31, 3103, 7199, 15391, 32767, 65535, 131071] (by kernel_rfl) (by kernel_rfl) (by simp only [List.map_cons, List.map_nil]; kernel_rfl) (go_on ?_)
          as_aux_lemma =>
            (try simp only [k1, k2, w2, push_cast, simprocAttr])
            (refine at_call ?_; (try simp only [push_cast, simprocAttr]); refine rwc_d (get_pc a (by omega) y.p) (by simp [flatV, flatL, ctC, ndC, cmC]) (by simp [ren, ctC, ndC, cmC]) (go_on ?_); (try simp only [push_cast, simprocAttr]))
            (refine at_call ?_; (try simp only [push_cast, simprocAttr]); refine rwc_d (get_pc b (by omega) y.p) (by simp [flatV, flatL, ctC, ndC, cmC]) (by simp [ren, ctC, ndC, cmC]) (go_on ?_); (try simp only [push_cast, simprocAttr]))
            have e : (eqI (getC a y.p).k (getC b y.p).k && eqI (getC a y.p).v (getC b y.p).v) = decide (getC a y.p = getC b y.p) := ct_eq _ _
            (try simp only [ctg, cth, e, push_cast, simprocAttr])
            refine at_b (fun hn => ?_) (fun hn => ?_)
            · have hne : getC a y.p ≠ getC b y.p := by simpa using hn
              have happ : o.map sC ++ [[sA y.p]] = (o ++ [y.p]).map sC := by rw [List.map_append]; rfl
              (try simp only [hn, rowS, push_cast, simprocAttr])
              refine at_chk (by omega) ?_
              (try simp only [happ, rowS, push_cast, simprocAttr])
              refine at_fin ⟨(i, k + 1, o ++ [y.p]), ⟨by dsimp only; omega, by dsimp only; omega, by simp; omega, ?_⟩, by dsimp only; omega, ?_⟩
              · dsimp only
                rw [q4, hda, hdb, mrg_r, fltP_y _ hne]
                simp
              · (refine wk_ok ?_ ?_ ?_ ?_ <;> simp [rowS, sC, leL, leH, idsL, idsA, idsR, inH, hget, sameRow, upA, hvA, dsts, dstO, setA_0, setA_1, setA_8, List.append, List.cons_append, List.nil_append])
            · have hne : getC a y.p = getC b y.p := by simpa using hn
              (try simp only [hn, push_cast, simprocAttr])
              refine at_fin ⟨(i, k + 1, o), ⟨by dsimp only; omega, by dsimp only; omega, by dsimp only; omega, ?_⟩, by dsimp only; omega, ?_⟩
              · dsimp only
                rw [q4, hda, hdb, mrg_r, fltP_n _ hne]
              · (refine wk_ok ?_ ?_ ?_ ?_ <;> simp [rowS, leL, leH, idsL, idsA, idsR, inH, hget, sameRow, upA, hvA, dsts, dstO, setA_0, setA_1, setA_8, List.append, List.cons_append, List.nil_append])
      · have k0 : ltI (k : Int) b.length = false := ltI_f (by omega)
        have hdb : b.drop k = [] := List.drop_of_length_le (by omega)
        have e : chg a b = o := by rw [q4, hda, hdb]; simp [mrg, fltP]
        (try simp only [i0, k0, push_cast, simprocAttr])
        refine at_ret ?_; simp only [Tryz.results42, push_cast, simprocAttr]
        simp [rX, e, ixOf, rowS]
end Go.Proofs.YthifgndjpjaddaaGreatDoor
/-
  Walks: impl.RoundApart, read as data.
-/
namespace Go.Proofs.YthifgndjpjaddaaGreatDoor
open Go Go.RowKit Go.Proofs
theorem rApart_t {t : List Nd} {l : List Ev} (h : rdV t l = true) : rApart t l = chg (siteT (pl t l).1) (siteT (pl t l).2.1) := by simp [rApart, h, pl]
theorem rApart_f {t : List Nd} {l : List Ev} (h : rdV t l = false) : rApart t l = [] := by simp [rApart, h]
theorem TreeChanged_d (a b : List Nd) (ha : SmT a) (hb : SmT b) : PC Tryz.prog 42 [ndA a, ndA b] (vX (.sl 1 ((chg a b).map sC))) := by
  have := (TreeChanged_pc a b ha hb).frzX
  simpa [viewN, hpOf, hget, isC, tk, rowS] using this
attribute [local irreducible] RWp AW run kPe pe Kt effA gd gu br retR RDp runD kPeD brW gW effD
set_option maxRecDepth 100000
theorem RoundApart_0 (t : List Nd) (ht : SmT2 t) (l : List Ev) (hl : SmE l) (h : rdV t l = false) : PC Tryz.prog 20 [ndA t, evsA l] (vX (.sl 1 [])) := by
  have hV := roundValid_pc t ht.s l hl
  rw [h] at hV
  refine PC.toF ?_
  refine pc_enter Tryz.func20 rfl rfl fun w0 fb => go_on ?_; (try simp only [Tryz.ntmps20, push_cast, simprocAttr])
  refine at_call ?_
  (try simp only [push_cast, simprocAttr])
  refine rwc_v hV ?_
  (try simp only [push_cast, simprocAttr])
  (refine at_dropS [4] (by refine wk_ok ?_ ?_ ?_ ?_ <;> simp [dropS, dropT, hasN, delL, hdel, leL, leH, idsL, idsA, idsR, inH, hget, sameRow]) ?_; simp only [dropS, dropT, hasN, delL, hdel, idsA, idsL, hget, List.map_cons, List.map_nil, List.all_cons, List.all_nil, List.append_nil, Bool.not_false, Bool.not_true, Bool.and_true, if_true, if_false, simprocAttr])
  refine go_on ?_
  (try simp only [Bool.not_false, push_cast, simprocAttr])
  refine at_ret ?_; simp only [Tryz.results20, push_cast, simprocAttr]
  simp [vF, viewN, isC, hpOf, hget, tk, ixOf]
theorem RoundApart_1 (t : List Nd) (ht : SmT2 t) (l : List Ev) (hl : SmE l) (h : rdV t l = true) : PC Tryz.prog 20 [ndA t, evsA l] (vX (.sl 1 ((rApart t l).map sC))) := by
  have hV := roundValid_pc t ht.s l hl
  have hP := play_d t ht l hl
  have hsm := rPlay_sm t l
  rw [rPlay_t h] at hsm
  have hA := SiteTree_d (pl t l).1 hsm.1
  have hB := SiteTree_d (pl t l).2.1 hsm.2
  have hC := TreeChanged_d (siteT (pl t l).1) (siteT (pl t l).2.1) (siteT_sm hsm.1).s (siteT_sm hsm.2).s
  rw [rApart_t h]
  rw [h] at hV
  unfold stA' stC at *
  refine pc_enter Tryz.func20 rfl rfl fun w0 fb => go_on ?_; (try simp only [Tryz.ntmps20, push_cast, simprocAttr])
  (refine at_call ?_; (try simp only [push_cast, simprocAttr]); refine rwc_v (hV) (go_on ?_); (try simp only [push_cast, simprocAttr]))
  (try simp only [Bool.not_true, push_cast, simprocAttr])
  ((try simp only [push_cast, simprocAttr]); refine at_share2 (by simp [isC2, isC]) (by first | rfl | simp [ren]) (hP) (go_on ?_); (try simp only [push_cast, simprocAttr]))
  refine at_draw rfl (by kernel_rfl) ?_; simp only [push_cast, simprocAttr]
  (refine at_shareD (by simp [isC2, isC]) (by first | rfl | simp [ren]) hA ?_; (try simp only [push_cast, simprocAttr]))
  (refine at_shareD (by simp [isC2, isC]) (by first | rfl | simp [ren]) hB ?_; (try simp only [push_cast, simprocAttr]))
  (refine at_shareD (by simp [isC2, isC]) (by first | rfl | simp [ren]) hC ?_; (try simp only [push_cast, simprocAttr]))
  refine at_done (by kernel_rfl) (by kernel_rfl) (go_on ?_)
  (try simp only [push_cast, simprocAttr])
  refine at_ret ?_; simp only [Tryz.results20, push_cast, simprocAttr]
  simp [vX]
theorem RoundApart_d (t : List Nd) (ht : SmT2 t) (l : List Ev) (hl : SmE l) : PC Tryz.prog 20 [ndA t, evsA l] (vX (.sl 1 ((rApart t l).map sC))) := by
  cases h : rdV t l with
  | false => rw [rApart_f h]; exact RoundApart_0 t ht l hl h
  | true => exact RoundApart_1 t ht l hl h
end Go.Proofs.YthifgndjpjaddaaGreatDoor
/-
  Walks: spec.TreeChanged, laws.sameTexts.
-/
namespace Go.Proofs.YthifgndjpjaddaaGreatDoor
open Go Go.RowKit Go.Proofs
attribute [local irreducible] RWp AW run kPe pe Kt effA gd gu br retR RDp runD kPeD brW gW effD
set_option maxRecDepth 100000
set_option maxHeartbeats 4000000 in
theorem l5Paths_pc (a b : List Nd) (ha : a.length < 4294967280) (hb : b.length < 4294967280) : PC Tryz.prog 63 [ndA a, ndA b] (rX (.o 0 (mrg a b).length) [rowS (mrg a b)]) := by
  refine pc_enter Tryz.func63 rfl rfl fun w0 fb => go_on ?_; (try simp only [Tryz.ntmps63, push_cast, simprocAttr])
  refine at_loop (X := Nat × Nat × List Str) (fun x => [(5, .o 8 x.2.2.length), (6, iA x.1), (7, iA x.2.1), (8, .any)]) (fun x => [(4, ⟨9, 1, [], true⟩), (8, ⟨9, 1, x.2.2.map sC, true⟩)])
    (fun x => x.1 ≤ a.length ∧ x.2.1 ≤ b.length ∧ x.2.2.length ≤ x.1 + x.2.1 ∧ mrg a b = x.2.2 ++ mrg (a.drop x.1) (b.drop x.2.1)) (fun x => a.length + b.length - (x.1 + x.2.1)) (0, 0, []) ⟨Nat.zero_le _, Nat.zero_le _, by simp, by simp⟩ ?_ ?_
  · (refine wk_ok ?_ ?_ ?_ ?_ <;> simp [leL, leH, idsL, idsA, idsR, inH, hget, sameRow, upA, hvA, dsts, dstO, setA_0, setA_1, setA_8, List.append, List.cons_append, List.nil_append])
  · rintro ⟨i, k, o⟩ ⟨q1, q2, q3, q4⟩
    simp only at q1 q2 q3 q4
    simp only [upA, hvA, dsts, dstO, setA_0, setA_1, setA_8, List.append, List.cons_append, List.nil_append]
    refine go_on ?_
    (try simp only [push_cast, simprocAttr])
    have w1 : IntKind.i64.wrap ((i : Int) + 1) = (i : Int) + 1 := wr _ (by omega)
    have w2 : IntKind.i64.wrap ((k : Int) + 1) = (k : Int) + 1 := wr _ (by omega)
    by_cases hi : i < a.length
    · obtain ⟨x, hx⟩ := get_of_lt hi
      have i0 : ltI (i : Int) a.length = true := ltI_t (by omega)
      have i3 : eqI (i : Int) a.length = false := eqI_f (by omega)
      have i1 := ix_n hx
      have i2 := map_get ndC hx
      simp only [ndC] at i2
      have hda := drop_of_get hx
      by_cases hk : k < b.length
      · obtain ⟨y, hy⟩ := get_of_lt hk
        have k0 : ltI (k : Int) b.length = true := ltI_t (by omega)
        have k3 : eqI (k : Int) b.length = false := eqI_f (by omega)
        have k1 := ix_n hy
        have k2 := map_get ndC hy
        simp only [ndC] at k2
        have hdb := drop_of_get hy
        (try simp only [i0, push_cast, simprocAttr])
        cases h1 : slt x.p y.p with
        | true =>
          refine at_draw rfl (by kernel_rfl) ?_
          (try simp only [push_cast, simprocAttr])
          (try simp only [k3, push_cast, simprocAttr])
          (try simp only [i0, push_cast, simprocAttr])
          (try simp only [i1, i2, push_cast, simprocAttr])
          (try simp only [k1, k2, push_cast, simprocAttr])
          (try simp only [h1, push_cast, simprocAttr])
          refine at_done_q [0, 0, 2, 7, 15, 31, 31, 95, 255, 511, 1023, 1023, 4095, 8191, 16383, 1023, 1023, 99327, 230399, 492543, 1048575, 2097151, 4194303, 8388607] (by kernel_rfl) (by kernel_rfl) (by simp only [List.map_cons, List.map_nil]; kernel_rfl) (go_on ?_)
          as_aux_lemma =>
            have happ : o.map sC ++ [[sA x.p]] = (o ++ [x.p]).map sC := by rw [List.map_append]; rfl
            (try simp only [i0, i1, i2, h1, push_cast, simprocAttr])
            refine at_chk (by omega) ?_
            as_aux_lemma =>
              (try simp only [happ, w1, w2, push_cast, simprocAttr])
              refine at_fin ⟨(i + 1, k, o ++ [x.p]), ⟨by dsimp only; omega, by dsimp only; omega, by simp; omega, by dsimp only; rw [q4]; rw [hda, hdb, mrg, if_pos h1]; simp⟩, by dsimp only; omega, ?_⟩
              simp only [List.length_append, List.length_cons, List.length_nil]
              (refine wk_ok ?_ ?_ ?_ ?_ <;> simp [rowS, leL, leH, idsL, idsA, idsR, inH, hget, sameRow, upA, hvA, dsts, dstO, setA_0, setA_1, setA_8, List.append, List.cons_append, List.nil_append])
        | false =>
          refine at_draw rfl (by kernel_rfl) ?_
          (try simp only [push_cast, simprocAttr])
          (try simp only [k3, push_cast, simprocAttr])
          (try simp only [i0, push_cast, simprocAttr])
          (try simp only [i1, i2, push_cast, simprocAttr])
          (try simp only [k1, k2, push_cast, simprocAttr])
          (try simp only [h1, push_cast, simprocAttr])
          refine at_done_q [0, 0, 2, 7, 15, 31, 31, 95, 255, 511, 1023, 1023, 4095, 8191, 16383, 1023, 1023, 99327, 230399, 492543, 1048575, 2097151, 4194303, 8388607] (by kernel_rfl) (by kernel_rfl) (by simp only [List.map_cons, List.map_nil]; kernel_rfl) (go_on ?_)
          as_aux_lemma =>
            (try simp only [h1, push_cast, simprocAttr])
            cases h2 : slt y.p x.p with
            | true =>
              refine at_draw rfl (by kernel_rfl) ?_
              (try simp only [push_cast, simprocAttr])
              (try simp only [i3, push_cast, simprocAttr])
              (try simp only [k1, k2, push_cast, simprocAttr])
              (try simp only [i1, i2, push_cast, simprocAttr])
              (try simp only [h2, push_cast, simprocAttr])
              refine at_done_q [0, 0, 2, 7, 15, 31, 31, 127, 255, 511, 31, 31, 3103, 7199, 15391, 32767, 65535, 131071] (by kernel_rfl) (by kernel_rfl) (by simp only [List.map_cons, List.map_nil]; kernel_rfl) (go_on ?_)
              as_aux_lemma =>
                have happ : o.map sC ++ [[sA y.p]] = (o ++ [y.p]).map sC := by rw [List.map_append]; rfl
                (try simp only [k1, k2, h2, push_cast, simprocAttr])
                refine at_chk (by omega) ?_
                as_aux_lemma =>
                  (try simp only [happ, w1, w2, push_cast, simprocAttr])
                  refine at_fin ⟨(i, k + 1, o ++ [y.p]), ⟨by dsimp only; omega, by dsimp only; omega, by simp; omega, by dsimp only; rw [q4]; rw [hda, hdb, mrg, if_neg (by simp [h1]), if_pos h2]; simp⟩, by dsimp only; omega, ?_⟩
                  simp only [List.length_append, List.length_cons, List.length_nil]
                  (refine wk_ok ?_ ?_ ?_ ?_ <;> simp [rowS, leL, leH, idsL, idsA, idsR, inH, hget, sameRow, upA, hvA, dsts, dstO, setA_0, setA_1, setA_8, List.append, List.cons_append, List.nil_append])
            | false =>
              refine at_draw rfl (by kernel_rfl) ?_
              (try simp only [push_cast, simprocAttr])
              (try simp only [i3, push_cast, simprocAttr])
              (try simp only [k1, k2, push_cast, simprocAttr])
              (try simp only [i1, i2, push_cast, simprocAttr])
              (try simp only [h2, push_cast, simprocAttr])
              refine at_done_q [0, 0, 2, 7, 15, 31, 31, 127, 255, 511, 31, 31, 3103, 7199, 15391, 32767, 65535, 131071] (by kernel_rfl) (by kernel_rfl) (by simp only [List.map_cons, List.map_nil]; kernel_rfl) (go_on ?_)
              as_aux_lemma =>
                have happ : o.map sC ++ [[sA x.p]] = (o ++ [x.p]).map sC := by rw [List.map_append]; rfl
                (try simp -implicitDefEqProofs only [i1, i2, h2, push_cast, simprocAttr])
                refine at_chk (by omega) ?_
                as_aux_lemma =>
                  (try simp -implicitDefEqProofs only [happ, w1, w2, push_cast, simprocAttr])
                  refine at_fin ⟨(i + 1, k + 1, o ++ [x.p]), ⟨by dsimp only; omega, by dsimp only; omega, by simp; omega, by dsimp only; rw [q4]; rw [hda, hdb, mrg, if_neg (by simp [h1]), if_neg (by simp [h2])]; simp⟩, by dsimp only; omega, ?_⟩
                  simp only [List.length_append, List.length_cons, List.length_nil]
                  (refine wk_ok ?_ ?_ ?_ ?_ <;> simp [rowS, leL, leH, idsL, idsA, idsR, inH, hget, sameRow, upA, hvA, dsts, dstO, setA_0, setA_1, setA_8, List.append, List.cons_append, List.nil_append])
      · have k3 : eqI (k : Int) b.length = true := eqI_t (by omega)
        have hdb : b.drop k = [] := List.drop_of_length_le (by omega)
        (try simp only [i0, push_cast, simprocAttr])
        refine at_draw rfl (by kernel_rfl) ?_
        (try simp only [push_cast, simprocAttr])
        (try simp only [k3, push_cast, simprocAttr])
        refine at_done_q [0, 0, 2, 7, 15, 31, 31, 95, 255, 511, 1023, 1023, 4095, 8191, 16383, 1023, 1023, 99327, 230399, 492543, 1048575, 2097151, 4194303, 8388607] (by kernel_rfl) (by kernel_rfl) (by simp only [List.map_cons, List.map_nil]; kernel_rfl) (go_on ?_)
        as_aux_lemma =>
          have happ : o.map sC ++ [[sA x.p]] = (o ++ [x.p]).map sC := by rw [List.map_append]; rfl
          (try simp only [i0, i1, i2, k3, push_cast, simprocAttr])
          refine at_chk (by omega) ?_
          as_aux_lemma =>
            (try simp only [happ, w1, w2, push_cast, simprocAttr])
            refine at_fin ⟨(i + 1, k, o ++ [x.p]), ⟨by dsimp only; omega, by dsimp only; omega, by simp; omega, by dsimp only; rw [q4]; rw [hda, hdb, mrg_l]; simp⟩, by dsimp only; omega, ?_⟩
            simp only [List.length_append, List.length_cons, List.length_nil]
            (refine wk_ok ?_ ?_ ?_ ?_ <;> simp [rowS, leL, leH, idsL, idsA, idsR, inH, hget, sameRow, upA, hvA, dsts, dstO, setA_0, setA_1, setA_8, List.append, List.cons_append, List.nil_append])
    · have i0 : ltI (i : Int) a.length = false := ltI_f (by omega)
      have i3 : eqI (i : Int) a.length = true := eqI_t (by omega)
      have hda : a.drop i = [] := List.drop_of_length_le (by omega)
      by_cases hk : k < b.length
      · obtain ⟨y, hy⟩ := get_of_lt hk
        have k0 : ltI (k : Int) b.length = true := ltI_t (by omega)
        have k3 : eqI (k : Int) b.length = false := eqI_f (by omega)
        have k1 := ix_n hy
        have k2 := map_get ndC hy
        simp only [ndC] at k2
        have hdb := drop_of_get hy
        (try simp only [i0, k0, push_cast, simprocAttr])
        refine at_draw rfl (by kernel_rfl) ?_
        (try simp only [push_cast, simprocAttr])
        (try simp only [k3, push_cast, simprocAttr])
        (try simp only [i0, push_cast, simprocAttr])
        refine at_done_q [0, 0, 2, 7, 15, 31, 31, 95, 255, 511, 1023, 1023, 4095, 8191, 16383, 1023, 1023, 99327, 230399, 492543, 1048575, 2097151, 4194303, 8388607] (by kernel_rfl) (by kernel_rfl) (by simp only [List.map_cons, List.map_nil]; kernel_rfl) (go_on ?_)
        as_aux_lemma =>
          (try simp only [i0, k3, push_cast, simprocAttr])
          refine at_draw rfl (by kernel_rfl) ?_
          (try simp only [push_cast, simprocAttr])
          (try simp only [i3, push_cast, simprocAttr])
          refine at_done_q [0, 0, 2, 7, 15, 31, 31, 127, 255, 511, 31, 31, 3103, 7199, 15391, 32767, 65535, 131071] (by kernel_rfl) (by kernel_rfl) (by simp only [List.map_cons, List.map_nil]; kernel_rfl) (go_on ?_)
          as_aux_lemma =>
            have happ : o.map sC ++ [[sA y.p]] = (o ++ [y.p]).map sC := by rw [List.map_append]; rfl
            (try simp only [k1, k2, i3, push_cast, simprocAttr])
            refine at_chk (by omega) ?_
            as_aux_lemma =>
              (try simp only [happ, w1, w2, push_cast, simprocAttr])
              refine at_fin ⟨(i, k + 1, o ++ [y.p]), ⟨by dsimp only; omega, by dsimp only; omega, by simp; omega, by dsimp only; rw [q4]; rw [hda, hdb, mrg_r]; simp⟩, by dsimp only; omega, ?_⟩
              simp only [List.length_append, List.length_cons, List.length_nil]
              (refine wk_ok ?_ ?_ ?_ ?_ <;> simp [rowS, leL, leH, idsL, idsA, idsR, inH, hget, sameRow, upA, hvA, dsts, dstO, setA_0, setA_1, setA_8, List.append, List.cons_append, List.nil_append])
      · have k0 : ltI (k : Int) b.length = false := ltI_f (by omega)
        have hdb : b.drop k = [] := List.drop_of_length_le (by omega)
        (try simp only [i0, k0, push_cast, simprocAttr])
        refine at_ret ?_; simp only [Tryz.results63, push_cast, simprocAttr]
        rw [q4, hda, hdb]
        simp [rX, ixOf, rowS, mrg]
end Go.Proofs.YthifgndjpjaddaaGreatDoor
/-
  Walks: spec.TreeChanged, spec.RoundApart, laws.sameTexts.
-/
namespace Go.Proofs.YthifgndjpjaddaaGreatDoor
open Go Go.RowKit Go.Proofs
theorem mrgL_len (a b : List Nd) : (mrg a b).length ≤ a.length + b.length := by
  fun_induction mrg a b <;> simp at * <;> omega
abbrev txA (l : List Str) : AV := .sl 1 (l.map sC)
theorem l5Paths_d (a b : List Nd) (ha : a.length < 4294967280) (hb : b.length < 4294967280) : PC Tryz.prog 63 [ndA a, ndA b] (vX (txA (mrg a b))) := by
  have := (l5Paths_pc a b ha hb).frzX
  simpa [viewN, hpOf, hget, isC, tk, rowS] using this
attribute [local irreducible] RWp AW run kPe pe Kt effA gd gu br retR RDp runD kPeD brW gW effD
set_option maxRecDepth 100000
theorem specTreeChanged_d (a b : List Nd) (ha : SmT2 a) (hb : SmT2 b) : PC Tryz.prog 40 [ndA a, ndA b] (vX (txA (chg a b))) := by
  have hA := specTreeValid_pc a ha.s
  have hB := specTreeValid_pc b hb.s
  have han := ha.n
  have hbn := hb.n
  refine PC.toF ?_
  refine pc_enter Tryz.func40 rfl rfl fun w0 fb => go_on ?_; (try simp only [Tryz.ntmps40, push_cast, simprocAttr])
  (refine at_call ?_; (try simp only [push_cast, simprocAttr]); refine rwc_v (hA) (go_on ?_); (try simp only [push_cast, simprocAttr]))
  cases hva : tV a with
  | false =>
    have e : chg a b = [] := by simp [chg, hva]
    (try simp only [hva, Bool.not_false, push_cast, simprocAttr])
    refine at_ret ?_; simp only [Tryz.results40, push_cast, simprocAttr]
    simp [vF, viewN, isC, hpOf, hget, tk, ixOf, e]
  | true =>
    (try simp only [hva, Bool.not_true, push_cast, simprocAttr])
    (refine at_call ?_; (try simp only [push_cast, simprocAttr]); refine rwc_v (hB) (go_on ?_); (try simp only [push_cast, simprocAttr]))
    cases hvb : tV b with
    | false =>
      have e : chg a b = [] := by simp [chg, hvb]
      (try simp only [hvb, Bool.not_false, push_cast, simprocAttr])
      refine at_ret ?_; simp only [Tryz.results40, push_cast, simprocAttr]
      simp [vF, viewN, isC, hpOf, hget, tk, ixOf, e]
    | true =>
      have hP := l5Paths_d a b han hbn
      obtain ⟨m, hm⟩ : ∃ m, m = mrg a b := ⟨_, rfl⟩
      have hml := mrgL_len a b
      rw [← hm] at hP hml
      have he : chg a b = m.filter (fun p => decide (getC a p ≠ getC b p)) := by unfold chg; rw [if_pos (by simp [hva, hvb]), hm]
      (try simp only [hvb, Bool.not_true, push_cast, simprocAttr])
      ((try simp only [push_cast, simprocAttr]); refine at_share2 (by simp [isC2, isC]) (by first | rfl | simp [ren]) (hP) (go_on ?_); (try simp only [push_cast, simprocAttr]))
      refine at_loop (X := Nat × List Str) (fun x => [(5, .o 8 x.2.length), (7, iA x.1), (8, .any)]) (fun x => [(4, ⟨9, 1, [], true⟩), (8, ⟨9, 1, x.2.map sC, true⟩)])
        (fun x => x.1 ≤ m.length ∧ x.2.length ≤ x.1 ∧ chg a b = x.2 ++ (m.drop x.1).filter (fun p => decide (getC a p ≠ getC b p))) (fun x => m.length - x.1) (0, []) ⟨Nat.zero_le _, Nat.le_refl _, by simpa using he⟩ ?_ ?_
      · (refine wk_ok ?_ ?_ ?_ ?_ <;> simp [leL, leH, idsL, idsA, idsR, inH, hget, sameRow, upA, hvA, dsts, dstO, setA_0, setA_1, setA_8, List.append, List.cons_append, List.nil_append])
      · rintro ⟨i, o⟩ ⟨q1, q2, q3⟩
        simp only at q1 q2 q3
        simp only [upA, hvA, dsts, dstO, setA_0, setA_1, setA_8, List.append, List.cons_append, List.nil_append]
        refine go_on ?_
        (try simp only [List.length_map, push_cast, simprocAttr])
        refine at_b (fun hg => ?_) (fun hg => ?_)
        · have hlt := lt_tt hg
          obtain ⟨s, hs⟩ := get_of_lt hlt
          have i1 := ix_n hs
          have i2 := map_get sC hs
          simp only [sC] at i2
          have w1 := wr ((i : Int) + 1) (by omega)
          have hG := l3Get_pc a (by omega) s
          have hH := l3Get_pc b (by omega) s
          have e3 := ct_eq (getC a s) (getC b s)
          unfold ctA at hG hH
          simp only [ctC] at hG hH
          rw [drop_of_get hs] at q3
          (try simp only [hg, push_cast, simprocAttr])
          refine at_draw rfl (by kernel_rfl) ?_; simp only [push_cast, simprocAttr]
          (try simp only [i1, i2, push_cast, simprocAttr])
          (refine at_shareD (by simp [isC2, isC]) (by first | rfl | simp [ren]) hG ?_; (try simp only [push_cast, simprocAttr]))
          (try simp only [i1, i2, push_cast, simprocAttr])
          (refine at_shareD (by simp [isC2, isC]) (by first | rfl | simp [ren]) hH ?_; (try simp only [push_cast, simprocAttr]))
          (try simp only [i1, i2, ctg, cth, e3, push_cast, simprocAttr])
          refine at_done (by kernel_rfl) (by kernel_rfl) (go_on ?_)
          by_cases hne : getC a s = getC b s
          · have d1 : decide (getC a s = getC b s) = true := by simpa using hne
            simp only [List.filter_cons, hne, ne_eq, not_true_eq_false, decide_false, Bool.false_eq_true, if_false] at q3
            (try simp only [d1, Bool.not_true, w1, push_cast, simprocAttr])
            refine at_fin ⟨(i + 1, o), ⟨by dsimp only; omega, by dsimp only; omega, q3⟩, by dsimp only; omega, ?_⟩
            (refine wk_ok ?_ ?_ ?_ ?_ <;> simp [leL, leH, idsL, idsA, idsR, inH, hget, sameRow, upA, hvA, dsts, dstO, setA_0, setA_1, setA_8, List.append, List.cons_append, List.nil_append])
          · have d1 : decide (getC a s = getC b s) = false := by simpa using hne
            have happ : o.map sC ++ [[sA s]] = (o ++ [s]).map sC := by rw [List.map_append]; rfl
            rw [List.filter_cons, if_pos (by simpa using hne)] at q3
            (try simp only [d1, Bool.not_false, i1, i2, push_cast, simprocAttr])
            refine at_chk (by omega) ?_
            (try simp only [happ, w1, push_cast, simprocAttr])
            refine at_fin ⟨(i + 1, o ++ [s]), ⟨by dsimp only; omega, by simp; omega, by dsimp only; rw [q3]; simp⟩, by dsimp only; omega, ?_⟩
            simp only [List.length_append, List.length_cons, List.length_nil]
            (refine wk_ok ?_ ?_ ?_ ?_ <;> simp [leL, leH, idsL, idsA, idsR, inH, hget, sameRow, upA, hvA, dsts, dstO, setA_0, setA_1, setA_8, List.append, List.cons_append, List.nil_append])
        · have h3 := lt_ff hg
          rw [List.drop_of_length_le h3] at q3
          (try simp only [hg, push_cast, simprocAttr])
          refine at_ret ?_; simp only [Tryz.results40, push_cast, simprocAttr]
          rw [q3]
          simp [vF, viewN, isC, hpOf, hget, tk, ixOf]
theorem specRoundApart_d (t : List Nd) (ht : SmT2 t) (l : List Ev) (hl : SmE l) : PC Tryz.prog 19 [ndA t, evsA l] (vX (txA (rApart t l))) := by
  have hV := l43Ok_pc t ht.s l hl
  cases h : rdV t l with
  | false =>
    rw [h] at hV
    rw [rApart_f h]
    refine PC.toF ?_
    refine pc_enter Tryz.func19 rfl rfl fun w0 fb => go_on ?_; (try simp only [Tryz.ntmps19, push_cast, simprocAttr])
    refine at_call ?_
    (try simp only [push_cast, simprocAttr])
    refine rwc_v hV ?_
    (try simp only [push_cast, simprocAttr])
    (refine at_dropS [4] (by refine wk_ok ?_ ?_ ?_ ?_ <;> simp [dropS, dropT, hasN, delL, hdel, leL, leH, idsL, idsA, idsR, inH, hget, sameRow]) ?_; simp only [dropS, dropT, hasN, delL, hdel, idsA, idsL, hget, List.map_cons, List.map_nil, List.all_cons, List.all_nil, List.append_nil, Bool.not_false, Bool.not_true, Bool.and_true, if_true, if_false, simprocAttr])
    refine go_on ?_
    (try simp only [Bool.not_false, push_cast, simprocAttr])
    refine at_ret ?_; simp only [Tryz.results19, push_cast, simprocAttr]
    simp [vF, viewN, isC, hpOf, hget, tk, ixOf]
  | true =>
    have hP := l43Play_d t ht l hl
    have hsm := rPlay_sm t l
    rw [rPlay_t h] at hsm
    dsimp only at hsm
    have hA := specSiteTree_pc (pl t l).1 hsm.1
    have hB := specSiteTree_pc (pl t l).2.1 hsm.2
    have hC := specTreeChanged_d (siteT (pl t l).1) (siteT (pl t l).2.1) (siteT_sm hsm.1) (siteT_sm hsm.2)
    rw [rApart_t h]
    rw [h] at hV
    unfold stA' stC at *
    refine pc_enter Tryz.func19 rfl rfl fun w0 fb => go_on ?_; (try simp only [Tryz.ntmps19, push_cast, simprocAttr])
    (refine at_call ?_; (try simp only [push_cast, simprocAttr]); refine rwc_v (hV) (go_on ?_); (try simp only [push_cast, simprocAttr]))
    (try simp only [Bool.not_true, push_cast, simprocAttr])
    ((try simp only [push_cast, simprocAttr]); refine at_share2 (by simp [isC2, isC]) (by first | rfl | simp [ren]) (hP) (go_on ?_); (try simp only [push_cast, simprocAttr]))
    refine at_draw rfl (by kernel_rfl) ?_; simp only [push_cast, simprocAttr]
    (refine at_shareD (by simp [isC2, isC]) (by first | rfl | simp [ren]) hA ?_; (try simp only [push_cast, simprocAttr]))
    (refine at_shareD (by simp [isC2, isC]) (by first | rfl | simp [ren]) hB ?_; (try simp only [push_cast, simprocAttr]))
    (refine at_shareD (by simp [isC2, isC]) (by first | rfl | simp [ren]) hC ?_; (try simp only [push_cast, simprocAttr]))
    refine at_done (by kernel_rfl) (by kernel_rfl) (go_on ?_)
    (try simp only [push_cast, simprocAttr])
    refine at_ret ?_; simp only [Tryz.results19, push_cast, simprocAttr]
    simp [vX]
end Go.Proofs.YthifgndjpjaddaaGreatDoor
/-
  Walks: the laws' own helpers at rows of integers and of texts: equalities, marks.
-/
namespace Go.Proofs.YthifgndjpjaddaaGreatDoor
open Go Go.RowKit Go.Proofs
abbrev inA (l : List Int) : AV := .sl 1 (l.map inC)
def mkI : Nat → List Int → List Int
  | _, [] => []
  | k, _ :: l => (k : Int) :: mkI (k + 1) l
def mkS : Nat → List Str → List Str
  | _, [] => []
  | k, _ :: l => mkT k :: mkS (k + 1) l
theorem mkI_len : ∀ (l : List Int) (k : Nat), (mkI k l).length = l.length
  | [], _ => rfl
  | _ :: l, k => by simp [mkI, mkI_len l]
theorem mkS_len : ∀ (l : List Str) (k : Nat), (mkS k l).length = l.length
  | [], _ => rfl
  | _ :: l, k => by simp [mkS, mkS_len l]
theorem mkI_get : ∀ (l : List Int) (k i : Nat), i < l.length → (mkI k l)[i]? = some ((k + i : Nat) : Int)
  | [], _, _, h => by simp at h
  | x :: l, k, 0, _ => by simp [mkI]
  | x :: l, k, i + 1, h => by
    rw [mkI, List.getElem?_cons_succ, mkI_get l (k + 1) i (by simpa using h), show k + 1 + i = k + (i + 1) from by omega]
theorem mkS_get : ∀ (l : List Str) (k i : Nat), i < l.length → (mkS k l)[i]? = some (mkT (k + i))
  | [], _, _, h => by simp at h
  | x :: l, k, 0, _ => by simp [mkS]
  | x :: l, k, i + 1, h => by
    rw [mkS, List.getElem?_cons_succ, mkS_get l (k + 1) i (by simpa using h), show k + 1 + i = k + (i + 1) from by omega]
def upI (k : Nat) (l : List Int) (i : Nat) : List Int := (mkI k l).take i ++ l.drop i
def upS (k : Nat) (l : List Str) (i : Nat) : List Str := (mkS k l).take i ++ l.drop i
theorem upI_len (k : Nat) (l : List Int) (i : Nat) (h : i ≤ l.length) : (upI k l i).length = l.length := by simp [upI, mkI_len]; omega
theorem upS_len (k : Nat) (l : List Str) (i : Nat) (h : i ≤ l.length) : (upS k l i).length = l.length := by simp [upS, mkS_len]; omega
attribute [local irreducible] RWp AW run kPe pe Kt effA gd gu br retR RDp runD kPeD brW gW effD
set_option maxRecDepth 100000
theorem eqStringS_pc (a b : List Str) (hl : a.length < 8589934590) : PC Tryz.prog 21 [txA a, txA b] (vB (decide (a = b))) := by
  refine pc_enter Tryz.func21 rfl rfl fun w0 fb => go_on ?_; (try simp only [Tryz.ntmps21, push_cast, simprocAttr])
  refine at_b (fun hb => ?_) (fun hb => ?_)
  · have h1 := of_eqI_f (not_t hb)
    have h2 : a ≠ b := by rintro rfl; exact h1 rfl
    (try simp only [hb, push_cast, simprocAttr])
    refine at_ret ?_; simp only [Tryz.results21, push_cast, simprocAttr]
    simp [vX, h2]
  · have h1 : a.length = b.length := by have := of_eqI_t (not_f hb); omega
    (try simp only [hb, push_cast, simprocAttr])
    refine at_loop (X := Nat) (fun k => [(5, iA k)]) (fun _ => []) (fun k => k ≤ a.length ∧ decide (a = b) = decide (a.drop k = b.drop k)) (fun k => a.length - k) 0 ⟨Nat.zero_le _, rfl⟩ ?_ ?_
    · (refine wk_ok ?_ ?_ ?_ ?_ <;> simp [leL, leH, idsL, idsA, idsR, inH, hget, sameRow, upA, hvA, dsts, dstO, setA_0, setA_1, setA_8, List.append, List.cons_append, List.nil_append])
    · rintro k ⟨q1, q2⟩
      simp only [upA, hvA, dsts, dstO, setA_0, setA_1, setA_8, List.append, List.cons_append, List.nil_append]
      refine go_on ?_
      (try simp only [push_cast, simprocAttr])
      refine at_b (fun hg => ?_) (fun hg => ?_)
      · have hlt := lt_tt hg
        obtain ⟨x, hx⟩ := get_of_lt hlt
        obtain ⟨y, hy⟩ := get_of_lt (l := b) (k := k) (by omega)
        have i1 := ix_n hx
        have i3 := ix_n hy
        have i2 := map_get sC hx
        have i4 := map_get sC hy
        simp only [sC] at i2 i4
        rw [drop_of_get hx, drop_of_get hy] at q2
        have w2 := wr ((k : Int) + 1) (by omega)
        (try simp only [hg, push_cast, simprocAttr])
        refine at_draw rfl (by kernel_rfl) ?_
        (try simp only [i1, i2, i3, i4, push_cast, simprocAttr])
        refine at_done (by kernel_rfl) (by kernel_rfl) (go_on ?_)
        (try simp only [push_cast, simprocAttr])
        refine at_b (fun hn => ?_) (fun hn => ?_)
        · have hxy : x ≠ y := by simpa using hn
          (try simp only [hn, push_cast, simprocAttr])
          refine at_ret ?_; simp only [Tryz.results21, push_cast, simprocAttr]
          simp [vX, q2, hxy]
        · have hxy : x = y := by simpa using hn
          (try simp only [hn, w2, push_cast, simprocAttr])
          refine at_fin ⟨k + 1, ⟨by omega, ?_⟩, by omega, ?_⟩
          · rw [q2]; simp [hxy]
          · (refine wk_ok ?_ ?_ ?_ ?_ <;> simp [leL, leH, idsL, idsA, idsR, inH, hget, sameRow, upA, hvA, dsts, dstO, setA_0, setA_1, setA_8, List.append, List.cons_append, List.nil_append])
      · have h3 := lt_ff hg
        (try simp only [hg, push_cast, simprocAttr])
        refine at_ret ?_; simp only [Tryz.results21, push_cast, simprocAttr]
        rw [List.drop_of_length_le h3, List.drop_of_length_le (by omega)] at q2
        simp [vX, q2]
theorem eqIntS_pc (a b : List Int) (hl : a.length < 8589934590) : PC Tryz.prog 12 [inA a, inA b] (vB (decide (a = b))) := by
  refine pc_enter Tryz.func12 rfl rfl fun w0 fb => go_on ?_; (try simp only [Tryz.ntmps12, push_cast, simprocAttr])
  refine at_b (fun hb => ?_) (fun hb => ?_)
  · have h1 := of_eqI_f (not_t hb)
    have h2 : a ≠ b := by rintro rfl; exact h1 rfl
    (try simp only [hb, push_cast, simprocAttr])
    refine at_ret ?_; simp only [Tryz.results12, push_cast, simprocAttr]
    simp [vX, h2]
  · have h1 : a.length = b.length := by have := of_eqI_t (not_f hb); omega
    (try simp only [hb, push_cast, simprocAttr])
    refine at_loop (X := Nat) (fun k => [(5, iA k)]) (fun _ => []) (fun k => k ≤ a.length ∧ decide (a = b) = decide (a.drop k = b.drop k)) (fun k => a.length - k) 0 ⟨Nat.zero_le _, rfl⟩ ?_ ?_
    · (refine wk_ok ?_ ?_ ?_ ?_ <;> simp [leL, leH, idsL, idsA, idsR, inH, hget, sameRow, upA, hvA, dsts, dstO, setA_0, setA_1, setA_8, List.append, List.cons_append, List.nil_append])
    · rintro k ⟨q1, q2⟩
      simp only [upA, hvA, dsts, dstO, setA_0, setA_1, setA_8, List.append, List.cons_append, List.nil_append]
      refine go_on ?_
      (try simp only [push_cast, simprocAttr])
      refine at_b (fun hg => ?_) (fun hg => ?_)
      · have hlt := lt_tt hg
        obtain ⟨x, hx⟩ := get_of_lt hlt
        obtain ⟨y, hy⟩ := get_of_lt (l := b) (k := k) (by omega)
        have i1 := ix_n hx
        have i3 := ix_n hy
        have i2 := map_get inC hx
        have i4 := map_get inC hy
        simp only [inC] at i2 i4
        rw [drop_of_get hx, drop_of_get hy] at q2
        have w2 := wr ((k : Int) + 1) (by omega)
        (try simp only [hg, push_cast, simprocAttr])
        refine at_draw rfl (by kernel_rfl) ?_
        (try simp only [i1, i2, i3, i4, push_cast, simprocAttr])
        refine at_done (by kernel_rfl) (by kernel_rfl) (go_on ?_)
        (try simp only [push_cast, simprocAttr])
        refine at_b (fun hn => ?_) (fun hn => ?_)
        · have hxy : x ≠ y := of_eqI_f (not_t hn)
          (try simp only [hn, push_cast, simprocAttr])
          refine at_ret ?_; simp only [Tryz.results12, push_cast, simprocAttr]
          simp [vX, q2, hxy]
        · have hxy : x = y := of_eqI_t (not_f hn)
          (try simp only [hn, w2, push_cast, simprocAttr])
          refine at_fin ⟨k + 1, ⟨by omega, ?_⟩, by omega, ?_⟩
          · rw [q2]; simp [hxy]
          · (refine wk_ok ?_ ?_ ?_ ?_ <;> simp [leL, leH, idsL, idsA, idsR, inH, hget, sameRow, upA, hvA, dsts, dstO, setA_0, setA_1, setA_8, List.append, List.cons_append, List.nil_append])
      · have h3 := lt_ff hg
        (try simp only [hg, push_cast, simprocAttr])
        refine at_ret ?_; simp only [Tryz.results12, push_cast, simprocAttr]
        rw [List.drop_of_length_le h3, List.drop_of_length_le (by omega)] at q2
        simp [vX, q2]
theorem markIntS_pcl (l : List Int) (k : Nat) (h0 : 0 < k) (hk : k + l.length ≤ 4611686018427387904) : PCL Tryz.prog 17 [rowI l] (mvF none) [.o 0 l.length, iA k] (markD (k + l.length) (rowI (mkI k l))) := by
  refine pcl_enter Tryz.func17 rfl rfl (by simp) fun w0 fb loc => go_on ?_; simp only [Tryz.ntmps17, hpL, nmL, mvF, renL, decide_true, decide_false, push_cast, simprocAttr]
  refine at_loop (X := Nat) (fun i => [(1, iA ((k + i : Nat) : Int)), (5, iA i)]) (fun i => [(500000, rowI (upI k l i))]) (fun i => i ≤ l.length) (fun i => l.length - i) 0 (Nat.zero_le _) ?_ ?_
  · (refine wk_frz ?_ ?_ ?_ ?_ <;> simp [rowI, upI, leF, leHF, frzB, idsL, idsA, idsR, inH, hget, sameRow, viewN, tk, upA, hvA, dsts, dstO, setA_0, setA_1, setA_8, List.append, List.cons_append, List.nil_append])
  · rintro i hi
    simp only [upA, hvA, dsts, dstO, setA_0, setA_1, setA_8, List.append, List.cons_append, List.nil_append]
    refine go_on ?_
    (try simp only [push_cast, simprocAttr])
    by_cases hlt : i < l.length
    · have i0 : ltI (i : Int) l.length = true := ltI_t (by omega)
      have hlen := upI_len k l i hi
      obtain ⟨x, hx⟩ := get_of_lt hlt
      have hux : (upI k l i)[i]? = some x := by unfold upI; rw [up_get (by rw [mkI_len]; exact hi)]; exact hx
      have i1 := ix_n hx
      have i2 := map_get inC hux
      have hs : (List.map inC (upI k l i)).set i [iA ((k + i : Nat) : Int)] = List.map inC (upI k l (i + 1)) := by
        unfold upI
        rw [← up_set (mkI_get l k i hlt) hlt, List.map_set]
        rfl
      have w1 : IntKind.i64.wrap ((k : Int) + (i : Int) + 1) = (k : Int) + (i : Int) + 1 := wr _ (by omega)
      have w4 : IntKind.i64.wrap ((i : Int) + 1) = (i : Int) + 1 := wr _ (by omega)
      push_cast at hs
      simp only [inC] at i2
      (try simp only [i0, i1, i2, w1, w4, List.set_set, hs, push_cast, simprocAttr])
      have e5 : (k : Int) + ((i + 1 : Nat) : Int) = (k : Int) + (i : Int) + 1 := by omega
      refine at_fin ⟨i + 1, by omega, by omega, ?_⟩
      simp only [e5]
      (refine wk_frz ?_ ?_ ?_ ?_ <;> simp [rowI, leF, leHF, frzB, idsL, idsA, idsR, inH, hget, sameRow, viewN, tk, upA, hvA, dsts, dstO, setA_0, setA_1, setA_8, List.append, List.cons_append, List.nil_append])
    · have i0 : ltI (i : Int) l.length = false := ltI_f (by omega)
      obtain rfl : i = l.length := by omega
      have e : upI k l l.length = mkI k l := by unfold upI; rw [List.drop_length, List.append_nil, List.take_of_length_le (by rw [mkI_len]; exact Nat.le_refl _)]
      have hfin : markD (k + l.length) (rowI (mkI k l)) (iA ((k + l.length : Nat) : Int)) [rowI (mkI k l)] [] := ⟨rfl, rfl, rfl⟩
      (try simp only [i0, e, push_cast, simprocAttr])
      (refine at_retL ?_; simp only [Tryz.results17, retL, push_cast, simprocAttr]; simpa [show List.range 1 = [0] from rfl, show List.range 2 = [0, 1] from rfl, show List.range 3 = [0, 1, 2] from rfl, nmL, mvF, ndB, ixOf, rowsOf, hget, rowS, rowN, rowC] using  hfin)
theorem heldIntS_pc (l : List Int) (k : Nat) (h0 : 0 < k) (hk : k + l.length ≤ 4611686018427387904) : PC Tryz.prog 18 [inA (mkI k l), iA k] (vI ((k + l.length : Nat) : Int)) := by
  have hN := mkI_len l k
  refine pc_enter Tryz.func18 rfl rfl fun w0 fb => go_on ?_; (try simp only [Tryz.ntmps18, push_cast, simprocAttr])
  refine at_loop (X := Nat) (fun i => [(1, iA ((k + i : Nat) : Int)), (5, iA i)]) (fun _ => []) (fun i => i ≤ l.length) (fun i => l.length - i) 0 (Nat.zero_le _) ?_ ?_
  · (refine wk_ok ?_ ?_ ?_ ?_ <;> simp [leL, leH, idsL, idsA, idsR, inH, hget, sameRow, upA, hvA, dsts, dstO, setA_0, setA_1, setA_8, List.append, List.cons_append, List.nil_append])
  · rintro i hi
    simp only [upA, hvA, dsts, dstO, setA_0, setA_1, setA_8, List.append, List.cons_append, List.nil_append]
    refine go_on ?_
    (try simp only [hN, push_cast, simprocAttr])
    by_cases hlt : i < l.length
    · have i0 : ltI (i : Int) l.length = true := ltI_t (by omega)
      have hx := mkI_get l k i hlt
      have i1 := ix_n hx
      rw [hN] at i1
      have i2 := map_get inC hx
      simp only [inC] at i2
      have e4 : eqI ((k : Int) + (i : Int)) ((k : Int) + (i : Int)) = true := eqI_self _
      have w1 : IntKind.i64.wrap ((k : Int) + (i : Int) + 1) = (k : Int) + (i : Int) + 1 := wr _ (by omega)
      have w4 : IntKind.i64.wrap ((i : Int) + 1) = (i : Int) + 1 := wr _ (by omega)
      push_cast at i2
      have e5 : (k : Int) + ((i + 1 : Nat) : Int) = (k : Int) + (i : Int) + 1 := by omega
      (try simp only [i0, i1, i2, hN, e4, Bool.not_true, w1, w4, push_cast, simprocAttr])
      refine at_fin ⟨i + 1, by omega, by omega, ?_⟩
      simp only [e5]
      (refine wk_ok ?_ ?_ ?_ ?_ <;> simp [leL, leH, idsL, idsA, idsR, inH, hget, sameRow, upA, hvA, dsts, dstO, setA_0, setA_1, setA_8, List.append, List.cons_append, List.nil_append])
    · have i0 : ltI (i : Int) l.length = false := ltI_f (by omega)
      obtain rfl : i = l.length := by omega
      (try simp only [i0, push_cast, simprocAttr])
      refine at_ret ?_; simp only [Tryz.results18, push_cast, simprocAttr]
      simp [vX]
end Go.Proofs.YthifgndjpjaddaaGreatDoor
/-
  Walks: marks in rows of texts.
-/
namespace Go.Proofs.YthifgndjpjaddaaGreatDoor
open Go Go.RowKit Go.Proofs
attribute [local irreducible] RWp AW run kPe pe Kt effA gd gu br retR RDp runD kPeD brW gW effD
set_option maxRecDepth 100000
theorem markStringS_pcl (l : List Str) (k : Nat) (h0 : 0 < k) (hk : k + l.length ≤ 4611686018427387904) : PCL Tryz.prog 22 [rowS l] (mvF none) [.o 0 l.length, iA k] (markD (k + l.length) (rowS (mkS k l))) := by
  refine pcl_enter Tryz.func22 rfl rfl (by simp) fun w0 fb loc => go_on ?_; simp only [Tryz.ntmps22, hpL, nmL, mvF, renL, decide_true, decide_false, push_cast, simprocAttr]
  refine at_loop (X := Nat) (fun i => [(1, iA ((k + i : Nat) : Int)), (5, iA i)]) (fun i => [(500000, rowS (upS k l i))]) (fun i => i ≤ l.length) (fun i => l.length - i) 0 (Nat.zero_le _) ?_ ?_
  · (refine wk_frz ?_ ?_ ?_ ?_ <;> simp [rowS, upS, leF, leHF, frzB, idsL, idsA, idsR, inH, hget, sameRow, viewN, tk, upA, hvA, dsts, dstO, setA_0, setA_1, setA_8, List.append, List.cons_append, List.nil_append])
  · rintro i hi
    simp only [upA, hvA, dsts, dstO, setA_0, setA_1, setA_8, List.append, List.cons_append, List.nil_append]
    refine go_on ?_
    (try simp only [push_cast, simprocAttr])
    by_cases hlt : i < l.length
    · have i0 : ltI (i : Int) l.length = true := ltI_t (by omega)
      have hlen := upS_len k l i hi
      have hm := markText_pc (k + i) (by omega) (by omega)
      obtain ⟨x, hx⟩ := get_of_lt hlt
      have hux : (upS k l i)[i]? = some x := by unfold upS; rw [up_get (by rw [mkS_len]; exact hi)]; exact hx
      have i1 := ix_n hx
      have i2 := map_get sC hux
      have hs : (List.map sC (upS k l i)).set i [sA (mkT (k + i))] = List.map sC (upS k l (i + 1)) := by
        unfold upS
        rw [← up_set (mkS_get l k i hlt) hlt, List.map_set]
        rfl
      have w1 : IntKind.i64.wrap ((k : Int) + (i : Int) + 1) = (k : Int) + (i : Int) + 1 := wr _ (by omega)
      have w4 : IntKind.i64.wrap ((i : Int) + 1) = (i : Int) + 1 := wr _ (by omega)
      push_cast at hm
      simp only [sC] at i2
      (try simp only [i0, push_cast, simprocAttr])
      (refine at_call ?_; (try simp only [push_cast, simprocAttr]); refine rwc_v (hm) (go_on ?_); (try simp only [push_cast, simprocAttr]))
      (try simp only [rowS, i1, i2, w1, w4, List.set_set, hs, push_cast, simprocAttr])
      have e5 : (k : Int) + ((i + 1 : Nat) : Int) = (k : Int) + (i : Int) + 1 := by omega
      refine at_fin ⟨i + 1, by omega, by omega, ?_⟩
      simp only [e5]
      (refine wk_frz ?_ ?_ ?_ ?_ <;> simp [rowS, leF, leHF, frzB, idsL, idsA, idsR, inH, hget, sameRow, viewN, tk, upA, hvA, dsts, dstO, setA_0, setA_1, setA_8, List.append, List.cons_append, List.nil_append])
    · have i0 : ltI (i : Int) l.length = false := ltI_f (by omega)
      obtain rfl : i = l.length := by omega
      have e : upS k l l.length = mkS k l := by unfold upS; rw [List.drop_length, List.append_nil, List.take_of_length_le (by rw [mkS_len]; exact Nat.le_refl _)]
      have hfin : markD (k + l.length) (rowS (mkS k l)) (iA ((k + l.length : Nat) : Int)) [rowS (mkS k l)] [] := ⟨rfl, rfl, rfl⟩
      (try simp only [i0, e, push_cast, simprocAttr])
      (refine at_retL ?_; simp only [Tryz.results22, retL, push_cast, simprocAttr]; simpa [show List.range 1 = [0] from rfl, show List.range 2 = [0, 1] from rfl, show List.range 3 = [0, 1, 2] from rfl, nmL, mvF, ndB, ixOf, rowsOf, hget, rowS, rowN, rowC] using  hfin)
end Go.Proofs.YthifgndjpjaddaaGreatDoor
/-
  Walks: marks in rows of texts.
-/
namespace Go.Proofs.YthifgndjpjaddaaGreatDoor
open Go Go.RowKit Go.Proofs
attribute [local irreducible] RWp AW run kPe pe Kt effA gd gu br retR RDp runD kPeD brW gW effD
set_option maxRecDepth 100000
theorem heldStringS_pc (l : List Str) (k : Nat) (h0 : 0 < k) (hk : k + l.length ≤ 4611686018427387904) : PC Tryz.prog 23 [txA (mkS k l), iA k] (vI ((k + l.length : Nat) : Int)) := by
  have hN := mkS_len l k
  refine pc_enter Tryz.func23 rfl rfl fun w0 fb => go_on ?_; (try simp only [Tryz.ntmps23, push_cast, simprocAttr])
  refine at_loop (X := Nat) (fun i => [(1, iA ((k + i : Nat) : Int)), (5, iA i)]) (fun _ => []) (fun i => i ≤ l.length) (fun i => l.length - i) 0 (Nat.zero_le _) ?_ ?_
  · (refine wk_ok ?_ ?_ ?_ ?_ <;> simp [leL, leH, idsL, idsA, idsR, inH, hget, sameRow, upA, hvA, dsts, dstO, setA_0, setA_1, setA_8, List.append, List.cons_append, List.nil_append])
  · rintro i hi
    simp only [upA, hvA, dsts, dstO, setA_0, setA_1, setA_8, List.append, List.cons_append, List.nil_append]
    refine go_on ?_
    (try simp only [hN, push_cast, simprocAttr])
    by_cases hlt : i < l.length
    · have i0 : ltI (i : Int) l.length = true := ltI_t (by omega)
      have hm := markText_pc (k + i) (by omega) (by omega)
      have hx := mkS_get l k i hlt
      have i1 := ix_n hx
      rw [hN] at i1
      have i2 := map_get sC hx
      simp only [sC] at i2
      have w1 : IntKind.i64.wrap ((k : Int) + (i : Int) + 1) = (k : Int) + (i : Int) + 1 := wr _ (by omega)
      have w4 : IntKind.i64.wrap ((i : Int) + 1) = (i : Int) + 1 := wr _ (by omega)
      push_cast at hm
      obtain ⟨m, hmm⟩ : ∃ m, m = mkT (k + i) := ⟨_, rfl⟩
      rw [← hmm] at hm i2
      clear hx hmm
      have e5 : (k : Int) + ((i + 1 : Nat) : Int) = (k : Int) + (i : Int) + 1 := by omega
      (try simp only [i0, push_cast, simprocAttr])
      refine at_draw rfl (by kernel_rfl) ?_
      (try simp only [i1, i2, hN, push_cast, simprocAttr])
      (refine at_callD (by simp [clB, idsL, idsA, hget]) ?_; (try simp only [push_cast, simprocAttr]); refine rcd_v (hm) ?_)
      simp only [eq_self, decide_true, Bool.not_true, push_cast, simprocAttr]
      refine at_done_p (by simp [plB]) (by kernel_rfl) (go_on ?_)
      (try simp only [w1, w4, eq_self, decide_true, Bool.not_true, push_cast, simprocAttr])
      refine at_fin ⟨i + 1, by omega, by omega, ?_⟩
      simp only [e5]
      (refine wk_ok ?_ ?_ ?_ ?_ <;> simp [leL, leH, idsL, idsA, idsR, inH, hget, sameRow, upA, hvA, dsts, dstO, setA_0, setA_1, setA_8, List.append, List.cons_append, List.nil_append])
    · have i0 : ltI (i : Int) l.length = false := ltI_f (by omega)
      obtain rfl : i = l.length := by omega
      (try simp only [i0, push_cast, simprocAttr])
      refine at_ret ?_; simp only [Tryz.results23, push_cast, simprocAttr]
      simp [vX]
end Go.Proofs.YthifgndjpjaddaaGreatDoor
/-
  Walks: impl.play, RoundDone, RoundApart with rows of their own.
-/
namespace Go.Proofs.YthifgndjpjaddaaGreatDoor
open Go Go.RowKit Go.Proofs
structure RdOk2 (t : List Nd) (l : List Ev) : Prop where
  b : t.length ≤ maxLen
  bp : ∀ n ∈ t, n.p.length ≤ maxLen
  e : l.length ≤ maxLen
  ep : ∀ e ∈ l, e.c.p.length ≤ maxLen
attribute [local irreducible] RWp AW run kPe pe Kt effA gd gu br retR RDp runD kPeD brW gW effD
set_option maxRecDepth 100000
theorem play_r (t : List Nd) (ht : SmT2 t) (l : List Ev) (hl : SmE l) : PC Tryz.prog 36 [ndA t, evsA l] (rX (.tup [stA' (pl t l).1, stA' (pl t l).2.1, .o 0 (pl t l).2.2.length]) [rowI (pl t l).2.2]) := by
  have hT := cloneTree_d t (by have := ht.n; omega)
  have hn := hl.n
  unfold stA' stC
  refine pc_enter Tryz.func36 rfl rfl fun w0 fb => go_on ?_; (try simp only [Tryz.ntmps36, push_cast, simprocAttr])
  ((try simp only [push_cast, simprocAttr]); refine at_share2 (by simp [isC2, isC]) (by first | rfl | simp [ren]) (hT) (go_on ?_); (try simp only [push_cast, simprocAttr]))
  ((try simp only [push_cast, simprocAttr]); refine at_share2 (by simp [isC2, isC]) (by first | rfl | simp [ren]) (hT) (go_on ?_); (try simp only [push_cast, simprocAttr]))
  refine at_loop (X := Nat × St × St × List Int) (fun x => [(9, .o 9 x.2.2.2.length), (23, iA x.1)]) (fun x => [(4, ⟨45, 3, [[iA 0, .v (.slice none 0 0), .v (.slice none 0 0)]], true⟩), (5, ⟨45, 3, [[iA 0, .v (.slice none 0 0), .v (.slice none 0 0)]], true⟩), (6, ⟨3, 1, [], true⟩), (7, ⟨45, 3, [[iA x.2.1.ep, ndA x.2.1.base, cmA x.2.1.log]], true⟩), (8, ⟨45, 3, [[iA x.2.2.1.ep, ndA x.2.2.1.base, cmA x.2.2.1.log]], true⟩), (9, ⟨3, 1, x.2.2.2.map inC, true⟩)]) (fun x => PJ t l x.1 x.2.1 x.2.2.1 x.2.2.2) (fun x => l.length - x.1) (0, ⟨0, t, []⟩, ⟨0, t, []⟩, []) (PJ.init ht l) ?_ ?_
  · refine wk_nil ?_ ?_ ?_ ?_ <;> simp [leL, leN, rowN2, nlE, nlC, nlv, idsL, idsA, idsR, inH, hget, upA, hvA, dsts, dstO, setA_0, setA_1, setA_8, List.append, List.cons_append, List.nil_append]
  · rintro ⟨k, a, b, ds⟩ hJ
    simp only [upA, hvA, dsts, dstO, setA_0, setA_1, setA_8, List.append, List.cons_append, List.nil_append]
    refine go_on ?_
    (try simp only [push_cast, simprocAttr])
    refine at_b (fun hg => ?_) (fun hg => ?_)
    · have hlt := lt_tt hg
      obtain ⟨e, he⟩ := get_of_lt hlt
      have i1 := ix_n he
      have i2 := map_get evC he
      simp only [evC] at i2
      have hp := hl.p e (List.mem_of_getElem? he)
      have w1 := wr ((k : Int) + 1) (by omega)
      have hdn : ds.length ≤ k := hJ.n
      have hmap : ds.map inC ++ [[iA (k : Int)]] = (ds ++ [(k : Int)]).map inC := by rw [List.map_append]; rfl
      (try simp only [hg, i1, i2, push_cast, simprocAttr])
      by_cases h1 : e.k = 1
      · have j1 : eqI e.k 1 = true := eqI_t h1
        have hS := SiteDo_d a hJ.sa e.c hp
        have hsm := siteDo_sm hJ.sa hp (s := a)
        obtain ⟨o, ok, hoo⟩ : ∃ o ok, siteDo a e.c = (o, ok) := ⟨_, _, rfl⟩
        have hJ2 := hJ.step he (evDo_1 h1) (by rw [hoo]; rw [hoo] at hsm; exact hsm) hJ.sb
        rw [hoo] at hS hJ2
        simp only at hS hJ2
        unfold stA' stC cmdA cmC at hS
        (try simp only [j1, push_cast, simprocAttr])
        ((try simp only [push_cast, simprocAttr]); refine at_share2 (by simp [isC2, isC]) (by first | rfl | simp [ren]) (hS) (go_on ?_); (try simp only [push_cast, simprocAttr]))
        cases ok with
        | false =>
          (try simp only [w1, push_cast, simprocAttr])
          refine at_fin ⟨(k + 1, o, b, ds), hJ2, by dsimp only; omega, ?_⟩
          (refine wk_ok ?_ ?_ ?_ ?_ <;> simp [leL, leH, idsL, idsA, idsR, inH, hget, sameRow, upA, hvA, dsts, dstO, setA_0, setA_1, setA_8, List.append, List.cons_append, List.nil_append])
        | true =>
          (try simp only [w1, push_cast, simprocAttr])
          refine at_chk (by omega) ?_
          (try simp only [w1, hmap, push_cast, simprocAttr])
          refine at_fin ⟨(k + 1, o, b, ds ++ [(k : Int)]), hJ2, by dsimp only; omega, ?_⟩
          simp only [List.length_append, List.length_cons, List.length_nil]
          (refine wk_ok ?_ ?_ ?_ ?_ <;> simp [leL, leH, idsL, idsA, idsR, inH, hget, sameRow, upA, hvA, dsts, dstO, setA_0, setA_1, setA_8, List.append, List.cons_append, List.nil_append])
      · have j1 : eqI e.k 1 = false := eqI_f h1
        by_cases h2 : e.k = 2
        · have j2 : eqI e.k 2 = true := eqI_t h2
          have hS := SiteDo_d b hJ.sb e.c hp
          have hsm := siteDo_sm hJ.sb hp (s := b)
          obtain ⟨o, ok, hoo⟩ : ∃ o ok, siteDo b e.c = (o, ok) := ⟨_, _, rfl⟩
          have hJ2 := hJ.step he (evDo_2 h2) hJ.sa (by rw [hoo]; rw [hoo] at hsm; exact hsm)
          rw [hoo] at hS hJ2
          simp only at hS hJ2
          unfold stA' stC cmdA cmC at hS
          (try simp only [j1, j2, push_cast, simprocAttr])
          ((try simp only [push_cast, simprocAttr]); refine at_share2 (by simp [isC2, isC]) (by first | rfl | simp [ren]) (hS) (go_on ?_); (try simp only [push_cast, simprocAttr]))
          cases ok with
          | false =>
            (try simp only [w1, push_cast, simprocAttr])
            refine at_fin ⟨(k + 1, a, o, ds), hJ2, by dsimp only; omega, ?_⟩
            (refine wk_ok ?_ ?_ ?_ ?_ <;> simp [leL, leH, idsL, idsA, idsR, inH, hget, sameRow, upA, hvA, dsts, dstO, setA_0, setA_1, setA_8, List.append, List.cons_append, List.nil_append])
          | true =>
            (try simp only [w1, push_cast, simprocAttr])
            refine at_chk (by omega) ?_
            (try simp only [w1, hmap, push_cast, simprocAttr])
            refine at_fin ⟨(k + 1, a, o, ds ++ [(k : Int)]), hJ2, by dsimp only; omega, ?_⟩
            simp only [List.length_append, List.length_cons, List.length_nil]
            (refine wk_ok ?_ ?_ ?_ ?_ <;> simp [leL, leH, idsL, idsA, idsR, inH, hget, sameRow, upA, hvA, dsts, dstO, setA_0, setA_1, setA_8, List.append, List.cons_append, List.nil_append])
        · have j2 : eqI e.k 2 = false := eqI_f h2
          have hR := SessionRun_e a b hJ.sa hJ.sb
          unfold stA' stC at hR
          (try simp only [j1, j2, push_cast, simprocAttr])
          ((try simp only [push_cast, simprocAttr]); refine at_share2 (by simp [isC2, isC]) (by first | rfl | simp [ren]) (hR) (go_on ?_); (try simp only [push_cast, simprocAttr]))
          cases hr : sRun a b with
          | none =>
            have hJ2 := hJ.step he (evDo_n h1 h2 hr) hJ.sa hJ.sb
            (try simp only [hr, Option.isSome_none, w1, push_cast, simprocAttr])
            refine at_fin ⟨(k + 1, a, b, ds), hJ2, by dsimp only; omega, ?_⟩
            (refine wk_ok ?_ ?_ ?_ ?_ <;> simp [leL, leH, idsL, idsA, idsR, inH, hget, sameRow, upA, hvA, dsts, dstO, setA_0, setA_1, setA_8, List.append, List.cons_append, List.nil_append])
          | some xy =>
            obtain ⟨x, y⟩ := xy
            have hJ2 := hJ.step he (evDo_s h1 h2 hr) (siteV_sm (law_session hr).1) (siteV_sm (law_session hr).2.1)
            (try simp only [hr, Option.isSome_some, rA_some hr, rB_some hr, w1, push_cast, simprocAttr])
            refine at_draw rfl (by kernel_rfl) ?_; simp only [push_cast, simprocAttr]
            refine at_done (by kernel_rfl) (by kernel_rfl) (go_on ?_)
            (try simp only [w1, push_cast, simprocAttr])
            refine at_chk (by omega) ?_
            (try simp only [w1, hmap, push_cast, simprocAttr])
            refine at_fin ⟨(k + 1, x, y, ds ++ [(k : Int)]), hJ2, by dsimp only; omega, ?_⟩
            simp only [List.length_append, List.length_cons, List.length_nil]
            (refine wk_ok ?_ ?_ ?_ ?_ <;> simp [leL, leH, idsL, idsA, idsR, inH, hget, sameRow, upA, hvA, dsts, dstO, setA_0, setA_1, setA_8, List.append, List.cons_append, List.nil_append])
    · have h3 := lt_ff hg
      have hd := hJ.done h3
      (try simp only [hg, push_cast, simprocAttr])
      refine at_draw rfl (by kernel_rfl) ?_; simp only [push_cast, simprocAttr]
      refine at_done (by kernel_rfl) (by kernel_rfl) (go_on ?_)
      (try simp only [push_cast, simprocAttr])
      refine at_ret ?_; simp only [Tryz.results36, push_cast, simprocAttr]
      rw [hd]
      simp [rX, ixOf]
theorem toNodeS_d (l : List Nd) (hl : l.length ≤ 1048576) : PC Tryz.prog 9 [ndA l] (vX (ndA l)) := by
  have := (toNodeS_pc l hl).frzX
  simpa [viewN, hpOf, hget, isC, tk] using this
theorem toEventS_d (l : List Ev) (hl : l.length ≤ 1048576) : PC Tryz.prog 10 [evsA l] (vX (evsA l)) := by
  have := (toEventS_pc l hl).frzX
  simpa [viewN, hpOf, hget, isC, tk, rowEv] using this
theorem specRoundDone_d (t : List Nd) (ht : SmT2 t) (l : List Ev) (hl : SmE l) : PC Tryz.prog 8 [ndA t, evsA l] (vX (inA (rDone t l))) := by
  have hV := l43Ok_pc t ht.s l hl
  cases h : rdV t l with
  | false =>
    rw [h] at hV
    rw [rDone_f h]
    refine PC.toF ?_
    refine pc_enter Tryz.func8 rfl rfl fun w0 fb => go_on ?_; (try simp only [Tryz.ntmps8, push_cast, simprocAttr])
    refine at_call ?_
    (try simp only [push_cast, simprocAttr])
    refine rwc_v hV ?_
    (try simp only [push_cast, simprocAttr])
    (refine at_dropS [4] (by refine wk_ok ?_ ?_ ?_ ?_ <;> simp [dropS, dropT, hasN, delL, hdel, leL, leH, idsL, idsA, idsR, inH, hget, sameRow]) ?_; simp only [dropS, dropT, hasN, delL, hdel, idsA, idsL, hget, List.map_cons, List.map_nil, List.all_cons, List.all_nil, List.append_nil, Bool.not_false, Bool.not_true, Bool.and_true, if_true, if_false, simprocAttr])
    refine go_on ?_
    (try simp only [Bool.not_false, push_cast, simprocAttr])
    refine at_ret ?_; simp only [Tryz.results8, push_cast, simprocAttr]
    simp [vF, viewN, isC, hpOf, hget, tk, ixOf]
  | true =>
    have hP := l43Play_d t ht l hl
    rw [rDone_t h]
    rw [h] at hV
    unfold stA' stC at *
    refine pc_enter Tryz.func8 rfl rfl fun w0 fb => go_on ?_; (try simp only [Tryz.ntmps8, push_cast, simprocAttr])
    (refine at_call ?_; (try simp only [push_cast, simprocAttr]); refine rwc_v (hV) (go_on ?_); (try simp only [push_cast, simprocAttr]))
    (try simp only [Bool.not_true, push_cast, simprocAttr])
    ((try simp only [push_cast, simprocAttr]); refine at_share2 (by simp [isC2, isC]) (by first | rfl | simp [ren]) (hP) (go_on ?_); (try simp only [push_cast, simprocAttr]))
    refine at_ret ?_; simp only [Tryz.results8, push_cast, simprocAttr]
    simp [vX]
theorem RoundDone_n (t : List Nd) (ht : SmT2 t) (l : List Ev) (hl : SmE l) (h : rdV t l = false) : PC Tryz.prog 11 [ndA t, evsA l] (rX (.o 0 0) [rowI []]) := by
  have hV := roundValid_pc t ht.s l hl
  rw [h] at hV
  refine pc_enter Tryz.func11 rfl rfl fun w0 fb => go_on ?_; (try simp only [Tryz.ntmps11, push_cast, simprocAttr])
  refine at_call ?_
  (try simp only [push_cast, simprocAttr])
  refine rwc_v hV ?_
  (try simp only [push_cast, simprocAttr])
  (refine at_dropS [4] (by refine wk_ok ?_ ?_ ?_ ?_ <;> simp [dropS, dropT, hasN, delL, hdel, leL, leH, idsL, idsA, idsR, inH, hget, sameRow]) ?_; simp only [dropS, dropT, hasN, delL, hdel, idsA, idsL, hget, List.map_cons, List.map_nil, List.all_cons, List.all_nil, List.append_nil, Bool.not_false, Bool.not_true, Bool.and_true, if_true, if_false, simprocAttr])
  refine go_on ?_
  (try simp only [Bool.not_false, push_cast, simprocAttr])
  refine at_ret ?_; simp only [Tryz.results11, push_cast, simprocAttr]
  simp [rX, ixOf, rowS]
theorem RoundDone_o1 (t : List Nd) (ht : SmT2 t) (l : List Ev) (hl : SmE l) (h : rdV t l = true) : PC Tryz.prog 11 [ndA t, evsA l] (rX (.o 0 (rDone t l).length) [rowI (rDone t l)]) := by
  have hV := roundValid_pc t ht.s l hl
  have hP := play_r t ht l hl
  rw [rDone_t h]
  rw [h] at hV
  unfold stA' stC at *
  refine pc_enter Tryz.func11 rfl rfl fun w0 fb => go_on ?_; (try simp only [Tryz.ntmps11, push_cast, simprocAttr])
  (refine at_call ?_; (try simp only [push_cast, simprocAttr]); refine rwc_v (hV) (go_on ?_); (try simp only [push_cast, simprocAttr]))
  (try simp only [Bool.not_true, push_cast, simprocAttr])
  refine call_share (by simp [isC]) hP ?_
  rintro rv rows ⟨rfl, rfl⟩
  refine ⟨by simp [frB, baseOf], go_on ?_⟩
  (try simp only [push_cast, simprocAttr])
  refine at_ret ?_; simp only [Tryz.results11, push_cast, simprocAttr]
  exact ⟨rfl, rfl⟩
theorem RoundApart_n (t : List Nd) (ht : SmT2 t) (l : List Ev) (hl : SmE l) (h : rdV t l = false) : PC Tryz.prog 20 [ndA t, evsA l] (rX (.o 0 0) [rowS []]) := by
  have hV := roundValid_pc t ht.s l hl
  rw [h] at hV
  refine pc_enter Tryz.func20 rfl rfl fun w0 fb => go_on ?_; (try simp only [Tryz.ntmps20, push_cast, simprocAttr])
  refine at_call ?_
  (try simp only [push_cast, simprocAttr])
  refine rwc_v hV ?_
  (try simp only [push_cast, simprocAttr])
  (refine at_dropS [4] (by refine wk_ok ?_ ?_ ?_ ?_ <;> simp [dropS, dropT, hasN, delL, hdel, leL, leH, idsL, idsA, idsR, inH, hget, sameRow]) ?_; simp only [dropS, dropT, hasN, delL, hdel, idsA, idsL, hget, List.map_cons, List.map_nil, List.all_cons, List.all_nil, List.append_nil, Bool.not_false, Bool.not_true, Bool.and_true, if_true, if_false, simprocAttr])
  refine go_on ?_
  (try simp only [Bool.not_false, push_cast, simprocAttr])
  refine at_ret ?_; simp only [Tryz.results20, push_cast, simprocAttr]
  simp [rX, ixOf, rowS]
theorem RoundApart_o1 (t : List Nd) (ht : SmT2 t) (l : List Ev) (hl : SmE l) (h : rdV t l = true) : PC Tryz.prog 20 [ndA t, evsA l] (rX (.o 0 (rApart t l).length) [rowS (rApart t l)]) := by
  have hV := roundValid_pc t ht.s l hl
  have hP := play_d t ht l hl
  have hsm := rPlay_sm t l
  rw [rPlay_t h] at hsm
  have hA := SiteTree_d (pl t l).1 hsm.1
  have hB := SiteTree_d (pl t l).2.1 hsm.2
  have hC := TreeChanged_pc (siteT (pl t l).1) (siteT (pl t l).2.1) (siteT_sm hsm.1).s (siteT_sm hsm.2).s
  rw [rApart_t h]
  rw [h] at hV
  unfold stA' stC at *
  refine pc_enter Tryz.func20 rfl rfl fun w0 fb => go_on ?_; (try simp only [Tryz.ntmps20, push_cast, simprocAttr])
  (refine at_call ?_; (try simp only [push_cast, simprocAttr]); refine rwc_v (hV) (go_on ?_); (try simp only [push_cast, simprocAttr]))
  (try simp only [Bool.not_true, push_cast, simprocAttr])
  ((try simp only [push_cast, simprocAttr]); refine at_share2 (by simp [isC2, isC]) (by first | rfl | simp [ren]) (hP) (go_on ?_); (try simp only [push_cast, simprocAttr]))
  refine at_draw rfl (by kernel_rfl) ?_; simp only [push_cast, simprocAttr]
  (refine at_shareD (by simp [isC2, isC]) (by first | rfl | simp [ren]) hA ?_; (try simp only [push_cast, simprocAttr]))
  (refine at_shareD (by simp [isC2, isC]) (by first | rfl | simp [ren]) hB ?_; (try simp only [push_cast, simprocAttr]))
  (refine at_callD (by simp [clB, idsL, idsA, hget]) ?_; (try simp only [push_cast, simprocAttr]); refine rcd_r hC (by simp [flatV, flatL]) (flat_s _) (by simp [frB, baseOf]) ?_; (try simp only [push_cast, simprocAttr]))
  refine at_done (by kernel_rfl) (by kernel_rfl) (go_on ?_)
  (try simp only [push_cast, simprocAttr])
  refine at_ret ?_; simp only [Tryz.results20, push_cast, simprocAttr]
  simp only [rowS, push_cast, simprocAttr]
  simp [rX, ixOf, rowS]
theorem rApart_len (t : List Nd) (l : List Ev) : (rApart t l).length ≤ 20 := by
  unfold rApart
  split
  · have h : ∀ a b : List Nd, (chg a b).length ≤ 20 := fun a b => by
      unfold chg
      split
      · rename_i h
        simp only [Bool.and_eq_true, tV_iff] at h
        have h1 := h.1.le
        have h2 := h.2.le
        have h3 := mrgL_len a b
        have h4 := List.length_filter_le (fun p => decide (getC a p ≠ getC b p)) (mrg a b)
        omega
      · simp
    exact h _ _
  · simp
theorem RoundDone_o (t : List Nd) (ht : SmT2 t) (l : List Ev) (hl : SmE l) : PC Tryz.prog 11 [ndA t, evsA l] (rX (.o 0 (rDone t l).length) [rowI (rDone t l)]) := by
  cases h : rdV t l with
  | false => rw [rDone_f h]; exact RoundDone_n t ht l hl h
  | true => exact RoundDone_o1 t ht l hl h
theorem RoundApart_o (t : List Nd) (ht : SmT2 t) (l : List Ev) (hl : SmE l) : PC Tryz.prog 20 [ndA t, evsA l] (rX (.o 0 (rApart t l).length) [rowS (rApart t l)]) := by
  cases h : rdV t l with
  | false => rw [rApart_f h]; exact RoundApart_n t ht l hl h
  | true => exact RoundApart_o1 t ht l hl h
end Go.Proofs.YthifgndjpjaddaaGreatDoor
