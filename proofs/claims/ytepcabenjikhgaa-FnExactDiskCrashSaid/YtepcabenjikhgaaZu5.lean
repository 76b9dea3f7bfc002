/- A part of the proof of FnExactDiskCrash: texts N37 VFnExactDiskCrash. -/
import Derived.Test.YtepcabenjikhgaaZu4
set_option linter.unusedSimpArgs false
set_option linter.unusedVariables false
/-
  Walks: DiskCrash, set aside.
-/
namespace Go.Proofs.Ytepcabenjikhgaa
open Go Go.RowKit Go.Proofs
def crU (keep : List Int) (bs : List BD) (i : Nat) : List BD := (bs.map (crF keep)).take i ++ bs.drop i
theorem crU_len (keep : List Int) (bs : List BD) (i : Nat) (h : i ≤ bs.length) : (crU keep bs i).length = bs.length := by simp [crU]; omega
theorem crU_at {keep : List Int} {i : Nat} {bs : List BD} {d : BD} (hd : bs[i]? = some d) : (crU keep bs i)[i]? = some d := by
  have := lt_of_some hd
  unfold crU
  rw [List.getElem?_append_right (by simp; omega), List.length_take, List.length_map, Nat.min_eq_left (by omega), Nat.sub_self, List.getElem?_drop, Nat.add_zero]
  exact hd
theorem crU_set {keep : List Int} {i : Nat} {bs : List BD} {d : BD} (hd : bs[i]? = some d) : (crU keep bs i).set i (crF keep d) = crU keep bs (i + 1) := up_set (by rw [List.getElem?_map, hd]; rfl) (lt_of_some hd)
theorem crU_0 (keep : List Int) (bs : List BD) : crU keep bs 0 = bs := by simp [crU]
theorem crU_n (keep : List Int) (bs : List BD) : crU keep bs bs.length = bs.map (crF keep) := by
  unfold crU
  rw [List.drop_length, List.append_nil, List.take_of_length_le (by simp)]
/-- Between two files: one of them read as data. -/
structure CJ (keep : List Int) (bs : List BD) (w00 : World) (x : Nat) (us : UU) (w2 : World) (lent2 : Lent) : Prop where
  le : x ≤ bs.length
  ch : Ch w00 w2 lent2
  len : us.length = bs.length
  apart : (flU us).Pairwise fun a b => ∀ g, a.ownBlock = some g → b.ownBlock ≠ some g
  inn : ∀ (i : Nat) d q, (crU keep bs x)[i]? = some d → us[i]? = some q → i ≠ x → OwI w2 lent2.fb q.1 d.safe ∧ OwI w2 lent2.fb q.2 d.fresh
  pin : x < bs.length → lent2.pin 500003 = some none
def cjH (keep : List Int) (bs : List BD) (x : Nat) (us : UU) : Hp := match bs[x]? with
  | some d => [(500000, ⟨55, 3, (esT (crU keep bs x) us).set x [iA d.name, intsA d.safe, intsA d.fresh], true⟩), (500003, rowZ [])]
  | none => [(500000, rowT (crU keep bs x) us)]
theorem crash_free {keep : List Int} {bs : List BD} {us : UU} {w00 w1 w : World} {lent1 : Lent} {t : List AV} {loc : Loc} {a : Act} {x : Nat} (hx : x ≤ bs.length) (hR : Rel w1 lent1 ⟨t, [(500000, rowT (crU keep bs x) us)]⟩ loc a w) (hgh : Gh w lent1.fb (crU keep bs x) us) (hch : Ch w00 w1 lent1) :
    ∃ w3 lent3 loc3, CJ keep bs w00 x us w3 lent3 ∧ Rel w3 lent3 ⟨t.map (clS 500000), cjH keep bs x us⟩ loc3 a w := by
  have hl : us.length = bs.length := by rw [hgh.len, crU_len keep bs x hx]
  cases hb : bs[x]? with
  | none =>
    have hnx : bs.length ≤ x := by
      rcases Nat.lt_or_ge x bs.length with h | h
      · rw [List.getElem?_eq_getElem h] at hb; cases hb
      · exact h
    refine ⟨w1, lent1, loc, ⟨hx, hch, hl, hgh.apart, fun i d q h1 h2 _ => ?_, fun h => by omega⟩, ?_⟩
    · have := hgh.inn i d q h1 h2
      exact ⟨this.1.same (fun b h => (hR.fbk h).symm) fun _ h => h, this.2.same (fun b h => (hR.fbk h).symm) fun _ h => h⟩
    · have := hR.cls 500000
      unfold cjH
      rw [hb]
      exact this
  | some d =>
    have hd := crU_at (keep := keep) hb
    obtain ⟨q, hq⟩ := hgh.at hd
    have hqi := hgh.inn x d q hd hq
    obtain ⟨lent4, loc4, hR4, hfb4, hkp4, hch4, hpin⟩ := hR.free (R := 500000) (E0 := esT (crU keep bs x) us) rfl (by decide) esT_c (esT_at hd hq) hqi.1 hqi.2
    refine ⟨w, lent4, loc4, ⟨hx, hch4 _ _ hch, hl, hgh.apart, fun i e r k1 k2 hne => ?_, fun _ => hpin⟩, ?_⟩
    · have := hgh.inn i e r k1 k2
      have n1 := fun v (hv : v = r.1 ∨ v = r.2) => apart_ne hgh.apart k2 hq hne hv (v' := q.1) (.inl rfl)
      have n2 := fun v (hv : v = r.1 ∨ v = r.2) => apart_ne hgh.apart k2 hq hne hv (v' := q.2) (.inr rfl)
      rw [hfb4]
      exact ⟨⟨this.1.1, fun g hg => ⟨this.1.2 g hg, n1 _ (.inl rfl) g hg, n2 _ (.inl rfl) g hg⟩⟩, ⟨this.2.1, fun g hg => ⟨this.2.2 g hg, n1 _ (.inr rfl) g hg, n2 _ (.inr rfl) g hg⟩⟩⟩
    · unfold cjH
      rw [hb]
      exact hR4
attribute [local irreducible] RWp AW run kPe pe Kt effA gd gu br retR RDp runD kPeD brW gW effD
set_option maxRecDepth 100000
theorem crashNo_pc (n : Int) : PC Try.prog 38 [iA n] (vB (!inR n 0 400)) := by
  refine pc_enter Try.func38 rfl rfl fun w0 fb => go_on ?_; (try simp only [Try.ntmps38, push_cast, simprocAttr])
  (refine at_call ?_; (try simp only [push_cast, simprocAttr]); refine rwc_v (in_pc n 0 400) (go_on ?_); (try simp only [push_cast, simprocAttr]))
  refine at_ret ?_; simp only [Try.results38, push_cast, simprocAttr]
  simp [vX]
theorem DiskCrash_o (bs : List BD) (hs : SmB bs) (keep : List Int) (hk : keep.length ≤ 2000000) : PO Try.prog 15 [blsA bs, intsA keep] (otB (crashP bs keep).1 (crashP bs keep).2) := by
  have hV := DiskValid_pc bs hs
  have hn := hs.n
  have hCF := ContainsFuncI_pc keep (by omega) 38 [] rfl (fun n => !inR n 0 400) (fun n _ => crashNo_pc n)
  have hany : (keep.any fun n => !inR n 0 400) = !(keep.all fun n => inR n 0 400) := by simp [List.not_all_eq_any_not]
  rw [hany] at hCF
  refine po_enter Try.func15 rfl rfl fun w0 => go_on ?_; (try simp only [Try.ntmps15, push_cast, simprocAttr])
  refine at_call ?_
  (try simp only [push_cast, simprocAttr])
  refine rwc_v hV ?_
  (try simp only [push_cast, simprocAttr])
  (refine at_dropS [4] (by refine wk_ok ?_ ?_ ?_ ?_ <;> simp [dropS, dropT, hasN, delL, hdel, leL, leH, idsL, idsA, idsR, inH, hget, sameRow]) ?_; simp only [dropS, dropT, hasN, delL, hdel, idsA, idsL, hget, List.map_cons, List.map_nil, List.all_cons, List.all_nil, List.append_nil, Bool.not_false, Bool.not_true, Bool.and_true, if_true, if_false, simprocAttr])
  refine go_on ?_
  cases hb : (diskB bs && okK keep) with
  | false =>
    rw [crashP_bad hb]
    cases hv : diskB bs with
    | false =>
      (try simp only [hv, Bool.not_false, push_cast, simprocAttr])
      (refine at_retO (Ch.refl w0) (l := [.o 4 0, bA false]) (by simp only [Try.results15, push_cast, simprocAttr]) ?_)
      exact fun loc a w v hR hG => ownNil (Ch.refl w0) rfl hR hG
    | true =>
      by_cases h3 : keep.length ≤ 3
      · have e1 : ltI 3 (keep.length : Int) = false := ltI_f (by omega)
        have hall : (keep.all fun n => inR n 0 400) = false := by simpa [hv, okK, h3] using hb
        (try simp only [hv, Bool.not_true, e1, push_cast, simprocAttr])
        (refine at_call ?_; (try simp only [push_cast, simprocAttr]); refine rwc_v (hCF) (go_on ?_); (try simp only [push_cast, simprocAttr]))
        (try simp only [hall, Bool.not_false, push_cast, simprocAttr])
        (refine at_retO (Ch.refl w0) (l := [.o 4 0, bA false]) (by simp only [Try.results15, push_cast, simprocAttr]) ?_)
        exact fun loc a w v hR hG => ownNil (Ch.refl w0) rfl hR hG
      · have e1 : ltI 3 (keep.length : Int) = true := ltI_t (by omega)
        (try simp only [hv, Bool.not_true, e1, push_cast, simprocAttr])
        (refine at_retO (Ch.refl w0) (l := [.o 4 0, bA false]) (by simp only [Try.results15, push_cast, simprocAttr]) ?_)
        exact fun loc a w v hR hG => ownNil (Ch.refl w0) rfl hR hG
  | true =>
    rw [crashP_ok hb]
    rw [Bool.and_eq_true] at hb
    obtain ⟨hv, hkk⟩ := hb
    unfold okK at hkk
    rw [Bool.and_eq_true, decide_eq_true_eq] at hkk
    obtain ⟨h3, hall⟩ := hkk
    have hn3 := disk_len hv
    have e1 : ltI 3 (keep.length : Int) = false := ltI_f (by omega)
    (try simp only [hv, Bool.not_true, e1, push_cast, simprocAttr])
    (refine at_call ?_; (try simp only [push_cast, simprocAttr]); refine rwc_v (hCF) (go_on ?_); (try simp only [push_cast, simprocAttr]))
    (try simp only [hall, Bool.not_true, push_cast, simprocAttr])
    refine call_PO rfl [blsA bs] ⟨ga_c rfl, trivial⟩ (cloneDisk_o bs hs) ?_
    rintro w2 lent2 X x hN ⟨u, us, rfl, hO⟩
    refine AW.re rfl fun loc a w hR => ?_
    obtain ⟨lent3, loc3, hR3, hgh, hch3, _, hkp3, _⟩ := hR.adopt' 23 rfl hO hN.xfb
    have c3 := hch3 _ _ (hN.ch _ _ (Ch.refl w0))
    refine ⟨w, lent3, _, loc3, hR3, ?_⟩
    clear hR hR3 hO hN hkp3 hch3
    simp only [AS.put, setA, cl0, isC, List.map_cons, List.map_nil, List.set_cons_succ, List.set_cons_zero, if_true, if_false, simprocAttr]
    refine go_on ?_
    (try simp only [push_cast, simprocAttr])
    refine at_loopR (X := Nat × UU) (fun x => [(26, iA x.1)]) (fun x => cjH keep bs x.1 x.2) (fun x w lent => CJ keep bs w0 x.1 x.2 w lent) (fun x => bs.length - x.1) rfl (fun loc a w1 hR => ?_) ?_
    · obtain ⟨w3, lent3, loc3, h1, h2⟩ := crash_free (keep := keep) (x := 0) (us := us) (w00 := w0) (Nat.zero_le _) (by rw [crU_0]; exact hR) (by rw [crU_0]; exact hgh.same (fun b h => hR.fbk h) fun _ h => h) c3
      refine from_wk (0, us) h1 (wk_t ?_) loc3 a w1 h2
      simp [leL, clS, isC, upA, hvA, dsts, dstO, setA_0, setA_1, setA_8, List.append, List.cons_append, List.nil_append]
    · rintro ⟨k, us⟩ w2 lent2 hJ
      have h1 := hJ.le
      have hlen := hJ.len
      dsimp only at h1 hlen
      simp only [upA, hvA, dsts, dstO, setA_0, setA_1, setA_8, List.append, List.cons_append, List.nil_append]
      by_cases hlt : k < bs.length
      · obtain ⟨d, hd⟩ := get_of_lt hlt
        have hmj : cjH keep bs k us = [(500000, ⟨55, 3, (esT (crU keep bs k) us).set k [iA d.name, intsA d.safe, intsA d.fresh], true⟩), (500003, rowZ [])] := by unfold cjH; rw [hd]
        rw [hmj]
        have hpin := hJ.pin hlt
        have hcd := crU_at (keep := keep) hd
        have hlenU := crU_len keep bs k h1
        have hel : (esT (crU keep bs k) us).length = bs.length := by rw [esT_len (by rw [hlen, hlenU]), hlenU]
        have i1 := ix_n hd
        have i3 : ∀ z, ((esT (crU keep bs k) us).set k z)[k]? = some z := fun z => by rw [List.getElem?_set_self (by omega)]
        have i0 : ltI (k : Int) bs.length = true := ltI_t (by omega)
        have hok := disk_okF hv (mem_of_get hd)
        simp only [okF, inB, Bool.and_eq_true, decide_eq_true_eq] at hok
        obtain ⟨K, hK⟩ : ∃ K, K = keepN keep d := ⟨_, rfl⟩
        have hKl : (K : Int) ≤ d.fresh.length := by
          rw [hK]; unfold keepN
          split <;> omega
        have w1 := wr ((k : Int) + 1) (by omega)
        have hC := Concat_pc [d.safe, d.fresh.take K] (by simp) (by simp; omega)
        simp only [List.map_cons, List.map_nil, szC, List.flatten_cons, List.flatten_nil, List.append_nil] at hC
        rw [show intsA (List.take K d.fresh) = .sl 1 (List.take K (List.map inC d.fresh)) from by rw [← List.map_take]] at hC
        refine go_on ?_
        (try simp only [i0, i1, i3, push_cast, simprocAttr])
        by_cases hle : d.name ≤ keep.length
        · have e2 : leI d.name keep.length = true := by simpa [leI] using hle
          have w2 : IntKind.i64.wrap (d.name - 1) = d.name - 1 := wr _ (by omega)
          obtain ⟨kv, hkv⟩ : ∃ kv, keep[(d.name - 1).toNat]? = some kv := ⟨keep[(d.name - 1).toNat]'(by omega), List.getElem?_eq_getElem _⟩
          have i5 : toIx (d.name - 1) keep.length = some (d.name - 1).toNat := by unfold toIx; rw [if_pos (by omega)]
          have i4 := map_get inC hkv
          simp only [inC] at i4
          have hmin : (if (d.fresh.length : Int) < kv then (d.fresh.length : Int) else kv) = (K : Int) := by
            have := List.all_eq_true.1 hall kv (mem_of_get hkv)
            simp only [inR, Bool.and_eq_true, decide_eq_true_eq] at this
            rw [hK, keepN, if_pos hle, hkv, Option.getD_some]
            split <;> omega
          (try simp only [e2, push_cast, simprocAttr])
          refine at_draw rfl (by kernel_rfl) ?_; simp only [push_cast, simprocAttr]
          (try simp only [i5, i4, w2, push_cast, simprocAttr])
          rw [hmin]
          refine at_done (by kernel_rfl) (by kernel_rfl) (go_on ?_)
          (try simp only [push_cast, simprocAttr])
          refine at_draw rfl (by kernel_rfl) ?_; simp only [push_cast, simprocAttr]
          (try simp only [i1, i3, List.set_set, hKl, if_true, push_cast, simprocAttr])
          (refine at_callD (by simp [clB, idsL, idsA, hget]) ?_; (try simp only [push_cast, simprocAttr]); refine rcd_r hC (by simp [flatV, flatL]) (flat_i _) (by simp [frB, baseOf]) ?_; (try simp only [push_cast, simprocAttr]))
          (try simp only [i1, i3, List.set_set, push_cast, simprocAttr])
          refine at_done (by kernel_rfl) (by kernel_rfl) (go_on_n 5 ?_)
          (try simp only [i1, i3, List.set_set, push_cast, simprocAttr])
          rw [run_0]
          refine at_more ?_
          refine aw_storeN 500003 hpin rfl (h' := [(500000, ⟨55, 3, (esT (crU keep bs k) us).set k [iA d.name, .o 56000 (d.safe ++ List.take K d.fresh).length, .o 500003 0], false⟩), (500003, rowZ []), (8, ⟨55, 3, [[iA d.name, intsA d.safe, intsA d.fresh]], true⟩), (54, ⟨23, 1, [[intsA d.safe], [.sl 1 (List.take K (List.map inC d.fresh))]], true⟩), (56000, rowZ (d.safe ++ List.take K d.fresh))]) (by simp only [i3, List.set_set, push_cast, simprocAttr]) ?_
          refine go_on ?_
          (try simp only [w1, push_cast, simprocAttr])
          refine at_fin fun loc a w hR => ?_
          obtain ⟨u1, u2, lent6, loc6, hR6, o1, o2, hap, n1, n2, hsub, hkp, hch6, _, _, _, _, hl6⟩ := hR.unlink (R := 500000) (x := .o 56000 (d.safe ++ List.take K d.fresh).length) (y := .o 500003 ([] : List Int).length) (nm := d.name) rfl rfl rfl (.o rfl) (.o rfl) (by simp [idsA]) (by simp [idsA]) (by simp [idsA])
            (fun u1 u2 => (esT (crU keep bs k) us).set k [iA d.name, .v u1, .v u2]) (fun u1 u2 => set_rel esT_c (by omega))
          have hcr : (⟨d.name, d.safe ++ List.take K d.fresh, []⟩ : BD) = crF keep d := by rw [hK]; rfl
          rw [esT_set2 (d := ⟨d.name, d.safe ++ List.take K d.fresh, []⟩) (p := (u1, u2)) (by rw [hlen, hlenU]) (by rw [hlenU]; exact hlt), hcr, crU_set hd] at hR6
          have hG2 := Gh.set (d := ⟨d.name, d.safe ++ List.take K d.fresh, []⟩) (by rw [hlen, hlenU]) (by rw [hlenU]; exact hlt) hJ.inn hJ.apart hkp hsub o1 o2 hap n1 n2
          rw [hcr, crU_set hd] at hG2
          obtain ⟨w3, lent3, loc3, j1, j2⟩ := crash_free (keep := keep) (x := k + 1) (us := us.set k (u1, u2)) (w00 := w0) hlt hR6 hG2 (hch6 _ _ hJ.ch)
          refine from_wk2 j2 (k + 1, us.set k (u1, u2)) j1 (by dsimp only; omega) (wk_t ?_)
          simp [leL, clS, isC, upA, hvA, dsts, dstO, setA_0, setA_1, setA_8, List.append, List.cons_append, List.nil_append]
        · have e2 : leI d.name keep.length = false := by simpa [leI] using hle
          have hK0 : K = 0 := by rw [hK]; unfold keepN; rw [if_neg hle]
          have hKl0 : (0 : Int) ≤ d.fresh.length := by omega
          rw [show AV.sl 1 (List.take K (List.map inC d.fresh)) = .sl 1 [] from by rw [hK0]; rfl] at hC
          (try simp only [e2, push_cast, simprocAttr])
          refine at_draw rfl (by kernel_rfl) ?_; simp only [push_cast, simprocAttr]
          (try simp only [i1, i3, List.set_set, hKl0, if_true, push_cast, simprocAttr])
          (refine at_callD (by simp [clB, idsL, idsA, hget]) ?_; (try simp only [push_cast, simprocAttr]); refine rcd_r hC (by simp [flatV, flatL]) (flat_i _) (by simp [frB, baseOf]) ?_; (try simp only [push_cast, simprocAttr]))
          (try simp only [i1, i3, List.set_set, push_cast, simprocAttr])
          refine at_done (by kernel_rfl) (by kernel_rfl) (go_on_n 5 ?_)
          (try simp only [i1, i3, List.set_set, push_cast, simprocAttr])
          rw [run_0]
          refine at_more ?_
          refine aw_storeN 500003 hpin rfl (h' := [(500000, ⟨55, 3, (esT (crU keep bs k) us).set k [iA d.name, .o 56000 (d.safe ++ List.take K d.fresh).length, .o 500003 0], false⟩), (500003, rowZ []), (8, ⟨55, 3, [[iA d.name, intsA d.safe, intsA d.fresh]], true⟩), (54, ⟨23, 1, [[intsA d.safe], [.sl 1 []]], true⟩), (56000, rowZ (d.safe ++ List.take K d.fresh))]) (by simp only [i3, List.set_set, push_cast, simprocAttr]) ?_
          refine go_on ?_
          (try simp only [w1, push_cast, simprocAttr])
          refine at_fin fun loc a w hR => ?_
          obtain ⟨u1, u2, lent6, loc6, hR6, o1, o2, hap, n1, n2, hsub, hkp, hch6, _, _, _, _, hl6⟩ := hR.unlink (R := 500000) (x := .o 56000 (d.safe ++ List.take K d.fresh).length) (y := .o 500003 ([] : List Int).length) (nm := d.name) rfl rfl rfl (.o rfl) (.o rfl) (by simp [idsA]) (by simp [idsA]) (by simp [idsA])
            (fun u1 u2 => (esT (crU keep bs k) us).set k [iA d.name, .v u1, .v u2]) (fun u1 u2 => set_rel esT_c (by omega))
          have hcr : (⟨d.name, d.safe ++ List.take K d.fresh, []⟩ : BD) = crF keep d := by rw [hK]; rfl
          rw [esT_set2 (d := ⟨d.name, d.safe ++ List.take K d.fresh, []⟩) (p := (u1, u2)) (by rw [hlen, hlenU]) (by rw [hlenU]; exact hlt), hcr, crU_set hd] at hR6
          have hG2 := Gh.set (d := ⟨d.name, d.safe ++ List.take K d.fresh, []⟩) (by rw [hlen, hlenU]) (by rw [hlenU]; exact hlt) hJ.inn hJ.apart hkp hsub o1 o2 hap n1 n2
          rw [hcr, crU_set hd] at hG2
          obtain ⟨w3, lent3, loc3, j1, j2⟩ := crash_free (keep := keep) (x := k + 1) (us := us.set k (u1, u2)) (w00 := w0) hlt hR6 hG2 (hch6 _ _ hJ.ch)
          refine from_wk2 j2 (k + 1, us.set k (u1, u2)) j1 (by dsimp only; omega) (wk_t ?_)
          simp [leL, clS, isC, upA, hvA, dsts, dstO, setA_0, setA_1, setA_8, List.append, List.cons_append, List.nil_append]
      · obtain rfl : k = bs.length := by omega
        have hmj : cjH keep bs bs.length us = [(500000, rowT (bs.map (crF keep)) us)] := by
          unfold cjH
          rw [List.getElem?_eq_none (Nat.le_refl _), crU_n]
        rw [hmj]
        have hgh : Gh w2 lent2.fb (bs.map (crF keep)) us := ⟨by rw [List.length_map]; exact hlen, fun i d q k1 k2 => hJ.inn i d q (by rw [crU_n]; exact k1) k2 (by have := lt_of_some k1; rw [List.length_map] at this; dsimp only; omega), hJ.apart⟩
        have hch := hJ.ch
        have i0 : ltI (bs.length : Int) bs.length = false := ltI_f (by omega)
        refine go_on ?_
        (try simp only [i0, push_cast, simprocAttr])
        (refine at_retO hch (l := [.o 500000 bs.length, bA true]) (by simp only [Try.results15, push_cast, simprocAttr]) ?_)
        intro loc a w v hR hG
        obtain ⟨v0, hv0, hv1⟩ := hG.tupOB
        refine ⟨_, hv1, v0, us, rfl, ?_⟩
        exact hR.toOT hch (R := 500000) rfl hgh (by rw [hv0, List.length_map])
end Go.Proofs.Ytepcabenjikhgaa
/-
  Walks: the law FnExactDiskCrash.
-/
namespace Go.Proofs.Ytepcabenjikhgaa
open Go Go.RowKit Go.Proofs
attribute [local irreducible] RWp AW run kPe pe Kt effA gd gu br retR RDp runD kPeD brW gW effD
set_option maxRecDepth 100000
set_option maxHeartbeats 4000000
theorem FnExactDiskCrash_0 (bs : List BD) (q1 : bs.length ≤ 9223372036854775807) (q2 : ∀ d ∈ bs, d.safe.length ≤ 9223372036854775807 ∧ d.fresh.length ≤ 9223372036854775807)  (hb0 : bs = [])  (keep : List Int) (qk : keep.length ≤ 9223372036854775807) : PC Try.prog 3 [blsA bs, intsA keep] (vB true) := by
  have hZ := szBlobS_pc bs 1048576 (by omega) (by omega) q1 q2
  subst hb0
  refine PO.pc (v0 := .bool true) ?_
  refine po_enter Try.func3 rfl rfl fun w0 => go_on ?_; (try simp only [Try.ntmps3, push_cast, simprocAttr])
  refine at_b (fun hb => ?_) (fun hb => ?_)
  · (try simp only [hb, push_cast, simprocAttr])
    (refine at_retO (Ch.refl w0) (l := [bA true]) (by simp only [Try.results3, push_cast, simprocAttr]) ?_)
    exact fun loc a w v hR hG => poB hG
  have hk := of_ltI_f hb
  (try simp only [hb, push_cast, simprocAttr])
  (refine at_call ?_; (try simp only [push_cast, simprocAttr]); refine rwc_v (hZ) (go_on ?_); (try simp only [push_cast, simprocAttr]))
  refine at_b (fun hb => ?_) (fun hb => ?_)
  · (try simp only [hb, push_cast, simprocAttr])
    (refine at_retO (Ch.refl w0) (l := [bA true]) (by simp only [Try.results3, push_cast, simprocAttr]) ?_)
    exact fun loc a w v hR hG => poB hG
  have hz : SzB ([] : List BD) := ⟨by simp, fun d hd => by simp at hd⟩
  have hs : SmB [] := hz.sm
  have hn := hs.n
  have hn2 := hz.n
  have hTd := toBlobS_d [] hz
  have hSp := specDiskCrash_d [] hs keep (by omega)
  have hIo := DiskCrash_o [] hs keep (by omega)
  have hE0 := eqBlobS_pc [] [] (by omega) hs.d8
  obtain ⟨⟨Y, ok⟩, hY⟩ : ∃ Y, Y = crashP [] keep := ⟨_, rfl⟩
  obtain ⟨hYs, hYt⟩ := disk_tot (crashP_disk hY)
  rw [← hY] at hSp hIo
  dsimp only at hSp hIo
  have hId := hIo.db
  have hE1 := eqBlobS_pc Y Y (by have := hYs.n; omega) hYs.d8
  rw [decide_eq_true rfl] at hE0 hE1
  have hH := heldBlobS_pc Y 1 (by omega) (by omega)
  have hTi := toIntS_pc keep (by omega)
  have hTid : PC Try.prog 14 [intsA keep] (vX (intsA keep)) := by
    have := hTi.frzX
    simpa [viewN, hpOf, hget, isC, tk] using this
  have hEi := eqIntS_pc' keep keep (by omega)
  rw [decide_eq_true rfl] at hEi
  have hMz := markZ_pcl keep (1 + 0) (by omega) (by omega)
  have e0 : ltI ((1 + 0 + keep.length : Nat) : Int) 0 = false := ltI_f (by omega)
  push_cast at e0 hMz
  have e1 : ltI ((1 + 0 : Nat) : Int) 0 = false := ltI_f (by omega)
  have e2 : ltI ((1 + tot Y : Nat) : Int) 0 = false := ltI_f (by omega)
  have e3 : eqI ((1 + tot Y : Nat) : Int) ((1 + tot Y : Nat) : Int) = true := eqI_self _
  have e4 : (!(ok == ok)) = false := by cases ok <;> rfl
  push_cast at e1 e2 e3 hH
  (try simp only [hb, push_cast, simprocAttr])
  ((try simp only [push_cast, simprocAttr]); refine at_share2 (by simp [isC2, isC]) (by first | rfl | simp [ren]) (hTd) (go_on ?_); (try simp only [push_cast, simprocAttr]))
  ((try simp only [push_cast, simprocAttr]); refine at_share2 (by simp [isC2, isC]) (by first | rfl | simp [ren]) (hTid) (go_on ?_); (try simp only [push_cast, simprocAttr]))
  ((try simp only [push_cast, simprocAttr]); refine at_share2 (by simp [isC2, isC]) (by first | rfl | simp [ren]) (hSp) (go_on ?_); (try simp only [push_cast, simprocAttr]))
  have c2 := Ch.refl w0
  ((try simp only [push_cast, simprocAttr]); refine at_share2 (by simp [isC2, isC]) (by first | rfl | simp [ren]) (hTd) (go_on ?_); (try simp only [push_cast, simprocAttr]))
  (refine at_call ?_; (try simp only [push_cast, simprocAttr]); refine rwc_r (hTi) (by simp [flatV, flatL]) (flat_i _) (by simp [frB, baseOf]) (go_on ?_); (try simp only [push_cast, simprocAttr]))
  refine call_PO rfl [blsA [], intsA keep] ⟨ga_c rfl, ga_v (by simp [viewN, hget, tk, isC]), trivial⟩ hIo ?_
  rintro w3 lent3 X1 x hN1 ⟨u1, us1, rfl, hO1⟩
  have c3 := hN1.ch _ _ c2
  have hX1 := hN1.xfb
  clear hN1 c2
  rcases hO1.nil_or with ⟨rfl, hY0⟩ | ⟨g1, cp1, rfl⟩
  · subst hY0
    refine go_on ?_
    (try simp only [push_cast, simprocAttr])
    (refine at_call ?_; (try simp only [push_cast, simprocAttr]); refine rwc_v (hE1) (go_on ?_); (try simp only [push_cast, simprocAttr]))
    (try simp only [Bool.not_true, e4, push_cast, simprocAttr])
    ((try simp only [push_cast, simprocAttr]); refine at_share2 (by simp [isC2, isC]) (by first | rfl | simp [ren]) (hTd) (go_on ?_); (try simp only [push_cast, simprocAttr]))
    (refine at_call ?_; (try simp only [push_cast, simprocAttr]); refine rwc_v (hE0) (go_on ?_); (try simp only [push_cast, simprocAttr]))
    (try simp only [Bool.not_true, push_cast, simprocAttr])
    ((try simp only [push_cast, simprocAttr]); refine at_share2 (by simp [isC2, isC]) (by first | rfl | simp [ren]) (hTid) (go_on ?_); (try simp only [push_cast, simprocAttr]))
    (refine at_call ?_; (try simp only [push_cast, simprocAttr]); refine rwc_v (hEi) (go_on ?_); (try simp only [push_cast, simprocAttr]))
    (try simp only [Bool.not_true, push_cast, simprocAttr])
    (refine at_call ?_; (try simp only [push_cast, simprocAttr]); refine rwc_v (markBlobS_nil 1) (go_on ?_); (try simp only [push_cast, simprocAttr]))
    have hO1b := hO1
    have hX1b := hX1
    have c4 := c3
    (try simp only [push_cast, simprocAttr])
    (try simp only [push_cast, simprocAttr]); refine call_lend [37000] none (lr := [rowZ keep]) (by simp [ndB]) (by first | rfl | simp [rowsOf, hget, rdR, rowS, sC, ndC, cmC]) (by simp [idsL, idsA]) (by simp [mvN]) (by simpa [rnA, ixOf] using hMz) ?_
    rintro rv lr' rows ⟨rfl, rfl, rfl⟩
    (refine ⟨by simp [shB, mvF, rdR, rowS, mkZ_len], by simp [frB, baseOf], go_on ?_⟩; simp only [killA, killH, killRow, push_cast, simprocAttr])
    (try simp only [e0, push_cast, simprocAttr])
    (refine at_call ?_; (try simp only [push_cast, simprocAttr]); refine rwc_v (hE1) (go_on ?_); (try simp only [push_cast, simprocAttr]))
    (try simp only [Bool.not_true, e4, push_cast, simprocAttr])
    (refine at_call ?_; (try simp only [push_cast, simprocAttr]); refine rwc_v (markBlobS_nil 1) (go_on ?_); (try simp only [push_cast, simprocAttr]))
    (refine at_call ?_; (try simp only [push_cast, simprocAttr]); refine rwc_v (heldBlobS_nil) (go_on ?_); (try simp only [push_cast, simprocAttr]))
    (try simp only [show ltI 1 0 = false from rfl, show eqI 1 1 = true from rfl, Bool.not_true, push_cast, simprocAttr])
    ((try simp only [push_cast, simprocAttr]); refine at_share2 (by simp [isC2, isC]) (by first | rfl | simp [ren]) (hTd) (go_on ?_); (try simp only [push_cast, simprocAttr]))
    ((try simp only [push_cast, simprocAttr]); refine at_share2 (by simp [isC2, isC]) (by first | rfl | simp [ren]) (hTid) (go_on ?_); (try simp only [push_cast, simprocAttr]))
    ((try simp only [push_cast, simprocAttr]); refine at_share2 (by simp [isC2, isC]) (by first | rfl | simp [ren]) (hId) (go_on ?_); (try simp only [push_cast, simprocAttr]))
    (refine at_call ?_; (try simp only [push_cast, simprocAttr]); refine rwc_v (hE1) (go_on ?_); (try simp only [push_cast, simprocAttr]))
    (try simp only [Bool.not_true, e4, push_cast, simprocAttr])
    (refine at_call ?_; (try simp only [push_cast, simprocAttr]); refine rwc_v (heldBlobS_nil) (go_on ?_); (try simp only [push_cast, simprocAttr]))
    (try simp only [show ltI 1 0 = false from rfl, show eqI 1 1 = true from rfl, Bool.not_true, push_cast, simprocAttr])
    (refine at_retO c4 (l := [bA true]) (by simp only [Try.results3, push_cast, simprocAttr]) ?_)
    exact fun loc a w v hR hG => poB hG
  · refine go_on ?_
    (try simp only [push_cast, simprocAttr])
    refine call_gv [blsA Y, blsA Y] ⟨hO1.ga hX1, ga_c rfl, trivial⟩ hE1 (go_on ?_)
    (try simp only [Bool.not_true, e4, push_cast, simprocAttr])
    ((try simp only [push_cast, simprocAttr]); refine at_share2 (by simp [isC2, isC]) (by first | rfl | simp [ren]) (hTd) (go_on ?_); (try simp only [push_cast, simprocAttr]))
    (refine at_call ?_; (try simp only [push_cast, simprocAttr]); refine rwc_v (hE0) (go_on ?_); (try simp only [push_cast, simprocAttr]))
    (try simp only [Bool.not_true, push_cast, simprocAttr])
    ((try simp only [push_cast, simprocAttr]); refine at_share2 (by simp [isC2, isC]) (by first | rfl | simp [ren]) (hTid) (go_on ?_); (try simp only [push_cast, simprocAttr]))
    (refine at_call ?_; (try simp only [push_cast, simprocAttr]); refine rwc_v (hEi) (go_on ?_); (try simp only [push_cast, simprocAttr]))
    (try simp only [Bool.not_true, push_cast, simprocAttr])
    (refine at_call ?_; (try simp only [push_cast, simprocAttr]); refine rwc_v (markBlobS_nil 1) (go_on ?_); (try simp only [push_cast, simprocAttr]))
    have hO1b := hO1
    have hX1b := hX1
    have c4 := c3
    (try simp only [push_cast, simprocAttr])
    (try simp only [push_cast, simprocAttr]); refine call_lend [37000] none (lr := [rowZ keep]) (by simp [ndB]) (by first | rfl | simp [rowsOf, hget, rdR, rowS, sC, ndC, cmC]) (by simp [idsL, idsA]) (by simp [mvN]) (by simpa [rnA, ixOf] using hMz) ?_
    rintro rv lr' rows ⟨rfl, rfl, rfl⟩
    (refine ⟨by simp [shB, mvF, rdR, rowS, mkZ_len], by simp [frB, baseOf], go_on ?_⟩; simp only [killA, killH, killRow, push_cast, simprocAttr])
    (try simp only [e0, push_cast, simprocAttr])
    refine call_gv [blsA Y, blsA Y] ⟨hO1b.ga hX1b, ga_c rfl, trivial⟩ hE1 (go_on ?_)
    (try simp only [Bool.not_true, e4, push_cast, simprocAttr])
    refine at_markB (k0 := 1) rfl hO1b hX1b (by omega) (by omega) ?_
    rintro w5 lent5 hM hO5
    have c5 := hM.ch _ _ c4
    have hX5 : ∀ b, X1 b → lent5.fb b := fun b h => by rw [hM.fb]; exact hX1b b h
    clear hO1b hX1b hM c4
    refine go_on ?_
    (try simp only [push_cast, simprocAttr])
    refine call_gv [blsA (mkB 1 Y), iA 1] ⟨hO5.ga hX5, ga_c rfl, trivial⟩ hH (go_on ?_)
    (try simp only [e2, e3, Bool.not_true, push_cast, simprocAttr])
    ((try simp only [push_cast, simprocAttr]); refine at_share2 (by simp [isC2, isC]) (by first | rfl | simp [ren]) (hTd) (go_on ?_); (try simp only [push_cast, simprocAttr]))
    ((try simp only [push_cast, simprocAttr]); refine at_share2 (by simp [isC2, isC]) (by first | rfl | simp [ren]) (hTid) (go_on ?_); (try simp only [push_cast, simprocAttr]))
    ((try simp only [push_cast, simprocAttr]); refine at_share2 (by simp [isC2, isC]) (by first | rfl | simp [ren]) (hId) (go_on ?_); (try simp only [push_cast, simprocAttr]))
    (refine at_call ?_; (try simp only [push_cast, simprocAttr]); refine rwc_v (hE1) (go_on ?_); (try simp only [push_cast, simprocAttr]))
    (try simp only [Bool.not_true, e4, push_cast, simprocAttr])
    refine call_gv [blsA (mkB 1 Y), iA 1] ⟨hO5.ga hX5, ga_c rfl, trivial⟩ hH (go_on ?_)
    (try simp only [e2, e3, Bool.not_true, push_cast, simprocAttr])
    (refine at_retO c5 (l := [bA true]) (by simp only [Try.results3, push_cast, simprocAttr]) ?_)
    exact fun loc a w v hR hG => poB hG
theorem FnExactDiskCrash_1 (bs : List BD) (q1 : bs.length ≤ 9223372036854775807) (q2 : ∀ d ∈ bs, d.safe.length ≤ 9223372036854775807 ∧ d.fresh.length ≤ 9223372036854775807)  (hb0 : bs ≠ [])  (keep : List Int) (qk : keep.length ≤ 9223372036854775807) : PC Try.prog 3 [blsA bs, intsA keep] (vB true) := by
  have hZ := szBlobS_pc bs 1048576 (by omega) (by omega) q1 q2
  have hbl : 0 < bs.length := List.length_pos_iff.2 hb0
  refine PO.pc (v0 := .bool true) ?_
  refine po_enter Try.func3 rfl rfl fun w0 => go_on ?_; (try simp only [Try.ntmps3, push_cast, simprocAttr])
  refine at_b (fun hb => ?_) (fun hb => ?_)
  · (try simp only [hb, push_cast, simprocAttr])
    (refine at_retO (Ch.refl w0) (l := [bA true]) (by simp only [Try.results3, push_cast, simprocAttr]) ?_)
    exact fun loc a w v hR hG => poB hG
  have hk := of_ltI_f hb
  (try simp only [hb, push_cast, simprocAttr])
  (refine at_call ?_; (try simp only [push_cast, simprocAttr]); refine rwc_v (hZ) (go_on ?_); (try simp only [push_cast, simprocAttr]))
  refine at_b (fun hb => ?_) (fun hb => ?_)
  · (try simp only [hb, push_cast, simprocAttr])
    (refine at_retO (Ch.refl w0) (l := [bA true]) (by simp only [Try.results3, push_cast, simprocAttr]) ?_)
    exact fun loc a w v hR hG => poB hG
  have ht := tot_of (by omega) (of_ltI_f hb)
  have hz : SzB bs := tot_sz ht (by omega)
  have htl : tot bs ≤ 1048576 := by omega
  have hs : SmB bs := hz.sm
  have hn := hs.n
  have hn2 := hz.n
  have hTd := toBlobS_d bs hz
  have hSp := specDiskCrash_d bs hs keep (by omega)
  have hIo := DiskCrash_o bs hs keep (by omega)
  have hE0 := eqBlobS_pc bs bs (by omega) hs.d8
  obtain ⟨⟨Y, ok⟩, hY⟩ : ∃ Y, Y = crashP bs keep := ⟨_, rfl⟩
  obtain ⟨hYs, hYt⟩ := disk_tot (crashP_disk hY)
  rw [← hY] at hSp hIo
  dsimp only at hSp hIo
  have hId := hIo.db
  have hE1 := eqBlobS_pc Y Y (by have := hYs.n; omega) hYs.d8
  rw [decide_eq_true rfl] at hE0 hE1
  have hH := heldBlobS_pc Y 1 (by omega) (by omega)
  have hTi := toIntS_pc keep (by omega)
  have hTid : PC Try.prog 14 [intsA keep] (vX (intsA keep)) := by
    have := hTi.frzX
    simpa [viewN, hpOf, hget, isC, tk] using this
  have hEi := eqIntS_pc' keep keep (by omega)
  rw [decide_eq_true rfl] at hEi
  have hMz := markZ_pcl keep (1 + tot bs) (by omega) (by omega)
  have e0 : ltI ((1 + tot bs + keep.length : Nat) : Int) 0 = false := ltI_f (by omega)
  push_cast at e0 hMz
  have e1 : ltI ((1 + tot bs : Nat) : Int) 0 = false := ltI_f (by omega)
  have e2 : ltI ((1 + tot Y : Nat) : Int) 0 = false := ltI_f (by omega)
  have e3 : eqI ((1 + tot Y : Nat) : Int) ((1 + tot Y : Nat) : Int) = true := eqI_self _
  have e4 : (!(ok == ok)) = false := by cases ok <;> rfl
  push_cast at e1 e2 e3 hH
  (try simp only [hb, push_cast, simprocAttr])
  ((try simp only [push_cast, simprocAttr]); refine at_share2 (by simp [isC2, isC]) (by first | rfl | simp [ren]) (hTd) (go_on ?_); (try simp only [push_cast, simprocAttr]))
  ((try simp only [push_cast, simprocAttr]); refine at_share2 (by simp [isC2, isC]) (by first | rfl | simp [ren]) (hTid) (go_on ?_); (try simp only [push_cast, simprocAttr]))
  ((try simp only [push_cast, simprocAttr]); refine at_share2 (by simp [isC2, isC]) (by first | rfl | simp [ren]) (hSp) (go_on ?_); (try simp only [push_cast, simprocAttr]))
  refine call_PO rfl [blsA bs] ⟨ga_c rfl, trivial⟩ (toBlobS_o bs hz) ?_
  rintro w2 lent2 X0 x hN ⟨u0, us0, rfl, hO⟩
  have c2 := hN.ch _ _ (Ch.refl w0)
  have hX := hN.xfb
  obtain ⟨g0, cp0, rfl⟩ := hO.some hbl
  refine go_on ?_
  (try simp only [push_cast, simprocAttr])
  (refine at_call ?_; (try simp only [push_cast, simprocAttr]); refine rwc_r (hTi) (by simp [flatV, flatL]) (flat_i _) (by simp [frB, baseOf]) (go_on ?_); (try simp only [push_cast, simprocAttr]))
  refine call_PO rfl [blsA bs, intsA keep] ⟨hO.ga hX, ga_v (by simp [viewN, hget, tk, isC]), trivial⟩ hIo ?_
  rintro w3 lent3 X1 x hN1 ⟨u1, us1, rfl, hO1⟩
  have c3 := hN1.ch _ _ c2
  have hX1 := hN1.xfb
  have hdis : ∀ b, X1 b → ¬ X0 b := fun b h1 h2 => by have := hN1.xge b h1; have := hN1.flt b (hX b h2); omega
  have hOb := hO.same (fun b hb => hN1.keep b (hX b hb)) (fun _ h => h)
  have hXb := fun b h => hN1.fb b (hX b h)
  clear hN hN1 hX hO c2
  rcases hO1.nil_or with ⟨rfl, hY0⟩ | ⟨g1, cp1, rfl⟩
  · subst hY0
    refine go_on ?_
    (try simp only [push_cast, simprocAttr])
    (refine at_call ?_; (try simp only [push_cast, simprocAttr]); refine rwc_v (hE1) (go_on ?_); (try simp only [push_cast, simprocAttr]))
    (try simp only [Bool.not_true, e4, push_cast, simprocAttr])
    ((try simp only [push_cast, simprocAttr]); refine at_share2 (by simp [isC2, isC]) (by first | rfl | simp [ren]) (hTd) (go_on ?_); (try simp only [push_cast, simprocAttr]))
    refine call_gv [blsA bs, blsA bs] ⟨hOb.ga hXb, ga_c rfl, trivial⟩ hE0 (go_on ?_)
    (try simp only [Bool.not_true, push_cast, simprocAttr])
    ((try simp only [push_cast, simprocAttr]); refine at_share2 (by simp [isC2, isC]) (by first | rfl | simp [ren]) (hTid) (go_on ?_); (try simp only [push_cast, simprocAttr]))
    (refine at_call ?_; (try simp only [push_cast, simprocAttr]); refine rwc_v (hEi) (go_on ?_); (try simp only [push_cast, simprocAttr]))
    (try simp only [Bool.not_true, push_cast, simprocAttr])
    refine at_markB (k0 := 1) rfl hOb hXb (by omega) (by omega) ?_
    rintro w4 lent4 hM hO2
    have c4 := hM.ch _ _ c3
    have hO1b := hO1.same (fun b hb => hM.keep b (hX1 b hb) (hdis b hb)) (fun _ h => h)
    have hX1b : ∀ b, X1 b → lent4.fb b := fun b h => by rw [hM.fb]; exact hX1 b h
    clear hOb hXb hO1 hX1 hM hO2 c3
    refine go_on ?_
    (try simp only [push_cast, simprocAttr])
    (try simp only [push_cast, simprocAttr]); refine call_lend [37000] none (lr := [rowZ keep]) (by simp [ndB]) (by first | rfl | simp [rowsOf, hget, rdR, rowS, sC, ndC, cmC]) (by simp [idsL, idsA]) (by simp [mvN]) (by simpa [rnA, ixOf] using hMz) ?_
    rintro rv lr' rows ⟨rfl, rfl, rfl⟩
    (refine ⟨by simp [shB, mvF, rdR, rowS, mkZ_len], by simp [frB, baseOf], go_on ?_⟩; simp only [killA, killH, killRow, push_cast, simprocAttr])
    (try simp only [e0, push_cast, simprocAttr])
    (refine at_call ?_; (try simp only [push_cast, simprocAttr]); refine rwc_v (hE1) (go_on ?_); (try simp only [push_cast, simprocAttr]))
    (try simp only [Bool.not_true, e4, push_cast, simprocAttr])
    (refine at_call ?_; (try simp only [push_cast, simprocAttr]); refine rwc_v (markBlobS_nil 1) (go_on ?_); (try simp only [push_cast, simprocAttr]))
    (refine at_call ?_; (try simp only [push_cast, simprocAttr]); refine rwc_v (heldBlobS_nil) (go_on ?_); (try simp only [push_cast, simprocAttr]))
    (try simp only [show ltI 1 0 = false from rfl, show eqI 1 1 = true from rfl, Bool.not_true, push_cast, simprocAttr])
    ((try simp only [push_cast, simprocAttr]); refine at_share2 (by simp [isC2, isC]) (by first | rfl | simp [ren]) (hTd) (go_on ?_); (try simp only [push_cast, simprocAttr]))
    ((try simp only [push_cast, simprocAttr]); refine at_share2 (by simp [isC2, isC]) (by first | rfl | simp [ren]) (hTid) (go_on ?_); (try simp only [push_cast, simprocAttr]))
    ((try simp only [push_cast, simprocAttr]); refine at_share2 (by simp [isC2, isC]) (by first | rfl | simp [ren]) (hId) (go_on ?_); (try simp only [push_cast, simprocAttr]))
    (refine at_call ?_; (try simp only [push_cast, simprocAttr]); refine rwc_v (hE1) (go_on ?_); (try simp only [push_cast, simprocAttr]))
    (try simp only [Bool.not_true, e4, push_cast, simprocAttr])
    (refine at_call ?_; (try simp only [push_cast, simprocAttr]); refine rwc_v (heldBlobS_nil) (go_on ?_); (try simp only [push_cast, simprocAttr]))
    (try simp only [show ltI 1 0 = false from rfl, show eqI 1 1 = true from rfl, Bool.not_true, push_cast, simprocAttr])
    (refine at_retO c4 (l := [bA true]) (by simp only [Try.results3, push_cast, simprocAttr]) ?_)
    exact fun loc a w v hR hG => poB hG
  · refine go_on ?_
    (try simp only [push_cast, simprocAttr])
    refine call_gv [blsA Y, blsA Y] ⟨hO1.ga hX1, ga_c rfl, trivial⟩ hE1 (go_on ?_)
    (try simp only [Bool.not_true, e4, push_cast, simprocAttr])
    ((try simp only [push_cast, simprocAttr]); refine at_share2 (by simp [isC2, isC]) (by first | rfl | simp [ren]) (hTd) (go_on ?_); (try simp only [push_cast, simprocAttr]))
    refine call_gv [blsA bs, blsA bs] ⟨hOb.ga hXb, ga_c rfl, trivial⟩ hE0 (go_on ?_)
    (try simp only [Bool.not_true, push_cast, simprocAttr])
    ((try simp only [push_cast, simprocAttr]); refine at_share2 (by simp [isC2, isC]) (by first | rfl | simp [ren]) (hTid) (go_on ?_); (try simp only [push_cast, simprocAttr]))
    (refine at_call ?_; (try simp only [push_cast, simprocAttr]); refine rwc_v (hEi) (go_on ?_); (try simp only [push_cast, simprocAttr]))
    (try simp only [Bool.not_true, push_cast, simprocAttr])
    refine at_markB (k0 := 1) rfl hOb hXb (by omega) (by omega) ?_
    rintro w4 lent4 hM hO2
    have c4 := hM.ch _ _ c3
    have hO1b := hO1.same (fun b hb => hM.keep b (hX1 b hb) (hdis b hb)) (fun _ h => h)
    have hX1b : ∀ b, X1 b → lent4.fb b := fun b h => by rw [hM.fb]; exact hX1 b h
    clear hOb hXb hO1 hX1 hM hO2 c3
    refine go_on ?_
    (try simp only [push_cast, simprocAttr])
    (try simp only [push_cast, simprocAttr]); refine call_lend [37000] none (lr := [rowZ keep]) (by simp [ndB]) (by first | rfl | simp [rowsOf, hget, rdR, rowS, sC, ndC, cmC]) (by simp [idsL, idsA]) (by simp [mvN]) (by simpa [rnA, ixOf] using hMz) ?_
    rintro rv lr' rows ⟨rfl, rfl, rfl⟩
    (refine ⟨by simp [shB, mvF, rdR, rowS, mkZ_len], by simp [frB, baseOf], go_on ?_⟩; simp only [killA, killH, killRow, push_cast, simprocAttr])
    (try simp only [e0, push_cast, simprocAttr])
    refine call_gv [blsA Y, blsA Y] ⟨hO1b.ga hX1b, ga_c rfl, trivial⟩ hE1 (go_on ?_)
    (try simp only [Bool.not_true, e4, push_cast, simprocAttr])
    refine at_markB (k0 := 1) rfl hO1b hX1b (by omega) (by omega) ?_
    rintro w5 lent5 hM hO5
    have c5 := hM.ch _ _ c4
    have hX5 : ∀ b, X1 b → lent5.fb b := fun b h => by rw [hM.fb]; exact hX1b b h
    clear hO1b hX1b hM c4
    refine go_on ?_
    (try simp only [push_cast, simprocAttr])
    refine call_gv [blsA (mkB 1 Y), iA 1] ⟨hO5.ga hX5, ga_c rfl, trivial⟩ hH (go_on ?_)
    (try simp only [e2, e3, Bool.not_true, push_cast, simprocAttr])
    ((try simp only [push_cast, simprocAttr]); refine at_share2 (by simp [isC2, isC]) (by first | rfl | simp [ren]) (hTd) (go_on ?_); (try simp only [push_cast, simprocAttr]))
    ((try simp only [push_cast, simprocAttr]); refine at_share2 (by simp [isC2, isC]) (by first | rfl | simp [ren]) (hTid) (go_on ?_); (try simp only [push_cast, simprocAttr]))
    ((try simp only [push_cast, simprocAttr]); refine at_share2 (by simp [isC2, isC]) (by first | rfl | simp [ren]) (hId) (go_on ?_); (try simp only [push_cast, simprocAttr]))
    (refine at_call ?_; (try simp only [push_cast, simprocAttr]); refine rwc_v (hE1) (go_on ?_); (try simp only [push_cast, simprocAttr]))
    (try simp only [Bool.not_true, e4, push_cast, simprocAttr])
    refine call_gv [blsA (mkB 1 Y), iA 1] ⟨hO5.ga hX5, ga_c rfl, trivial⟩ hH (go_on ?_)
    (try simp only [e2, e3, Bool.not_true, push_cast, simprocAttr])
    (refine at_retO c5 (l := [bA true]) (by simp only [Try.results3, push_cast, simprocAttr]) ?_)
    exact fun loc a w v hR hG => poB hG
theorem FnExactDiskCrash_pc (bs : List BD) (q1 : bs.length ≤ 9223372036854775807) (q2 : ∀ d ∈ bs, d.safe.length ≤ 9223372036854775807 ∧ d.fresh.length ≤ 9223372036854775807)   (keep : List Int) (qk : keep.length ≤ 9223372036854775807) : PC Try.prog 3 [blsA bs, intsA keep] (vB true) := by
  by_cases hb0 : bs = []
  · exact FnExactDiskCrash_0 bs q1 q2 hb0 keep qk
  · exact FnExactDiskCrash_1 bs q1 q2 hb0 keep qk
end Go.Proofs.Ytepcabenjikhgaa
