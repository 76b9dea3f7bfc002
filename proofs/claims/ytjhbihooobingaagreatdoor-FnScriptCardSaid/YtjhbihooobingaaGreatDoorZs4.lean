/- A part of the proof of the session laws: texts W2 W3 X3 X4 X5 X6 X7 X8 X9 W4 W5 W6 W7 W8 W9 W10 W11 W66 W67 W68 W69. -/
import Derived.Test.YtjhbihooobingaaGreatDoorZs3
import Derived.Test.YtjhbihooobingaaGreatDoorZs1
import Derived.Lib.IndexBytes
import Derived.Lib.SplitLaws
import Derived.Shelf.RegionOpenPlain
import Derived.WalkKit
import Derived.Lib.Hide
import Derived.Lib.Walk
import Derived.Lib.SliceRun
import Derived.Lib.JoinLaws
import Derived.Lib.Overlaps
import Derived.Laws.CopyRow
import Derived.Lib.AppendZerosOnto
import Derived.Laws.NewBlocks
import Derived.Test.YtjhbihooobingaaGreatDoorZsp
set_option linter.unusedSimpArgs false
set_option linter.unusedVariables false
/-
  Walks: strings.Split at a slash; impl.PathValid.
-/
namespace Go.Proofs.YtjhbihooobingaaGreatDoor
open Go Go.RowKit Go.Proofs
attribute [local irreducible] RWp AW run kPe pe Kt effA gd gu br retR RDp runD kPeD brW gW effD
set_option maxRecDepth 100000

/-- A function that answers a new row of one-cell elements. -/
theorem pc_new {P : Program} {f : FuncId} {argv vals : List Value} {E : TypeId} {c : Nat} {cs : Array Value} (hen : ∀ (vs : Array Value) (W : World), (callFunc f vs).run P W = .ok (.enter f vs) W)
    (h : ∀ w, Calls P f argv.toArray w fun e w' => e = .returned (.slice (some ⟨w.heap.size, 0, none⟩) vals.length c) ∧ w' = w.alloc (.cells cs E))
    (hc : vals.length ≤ c) (hm : c ≤ maxLen) (hs : cs.size = c) (hv : ∀ (k : Nat) v, vals[k]? = some v → cs[k]? = some v ∧ v.oneCell' = true) :
    PC P f (argv.map .v) (rX (.o 0 vals.length) [⟨E, 1, vals.map fun v => [.v v], true⟩]) := by
  refine ⟨hen, fun w fb vs hfb hvs hg => ?_⟩
  have e : vs = argv.toArray := by
    apply Array.ext
    · simp [hvs]
    · intro i h1 h2
      have h3 : i < argv.length := by simpa using h2
      have := hg i (.v argv[i]) (by rw [List.getElem?_map, List.getElem?_eq_getElem h3]; rfl)
      have h5 : vs.getD i undef = argv[i] := by
        generalize vs.getD i undef = u at this
        cases this
        rfl
      simpa [Array.getD, h1] using h5
  subst e
  refine (h w).mono ?_
  rintro e w' ⟨rfl, rfl⟩
  have hb : Below w.heap.size w (w.alloc (.cells cs E)) := (Below.refl _ _).alloc (Nat.le_refl _) _
  refine ⟨_, _, _, ⟨rfl, rfl⟩, rfl, hb, ⟨fun r => if r = 0 then some (w.heap.size, c) else none, fb⟩, rfl, ?_, ?_, ?_, ?_⟩
  · exact .o (row := ⟨E, 1, vals.map fun v => [.v v], true⟩) (by simp [hpOf, hget]) (by rfl) (by simp)
  · intro r row hr
    simp only [hpOf, hget] at hr
    split at hr
    · rename_i h0
      subst h0
      cases hr
      refine ⟨rfl, RowOk.mk' (b := w.heap.size) (c := c) (cur := cs) rfl ?_ (by simpa using hc) hm (heap_alloc_new w _) (by simpa using hs) ?_⟩
      · intro k e he
        rw [List.getElem?_map] at he
        obtain ⟨v, _, rfl⟩ := Option.map_eq_some_iff.1 he
        rfl
      · intro k e j x he hx
        rw [List.getElem?_map] at he
        obtain ⟨v, hv1, rfl⟩ := Option.map_eq_some_iff.1 he
        have hj : j = 0 := by have := lt_of_some hx; simp at this; omega
        subst hj
        simp at hx
        subst hx
        obtain ⟨h1, h2⟩ := hv k v hv1
        exact ⟨v, by simpa using h1, h2, .cl .v, fun _ => .v⟩
    · cases hr
  · intro r r' row row' b c1 c2 hr hr' _ _
    simp only [hpOf, hget] at hr hr'
    split at hr
    · split at hr'
      · omega
      · cases hr'
    · cases hr
  · intro r row b c1 hr hl
    simp only [Loc.at_] at hl
    split at hl
    · cases hl; exact Nat.le_refl _
    · cases hl
theorem genSplit_pc (s : Str) (hs : s.length < 4294967281) : PC Tryz.prog 39 [sA s, sA [47], iA 0, iA (-1)] (rX (.o 0 (cutP s).length) [⟨9, 1, (cutP s).map sC, true⟩]) := by
  have hsz : (⟨s.toArray⟩ : ByteArray).size = s.length := size_l s
  have hC : ∀ w, Calls Tryz.prog 63 #[.string ⟨s.toArray⟩, .string ⟨#[47]⟩] w fun e w' => e = .returned (.int .i64 (Lib.countB ⟨s.toArray⟩ ⟨#[47]⟩)) ∧ w' = w := by
    intro w
    refine (Any.strings_Count_one Tryz.lays138 ⟨s.toArray⟩ 47 w).mono fun e w' h => ⟨?_, h.2⟩
    rw [h.1]
    show _ = Ending.returned (Value.int .i64 ((Lib.count s [47] : Nat) : Int))
    rw [Lib.count_one]
    rfl
  have hI : ∀ (x : ByteArray) w, Calls Tryz.prog 64 #[.string x, .string ⟨#[47]⟩] w fun e w' => e = .returned (.int .i64 (Lib.indexB x ⟨#[47]⟩)) ∧ w' = w := by
    intro x w
    refine (Any.strings_Index_one Tryz.lays143 x 47 w).mono fun e w' h => ⟨?_, h.2⟩
    rw [h.1]
    show _ = Ending.returned (Value.int .i64 (Lib.index x.data.toList [47]))
    rw [Lib.index_one]
  have hcnt : Lib.countB ⟨s.toArray⟩ ⟨#[47]⟩ = s.count 47 := Lib.count_one 47 s
  have hle : s.count 47 ≤ s.length := List.count_le_length
  have hcut := cut_len s
  have hG := fun w => Any.strings_genSplit_core Tryz.lays221 (by kernel_rfl) ⟨s.toArray⟩ ⟨#[47]⟩ 0 (-1) (s.count 47 + 1) w (by rw [hsz]; exact hs) (by decide) (Nat.zero_le _) (fun x c _ => hI x _) (hC w) (by decide) (by decide) (by rw [if_pos (by decide), hcnt, hsz]; omega)
  rw [Nat.add_sub_cancel] at hG
  obtain ⟨L, hL⟩ : ∃ L, Lib.splitB ⟨#[47]⟩ 0 (s.count 47) ⟨s.toArray⟩ = L := ⟨_, rfl⟩
  have hd : L.map (·.data.toList) = cutP s := by rw [← hL, Lib.splitB_data]; exact splitK_cut s
  have hlen : L.length = (cutP s).length := by rw [← hd, List.length_map]
  rw [hL] at hG
  have hle2 : L.length ≤ s.count 47 + 1 := by rw [← hL]; exact Lib.splitB_length_le _ _ _ _
  have := pc_new (P := Tryz.prog) (f := 39) (argv := [.string ⟨s.toArray⟩, .string ⟨#[47]⟩, .int .i64 0, .int .i64 (-1)]) (vals := L.map Value.string) (E := 9) (c := s.count 47 + 1) (cs := Lib.cellsOf L (s.count 47 + 1)) (enters_of Tryz.func39 (by kernel_rfl) rfl)
    (fun w => by rw [List.length_map]; exact hG w) (by simpa using hle2) (by unfold maxLen; omega) (Lib.cellsOf_size hle2) ?_
  · have e : (L.map Value.string).map (fun v => [AV.v v]) = (cutP s).map sC := by rw [← hd]; simp [sC]
    rw [e, List.length_map, hlen] at this
    exact this
  · intro k v hv
    have hk := lt_of_some hv
    refine ⟨?_, ?_⟩
    · unfold Lib.cellsOf
      rw [List.getElem?_toArray, List.getElem?_append_left hk]
      exact hv
    · rw [List.getElem?_map] at hv
      obtain ⟨x, _, rfl⟩ := Option.map_eq_some_iff.1 hv
      rfl
theorem split_pc (s : Str) (hs : s.length < 4294967281) : PC Tryz.prog 24 [sA s, sA [47]] (rX (.o 0 (cutP s).length) [⟨9, 1, (cutP s).map sC, true⟩]) := by
  refine pc_enter Tryz.func24 rfl rfl fun w0 fb => go_on ?_; (try simp only [Tryz.ntmps24, push_cast, simprocAttr])
  (refine at_call ?_; (try simp only [push_cast, simprocAttr]); refine rwc_r (genSplit_pc s hs) rfl (flat_s _) (by simp [frB, baseOf]) (go_on ?_); (try simp only [push_cast, simprocAttr]))
  refine at_ret ?_; simp only [Tryz.results24, push_cast, simprocAttr]
  simp [rX]
/-- The pieces, as data. -/
theorem splitF_pc (s : Str) (hs : s.length < 4294967281) : PC Tryz.prog 24 [sA s, sA [47]] (vX (strsA (cutP s))) := by
  refine (split_pc s hs).frz ?_
  rintro rv rows ⟨rfl, rfl⟩
  refine ⟨?_, rfl⟩
  simp [viewN, hpOf, hget, tk]
theorem PathValid_pc (s : Str) (hs : s.length < 4294967281) : PC Tryz.prog 144 [sA s] (vB (pV s)) := by
  obtain ⟨y, ys, hxs⟩ : ∃ y ys, cutP s = y :: ys := by
    cases h : cutP s with
    | nil => exact absurd h (cut_ne _)
    | cons x xs => exact ⟨x, xs, rfl⟩
  have hS := splitF_pc s hs
  have hl : ys.length ≤ s.length := by have := cut_len s; rw [hxs] at this; simp at this; omega
  rw [hxs] at hS
  refine pc_enter Tryz.func144 rfl rfl fun w0 fb => go_on ?_; (try simp only [Tryz.ntmps144, push_cast, simprocAttr])
  refine at_b (fun hb => ?_) (fun hb => ?_)
  · (try simp only [hb, push_cast, simprocAttr])
    refine at_ret ?_; simp only [Tryz.results144, push_cast, simprocAttr]
    simp at hb
    simp [vX, pV, root, hb]
  · have hr : s ≠ root := by simpa [root] using hb
    have hp := pV_cut hr hxs
    have w1 := wr (ys.length : Int) (by omega)
    have w2 : ((ys.length : Int) + 1 - 1) = ys.length := by omega
    (try simp only [hb, push_cast, simprocAttr])
    ((try simp only [push_cast, simprocAttr]); refine at_share (by first | rfl | simp [isC]) (by first | rfl | simp only [ren]) (hS) (go_on ?_); (try simp only [push_cast, simprocAttr]))
    refine at_b (fun hc => ?_) (fun hc => ?_)
    · (try simp only [hc, push_cast, simprocAttr])
      refine at_ret ?_; simp only [Tryz.results144, push_cast, simprocAttr]
      have : decide (y = []) = false := not_t hc
      simp [vX, hp, this]
    · have hy : decide (y = []) = true := not_f hc
      (try simp only [hc, w2, w1, push_cast, simprocAttr])
      (refine at_call ?_; (try simp only [push_cast, simprocAttr]); refine rwc_v (in_pc _ _ _) (go_on ?_); (try simp only [push_cast, simprocAttr]))
      refine at_b (fun hd => ?_) (fun hd => ?_)
      · (try simp only [hd, push_cast, simprocAttr])
        refine at_ret ?_; simp only [Tryz.results144, push_cast, simprocAttr]
        simp [vX, hp, not_t hd]
      · have h1 : inR ys.length 1 4 = true := not_f hd
        have hp2 : pV s = ys.all nameB := by rw [hp, hy, h1]; simp
        have h4 : 1 ≤ ys.length := by simp [inR] at h1; omega
        have w3 : (1 : Int) ≤ (ys.length : Int) + 1 := by omega
        (try simp only [hd, w3, push_cast, simprocAttr])
        refine at_loop (X := Nat) (fun k => [(24, iA k)]) (fun _ => []) (fun k => k ≤ ys.length ∧ ys.all nameB = (ys.drop k).all nameB) (fun k => ys.length - k) 0 ⟨Nat.zero_le _, rfl⟩ ?_ ?_
        · (refine wk_ok ?_ ?_ ?_ ?_ <;> simp [leL, leH, idsL, idsA, idsR, inH, hget, sameRow, upA, hvA, dsts, dstO, setA_0, setA_1, setA_8, List.append, List.cons_append, List.nil_append])
        · rintro k ⟨h1, h2⟩
          simp only [upA, hvA, dsts, dstO, setA_0, setA_1, setA_8, List.append, List.cons_append, List.nil_append]
          refine go_on ?_
          (try simp only [push_cast, simprocAttr])
          refine at_b (fun hg => ?_) (fun hg => ?_)
          · have hlt := lt_tt hg
            obtain ⟨x, hk⟩ := get_of_lt hlt
            have i1 := ix_n hk
            have i2 := map_get sC hk
            rw [drop_of_get hk] at h2
            (try simp only [hg, i1, i2, push_cast, simprocAttr])
            (refine at_call ?_; (try simp only [push_cast, simprocAttr]); refine rwc_v (isName_pc x) (go_on ?_); (try simp only [push_cast, simprocAttr]))
            refine at_b (fun hn => ?_) (fun hn => ?_)
            · (try simp only [hn, push_cast, simprocAttr])
              refine at_ret ?_; simp only [Tryz.results144, push_cast, simprocAttr]
              simp [vX, hp2, h2, not_t hn]
            · have w1 := wr ((k : Int) + 1) (by omega)
              (try simp only [hn, w1, push_cast, simprocAttr])
              refine at_fin ⟨k + 1, ⟨by omega, ?_⟩, by omega, ?_⟩
              · rw [h2]; simp [not_f hn]
              · (refine wk_ok ?_ ?_ ?_ ?_ <;> simp [leL, leH, idsL, idsA, idsR, inH, hget, sameRow, upA, hvA, dsts, dstO, setA_0, setA_1, setA_8, List.append, List.cons_append, List.nil_append])
          · have h3 := lt_ff hg
            (try simp only [hg, push_cast, simprocAttr])
            refine at_ret ?_; simp only [Tryz.results144, push_cast, simprocAttr]
            rw [List.drop_of_length_le h3] at h2
            simp [vX, hp2, h2]
end Go.Proofs.YtjhbihooobingaaGreatDoor
/-
  Walks: contents; what a tree holds.
-/
namespace Go.Proofs.YtjhbihooobingaaGreatDoor
open Go Go.RowKit Go.Proofs
attribute [local irreducible] RWp AW run kPe pe Kt effA gd gu br retR RDp runD kPeD brW gW effD
set_option maxRecDepth 100000

theorem ContentValid_pc (c : Ct) : PC Tryz.prog 80 [ctA c] (vB (ctV c)) := by
  unfold ctA ctC
  refine pc_enter Tryz.func80 rfl rfl fun w0 fb => go_on ?_; (try simp only [Tryz.ntmps80, push_cast, simprocAttr])
  repeat' first | (refine at_b (fun hb => ?_) (fun hb => ?_) <;> simp only [hb, push_cast, simprocAttr]) | (refine at_ret ?_; simp only [Tryz.results80, push_cast, simprocAttr]) | (refine at_call ?_; (try simp only [push_cast, simprocAttr]); refine rwc_v (by first | exact in_pc _ _ _) (go_on ?_); simp only [push_cast, simprocAttr]) | (show RWp _ _ _ _ _; simp only [push_cast, simprocAttr])
  all_goals simp [vX, ctV, eqI_d, *] at *
  all_goals simp [*]
theorem specContentValid_pc (c : Ct) : PC Tryz.prog 59 [ctA c] (vB (ctV c)) := by
  unfold ctA ctC
  refine pc_enter Tryz.func59 rfl rfl fun w0 fb => go_on ?_; (try simp only [Tryz.ntmps59, push_cast, simprocAttr])
  repeat' first | (refine at_b (fun hb => ?_) (fun hb => ?_) <;> simp only [hb, push_cast, simprocAttr]) | (refine at_ret ?_; simp only [Tryz.results59, push_cast, simprocAttr]) | (refine at_call ?_; (try simp only [push_cast, simprocAttr]); refine rwc_v (by first | exact l6In_pc _ _ _) (go_on ?_); simp only [push_cast, simprocAttr]) | (show RWp _ _ _ _ _; simp only [push_cast, simprocAttr])
  all_goals simp [vX, ctV, eqI_d, *] at *
  all_goals simp [*]
/-- The place of the first that holds. -/
def idxF {α : Type} (p : α → Bool) : Nat → List α → Int
  | _, [] => -1
  | k, a :: l => if p a then k else idxF p (k + 1) l
theorem idxF_spec {α : Type} (p : α → Bool) : ∀ (l : List α) (k : Nat), (idxF p k l = -1 ∧ l.find? p = none) ∨ ∃ (j : Nat) (n : α), idxF p k l = ((k + j : Nat) : Int) ∧ l[j]? = some n ∧ l.find? p = some n
  | [], k => .inl ⟨rfl, rfl⟩
  | a :: l, k => by
    by_cases h : p a = true
    · exact .inr ⟨0, a, by simp [idxF, h], rfl, by simp [h]⟩
    · rcases idxF_spec p l (k + 1) with ⟨h1, h2⟩ | ⟨j, n, h1, h2, h3⟩
      · exact .inl ⟨by simp [idxF, h, h1], by simp [h, h2]⟩
      · exact .inr ⟨j + 1, n, by rw [show idxF p k (a :: l) = idxF p (k + 1) l by simp [idxF, h], h1]; omega, by simpa using h2, by simp [h, h3]⟩
theorem idxF_any {α : Type} (p : α → Bool) (l : List α) : leI 0 (idxF p 0 l) = l.any p := by
  have e : l.any p = (l.find? p).isSome := by
    rw [Bool.eq_iff_iff]; simp [List.any_eq_true, List.find?_isSome]
  rw [e]
  rcases idxF_spec p l 0 with ⟨h1, h2⟩ | ⟨j, n, h1, h2, h3⟩
  · rw [h1, h2]; rfl
  · rw [h1, h3]; simp [leI]
theorem mem_of_get {α : Type} {l : List α} {k : Nat} {x : α} (h : l[k]? = some x) : x ∈ l := List.mem_of_getElem? h
theorem IndexFuncN_pc (l : List Nd) (hl : l.length < 4294967281) (g : FuncId) (caps : List AV) (hc : caps.all isC = true) (p : Nd → Bool) (hp : ∀ n ∈ l, PC Tryz.prog g (nodeA n :: caps) (vB (p n))) :
    PC Tryz.prog 190 [ndA l, .fn g caps] (vI (idxF p 0 l)) := by
  refine pc_enter Tryz.func190 rfl rfl fun w0 fb => go_on ?_; (try simp only [Tryz.ntmps190, push_cast, simprocAttr])
  refine at_loop (X := Nat) (fun k => [(8, iA k)]) (fun _ => []) (fun k => k ≤ l.length ∧ idxF p 0 l = idxF p k (l.drop k)) (fun k => l.length - k) 0 ⟨Nat.zero_le _, rfl⟩ ?_ ?_
  · (refine wk_ok ?_ ?_ ?_ ?_ <;> simp [closed_ids hc, leL, leH, idsL, idsA, idsR, inH, hget, sameRow, upA, hvA, dsts, dstO, setA_0, setA_1, setA_8, List.append, List.cons_append, List.nil_append])
  · rintro k ⟨h1, h2⟩
    simp only [upA, hvA, dsts, dstO, setA_0, setA_1, setA_8, List.append, List.cons_append, List.nil_append]
    refine go_on ?_
    (try simp only [push_cast, simprocAttr])
    refine at_b (fun hg => ?_) (fun hg => ?_)
    · have hlt := lt_tt hg
      obtain ⟨x, hk⟩ := get_of_lt hlt
      have i1 := ix_n hk
      have i2 := map_get ndC hk
      simp only [ndC] at i2
      rw [drop_of_get hk] at h2
      (try simp only [hg, i1, i2, push_cast, simprocAttr])
      have hx := hp x (mem_of_get hk)
      refine at_call ?_
      simp only [List.map_cons, closed_view hc]
      (try simp only [push_cast, simprocAttr])
      refine rwc_v hx (go_on ?_)
      (try simp only [push_cast, simprocAttr])
      refine at_b (fun hn => ?_) (fun hn => ?_)
      · (try simp only [hn, push_cast, simprocAttr])
        refine at_ret ?_; simp only [Tryz.results190, push_cast, simprocAttr]
        simp [vX, h2, idxF, hn]
      · have w1 := wr ((k : Int) + 1) (by omega)
        (try simp only [hn, w1, push_cast, simprocAttr])
        refine at_fin ⟨k + 1, ⟨by omega, ?_⟩, by omega, ?_⟩
        · rw [h2]; simp [idxF, hn]
        · (refine wk_ok ?_ ?_ ?_ ?_ <;> simp [closed_ids hc, leL, leH, idsL, idsA, idsR, inH, hget, sameRow, upA, hvA, dsts, dstO, setA_0, setA_1, setA_8, List.append, List.cons_append, List.nil_append])
    · have h3 := lt_ff hg
      (try simp only [hg, push_cast, simprocAttr])
      refine at_ret ?_; simp only [Tryz.results190, push_cast, simprocAttr]
      rw [List.drop_of_length_le h3] at h2
      simp [vX, h2, idxF]
theorem ContainsFuncN_pc (l : List Nd) (hl : l.length < 4294967281) (g : FuncId) (caps : List AV) (hc : caps.all isC = true) (p : Nd → Bool) (hp : ∀ n ∈ l, PC Tryz.prog g (nodeA n :: caps) (vB (p n))) :
    PC Tryz.prog 160 [ndA l, .fn g caps] (vB (l.any p)) := by
  refine pc_enter Tryz.func160 rfl rfl fun w0 fb => go_on ?_; (try simp only [Tryz.ntmps160, push_cast, simprocAttr])
  refine at_call ?_
  simp only [List.map_cons, List.map_nil, view_fn 2, closed_view hc]
  (try simp only [push_cast, simprocAttr])
  refine rwc_v (IndexFuncN_pc l hl g caps hc p hp) (go_on ?_)
  (try simp only [push_cast, simprocAttr])
  refine at_ret ?_; simp only [Tryz.results160, push_cast, simprocAttr]
  simp [vX, idxF_any]
theorem find1_pc (n : Nd) (path : Str) : PC Tryz.prog 204 [nodeA n, .ip [sA path]] (vB (decide (n.p = path))) := by
  unfold nodeA ndC
  refine pc_enter Tryz.func204 rfl rfl fun w0 fb => go_on ?_; (try simp only [Tryz.ntmps204, push_cast, simprocAttr])
  repeat' first | (refine at_b (fun hb => ?_) (fun hb => ?_) <;> simp only [hb, push_cast, simprocAttr]) | (refine at_ret ?_; simp only [Tryz.results204, push_cast, simprocAttr]) | (show RWp _ _ _ _ _; simp only [push_cast, simprocAttr])
  simp [vX]
theorem find_pc (l : List Nd) (hl : l.length < 4294967281) (path : Str) : PC Tryz.prog 191 [ndA l, sA path] (vI (idxF (fun n => decide (n.p = path)) 0 l)) := by
  refine pc_enter Tryz.func191 rfl rfl fun w0 fb => go_on ?_; (try simp only [Tryz.ntmps191, push_cast, simprocAttr])
  (refine at_call ?_; (try simp only [push_cast, simprocAttr]); refine rwc_v (IndexFuncN_pc l hl 204 [.ip [sA path]] rfl (fun n => decide (n.p = path)) (fun n _ => find1_pc n path)) (go_on ?_); (try simp only [push_cast, simprocAttr]))
  refine at_ret ?_; simp only [Tryz.results191, push_cast, simprocAttr]
  simp [vX]
theorem get_pc (l : List Nd) (hl : l.length < 4294967281) (path : Str) : PC Tryz.prog 162 [ndA l, sA path] (vX (ctA (getC l path))) := by
  refine pc_enter Tryz.func162 rfl rfl fun w0 fb => go_on ?_; (try simp only [Tryz.ntmps162, push_cast, simprocAttr])
  refine at_b (fun hb => ?_) (fun hb => ?_)
  · (try simp only [hb, push_cast, simprocAttr])
    refine at_ret ?_; simp only [Tryz.results162, push_cast, simprocAttr]
    have : path = root := by simpa [root] using hb
    simp [vX, getC, this, ctC]
  · have hr : path ≠ root := by simpa [root] using hb
    (try simp only [hb, push_cast, simprocAttr])
    (refine at_call ?_; (try simp only [push_cast, simprocAttr]); refine rwc_v (find_pc l hl path) (go_on ?_); (try simp only [push_cast, simprocAttr]))
    rcases idxF_spec (fun n : Nd => decide (n.p = path)) l 0 with ⟨h1, h2⟩ | ⟨j, n, h1, h2, h3⟩
    · rw [h1]
      (try simp only [show leI 0 (-1) = false from rfl, push_cast, simprocAttr])
      refine at_ret ?_; simp only [Tryz.results162, push_cast, simprocAttr]
      simp [vX, getC, hr, h2, ctC, ct0]
    · rw [h1, Nat.zero_add]
      have i0 : leI 0 (j : Int) = true := leI_t (by omega)
      have i1 := ix_n h2
      have i2 := map_get ndC h2
      simp only [ndC] at i2
      (try simp only [i0, i1, i2, push_cast, simprocAttr])
      refine at_ret ?_; simp only [Tryz.results162, push_cast, simprocAttr]
      simp [vX, getC, hr, h3, ctC]
theorem l3Get_pc (l : List Nd) (hl : l.length < 4294967281) (path : Str) : PC Tryz.prog 34 [ndA l, sA path] (vX (ctA (getC l path))) := by
  refine pc_enter Tryz.func34 rfl rfl fun w0 fb => go_on ?_; (try simp only [Tryz.ntmps34, push_cast, simprocAttr])
  refine at_b (fun hb => ?_) (fun hb => ?_)
  · (try simp only [hb, push_cast, simprocAttr])
    refine at_ret ?_; simp only [Tryz.results34, push_cast, simprocAttr]
    have : path = root := by simpa [root] using hb
    simp [vX, getC, this, ctC]
  · have hr : path ≠ root := by simpa [root] using hb
    (try simp only [hb, push_cast, simprocAttr])
    refine at_loop (X := Nat) (fun k => [(5, iA k)]) (fun _ => [(4, ⟨34, 2, [[iA 0, iA 0]], true⟩)]) (fun k => k ≤ l.length ∧ l.find? (fun n => decide (n.p = path)) = (l.drop k).find? (fun n => decide (n.p = path))) (fun k => l.length - k) 0 ⟨Nat.zero_le _, rfl⟩ ?_ ?_
    · (refine wk_ok ?_ ?_ ?_ ?_ <;> simp [leL, leH, idsL, idsA, idsR, inH, hget, sameRow, upA, hvA, dsts, dstO, setA_0, setA_1, setA_8, List.append, List.cons_append, List.nil_append])
    · rintro k ⟨h1, h2⟩
      simp only [upA, hvA, dsts, dstO, setA_0, setA_1, setA_8, List.append, List.cons_append, List.nil_append]
      refine go_on ?_
      (try simp only [push_cast, simprocAttr])
      refine at_b (fun hg => ?_) (fun hg => ?_)
      · have hlt := lt_tt hg
        obtain ⟨x, hk⟩ := get_of_lt hlt
        have i1 := ix_n hk
        have i2 := map_get ndC hk
        simp only [ndC] at i2
        rw [drop_of_get hk] at h2
        (try simp only [hg, i1, i2, push_cast, simprocAttr])
        refine at_b (fun hn => ?_) (fun hn => ?_)
        · (try simp only [hn, i1, i2, push_cast, simprocAttr])
          refine at_ret ?_; simp only [Tryz.results34, push_cast, simprocAttr]
          have : x.p = path := by simpa using hn
          simp [vX, getC, hr, h2, this, ctC]
        · have w1 := wr ((k : Int) + 1) (by omega)
          (try simp only [hn, w1, push_cast, simprocAttr])
          have : ¬ x.p = path := by simpa using hn
          refine at_fin ⟨k + 1, ⟨by omega, ?_⟩, by omega, ?_⟩
          · rw [h2]; simp [this]
          · (refine wk_ok ?_ ?_ ?_ ?_ <;> simp [leL, leH, idsL, idsA, idsR, inH, hget, sameRow, upA, hvA, dsts, dstO, setA_0, setA_1, setA_8, List.append, List.cons_append, List.nil_append])
      · have h3 := lt_ff hg
        (try simp only [hg, push_cast, simprocAttr])
        refine at_ret ?_; simp only [Tryz.results34, push_cast, simprocAttr]
        rw [List.drop_of_length_le h3] at h2
        simp [vX, getC, hr, h2, ctC, ct0]
abbrev rowN (l : List Nd) : Row := ⟨83, 3, l.map ndC, true⟩
abbrev rowC (l : List Cm) : Row := ⟨36, 5, l.map cmC, true⟩
theorem cloneTree_pc (l : List Nd) (hl : l.length < 4294967281) : PC Tryz.prog 74 [ndA l] (rX (.o 0 l.length) [rowN l]) := by
  refine pc_enter Tryz.func74 rfl rfl fun w0 fb => go_on ?_; (try simp only [Tryz.ntmps74, push_cast, simprocAttr])
  refine at_chk (by omega) ?_
  (try simp only [push_cast, simprocAttr])
  refine at_ret ?_; simp only [Tryz.results74, push_cast, simprocAttr]
  simp [rX, ixOf]
theorem TreeValid1_pc (l : List Nd) (hl : l.length < 4294967281) (n : Nd) (hn : 2 ≤ n.p.length) (hn2 : n.p.length < 4294967281) : PC Tryz.prog 161 [nodeA n, .ip [ndA l]] (vB (!decide ((getC l (par n.p)).k = 1))) := by
  unfold nodeA ndC
  refine pc_enter Tryz.func161 rfl rfl fun w0 fb => go_on ?_; (try simp only [Tryz.ntmps161, push_cast, simprocAttr])
  refine at_draw rfl (by kernel_rfl) ?_; simp only [push_cast, simprocAttr]
  repeat' first | (refine at_bWn (fun hb => ?_) (fun hb => ?_) <;> simp only [hb, push_cast, simprocAttr]) | (refine at_bW (fun hb => ?_) (fun hb => ?_) <;> simp only [hb, push_cast, simprocAttr]) | (refine at_callD (by simp [clB, idsL, idsA, hget]) ?_; (try simp only [push_cast, simprocAttr]); first | (refine rcd_v (parent_pc n.p hn hn2) ?_; simp only [push_cast, simprocAttr]) | (refine rcd_d (parent_pc n.p hn hn2) (by simp [flatV, flatL, ctC, ndC, cmC]) (by simp [ren, ctC, ndC, cmC]) ?_; simp only [push_cast, simprocAttr]) | (refine rcd_v (get_pc l hl (par n.p)) ?_; simp only [push_cast, simprocAttr]) | (refine rcd_d (get_pc l hl (par n.p)) (by simp [flatV, flatL, ctC, ndC, cmC]) (by simp [ren, ctC, ndC, cmC]) ?_; simp only [push_cast, simprocAttr])) | (refine at_done (by kernel_rfl) (by kernel_rfl) (go_on ?_); (try simp only [push_cast, simprocAttr]))
  refine at_ret ?_; simp only [Tryz.results161, push_cast, simprocAttr]
  simp [vX, eqI_d]
end Go.Proofs.YtjhbihooobingaaGreatDoor
/-
  slices.Insert at nodes: a place within a row that has room, and one that has none.
-/
namespace Go.Proofs.YtjhbihooobingaaGreatDoor
open Go Go.RowKit Go.Proofs

section
variable {P : Program}
theorem run_copy_k (w : World) (dT sT ty elem : TypeId) (k b o dLen dCap : Nat) (a : Addr) (sLen sCap : Nat) (cs : List Value) (cur : Array Value) (E : TypeId)
    (hu : P.underlying dT = some (.slice elem)) (hs : (P.info? elem).map (·.size) = some k) (hn : cs.length = Nat.min sLen dLen * k)
    (hsrc : ∀ j v, cs[j]? = some v → w.cell? (a.add j) = some v) (hh : w.heap[b]? = some (.cells cur E (0, 0))) (hfit : o + cs.length ≤ cur.size) (h1 : ∀ v ∈ cs, v.oneCell' = true) :
    (Builtin.copy_ #[dT, sT] ty #[.slice (some ⟨b, o, none⟩) dLen dCap, .slice (some a) sLen sCap]).run P w = .ok (goInt (Nat.min sLen dLen)) (w.setRow b (cur.toList.take o ++ cs ++ cur.toList.drop (o + cs.length)).toArray) := by
  have hl := run_loadCells_list (P := P) w a cs hsrc
  have hst := run_storeCells_at P b o E cs 0 cur w hh (by simpa using hfit) h1
  simp only [Nat.add_zero] at hst
  cases hq : P.info? elem with
  | none => simp [hq] at hs
  | some i =>
    have hi : i.size = k := by simpa [hq] using hs
    simp [Builtin.copy_, run_underlying hu, Builtin.lenOf, Builtin.firstCells, sizeOf, typeInfo, hq, hi, ← hn, hl, hst]
theorem step_copy_k {ops : Array Oper} {o : Oper} {a : Act} {w : World} {K : Act → World → Prop} {Q : Exit → Act → World → Prop} {E : Prop}
    (hg : o.guard = none) (d x : Operand) (dT sT : TypeId) (hop : o.op = Op.call { callee := Callee.builtin Builtin.copy, args := #[d, x], argTypes := #[dT, sT] })
    (v u : Value) (hd : a.eval d = v) (hx : a.eval x = u) {v' : Value} {w' : World} (hr : (Builtin.copy_ #[dT, sT] o.type #[v, u]).run P w = .ok v' w') (hK : K (a.put o.dst v') w') :
    if Region.wanted o (yielded ops a.tmps) = true then Oper.wp P o a w K Q else E := by
  have hw : Region.wanted o (yielded ops a.tmps) = true := by simp [Region.wanted, hg]
  rw [if_pos hw]
  unfold Oper.wp
  simp [execOp, hop, resolve, invoke, builtin, hd, hx, hr, Result.andThen]
  exact hK
theorem wp_copy_k (w : World) {o : Oper} {a : Act} {K : Act → World → Prop} {Q : Exit → Act → World → Prop} (d s : Operand) (t t' : TypeId)
    (ho : o.op = .call { callee := .builtin .copy, args := #[d, s], argTypes := #[t, t'] }) (v u : Value) (hd : a.eval d = v) (hs : a.eval s = u) {v' : Value} {w' : World}
    (hr : (Builtin.copy_ #[t, t'] o.type #[v, u]).run P w = .ok v' w') (h : K (a.put o.dst v') w') : o.wp P a w K Q := by
  unfold Oper.wp execOp
  simp only [ho, resolve, invoke, builtin, Sem.run_bind, Sem.run_pure, Result.andThen_ok, List.map_toArray, List.map_cons, List.map_nil, hd, hs, hr]
  exact h
theorem wpList_copy_k (w : World) {ops : Array Oper} {rest : List Oper} {o : Oper} {a : Act} {Q : Exit → Act → World → Prop} (hgd : o.guard = none) (d s : Operand) (t t' : TypeId)
    (ho : o.op = .call { callee := .builtin .copy, args := #[d, s], argTypes := #[t, t'] }) (v u : Value) (hd : a.eval d = v) (hs : a.eval s = u) {v' : Value} {w' : World}
    (hr : (Builtin.copy_ #[t, t'] o.type #[v, u]).run P w = .ok v' w') (h : wpList P ops Q rest (a.put o.dst v') w') : wpList P ops Q (o :: rest) a w :=
  wpList_plain hgd fun _ hK => wp_copy_k w d s t t' ho v u hd hs hr (hK _ _ h)
end
set_option maxRecDepth 100000
set_option maxHeartbeats 4000000 in
theorem ins_shift (b n c i vb vc : Nat) (cur : Array Value) (cs vs : List Value) (curv : Array Value) (w : World) (hi : i < n) (hroom : n + 1 ≤ c) (hc63 : c ≤ 9223372036854775807) (hvb : vb ≠ b)
    (hh : w.heap[b]? = some (.cells cur 83 (0, 0))) (hcur : cur.size = c * 3) (hcs : cs = (cur.toList.drop (i * 3)).take ((n - i) * 3)) (h1c : ∀ v ∈ cs, v.oneCell' = true)
    (hv : w.heap[vb]? = some (.cells curv 83 (0, 0))) (hvs : curv.toList.take 3 = vs) (hvl : vs.length = 3) (h1v : ∀ v ∈ vs, v.oneCell' = true) (cur1 cur2 : Array Value)
    (e1 : cur1 = (cur.toList.take ((i + 1) * 3) ++ cs ++ cur.toList.drop ((i + 1) * 3 + cs.length)).toArray) (e2 : cur2 = (cur1.toList.take (i * 3) ++ vs ++ cur1.toList.drop (i * 3 + vs.length)).toArray) :
    Calls Tryz.prog 208 #[.slice (some ⟨b, 0, none⟩) n c, .int .i64 i, .slice (some ⟨vb, 0, none⟩) 1 vc] w fun e w' =>
      e = .returned (.slice (some ⟨b, 0, none⟩) (n + 1) c) ∧ w' = (w.drew.setRow b cur1).setRow b cur2 := by
  have hz2 : ¬ ((i : Int) = (n : Int)) := by omega
  have hw1 : IntKind.i64.wrap ((i : Int) + 1) = (i : Int) + 1 := by rw [IntKind.wrap_i64]; omega
  have hb1 : (0 : Int) ≤ (i : Int) + 1 := by omega
  have hin : i ≤ n := by omega
  have htn : ((i : Int) + 1).toNat = i + 1 := by omega
  have hb2 : ¬ (c = i + 1) := by omega
  have hb3 : (i : Int) ≤ (n : Int) + 1 := by omega
  have hb4 : ¬ (c = i) := by omega
  have hsz : (Tryz.prog.info? 83).map (·.size) = some 3 := by kernel_rfl
  have hov : ∀ lb cb, (callFunc 211 #[.slice (some ⟨vb, 0, none⟩) 1 vc, .slice (some ⟨b, (i + 1) * 3, none⟩) lb cb]).run Tryz.prog w = .ok (.value (.bool false)) w := fun lb cb => by
    rw [run_callFunc_extern Tryz.func211 (by kernel_rfl) (by kernel_rfl) (by kernel_rfl) (e := Extern.SlicesOverlaps.overlaps #[30, 30] #[4]) (by kernel_rfl),
      Lib.run_overlaps_apart w 30 4 83 Tryz.underlying30 3 Tryz.sizeOf83 ⟨vb, 0, none⟩ ⟨b, (i + 1) * 3, none⟩ 1 vc lb cb hvb 83 83 curv.size cur.size (by simp [World.shape?, hv]) (by simp [World.shape?, hh]) (by omega) (by simp [World.frozen?, hv]) (by simp [World.frozen?, hv])]
    rfl
  have hcl : cs.length = (n - i) * 3 := by
    have h3 : i * 3 + (n - i) * 3 ≤ c * 3 := by omega
    rw [hcs, List.length_take, List.length_drop, Array.length_toList, hcur]
    omega
  have hmin : Nat.min (n + 1 - i) (n - i) = n - i := by simp only [Nat.min_def]; split <;> omega
  have hmin2 : Nat.min 1 (n + 1 - i) = 1 := by simp only [Nat.min_def]; split <;> omega
  have hcp1 : ∀ ty dc sc, (Builtin.copy_ #[30, 30] ty #[.slice (some ⟨b, (i + 1) * 3, none⟩) (n - i) dc, .slice (some ⟨b, i * 3, none⟩) (n + 1 - i) sc]).run Tryz.prog w.drew = .ok (goInt ((n - i : Nat) : Int)) (w.drew.setRow b cur1) := fun ty dc sc => by
    rw [run_copy_k w.drew _ _ ty 83 3 b ((i + 1) * 3) (n - i) dc ⟨b, i * 3, none⟩ (n + 1 - i) sc cs cur 83 Tryz.underlying30 hsz (by rw [hcl, hmin]) ?_ hh (by rw [hcl, hcur]; omega) h1c, hmin, e1]
    intro j v hj
    rw [hcs, List.getElem?_take] at hj
    split at hj
    · rw [List.getElem?_drop] at hj
      rw [Addr.add_lit]
      have : w.drew.heap[b]? = some (.cells cur 83 (0, 0)) := hh
      simp only [World.cell?, this]
      simpa using hj
    · cases hj
  have hs1 : cur1.size = c * 3 := by
    have h3 : (i + 1) * 3 + (n - i) * 3 ≤ c * 3 := by omega
    rw [e1]
    simp only [List.size_toArray, List.length_append, List.length_take, List.length_drop, Array.length_toList, hcl, hcur]
    omega
  obtain ⟨W1, hW1⟩ : ∃ W1, W1 = w.drew.setRow b cur1 := ⟨_, rfl⟩
  have hB1 : W1.heap[b]? = some (.cells cur1 83 (0, 0)) := by rw [hW1]; exact setRow_heap w.drew b cur cur1 83 (0, 0) hh
  have hV1 : W1.heap[vb]? = some (.cells curv 83 (0, 0)) := by rw [hW1, setRow_other hvb]; exact hv
  have hcp2 : ∀ (W : World), W.heap = W1.heap → ∀ ty dc, (Builtin.copy_ #[30, 30] ty #[.slice (some ⟨b, i * 3, none⟩) (n + 1 - i) dc, .slice (some ⟨vb, 0, none⟩) 1 vc]).run Tryz.prog W = .ok (goInt ((1 : Nat) : Int)) (W.setRow b cur2) := fun W hW ty dc => by
    rw [run_copy_k W _ _ ty 83 3 b (i * 3) (n + 1 - i) dc ⟨vb, 0, none⟩ 1 vc vs cur1 83 Tryz.underlying30 hsz (by rw [hvl, hmin2]) ?_ (by rw [hW]; exact hB1) (by rw [hvl, hs1]; omega) h1v, hmin2, e2]
    intro j v hj
    rw [← hvs, List.getElem?_take] at hj
    split at hj
    · rw [Addr.add_lit]
      simp only [World.cell?, hW, hV1]
      simpa using hj
    · cases hj
  rw [← hW1] at hcp1
  have mixed : Tryz.prog.follows .mixedOrders = true := by kernel_rfl
  have H := Lib.hid hW1
  clear hW1 hcs e1 e2 hvs hs1 hB1 hV1 hcl hh hv hcur hvl h1c h1v hmin hmin2 hsz
  go_enter Tryz.func208, Tryz.ntmps208
  go_wp2_with (simp only [hov])
  go_region_law_o (refine step_copy_k rfl _ _ 30 30 rfl _ _ (by simp [Act.eval, Act.put]) (by simp [Act.eval, Act.put]) (hcp1 _ _ _) ?_)
  go_wp2_with (at_builtin; refine wpList_copy_k _ rfl _ _ 30 30 rfl _ _ rfl rfl (hcp2 _ rfl _ _) ?_)
  go_ret
  exact ⟨rfl, by rw [H.out]⟩
set_option maxHeartbeats 4000000 in
theorem ins_grow (b n c i vb vc : Nat) (cur : Array Value) (cs vs : List Value) (curv : Array Value) (w : World) (hi : i < n) (hnc : n ≤ c) (hroom : c < n + 1) (hbig : (n + 1) * 32 ≤ 140737488355328)
    (hh : w.heap[b]? = some (.cells cur 83 (0, 0))) (hcur : cur.size = c * 3) (hcs : cs = (cur.toList.drop (i * 3)).take ((n - i) * 3)) (h1c : ∀ v ∈ cs, v.oneCell' = true)
    (hv : w.heap[vb]? = some (.cells curv 83 (0, 0))) (hvs : curv.toList.take 3 = vs) (hvl : vs.length = 3) (h1v : ∀ v ∈ vs, v.oneCell' = true) :
    Calls Tryz.prog 208 #[.slice (some ⟨b, 0, none⟩) n c, .int .i64 i, .slice (some ⟨vb, 0, none⟩) 1 vc] w fun e w' =>
      ∃ (G : Nat) (ROW A1 A2 : Array Value) (W : World), e = .returned (.slice (some ⟨w.heap.size, 0, none⟩) (n + 1) G) ∧ n + 1 ≤ G ∧ G ≤ 9223372036854775807 ∧ ROW.size = G * 3 ∧ ROW.toList.take (i * 3) = cur.toList.take (i * 3) ∧
        A1 = (ROW.toList.take (i * 3) ++ vs ++ ROW.toList.drop (i * 3 + vs.length)).toArray ∧ A2 = (A1.toList.take ((i + 1) * 3) ++ cs ++ A1.toList.drop ((i + 1) * 3 + cs.length)).toArray ∧
        W = w.drew.alloc (.cells ROW 83) ∧ ∃ m m', w' = (((W.drewN m).setRow w.heap.size A1).drewN m').setRow w.heap.size A2 := by
  have mixed : Tryz.prog.follows .mixedOrders = true := by kernel_rfl
  have hsz : (Tryz.prog.info? 83).map (·.size) = some 3 := by kernel_rfl
  obtain ⟨i0, z0, hi0, hz0, hzs, hzb, hzc⟩ : ∃ (i0 : TypeInfo) (z0 : Value), Tryz.prog.info? 83 = some i0 ∧ i0.zero = some z0 ∧ i0.size = 3 ∧ i0.bytes = 32 ∧ z0.cells.size = 3 := ⟨_, _, rfl, rfl, rfl, rfl, rfl⟩
  have hz2 : ¬ ((i : Int) = (n : Int)) := by omega
  have hz3 : (c : Int) < (n : Int) + 1 := by omega
  have hb : b < w.heap.size := by
    rcases Nat.lt_or_ge b w.heap.size with h | h
    · exact h
    · rw [Array.getElem?_eq_none h] at hh; cases hh
  have hvb : vb < w.heap.size := by
    rcases Nat.lt_or_ge vb w.heap.size with h | h
    · exact h
    · rw [Array.getElem?_eq_none h] at hv; cases hv
  have hkk : (n : Int) + 1 - (i : Int) = ((n + 1 - i : Nat) : Int) := by omega
  have hik : i + (n + 1 - i) = n + 1 := by omega
  have hold : (Builtin.firstCells i0.size i (.slice (some ⟨b, 0, none⟩) i c)).run Tryz.prog w.drew = .ok (cur.toList.take (i * 3)).toArray w.drew := by
    rw [hzs]
    exact run_firstCells_some w.drew 3 i ⟨b, 0, none⟩ i c (cur.toList.take (i * 3)) (by rw [List.length_take, Array.length_toList, hcur]; omega) (fun j v hj => by
      rw [Addr.add_lit]
      rw [List.getElem?_take] at hj
      split at hj
      · have : w.drew.heap[b]? = some (.cells cur 83 (0, 0)) := hh
        simp only [World.cell?, this]
        simpa using hj
      · cases hj)
  have hrz : ∀ ty, (Builtin.append_ #[30, 3] ty #[.slice (some ⟨b, 0, none⟩) i c, .int .i64 ((n : Int) + 1 - (i : Int))]).run Tryz.prog w =
      .ok (.slice (some ⟨w.heap.size, 0, none⟩) (n + 1) (grownCap w (n + 1) c 83)) (w.drew.alloc (.cells ((cur.toList.take (i * 3)).toArray ++ Builtin.zeroCells z0.cells (n + 1 - i) ++ Builtin.zeroCells z0.cells (grownCap w (n + 1) c 83 - (n + 1))) 83)) := fun ty => by
    have h := Lib.run_append_grow_zeros w 30 3 ty 83 i0 _ .i64 .i64 Tryz.underlying30 Tryz.underlying3 hi0 hz0 (some ⟨b, 0, none⟩) i c (cur.toList.take (i * 3)) hold (n + 1 - i) (by omega) (by omega) (by omega) (by omega) (by rw [hzb]; omega) (by rw [hzb, hik]; exact growslice_fits hroom hbig)
    rw [hik] at h
    rw [hkk]
    exact h
  obtain ⟨G, hG⟩ : ∃ G, G = grownCap w (n + 1) c 83 := ⟨_, rfl⟩
  obtain ⟨ROW, hROW⟩ : ∃ ROW : Array Value, ROW = (cur.toList.take (i * 3)).toArray ++ Builtin.zeroCells z0.cells (n + 1 - i) ++ Builtin.zeroCells z0.cells (G - (n + 1)) := ⟨_, rfl⟩
  rw [← hG] at hrz
  rw [← hROW] at hrz
  have hGn : n + 1 ≤ G := by rw [hG]; exact grownCap_ge w _ _ _
  have hG63 : G ≤ 9223372036854775807 := by
    have := grownCap_le_maxLen w (n + 1) c 83 (by unfold maxLen; omega)
    rw [← hG] at this
    unfold maxLen at this
    omega
  have hzl : ∀ k, (Builtin.zeroCells z0.cells k).size = k * 3 := fun k => by simp [Builtin.zeroCells, hzc]
  have hRs : ROW.size = G * 3 := by
    rw [hROW]
    simp only [Array.size_append, hzl, List.size_toArray, List.length_take, Array.length_toList, hcur]
    omega
  have hRt : ROW.toList.take (i * 3) = cur.toList.take (i * 3) := by
    rw [hROW]
    simp only [Array.toList_append, List.append_assoc]
    rw [List.take_append_of_le_length (by simp only [List.length_take, Array.length_toList, hcur]; omega)]
    rw [List.take_take, Nat.min_self]
  have hcl : cs.length = (n - i) * 3 := by
    rw [hcs, List.length_take, List.length_drop, Array.length_toList, hcur]
    omega
  obtain ⟨A1, hA1⟩ : ∃ A1, A1 = (ROW.toList.take (i * 3) ++ vs ++ ROW.toList.drop (i * 3 + vs.length)).toArray := ⟨_, rfl⟩
  obtain ⟨A2, hA2⟩ : ∃ A2, A2 = (A1.toList.take ((i + 1) * 3) ++ cs ++ A1.toList.drop ((i + 1) * 3 + cs.length)).toArray := ⟨_, rfl⟩
  have hA1s : A1.size = G * 3 := by
    rw [hA1]
    simp only [List.size_toArray, List.length_append, List.length_take, List.length_drop, Array.length_toList, hvl, hRs]
    omega
  obtain ⟨nb, hnb⟩ : ∃ nb, nb = w.heap.size := ⟨_, rfl⟩
  obtain ⟨W1, hW1⟩ : ∃ W1, W1 = w.drew.alloc (.cells ROW 83) := ⟨_, rfl⟩
  rw [← hW1, ← hnb] at hrz
  have hN1 : W1.heap[nb]? = some (.cells ROW 83 (0, 0)) := by rw [hW1, hnb]; exact heap_alloc_new w.drew _
  have hO1 : ∀ k, k < nb → W1.heap[k]? = w.heap[k]? := fun k hk => by rw [hW1]; exact heap_alloc_old w.drew _ (by rw [hnb] at hk; exact hk)
  have hmin : Nat.min (n - i) (n - i) = n - i := Nat.min_self _
  have hmin2 : Nat.min 1 (n + 1 - i) = 1 := by simp only [Nat.min_def]; split <;> omega
  have hcpA : ∀ (W : World), W.heap = W1.heap → ∀ ty dc, (Builtin.copy_ #[30, 30] ty #[.slice (some ⟨nb, i * 3, none⟩) (n + 1 - i) dc, .slice (some ⟨vb, 0, none⟩) 1 vc]).run Tryz.prog W = .ok (goInt ((1 : Nat) : Int)) (W.setRow nb A1) := fun W hW ty dc => by
    rw [run_copy_k W _ _ ty 83 3 nb (i * 3) (n + 1 - i) dc ⟨vb, 0, none⟩ 1 vc vs ROW 83 Tryz.underlying30 hsz (by rw [hvl, hmin2]) ?_ (by rw [hW]; exact hN1) (by rw [hvl, hRs]; omega) h1v, hmin2, hA1]
    intro j v hj
    rw [← hvs, List.getElem?_take] at hj
    split at hj
    · rw [Addr.add_lit]
      simp only [World.cell?, hW, hO1 vb (by omega), hv]
      simpa using hj
    · cases hj
  have hcpB : ∀ (W : World), W.heap = (W1.setRow nb A1).heap → ∀ ty dc sc, (Builtin.copy_ #[30, 30] ty #[.slice (some ⟨nb, (i + 1) * 3, none⟩) (n - i) dc, .slice (some ⟨b, i * 3, none⟩) (n - i) sc]).run Tryz.prog W = .ok (goInt ((n - i : Nat) : Int)) (W.setRow nb A2) := fun W hW ty dc sc => by
    rw [run_copy_k W _ _ ty 83 3 nb ((i + 1) * 3) (n - i) dc ⟨b, i * 3, none⟩ (n - i) sc cs A1 83 Tryz.underlying30 hsz (by rw [hcl, hmin]) ?_ (by rw [hW]; exact setRow_heap W1 nb ROW A1 83 (0, 0) hN1) (by rw [hcl, hA1s]; omega) h1c, hmin, hA2]
    intro j v hj
    rw [hcs, List.getElem?_take] at hj
    split at hj
    · rw [List.getElem?_drop] at hj
      rw [Addr.add_lit]
      have : W.heap[b]? = some (.cells cur 83 (0, 0)) := by rw [hW, setRow_other (by omega), hO1 b (by omega)]; exact hh
      simp only [World.cell?, this]
      simpa using hj
    · cases hj
  have hGi : ¬ (G = i) := by omega
  have hGim : ¬ (G = i + 1) := by omega
  have hci : ¬ (c = i) := by omega
  have hw1 : IntKind.i64.wrap ((i : Int) + 1) = (i : Int) + 1 := by rw [IntKind.wrap_i64]; omega
  have hb1 : (0 : Int) ≤ (i : Int) + 1 := by omega
  have hin : i ≤ n := by omega
  have htn : ((i : Int) + 1).toNat = i + 1 := by omega
  have hb3 : (i : Int) ≤ (n : Int) := by omega
  have H := Lib.hid (show n + 1 ≤ G ∧ G ≤ 9223372036854775807 ∧ ROW.size = G * 3 ∧ ROW.toList.take (i * 3) = cur.toList.take (i * 3) ∧ A1 = (ROW.toList.take (i * 3) ++ vs ++ ROW.toList.drop (i * 3 + vs.length)).toArray ∧ A2 = (A1.toList.take ((i + 1) * 3) ++ cs ++ A1.toList.drop ((i + 1) * 3 + cs.length)).toArray ∧ W1 = w.drew.alloc (.cells ROW 83) from ⟨hGn, hG63, hRs, hRt, hA1, hA2, hW1⟩)
  have hE1 : W1.drew.heap = W1.heap := rfl
  have hF1 : ((W1.drew.setRow nb A1).drew).heap = (W1.setRow nb A1).heap := rfl
  have hF2 : ((W1.setRow nb A1).drew).heap = (W1.setRow nb A1).heap := rfl
  have HN := Lib.hid hnb
  rw [← hnb]
  clear hnb hkk hik hold hROW hG hRs hRt hA1 hA2 hW1 hA1s hcl hN1 hO1 hcs hvs hvl h1v h1c hh hv hcur hzl hmin hmin2 hb hvb hz0 hi0 hzs hzb hzc hsz hbig
  go_enter Tryz.func208, Tryz.ntmps208
  go_wp2_with (first
    | (at_builtin; refine Lib.wpList_append_run _ rfl _ _ _ _ rfl _ _ rfl rfl _ _ (hrz _) ?_)
    | (at_builtin; refine wpList_copy_k _ rfl _ _ 30 30 rfl _ _ rfl rfl (hcpA _ hE1 _ _) ?_)
    | (at_builtin; refine wpList_copy_k _ rfl _ _ 30 30 rfl _ _ rfl rfl (hcpA _ rfl _ _) ?_))
  go_region_law_o (refine step_copy_k rfl _ _ 30 30 rfl _ _ (by simp [Act.eval, Act.put]) (by simp [Act.eval, Act.put]) (hcpB _ hF2 _ _ _) ?_)
  go_wp2
  go_ret
  obtain ⟨q1, q2, q3, q4, q5, q6, q7⟩ := H.out
  exact ⟨G, ROW, A1, A2, W1, rfl, q1, q2, q3, q4, q5, q6, q7, 0, 1, rfl⟩
end Go.Proofs.YtjhbihooobingaaGreatDoor
/-
  slices.Insert at nodes, as a contract with lent rows.
-/
namespace Go.Proofs.YtjhbihooobingaaGreatDoor
open Go Go.RowKit Go.Proofs
attribute [local irreducible] RWp AW run kPe pe Kt effA gd gu br retR RDp runD kPeD brW gW effD
set_option maxRecDepth 100000

/-- The cells of a list of nodes. -/
def fv1 (n : Nd) : List Value := [sV n.p, .int .i64 n.c.k, .int .i64 n.c.v]
def fvN : List Nd → List Value
  | [] => []
  | n :: l => fv1 n ++ fvN l
theorem fvN_len : ∀ l : List Nd, (fvN l).length = l.length * 3
  | [] => rfl
  | n :: l => by rw [fvN, List.length_append, fvN_len l]; simp [fv1]; omega
theorem fvN_app : ∀ a b : List Nd, fvN (a ++ b) = fvN a ++ fvN b
  | [], b => rfl
  | n :: a, b => by rw [List.cons_append, fvN, fvN_app a b, fvN, List.append_assoc]
theorem fvN_take (l : List Nd) (i : Nat) (hi : i ≤ l.length) : (fvN l).take (i * 3) = fvN (l.take i) := by
  have h : fvN l = fvN (l.take i) ++ fvN (l.drop i) := by rw [← fvN_app, List.take_append_drop]
  have e : i * 3 = (fvN (l.take i)).length := by rw [fvN_len, List.length_take]; congr 1; omega
  rw [h, e, List.take_left]
theorem fvN_drop (l : List Nd) (i : Nat) (hi : i ≤ l.length) : (fvN l).drop (i * 3) = fvN (l.drop i) := by
  have h : fvN l = fvN (l.take i) ++ fvN (l.drop i) := by rw [← fvN_app, List.take_append_drop]
  have e : i * 3 = (fvN (l.take i)).length := by rw [fvN_len, List.length_take]; congr 1; omega
  rw [h, e, List.drop_left]
theorem fvN_get : ∀ (l : List Nd) (k j : Nat) (n : Nd), l[k]? = some n → j < 3 → (fvN l)[k * 3 + j]? = (fv1 n)[j]?
  | [], k, j, n, h, _ => by simp at h
  | m :: l, 0, j, n, h, hj => by
    simp at h
    subst h
    rw [fvN, Nat.zero_mul, Nat.zero_add, List.getElem?_append_left (by simp [fv1]; omega)]
  | m :: l, k + 1, j, n, h, hj => by
    have h' : l[k]? = some n := by simpa using h
    rw [fvN, List.getElem?_append_right (by simp [fv1]; omega)]
    rw [← fvN_get l k j n h' hj]
    congr 1
    simp [fv1]
    omega
theorem fv1_ndC (n : Nd) : ndC n = (fv1 n).map .v := rfl
theorem fvN_one : ∀ (l : List Nd), ∀ v ∈ fvN l, v.oneCell' = true
  | [], v, h => by simp [fvN] at h
  | n :: l, v, h => by
    rw [fvN, List.mem_append] at h
    rcases h with h | h
    · simp [fv1] at h
      rcases h with rfl | rfl | rfl <;> rfl
    · exact fvN_one l v h
section
variable {h : Hp} {loc : Loc} {w : World} {r b c : Nat} {l : List Nd}
theorem rowN_ok {cur : Array Value} (hl : loc r = some (b, c)) (hh : w.heap[b]? = some (.cells cur 83 (0, 0))) (hs : cur.size = c * 3) (hn : l.length ≤ c) (hm : c ≤ maxLen) (hf : cur.toList.take (l.length * 3) = fvN l) : RowOk h loc w r (rowN l) := by
  refine RowOk.mk' (b := b) (c := c) (cur := cur) hl ?_ (by simpa using hn) hm hh hs ?_
  · intro k e he
    rw [List.getElem?_map] at he
    obtain ⟨n, _, rfl⟩ := Option.map_eq_some_iff.1 he
    rfl
  · intro k e j x he hx
    rw [List.getElem?_map] at he
    obtain ⟨n, hn, rfl⟩ := Option.map_eq_some_iff.1 he
    have hj : j < 3 := by have := lt_of_some hx; simpa [ndC] using this
    rw [fv1_ndC, List.getElem?_map] at hx
    obtain ⟨v, hv, rfl⟩ := Option.map_eq_some_iff.1 hx
    have hk := lt_of_some hn
    have h1 := fvN_get l k j n hn hj
    rw [hv, ← hf, List.getElem?_take] at h1
    split at h1
    · refine ⟨v, by simpa using h1, fvN_one l v ?_, .cl .v, fun _ => .v⟩
      rw [← hf]
      exact List.mem_of_getElem? (by rw [List.getElem?_take, if_pos (by assumption)]; exact h1)
    · cases h1
theorem rowN_open (hr : RowOk h loc w r (rowN l)) (hl : loc r = some (b, c)) : l.length ≤ c ∧ c ≤ maxLen ∧ ∃ cur : Array Value, w.heap[b]? = some (.cells cur 83 (0, 0)) ∧ cur.size = c * 3 ∧ cur.toList.take (l.length * 3) = fvN l := by
  obtain ⟨_, hn, hm, cur, hh, hs, hc⟩ := hr.open hl
  simp only [List.length_map] at hn
  refine ⟨hn, hm, cur, hh, hs, ?_⟩
  apply List.ext_getElem?
  intro q
  rcases Nat.lt_or_ge q (l.length * 3) with hq | hq
  · have hk : q / 3 < l.length := by omega
    obtain ⟨n, hn⟩ := get_of_lt hk
    have hj : q % 3 < 3 := by omega
    have e : q = q / 3 * 3 + q % 3 := by omega
    obtain ⟨v, hv⟩ : ∃ v, (fv1 n)[q % 3]? = some v := get_of_lt (by simpa [fv1] using hj)
    obtain ⟨u, h1, _, h3, _⟩ := hc (q / 3) (ndC n) (q % 3) (.v v) (map_get ndC hn) (by rw [fv1_ndC, List.getElem?_map, hv]; rfl)
    have h4 := h3.v_inv
    subst h4
    rw [List.getElem?_take, if_pos hq]
    have h5 := fvN_get l (q / 3) (q % 3) n hn hj
    rw [← e] at h5
    rw [h5, hv]
    change cur[q / 3 * 3 + q % 3]? = _ at h1
    rw [← e] at h1
    simpa using h1
  · rw [List.getElem?_eq_none (by rw [List.length_take]; omega), List.getElem?_eq_none (by rw [fvN_len]; omega)]
end
end Go.Proofs.YtjhbihooobingaaGreatDoor
/-
  slices.Insert at nodes: the contract.
-/
namespace Go.Proofs.YtjhbihooobingaaGreatDoor
open Go Go.RowKit Go.Proofs
attribute [local irreducible] RWp AW run kPe pe Kt effA gd gu br retR RDp runD kPeD brW gW effD
set_option maxRecDepth 100000

theorem ins_list {l : List Nd} {x : Nd} {i n c : Nat} {cur cs cur1 cur2 : List Value} (hi : i < n) (hn : n = l.length) (hnc : n ≤ c) (hcur : cur.length = c * 3) (hf : cur.take (n * 3) = fvN l)
    (hcs : cs = (cur.drop (i * 3)).take ((n - i) * 3)) (e1 : cur1 = cur.take ((i + 1) * 3) ++ cs ++ cur.drop ((i + 1) * 3 + cs.length)) (e2 : cur2 = cur1.take (i * 3) ++ fv1 x ++ cur1.drop (i * 3 + (fv1 x).length)) :
    cur2.take ((n + 1) * 3) = fvN (l.take i ++ x :: l.drop i) := by
  have h1 : cs = fvN (l.drop i) := by
    rw [hcs, ← fvN_drop l i (by omega), ← hf, List.drop_take]
    congr 1
    omega
  have h2 : cur.take (i * 3) = fvN (l.take i) := by
    rw [← fvN_take l i (by omega), ← hf, List.take_take, Nat.min_eq_left (by omega)]
  have hlen : (cur.take ((i + 1) * 3)).length = (i + 1) * 3 := by rw [List.length_take]; omega
  have h3 : cur1.take (i * 3) = fvN (l.take i) := by
    rw [e1, List.append_assoc, List.take_append_of_le_length (by omega), List.take_take, Nat.min_eq_left (by omega), h2]
  have h4 : cur1.drop (i * 3 + (fv1 x).length) = cs ++ cur.drop ((i + 1) * 3 + cs.length) := by
    have : i * 3 + (fv1 x).length = (cur.take ((i + 1) * 3)).length := by rw [hlen]; simp [fv1]; omega
    rw [this, e1, List.append_assoc, List.drop_left]
  rw [e2, h3, h4, fvN_app, fvN, h1]
  have e : (n + 1) * 3 = (fvN (l.take i) ++ (fv1 x ++ fvN (l.drop i))).length := by
    simp only [List.length_append, fvN_len, List.length_take, List.length_drop]
    simp [fv1]; omega
  rw [e, show fvN (l.take i) ++ fv1 x ++ (fvN (l.drop i) ++ cur.drop ((i + 1) * 3 + (fvN (l.drop i)).length)) = (fvN (l.take i) ++ (fv1 x ++ fvN (l.drop i))) ++ cur.drop ((i + 1) * 3 + (fvN (l.drop i)).length) by simp only [List.append_assoc], List.take_left]
theorem ins_list2 {l : List Nd} {x : Nd} {i n c G : Nat} {cur cs ROW A1 A2 : List Value} (hi : i < n) (hn : n = l.length) (hnc : n ≤ c) (hcur : cur.length = c * 3) (hf : cur.take (n * 3) = fvN l)
    (hcs : cs = (cur.drop (i * 3)).take ((n - i) * 3)) (hG : n + 1 ≤ G) (hR : ROW.length = G * 3) (hRt : ROW.take (i * 3) = cur.take (i * 3))
    (e1 : A1 = ROW.take (i * 3) ++ fv1 x ++ ROW.drop (i * 3 + (fv1 x).length)) (e2 : A2 = A1.take ((i + 1) * 3) ++ cs ++ A1.drop ((i + 1) * 3 + cs.length)) :
    A2.take ((n + 1) * 3) = fvN (l.take i ++ x :: l.drop i) := by
  have h1 : cs = fvN (l.drop i) := by
    rw [hcs, ← fvN_drop l i (by omega), ← hf, List.drop_take]
    congr 1
    omega
  have h2 : cur.take (i * 3) = fvN (l.take i) := by
    rw [← fvN_take l i (by omega), ← hf, List.take_take, Nat.min_eq_left (by omega)]
  have h3 : A1.take ((i + 1) * 3) = fvN (l.take i) ++ fv1 x := by
    have e : (i + 1) * 3 = (fvN (l.take i) ++ fv1 x).length := by rw [List.length_append, fvN_len, List.length_take]; simp [fv1]; omega
    rw [e1, hRt, h2, e, List.take_left]
  rw [e2, h3, fvN_app, fvN, h1]
  have e : (n + 1) * 3 = (fvN (l.take i) ++ (fv1 x ++ fvN (l.drop i))).length := by
    simp only [List.length_append, fvN_len, List.length_take, List.length_drop]
    simp [fv1]; omega
  rw [e, show fvN (l.take i) ++ fv1 x ++ fvN (l.drop i) ++ A1.drop ((i + 1) * 3 + (fvN (l.drop i)).length) = (fvN (l.take i) ++ (fv1 x ++ fvN (l.drop i))) ++ A1.drop ((i + 1) * 3 + (fvN (l.drop i)).length) by simp only [List.append_assoc], List.take_left]
/-- What Insert leaves. -/
def insD (l : List Nd) (x : Nd) (i : Nat) (rv : AV) (lr' rows : List Row) : Prop := rv = .o 0 (l.length + 1) ∧ lr' = [rowN (l.take i ++ x :: l.drop i), rowN [x]] ∧ rows = []
/-- From what a call left to the contract. -/
theorem insLP {l l' : List Nd} {x : Nd} {fb : Nat → Prop} {loc : Loc} {w w' : World} {b c vb vc nb G : Nat} {A2 curv : Array Value} (hLW : LW [rowN l, rowN [x]] fb w loc) (hb : loc 0 = some (b, c)) (hvb : loc 1 = some (vb, vc)) (hne : vb ≠ b)
    (hl' : l'.length = l.length + 1) (hG : l'.length ≤ G) (hGm : G ≤ maxLen) (hs : A2.size = G * 3) (hf : A2.toList.take (l'.length * 3) = fvN l')
    (hcv : w.heap[vb]? = some (.cells curv 83 (0, 0))) (hcs : curv.size = vc * 3) (h1c : 1 ≤ vc) (hvm : vc ≤ maxLen) (hcf : curv.toList.take (1 * 3) = fvN [x])
    (hnb : nb = b ∨ nb = w.heap.size) (hh : w'.heap[nb]? = some (.cells A2 83 (0, 0))) (hk : ∀ k, k < w.heap.size → k ≠ nb → w'.heap[k]? = w.heap[k]?) (hsz : w.heap.size ≤ w'.heap.size)
    (hos : w'.os = w.os) (htp : w'.tape = w.tape) (hot : w'.output = w.output) :
    LP [rowN l, rowN [x]] [rowN l', rowN [x]] [] (mvF (some 0)) fb loc w w' (.o 0 (l.length + 1)) (.slice (some ⟨nb, 0, none⟩) (l.length + 1) G) ⟨fun r => if r = 0 then some (nb, G) else loc r, fb⟩ := by
  have hL0 : LiveR (hpOf 0 [rowN l, rowN [x]]) loc b := ⟨0, rowN l, c, by simp [hpOf, hget], hb⟩
  have hL1 : LiveR (hpOf 0 [rowN l, rowN [x]]) loc vb := ⟨1, rowN [x], vc, by simp [hpOf, hget], hvb⟩
  have hvlt : vb < w.heap.size := by
    rcases Nat.lt_or_ge vb w.heap.size with h | h
    · exact h
    · rw [Array.getElem?_eq_none h] at hcv; cases hcv
  have hcase : ∀ r row, hget (hpOf 0 ([rowN l', rowN [x]] ++ [])) r = some row → (r = 0 ∧ row = rowN l') ∨ (r = 1 ∧ row = rowN [x]) := by
    intro r row hr
    simp only [List.append_nil, hpOf, hget] at hr
    split at hr
    · cases hr; exact .inl ⟨by omega, rfl⟩
    · split at hr
      · cases hr; exact .inr ⟨by omega, rfl⟩
      · cases hr
  have hvnb : vb ≠ nb := by rcases hnb with h | h <;> omega
  refine ⟨rfl, hos, htp, hot, hsz, ?_, rfl, ?_, ?_, ?_, ?_, ?_⟩
  · intro k hlt hnl
    refine hk k hlt ?_
    rintro rfl
    rcases hnb with h | h
    · exact hnl (h ▸ hL0)
    · omega
  · intro r hr hm
    have : r ≠ 0 := by rintro rfl; simp [mvF] at hm
    simp [Loc.at_, this]
  · exact .o (row := rowN l') (by simp [hpOf, hget]) (by rfl) (by simp [hl'])
  · intro r row hr
    rcases hcase r row hr with ⟨rfl, rfl⟩ | ⟨rfl, rfl⟩
    · exact ⟨rfl, rowN_ok rfl hh hs hG hGm hf⟩
    · exact ⟨rfl, rowN_ok (b := vb) (c := vc) (cur := curv) (by simpa [Loc.at_] using hvb) (by rw [hk vb hvlt hvnb]; exact hcv) hcs h1c hvm hcf⟩
  · intro r r' row row' b1 c1 c2 hr hr' h1 h2
    rcases hcase r row hr with ⟨rfl, rfl⟩ | ⟨rfl, rfl⟩ <;> rcases hcase r' row' hr' with ⟨rfl, rfl⟩ | ⟨rfl, rfl⟩
    · rfl
    · exfalso
      simp [Loc.at_] at h1 h2
      rw [hvb] at h2
      cases h2
      exact hvnb h1.1.symm
    · exfalso
      simp [Loc.at_] at h1 h2
      rw [hvb] at h1
      cases h1
      exact hvnb h2.1.symm
    · rfl
  · intro r row b1 c1 hr h1
    rcases hcase r row hr with ⟨rfl, rfl⟩ | ⟨rfl, rfl⟩
    · simp [Loc.at_] at h1
      rcases hnb with h | h
      · right; rw [← h1.1, h]; exact hL0
      · left; omega
    · right
      simp [Loc.at_] at h1
      rw [hvb] at h1
      cases h1
      exact hL1
end Go.Proofs.YtjhbihooobingaaGreatDoor
/-
  slices.Insert at nodes: the contract, whole.
-/
namespace Go.Proofs.YtjhbihooobingaaGreatDoor
open Go Go.RowKit Go.Proofs
attribute [local irreducible] RWp AW run kPe pe Kt effA gd gu br retR RDp runD kPeD brW gW effD
set_option maxRecDepth 100000

theorem arr3 (vs : Array Value) (a b c : Value) (h : vs.size = 3) (h0 : vs.getD 0 undef = a) (h1 : vs.getD 1 undef = b) (h2 : vs.getD 2 undef = c) : vs = #[a, b, c] := by
  apply Array.ext
  · simpa using h
  · intro i h3 h4
    have : i = 0 ∨ i = 1 ∨ i = 2 := by simp at h4; omega
    rcases this with rfl | rfl | rfl
    · simpa [Array.getD, h3] using h0
    · simpa [Array.getD, h3] using h1
    · simpa [Array.getD, h3] using h2
theorem G.o_inv {h : Hp} {loc : Loc} {w : World} {r n : Nat} {u : Value} (hx : G h loc w (.o r n) u) (hn : 0 < n) : ∃ row b c, hget h r = some row ∧ loc r = some (b, c) ∧ u = .slice (some ⟨b, 0, none⟩) n c := by
  cases hx with
  | cl hc => cases hc
  | o hr hl _ => exact ⟨_, _, _, hr, hl, rfl⟩
  | onil => omega
theorem Insert_mid (l : List Nd) (x : Nd) (i : Nat) (hi : i < l.length) (hl : l.length < 4294967281) : PCL Tryz.prog 208 [rowN l, rowN [x]] (mvF (some 0)) [.o 0 l.length, iA i, .o 1 1] (insD l x i) := by
  refine ⟨enters_of Tryz.func208 (by kernel_rfl) rfl, fun w fb loc vs hLW hvs hg => ?_⟩
  have g0 := hg 0 _ rfl
  have g1 := hg 1 _ rfl
  have g2 := hg 2 _ rfl
  have r0 : hget (hpOf 0 [rowN l, rowN [x]]) 0 = some (rowN l) := by simp [hpOf, hget]
  have r1 : hget (hpOf 0 [rowN l, rowN [x]]) 1 = some (rowN [x]) := by simp [hpOf, hget]
  generalize hv0 : vs.getD 0 undef = v0 at g0
  generalize hv1 : vs.getD 1 undef = v1 at g1
  generalize hv2 : vs.getD 2 undef = v2 at g2
  have hv1' := g1.v_inv
  subst hv1'
  obtain ⟨row, b, c, hr, hl0, hv0'⟩ := g0.o_inv (by omega)
  obtain ⟨row1, vb, vc, hr1, hl1, hv2'⟩ := g2.o_inv (by omega)
  subst hv0' hv2'
  · · 
      have harr := arr3 vs _ _ _ (by simpa using hvs) hv0 hv1 hv2
      subst harr
      obtain ⟨_, hok0⟩ := hLW.rw 0 _ r0
      obtain ⟨_, hok1⟩ := hLW.rw 1 _ r1
      obtain ⟨hnc, hcm, cur, hh, hcur, hf⟩ := rowN_open hok0 hl0
      obtain ⟨hvc, hvm, curv, hhv, hcv, hfv⟩ := rowN_open hok1 hl1
      have hne : vb ≠ b := by
        intro e
        have := hLW.inj 1 0 _ _ vb vc c r1 r0 hl1 (by rw [e]; exact hl0)
        omega
      have hblt : b < w.heap.size := by
        rcases Nat.lt_or_ge b w.heap.size with h | h
        · exact h
        · rw [Array.getElem?_eq_none h] at hh; cases hh
      have hl' : (l.take i ++ x :: l.drop i).length = l.length + 1 := by
        simp only [List.length_append, List.length_take, List.length_cons, List.length_drop]; omega
      have hfv' : curv.toList.take 3 = fv1 x := by simpa [fvN] using hfv
      have h1v : ∀ v ∈ fv1 x, v.oneCell' = true := fun v hv => fvN_one [x] v (by simpa [fvN] using hv)
      have hcm' : c ≤ 9223372036854775807 := by unfold maxLen at hcm; omega
      have h1c : ∀ v ∈ (cur.toList.drop (i * 3)).take ((l.length - i) * 3), v.oneCell' = true := by
        intro v hv
        have : (cur.toList.drop (i * 3)).take ((l.length - i) * 3) = fvN (l.drop i) := by
          rw [← fvN_drop l i (by omega), ← hf, List.drop_take]
          congr 1
          omega
        rw [this] at hv
        exact fvN_one _ v hv
      simp only [List.length_cons, List.length_nil] at hvc
      rcases Nat.lt_or_ge c (l.length + 1) with hroom | hroom
      · refine (ins_grow b l.length c i vb vc cur _ (fv1 x) curv w hi hnc hroom (by omega) hh hcur rfl h1c hhv hfv' rfl h1v).mono ?_
        rintro e w' ⟨G, ROW, A1, A2, W, rfl, hG1, hG2, hR, hRt, e1, e2, hW, m, m', hw'⟩
        refine ⟨_, _, _, _, ⟨fun r => if r = 0 then some (w.heap.size, G) else loc r, fb⟩, ⟨rfl, rfl, rfl⟩, rfl, ?_⟩
        have hA1 : W.heap[w.heap.size]? = some (.cells ROW 83 (0, 0)) := by rw [hW]; exact heap_alloc_new w.drew _
        have hA2s : A2.size = G * 3 := by
          rw [e2, e1]
          simp only [List.size_toArray, List.length_append, List.length_take, List.length_drop, Array.length_toList, hR, hcur]
          simp [fv1]; omega
        refine insLP hLW hl0 hl1 hne hl' (by omega) (by unfold maxLen; omega) hA2s ?_ hhv hcv (by omega) hvm (by simpa using hfv) (.inr rfl) ?_ ?_ ?_ ?_ ?_ ?_
        · rw [hl']
          exact ins_list2 (cur := cur.toList) (ROW := ROW.toList) (A1 := A1.toList) hi rfl hnc (by simpa using hcur) hf rfl hG1 (by simpa using hR) hRt (by rw [e1]) (by rw [e2])
        · rw [hw']
          refine setRow_heap _ _ A1 A2 _ (0, 0) ?_
          show ((W.drewN m).setRow w.heap.size A1).heap[w.heap.size]? = _
          exact setRow_heap _ _ ROW A1 _ (0, 0) hA1
        · intro k hk hkn
          rw [hw', setRow_other hkn]
          show ((W.drewN m).setRow w.heap.size A1).heap[k]? = _
          rw [setRow_other hkn]
          show W.heap[k]? = _
          rw [hW]
          exact heap_alloc_old w.drew _ hk
        · rw [hw', hW]
          simp [World.alloc]
        · rw [hw', hW]; rfl
        · rw [hw', hW]; rfl
        · rw [hw', hW]; rfl
      · refine (ins_shift b l.length c i vb vc cur _ (fv1 x) curv w hi hroom hcm' hne hh hcur rfl h1c hhv hfv' rfl h1v _ _ rfl rfl).mono ?_
        rintro e w' ⟨rfl, hw'⟩
        refine ⟨_, _, _, _, ⟨fun r => if r = 0 then some (b, c) else loc r, fb⟩, ⟨rfl, rfl, rfl⟩, rfl, ?_⟩
        obtain ⟨cs, hcs⟩ : ∃ cs, cs = (cur.toList.drop (i * 3)).take ((l.length - i) * 3) := ⟨_, rfl⟩
        rw [← hcs] at hw'
        obtain ⟨cur1, e1⟩ : ∃ cur1, cur1 = (cur.toList.take ((i + 1) * 3) ++ cs ++ cur.toList.drop ((i + 1) * 3 + cs.length)).toArray := ⟨_, rfl⟩
        rw [← e1] at hw'
        obtain ⟨cur2, e2⟩ : ∃ cur2, cur2 = (cur1.toList.take (i * 3) ++ fv1 x ++ cur1.toList.drop (i * 3 + (fv1 x).length)).toArray := ⟨_, rfl⟩
        rw [← e2] at hw'
        have hcl : cs.length = (l.length - i) * 3 := by
          have : cur.toList.length = c * 3 := by simpa using hcur
          rw [hcs, List.length_take, List.length_drop]
          omega
        have hs1 : cur1.size = c * 3 := by
          rw [e1]
          simp only [List.size_toArray, List.length_append, List.length_take, List.length_drop, Array.length_toList, hcur, hcl]
          omega
        have hs2 : cur2.size = c * 3 := by
          rw [e2]
          simp only [List.size_toArray, List.length_append, List.length_take, List.length_drop, Array.length_toList, hs1]
          simp [fv1]; omega
        refine insLP hLW hl0 hl1 hne hl' (by omega) hcm hs2 ?_ hhv hcv (by omega) hvm (by simpa using hfv) (.inl rfl) ?_ ?_ ?_ ?_ ?_ ?_
        · rw [hl']
          exact ins_list (cur := cur.toList) (cur1 := cur1.toList) hi rfl hnc (by simpa using hcur) hf hcs (by rw [e1]) (by rw [e2])
        · rw [hw']
          refine setRow_heap _ _ cur1 cur2 _ (0, 0) ?_
          exact setRow_heap _ _ cur cur1 _ (0, 0) hh
        · intro k hk hkn
          rw [hw', setRow_other hkn, setRow_other hkn]
          rfl
        · rw [hw']; simp
        · rw [hw']; rfl
        · rw [hw']; rfl
        · rw [hw']; rfl
theorem Insert_pcl (l : List Nd) (x : Nd) (i : Nat) (hi : i ≤ l.length) (hl : l.length < 4294967281) : PCL Tryz.prog 208 [rowN l, rowN [x]] (mvF (some 0)) [.o 0 l.length, iA i, .o 1 1] (insD l x i) := by
  rcases Nat.lt_or_ge i l.length with h | h
  · exact Insert_mid l x i h hl
  · have e : i = l.length := by omega
    subst e
    refine pcl_enter Tryz.func208 rfl rfl (by simp) fun w0 fb loc => go_on ?_
    (try simp only [Tryz.ntmps208, hpL, nmL, mvF, renL, decide_true, decide_false, show eqI 1 0 = false from rfl, push_cast, simprocAttr])
    refine at_chk (by omega) ?_
    (try simp only [push_cast, simprocAttr])
    refine at_retL ?_
    simp only [Tryz.results208, retL, push_cast, simprocAttr]
    simp [show List.range 2 = [0, 1] from rfl, nmL, mvF, ndB, ixOf, rowsOf, hget, insD, ndC]
end Go.Proofs.YtjhbihooobingaaGreatDoor
/-
  The abstract machine: a row is written anew; a row is cut; a slice's tail is cleared.
-/
namespace Go.Proofs.YtjhbihooobingaaGreatDoor
open Go Go.RowKit Go.Proofs

section
variable {w0 : World} {lent : Lent} {s : AS} {loc : Loc} {a : Act} {w : World}
theorem Rel.setRow (hR : Rel w0 lent s loc a w) {r : Nat} {row : Row} {b c : Nat} {cur cur' : Array Value} {es' : List (List AV)} {cl' : Bool} (hrow : hget s.h r = some row) (hl : loc r = some (b, c)) (hh : w.heap[b]? = some (.cells cur row.E (0, 0)))
    (hs' : cur'.size = c * row.sz) (hlen' : ∀ (k : Nat) e, es'[k]? = some e → e.length = row.sz) (hge : row.es.length ≤ es'.length) (hle : es'.length ≤ c) (hm : c ≤ maxLen)
    (hcs : ∀ (k : Nat) e (j : Nat) x, es'[k]? = some e → e[j]? = some x → ∃ u, cur'[k * row.sz + j]? = some u ∧ u.oneCell' = true ∧ G s.h loc w x u ∧ (cl' = true → C (Live s.h loc) 0 w x u)) :
    Rel w0 lent ⟨s.t, hset s.h r ⟨row.E, row.sz, es', cl'⟩⟩ loc a (w.setRow b cur') := by
  have hset' : ∀ q row1, hget s.h q = some row1 → ∃ row2, hget (hset s.h r ⟨row.E, row.sz, es', cl'⟩) q = some row2 ∧ row2.sz = row1.sz ∧ row1.es.length ≤ row2.es.length := by
    intro q row1 hq
    rw [hget_hset]
    by_cases hrq : r = q
    · subst hrq
      rw [hrow] at hq
      cases hq
      rw [if_pos rfl]
      exact ⟨_, rfl, rfl, hge⟩
    · rw [if_neg hrq]
      exact ⟨row1, hq, rfl, Nat.le_refl _⟩
  have hlive : ∀ b', Live (hset s.h r ⟨row.E, row.sz, es', cl'⟩) loc b' ↔ Live s.h loc b' := by
    intro b'
    constructor
    · rintro (⟨q, row1, c1, h1, h2⟩ | hfb)
      · rw [hget_hset] at h1
        by_cases hrq : r = q
        · subst hrq; exact .inl ⟨r, row, c1, hrow, h2⟩
        · rw [if_neg hrq] at h1; exact .inl ⟨q, row1, c1, h1, h2⟩
      · exact .inr hfb
    · rintro (⟨q, row1, c1, h1, h2⟩ | hfb)
      · obtain ⟨row2, h3, _⟩ := hset' q row1 h1
        exact .inl ⟨q, row2, c1, h3, h2⟩
      · exact .inr hfb
  have hbl : Live s.h loc b := .inl ⟨r, row, c, hrow, hl⟩
  have hold : ∀ b', b' < w.heap.size → ¬ Live s.h loc b' → (w.setRow b cur').heap[b']? = w.heap[b']? := fun b' _ hnl => setRow_other (fun e => hnl (e ▸ hbl))
  have hC : ∀ x u, C (Live s.h loc) 0 w x u → C (Live (hset s.h r ⟨row.E, row.sz, es', cl'⟩) loc) 0 (w.setRow b cur') x u := fun x u hx =>
    hx.mono (Nat.le_refl _) (by simp) fun b' _ hlt hnl => ⟨fun h => hnl ((hlive b').1 h), hold b' hlt hnl⟩
  have hG : ∀ x u, G s.h loc w x u → G (hset s.h r ⟨row.E, row.sz, es', cl'⟩) loc (w.setRow b cur') x u := fun x u hx =>
    hx.mono (by simp) (fun q row1 hq => ⟨rfl, hset' q row1 hq⟩) fun b' hlt hnl => ⟨fun h => hnl ((hlive b').1 h), hold b' hlt hnl⟩
  refine ⟨hR.tsz, fun i x hx => hG _ _ (hR.tm i x hx), hR.df, fun q row1 hq => ?_, fun q q' row1 row2 b1 c1 c2 h1 h2 h3 h4 => ?_, fun q row1 b1 c1 h1 h2 => ?_, hR.os, hR.tape, hR.output, by simp; exact hR.size, fun b1 hlt hlb => ?_, hR.fbe, hR.fbl, hR.pn, hR.pl⟩
  · simp only at hq
    rw [hget_hset] at hq
    by_cases hrq : r = q
    · subst hrq
      rw [if_pos rfl] at hq
      cases hq
      refine RowOk.mk' hl hlen' hle hm (setRow_heap w b cur _ row.E (0, 0) hh) hs' fun k e j x he hx => ?_
      obtain ⟨u, q1, q2, q3, q4⟩ := hcs k e j x he hx
      exact ⟨u, q1, q2, hG _ _ q3, fun hc => hC _ _ (q4 hc)⟩
    · rw [if_neg hrq] at hq
      refine (hR.rw q row1 hq).mono rfl (fun b1 c1 hl1 => setRow_other (fun e => hrq ?_)) hG hC
      subst e
      exact hR.inj r q row row1 b1 c c1 hrow hq hl hl1
  · simp only at h1 h2
    rw [hget_hset] at h1 h2
    by_cases e1 : r = q <;> by_cases e2 : r = q'
    · rw [← e1, ← e2]
    · rw [if_neg e2] at h2
      subst e1
      exact hR.inj r q' row row2 b1 c1 c2 hrow h2 h3 h4
    · rw [if_neg e1] at h1
      subst e2
      exact hR.inj q r row1 row b1 c1 c2 h1 hrow h3 h4
    · rw [if_neg e1] at h1
      rw [if_neg e2] at h2
      exact hR.inj q q' row1 row2 b1 c1 c2 h1 h2 h3 h4
  · simp only at h1
    rw [hget_hset] at h1
    by_cases e1 : r = q
    · subst e1; exact hR.own r row b1 c1 hrow h2
    · rw [if_neg e1] at h1; exact hR.own q row1 b1 c1 h1 h2
  · rw [setRow_other (fun e => ?_)]
    · exact hR.keep b1 hlt hlb
    · subst e
      rcases hR.own r row b1 c hrow hl with h5 | h5
      · omega
      · exact hlb h5
end
mutual
/-- No name of the row beyond this length. -/
def okT (r k : Nat) : AV → Bool
  | .o q n => decide (q ≠ r) || decide (n ≤ k)
  | .fn _ l => okTL r k l
  | .agg l => okTL r k l
  | .tup l => okTL r k l
  | _ => true
def okTL (r k : Nat) : List AV → Bool
  | [] => true
  | x :: l => okT r k x && okTL r k l
end
theorem okTL_mem {r k : Nat} : ∀ {l : List AV}, okTL r k l = true → ∀ x ∈ l, okT r k x = true
  | [], _, x, hx => by cases hx
  | y :: l, h, x, hx => by
    simp only [okTL, Bool.and_eq_true] at h
    rcases List.mem_cons.1 hx with rfl | hx
    · exact h.1
    · exact okTL_mem h.2 x hx
theorem G.trunc {h : Hp} {loc : Loc} {w : World} {r k : Nat} {row row' : Row} {x : AV} {u : Value} (hg : G h loc w x u) (hr : hget h r = some row) (hz : row'.sz = row.sz) (hk : row'.es.length = k) (hok : okT r k x = true)
    (hC : ∀ x u, C (Live h loc) 0 w x u → C (Live (hset h r row') loc) 0 w x u) : G (hset h r row') loc w x u := by
  induction hg with
  | cl hc => exact .cl (hC _ _ hc)
  | @o q n row1 b c hr1 hl1 hn =>
    by_cases hq : q = r
    · subst hq
      simp only [okT, ne_eq, not_true_eq_false, decide_false, Bool.false_or, decide_eq_true_eq] at hok
      exact .o (row := row') (by rw [hget_hset, if_pos rfl]) hl1 (by omega)
    · exact .o (by rw [hget_hset, if_neg (fun e => hq e.symm)]; exact hr1) hl1 hn
  | @onil q row1 hr1 hl1 =>
    by_cases hq : q = r
    · subst hq
      exact .onil (row := row') (by rw [hget_hset, if_pos rfl]) hl1
    · exact .onil (by rw [hget_hset, if_neg (fun e => hq e.symm)]; exact hr1) hl1
  | @p q k1 off row1 b c hr1 hl1 =>
    by_cases hq : q = r
    · subst hq
      rw [hr] at hr1
      cases hr1
      rw [← hz]
      exact .p (row := row') (by rw [hget_hset, if_pos rfl]) hl1
    · exact .p (by rw [hget_hset, if_neg (fun e => hq e.symm)]; exact hr1) hl1
  | @q q lo z n row1 b c A c' hr1 hl1 hn =>
    by_cases hq : q = r
    · subst hq
      exact .q (row := row') (by rw [hget_hset, if_pos rfl]) hl1 hn
    · exact .q (by rw [hget_hset, if_neg (fun e => hq e.symm)]; exact hr1) hl1 hn
  | fn vs hs hg ih => exact .fn vs hs fun j a ha => ih j a ha (okTL_mem (by simpa [okT] using hok) a (List.mem_of_getElem? ha))
  | agg vs hs hg ih => exact .agg vs hs fun j a ha => ih j a ha (okTL_mem (by simpa [okT] using hok) a (List.mem_of_getElem? ha))
  | tup vs hs hg ih => exact .tup vs hs fun j a ha => ih j a ha (okTL_mem (by simpa [okT] using hok) a (List.mem_of_getElem? ha))
/-- A row cut to its beginning. -/
theorem wk_trunc {s : AS} (r k : Nat) {row : Row} (hr : hget s.h r = some row) (hk : k ≤ row.es.length) (hcl : (s.h.all fun x => x.2.cl) = true) : Wk s ⟨s.t.map (fun x => if okT r k x then x else .any), hset s.h r ⟨row.E, row.sz, row.es.take k, true⟩⟩ := by
  intro w0 lent loc a w hR
  have hclq : ∀ q row1, hget s.h q = some row1 → row1.cl = true := by
    intro q row1 hq
    have : ∀ (h : Hp), (h.all fun x => x.2.cl) = true → hget h q = some row1 → row1.cl = true := by
      intro h
      induction h with
      | nil => intro _ h2; cases h2
      | cons y l ih =>
        obtain ⟨k1, r1⟩ := y
        intro h1 h2
        simp only [List.all_cons, Bool.and_eq_true] at h1
        simp only [hget] at h2
        split at h2
        · cases h2; exact h1.1
        · exact ih h1.2 h2
    exact this s.h hcl hq
  have hlive : ∀ b', Live (hset s.h r ⟨row.E, row.sz, row.es.take k, true⟩) loc b' → Live s.h loc b' := by
    rintro b' (⟨q, row1, c1, h1, h2⟩ | hfb)
    · rw [hget_hset] at h1
      by_cases hrq : r = q
      · subst hrq; exact .inl ⟨r, row, c1, hr, h2⟩
      · rw [if_neg hrq] at h1; exact .inl ⟨q, row1, c1, h1, h2⟩
    · exact .inr hfb
  have hC : ∀ x u, C (Live s.h loc) 0 w x u → C (Live (hset s.h r ⟨row.E, row.sz, row.es.take k, true⟩) loc) 0 w x u := fun x u hx =>
    hx.mono (Nat.le_refl _) (Nat.le_refl _) fun b' _ _ hnl => ⟨fun h => hnl (hlive b' h), rfl⟩
  refine ⟨loc, by simpa using hR.tsz, fun i x hx => ?_, hR.df, fun q row1 hq => ?_, fun q q' row1 row2 b1 c1 c2 h1 h2 h3 h4 => ?_, fun q row1 b1 c1 h1 h2 => ?_, hR.os, hR.tape, hR.output, hR.size, hR.keep, hR.fbe, hR.fbl, hR.pn, hR.pl⟩
  · simp only [List.getElem?_map] at hx
    obtain ⟨y, hy, rfl⟩ := Option.map_eq_some_iff.1 hx
    by_cases ho : okT r k y = true
    · rw [if_pos ho]
      exact (hR.tm i y hy).trunc hr rfl (by simp; omega) ho hC
    · rw [if_neg ho]
      exact .cl .any
  · simp only at hq
    rw [hget_hset] at hq
    have key : ∀ q row1, hget s.h q = some row1 → ∀ m, m ≤ row1.es.length → RowOk (hset s.h r ⟨row.E, row.sz, row.es.take k, true⟩) loc w q ⟨row1.E, row1.sz, row1.es.take m, true⟩ := by
      intro q row1 hq m hm
      have hok := hR.rw q row1 hq
      have hc1 := hclq q row1 hq
      cases hl : loc q with
      | some p =>
        obtain ⟨b, c⟩ := p
        obtain ⟨h1, hn, hcm, cur, hh, hs, hcs⟩ := hok.open hl
        refine RowOk.mk' (b := b) (c := c) (cur := cur) hl (fun k' e he => ?_) (by simp; omega) hcm hh hs fun k' e j x he hx => ?_
        · simp only [List.getElem?_take] at he
          split at he
          · exact h1 k' e he
          · cases he
        · simp only [List.getElem?_take] at he
          split at he
          · obtain ⟨u, g1, g2, g3, g4⟩ := hcs k' e j x he hx
            exact ⟨u, g1, g2, .cl (hC _ _ (g4 hc1)), fun _ => hC _ _ (g4 hc1)⟩
          · cases he
      | none =>
        obtain ⟨h1, xs, hown, hcs⟩ := hok
        have h0 : row1.es.length = 0 := by
          simp only [rowVal, hl] at hown
          rcases hown.2 with h9 | ⟨g, cap, cur, e1, _⟩
          · exact h9.2
          · injection e1 with e2 _ _; cases e2
        have he : row1.es = [] := List.eq_nil_of_length_eq_zero h0
        refine ⟨by simp [he], xs, ?_, by simp [he]⟩
        simp only [rowVal, hl, he, List.take_nil, List.length_nil] at hown ⊢
        exact hown
    by_cases hrq : r = q
    · subst hrq
      rw [if_pos rfl] at hq
      cases hq
      exact key r row hr k hk
    · rw [if_neg hrq] at hq
      have := key q row1 hq row1.es.length (Nat.le_refl _)
      rw [List.take_length] at this
      have hc1 := hclq q row1 hq
      obtain ⟨E1, sz1, es1, cl1⟩ := row1
      simp only at hc1 this
      subst hc1
      exact this
  · simp only at h1 h2
    rw [hget_hset] at h1 h2
    by_cases e1 : r = q <;> by_cases e2 : r = q'
    · rw [← e1, ← e2]
    · rw [if_neg e2] at h2
      subst e1
      exact hR.inj r q' row row2 b1 c1 c2 hr h2 h3 h4
    · rw [if_neg e1] at h1
      subst e2
      exact hR.inj q r row1 row b1 c1 c2 h1 hr h3 h4
    · rw [if_neg e1] at h1
      rw [if_neg e2] at h2
      exact hR.inj q q' row1 row2 b1 c1 c2 h1 h2 h3 h4
  · simp only at h1
    rw [hget_hset] at h1
    by_cases e1 : r = q
    · subst e1; exact hR.own r row b1 c1 hr h2
    · rw [if_neg e1] at h1; exact hR.own q row1 b1 c1 h1 h2
end Go.Proofs.YtjhbihooobingaaGreatDoor
/-
  The abstract machine: a slice's tail is cleared; slices.DeleteFunc at nodes.
-/
namespace Go.Proofs.YtjhbihooobingaaGreatDoor
open Go Go.RowKit Go.Proofs

theorem run_clear_k {P : Program} (w : World) (t e ty : TypeId) (z : Value) (k : Nat) (ht : P.underlying t = some (.slice e)) (hv : (zeroValue e).run P w = .ok z w) (hz : z.cells.size = k) (h1 : ∀ v ∈ z.cells, v.oneCell' = true) (b o n c : Nat) (cur : Array Value) (E : TypeId)
    (hh : w.heap[b]? = some (.cells cur E (0, 0))) (hfit : o + n * k ≤ cur.size) :
    ∃ vs : List Value, vs.length = n * k ∧ (∀ v ∈ vs, v.oneCell' = true) ∧ (Builtin.clear_ #[t] ty #[.slice (some ⟨b, o, none⟩) n c]).run P w = .ok (.tuple #[]) (w.setRow b (cur.toList.take o ++ vs ++ cur.toList.drop (o + vs.length)).toArray) := by
  have hl : (Builtin.zeroCells z.cells n).toList.length = n * k := by simp [Builtin.zeroCells, hz]
  have h1' : ∀ v ∈ (Builtin.zeroCells z.cells n).toList, v.oneCell' = true := by
    intro v hv'
    simp only [Builtin.zeroCells, Array.toList_map, List.mem_map, Array.mem_toList_iff, Array.mem_range] at hv'
    obtain ⟨i, hi, rfl⟩ := hv'
    have hpos : 0 < z.cells.size := by
      rcases Nat.eq_zero_or_pos z.cells.size with h | h
      · rw [h] at hi; omega
      · exact h
    have hlt := Nat.mod_lt i hpos
    rw [getElem!_pos z.cells (i % z.cells.size) hlt]
    exact h1 _ (Array.getElem_mem hlt)
  refine ⟨(Builtin.zeroCells z.cells n).toList, hl, h1', ?_⟩
  have hst := run_storeCells_at P b o E (Builtin.zeroCells z.cells n).toList 0 cur w hh (by rw [hl]; omega) h1'
  simp only [Nat.add_zero] at hst
  cases n with
  | zero =>
    have h0 : (Builtin.zeroCells z.cells 0).toList = [] := List.eq_nil_of_length_eq_zero (by rw [hl]; omega)
    rw [h0]
    simp only [List.append_nil, List.length_nil, Nat.add_zero, List.take_append_drop, Array.toArray_toList]
    rw [setRow_self w b cur E (0, 0) hh]
    simp [Builtin.clear_, run_underlying ht]
  | succ n => simp [Builtin.clear_, run_underlying ht, hv, hst]
section
variable {P : Program} {w0 : World} {lent : Lent} {Q : Exit → Act → World → Prop}
theorem wp_clear_k (w : World) {o : Oper} {a : Act} {K : Act → World → Prop} {Q : Exit → Act → World → Prop} (d : Operand) (t : TypeId)
    (ho : o.op = .call { callee := .builtin .clear, args := #[d], argTypes := #[t] }) (v : Value) (hd : a.eval d = v) {v' : Value} {w' : World}
    (hr : (Builtin.clear_ #[t] o.type #[v]).run P w = .ok v' w') (h : K (a.put o.dst v') w') : o.wp P a w K Q := by
  unfold Oper.wp execOp
  simp only [ho, resolve, invoke, builtin, Sem.run_bind, Sem.run_pure, Result.andThen_ok, List.map_toArray, List.map_cons, List.map_nil, hd, hr]
  exact h
/-- The tail of a row is cleared. -/
theorem aw_slclear {k : List It} {s : AS} {d tS : Tmp} {t e ty ty2 : TypeId} {lo : Operand} {l : List SO} {r n i : Nat} {row : Row} {te tt : Ty} (hx : getA s.t tS = .o r n) (hlo : evA s.t lo = .v (.int .i64 i)) (hd : d < s.t.length) (hrow : hget s.h r = some row) (hn : n = row.es.length) (hi : i < n)
    (ht : tyOf P t = some tt) (htt : tt.desc = .slice e) (hte : tyOf P e = some te) (hz : te.zero.length = te.size) (hz1 : te.zero.all (·.oneCell') = true) (hsz : row.sz = te.size) (hcl : row.cl = true) (hzv : ∀ w, ∃ z, (zeroValue e).run P w = .ok z w ∧ z.cells.toList = te.zero)
    (h : AW P w0 lent Q (.ops l :: k) ⟨setA s.t d .any, hset s.h r ⟨row.E, row.sz, row.es.take i ++ List.replicate (n - i) (List.replicate row.sz .any), true⟩⟩) :
    AW P w0 lent Q (.ops (⟨some d, .slice t (.tmp tS) (some lo) none none, ty, none⟩ :: ⟨none, .call ⟨.builtin .clear, #[.tmp d], #[t]⟩, ty2, none⟩ :: l) :: k) s := by
  intro loc a w hR
  have gx := evA_ok hR (.tmp tS)
  rw [show evA s.t (.tmp tS) = .o r n from hx] at gx
  have gl := evA_ok hR lo
  rw [hlo] at gl
  have gl := gl.v_inv
  obtain ⟨_, dd, _, _, hud, _, _, _, hdd, _⟩ := tyOf_spec ht
  have hud := tdOf_slice (hdd.trans htt) ▸ hud
  obtain ⟨i2, d2, z2, hi2, _, _, hs2, _⟩ := tyOf_spec hte
  obtain ⟨row', b, c, hr', hl, hv⟩ := gx.o_inv (by omega)
  rw [hrow] at hr'
  cases hr'
  obtain ⟨hlen, hnc, hcm, cur, hh, hs, hcs⟩ := (hR.rw r row hrow).open hl
  have hci : ¬ (c = i) := by omega
  have hsv : (Instr.sliceAt t (.slice (some ⟨b, 0, none⟩) n c) (some (.int .i64 i)) none none).run P w = .ok (.slice (some ⟨b, i * i2.size, none⟩) (n - i) (c - i)) w := by
    have := bdA_ok (P := P) (h := s.h) (loc := loc) (w := w) (lo := some (.v (.int .i64 i))) (hi := none) (lo' := some (.int .i64 i)) (hi' := none) (len := n) (l := i) (r := n) (isS := true) (cap := c) (fun x hx => by cases hx; exact ⟨_, rfl, .cl .v⟩) (fun h => by cases h) (fun x hx => by cases hx) (fun _ => rfl) (by omega) (by
      show (if 0 ≤ (i : Int) ∧ (i : Int) ≤ n then some ((i : Int).toNat, n) else none) = some (i, n)
      rw [if_pos ⟨by omega, by omega⟩]
      simp)
    simp [Instr.sliceAt, Instr.slice, run_underlying hud, this, sizeOf, typeInfo, hi2, hci, Addr.add]
    intro h9
    exact h9.symm
  obtain ⟨z, hz0, hz2⟩ := hzv w
  have hzs : z.cells.size = row.sz := by rw [hsz, ← hz, ← hz2, Array.length_toList]
  have hz3 : ∀ v ∈ z.cells, v.oneCell' = true := fun v hv => by
    have : v ∈ te.zero := by rw [← hz2]; simpa using hv
    exact List.all_eq_true.1 hz1 v this
  have hmul : i * row.sz + (n - i) * row.sz ≤ c * row.sz := by
    rw [← Nat.add_mul]
    exact Nat.mul_le_mul_right _ (by omega)
  obtain ⟨vs, hvl, hv1, hclr⟩ := run_clear_k (P := P) w t e ty2 z row.sz hud hz0 hzs hz3 b (i * row.sz) (n - i) (c - i) cur row.E hh (by rw [hs]; exact hmul)
  have hR1 := hR.put (some d) (u := .slice (some ⟨b, i * i2.size, none⟩) (n - i) (c - i)) (x := .any) (.cl .any)
  have htd : d < a.tmps.size := by rw [hR.tsz]; exact hd
  show wpSO P (Kt P w0 lent Q k) _ a w
  unfold wpSO
  simp only
  unfold Oper.wp
  have hex : (execOp a.eval (SO.oper ⟨some d, .slice t (.tmp tS) (some lo) none none, ty, none⟩)).run P w = .ok (.value (.slice (some ⟨b, i * i2.size, none⟩) (n - i) (c - i))) w := by
    show ((do pure (.value (← Instr.sliceAt t (a.eval (.tmp tS)) (some (a.eval lo)) none none)) : Sem Next)).run P w = _
    rw [hv, gl]
    simp [hsv, Result.andThen]
  rw [hex]
  show wpSO P (Kt P w0 lent Q k) _ (a.put (some d) _) w
  unfold wpSO
  simp only
  refine wp_clear_k w (.tmp d) t rfl (.slice (some ⟨b, i * row.sz, none⟩) (n - i) (c - i)) (by rw [hsz, ← hs2]; simp [Act.eval, Act.put, htd]) hclr ?_
  refine h loc _ _ ?_
  show Rel w0 lent _ loc (a.put (some d) _) _
  refine (hR1.setRow (es' := row.es.take i ++ List.replicate (n - i) (List.replicate row.sz .any)) (cl' := true) hrow hl hh ?_ ?_ ?_ ?_ hcm ?_)
  · simp only [List.size_toArray, List.length_append, List.length_take, List.length_drop, Array.length_toList, hvl, hs]
    omega
  · intro k' e' he'
    rw [List.getElem?_append] at he'
    split at he'
    · rw [List.getElem?_take] at he'
      split at he'
      · exact hlen k' e' he'
      · cases he'
    · rw [List.getElem?_replicate] at he'
      split at he'
      · cases he'; simp
      · cases he'
  · simp; omega
  · simp; omega
  · intro k' e' j x he' hx'
    have hsp := spl_val cur (i * row.sz) vs (k' * row.sz + j) (by rw [hvl, hs]; exact hmul)
    simp only [hsp]
    rw [List.getElem?_append] at he'
    split at he'
    · rename_i hk'
      rw [List.length_take] at hk'
      rw [List.getElem?_take, if_pos (by omega)] at he'
      obtain ⟨u, q1, q2, q3, q4⟩ := hcs k' e' j x he' hx'
      have hj := lt_of_some hx'
      rw [hlen k' e' he'] at hj
      refine ⟨u, ?_, q2, q3, fun _ => q4 hcl⟩
      have := ix_lt (sz := row.sz) (show k' < i by omega) hj
      rw [if_neg (by omega)]
      exact q1
    · rename_i hk'
      rw [List.length_take] at hk'
      rw [List.getElem?_replicate] at he'
      split at he'
      · rename_i hk2
        rw [List.length_take] at hk2
        cases he'
        rw [List.getElem?_replicate] at hx'
        split at hx'
        · rename_i hj
          cases hx'
          have e1 : i * row.sz ≤ k' * row.sz := Nat.mul_le_mul_right _ (by omega)
          have e2 := ix_lt (sz := row.sz) (show k' < n by omega) hj
          have e3 : n * row.sz = i * row.sz + (n - i) * row.sz := by rw [← Nat.add_mul]; congr 1; omega
          have hlt : k' * row.sz + j - i * row.sz < vs.length := by rw [hvl]; omega
          refine ⟨vs[k' * row.sz + j - i * row.sz], ?_, hv1 _ (List.getElem_mem hlt), .cl .any, fun _ => .any⟩
          rw [if_pos ⟨by omega, by omega⟩, List.getElem?_eq_getElem hlt]
        · cases hx'
      · cases he'
end
end Go.Proofs.YtjhbihooobingaaGreatDoor
/-
  Walks: slices.DeleteFunc at nodes.
-/
namespace Go.Proofs.YtjhbihooobingaaGreatDoor
open Go Go.RowKit Go.Proofs
theorem run_0 {P : Program} {k : List It} {s : AS} : run P 0 k s = .more k s := rfl
attribute [local irreducible] RWp AW run kPe pe Kt effA gd gu br retR RDp runD kPeD brW gW effD
set_option maxRecDepth 100000

/-- Some rows, read as data from here on. -/
def hasN : List Nat → Nat → Bool
  | [], _ => false
  | a :: l, r => if a = r then true else hasN l r
def delL : Hp → List Nat → Hp
  | h, [] => h
  | h, r :: l => delL (hdel h r) l
def frzT (ids : List Nat) (h : Hp) (x : AV) : AV := if (idsA x).all (fun r => !hasN ids r) = true then x else viewN 3 h x
def frzS (ids : List Nat) (s : AS) : AS := ⟨s.t.map (frzT ids s.h), delL s.h ids⟩
theorem at_frzS {P : Program} {w0 : World} {lent : Lent} {Q : Exit → Act → World → Prop} {k : List It} {s : AS} (ids : List Nat) (h : Wk s (frzS ids s)) (h' : AW P w0 lent Q k (frzS ids s)) : AW P w0 lent Q k s := at_frz h h'
theorem go_on_n {P : Program} {w0 : World} {lent : Lent} {Q : Exit → Act → World → Prop} {k : List It} {s : AS} (m : Nat) (h : RWp P w0 lent Q (run P m k s)) : AW P w0 lent Q k s := run_sound m k s h
theorem closed_renL {mv : Nat → Bool} : ∀ {l : List AV}, l.all isC = true → l.map (renL mv) = l
  | [], _ => rfl
  | x :: l, hl => by
    simp only [List.all_cons, Bool.and_eq_true] at hl
    rw [List.map_cons, closed_renL hl.2]
    congr 1
    cases x <;> simp only [isC] at hl <;> first | exact absurd hl.1 Bool.false_ne_true | simp only [renL]
theorem idxF_take {α : Type} (p : α → Bool) : ∀ (l : List α) (k j : Nat), idxF p k l = ((k + j : Nat) : Int) → (l.take j).filter (fun n => !p n) = l.take j
  | [], k, j, h => by simp
  | a :: l, k, 0, h => by simp
  | a :: l, k, j + 1, h => by
    by_cases hp : p a = true
    · simp only [idxF, hp, if_true] at h
      omega
    · have hp : p a = false := by simpa using hp
      have h' : idxF p (k + 1) l = ((k + 1 + j : Nat) : Int) := by
        rw [show idxF p k (a :: l) = idxF p (k + 1) l by simp [idxF, hp]] at h
        rw [h]; congr 1; omega
      simp [hp, idxF_take p l (k + 1) j h']
def delD (f : List Nd) (rv : AV) (lr' rows : List Row) : Prop := rv = .o 0 f.length ∧ lr' = [rowN f] ∧ rows = []
theorem DeleteFunc_pcl (l : List Nd) (hl : l.length < 4294967281) (g : FuncId) (caps : List AV) (hc : caps.all isC = true) (p : Nd → Bool) (hp : ∀ n ∈ l, PC Tryz.prog g (nodeA n :: caps) (vB (p n))) :
    PCL Tryz.prog 206 [rowN l] (mvF (some 0)) [.o 0 l.length, .fn g caps] (delD (l.filter fun n => !p n)) := by
  refine pcl_enter Tryz.func206 rfl rfl (by simp) fun w0 fb loc => go_on ?_
  (try simp only [Tryz.ntmps206, hpL, nmL, mvF, renL, closed_renL hc, decide_true, decide_false, push_cast, simprocAttr])
  refine at_call ?_
  simp only [List.map_cons, List.map_nil, view_fn 2, closed_view hc]
  (try simp only [push_cast, simprocAttr])
  refine rwc_v (IndexFuncN_pc l hl g caps hc p hp) (go_on ?_)
  rcases idxF_spec p l 0 with ⟨h1, h2⟩ | ⟨j, n, h1, h2, h3⟩
  · rw [h1]
    (try simp only [push_cast, simprocAttr])
    refine at_retL ?_
    simp only [Tryz.results206, retL, push_cast, simprocAttr]
    have hf : l.filter (fun n => !p n) = l := by
      rw [List.filter_eq_self]
      intro a ha
      have := List.find?_eq_none.1 h2 a ha
      simpa using this
    simp [show List.range 1 = [0] from rfl, nmL, mvF, ndB, ixOf, rowsOf, hget, delD, hf]
  · rw [h1, Nat.zero_add]
    have i0 : eqI (j : Int) (-1) = false := eqI_f (by omega)
    have hj := lt_of_some h2
    have w1 := wr ((j : Int) + 1) (by omega)
    (try simp only [i0, w1, push_cast, simprocAttr])
    have hpn : p n = true := by have := List.find?_some h3; exact this
    obtain ⟨kp, hkp⟩ : ∃ kp : Nat → List Nd, kp = fun i => (l.take i).filter fun n => !p n := ⟨_, rfl⟩
    have k1 : ∀ i a, l[i]? = some a → kp (i + 1) = kp i ++ (if p a then [] else [a]) := by
      intro i a ha
      rw [hkp]
      simp only
      rw [List.take_add_one, ha, List.filter_append]
      cases hpa : p a <;> simp [hpa]
    have kl : ∀ i, (kp i).length ≤ i := fun i => by rw [hkp]; exact Nat.le_trans (List.length_filter_le _ _) (by rw [List.length_take]; omega)
    have kj : kp j = l.take j := by rw [hkp]; exact idxF_take p l 0 j h1
    have kj1 : kp (j + 1) = l.take j := by rw [k1 j n h2, hpn, kj]; simp
    have kn : kp l.length = l.filter fun n => !p n := by rw [hkp]; simp
    have e0 : kp (j + 1) ++ [n] ++ l.drop (j + 1) = l := by
      rw [kj1, List.append_assoc, List.singleton_append, ← drop_of_get h2, List.take_append_drop]
    have e1 : (kp (j + 1)).length = j := by rw [kj1, List.length_take]; omega
    refine at_loop (X := Nat × List Nd) (fun x => [(5, iA (kp x.1).length), (6, iA x.1)]) (fun x => [(600000, rowN (kp x.1 ++ x.2 ++ l.drop x.1)), (4, rowN [])])
      (fun x => x.1 ≤ l.length ∧ (kp x.1).length + x.2.length = x.1 ∧ 0 < x.2.length) (fun x => l.length - x.1) (j + 1, [n]) ⟨by dsimp only; omega, by dsimp only; rw [e1]; rfl, by simp⟩ ?_ ?_
    · simp only [e0, e1]
      (refine wk_ok ?_ ?_ ?_ ?_ <;> simp [closed_ids hc, leL, leH, idsL, idsA, idsR, inH, hget, sameRow, upA, hvA, dsts, dstO, setA_0, setA_1, setA_8, List.append, List.cons_append, List.nil_append])
    · rintro ⟨q, M⟩ ⟨q1, q2, q3⟩
      simp only at q1 q2 q3
      simp only [upA, hvA, dsts, dstO, setA_0, setA_1, setA_8, List.append, List.cons_append, List.nil_append]
      refine go_on_n 11 ?_
      (try simp only [run_0, push_cast, simprocAttr])
      obtain ⟨y, M1, rfl⟩ : ∃ y M1, M = y :: M1 := by
        cases M with
        | nil => simp at q3
        | cons y M1 => exact ⟨y, M1, rfl⟩
      simp only [List.length_cons] at q2
      refine at_b (fun hg => ?_) (fun hg => ?_)
      · have hlt := lt_tt hg
        obtain ⟨x, hx⟩ := get_of_lt hlt
        obtain ⟨R, hRR⟩ : ∃ R, R = kp q ++ y :: M1 ++ l.drop q := ⟨_, rfl⟩
        have hRq : R[q]? = some x := by
          rw [hRR, drop_of_get hx, List.getElem?_append_right (by simp; omega)]
          simp
          rw [show q - ((kp q).length + (M1.length + 1)) = 0 by omega]
          rfl
        have hRi : R[(kp q).length]? = some y := by
          rw [hRR, List.append_assoc, List.getElem?_append_right (Nat.le_refl _)]
          simp
        have hRl : R.length = l.length := by rw [hRR]; simp; omega
        have i1 := ix_n hx
        have i2 := map_get ndC hRq
        have i3 : toIx ((kp q).length : Int) l.length = some (kp q).length := by
          have := ix_n hRi
          rw [hRl] at this
          exact this
        have i4 := map_get ndC hRi
        simp only [ndC] at i2 i4
        have w2 := wr ((q : Int) + 1) (by omega)
        have w3 := wr (((kp q).length : Int) + 1) (by omega)
        rw [← hRR]
        (try simp only [hg, run_0, push_cast, simprocAttr])
        refine at_more (go_on ?_)
        (try simp only [hg, i1, i2, push_cast, simprocAttr])
        refine at_call ?_
        simp only [List.map_cons, List.map_nil, closed_view hc]
        (try simp only [push_cast, simprocAttr])
        refine rwc_v (hp x (mem_of_get hx)) (go_on ?_)
        (try simp only [push_cast, simprocAttr])
        refine at_b (fun hd => ?_) (fun hd => ?_)
        · have hpx := not_t hd
          have hk2 : kp (q + 1) = kp q ++ [x] := by rw [k1 q x hx, hpx]; simp
          have hset : R.set (kp q).length x = kp (q + 1) ++ (M1 ++ [x]) ++ l.drop (q + 1) := by
            rw [hRR, hk2, drop_of_get hx]
            simp
          (try simp only [hd, i3, i4, w2, w3, push_cast, simprocAttr])
          have hs : (List.map ndC R).set (kp q).length [sA x.p, iA x.c.k, iA x.c.v] = List.map ndC (kp (q + 1) ++ (M1 ++ [x]) ++ l.drop (q + 1)) := by rw [← hset, List.map_set]; rfl
          have hl2 : (((kp (q + 1)).length : Nat) : Int) = (kp q).length + 1 := by rw [hk2]; simp
          refine at_fin ⟨(q + 1, M1 ++ [x]), ⟨by dsimp only; omega, by rw [hk2]; simp; omega, by simp⟩, by dsimp only; omega, ?_⟩
          rw [hs]
          (refine wk_ok ?_ ?_ ?_ ?_ <;> simp [closed_ids hc, hl2, leL, leH, idsL, idsA, idsR, inH, hget, sameRow, upA, hvA, dsts, dstO, setA_0, setA_1, setA_8, List.append, List.cons_append, List.nil_append])
        · have hpx := not_f hd
          have hk2 : kp (q + 1) = kp q := by rw [k1 q x hx, hpx]; simp
          have hs : R = kp (q + 1) ++ (y :: M1 ++ [x]) ++ l.drop (q + 1) := by
            rw [hRR, hk2, drop_of_get hx]
            simp
          (try simp only [hd, w2, push_cast, simprocAttr])
          refine at_fin ⟨(q + 1, y :: M1 ++ [x]), ⟨by dsimp only; omega, by rw [hk2]; simp; omega, by simp⟩, by dsimp only; omega, ?_⟩
          simp only [← hs]
          (refine wk_ok ?_ ?_ ?_ ?_ <;> simp [closed_ids hc, hk2, leL, leH, idsL, idsA, idsR, inH, hget, sameRow, upA, hvA, dsts, dstO, setA_0, setA_1, setA_8, List.append, List.cons_append, List.nil_append])
      · have hq := lt_ff hg
        have hq1 : q = l.length := by omega
        subst hq1
        (try simp only [hg, run_0, push_cast, simprocAttr])
        refine at_more (go_on_n 3 ?_)
        (try simp only [run_0, push_cast, simprocAttr])
        refine at_more ?_
        have hRl : (kp l.length ++ y :: M1 ++ l.drop l.length).length = l.length := by simp; omega
        refine aw_slclear (row := rowN (kp l.length ++ y :: M1 ++ l.drop l.length)) (r := 600000) (n := l.length) (i := (kp l.length).length) rfl rfl (by simp) (by simp [hget]) (by simp only [List.length_map]; exact hRl.symm) (by omega) ty30 rfl ty83 rfl rfl rfl rfl (fun w => ⟨_, rfl, rfl⟩) (go_on ?_)
        have hki : ((kp l.length).length : Int) ≤ l.length := by have := kl l.length; omega
        (try simp only [hki, push_cast, simprocAttr])
        have hes : (List.take (kp l.length).length (List.map ndC (kp l.length ++ y :: M1 ++ l.drop l.length)) ++ List.replicate (l.length - (kp l.length).length) [AV.any, AV.any, AV.any]).take (kp l.length).length = (kp l.length).map ndC := by
          rw [List.append_assoc, List.map_append, List.take_append_of_le_length (by simp), List.take_take, Nat.min_self, List.take_append_of_le_length (by simp), take_map]
        refine ret_wk (wk_trunc 600000 (kp l.length).length (by simp only [hget]; rfl) (by simp) (by simp)) ?_
        refine at_retL ?_
        simp only [Tryz.results206, retL, hes, okT, Nat.le_refl, push_cast, decide_true, simprocAttr]
        simp [show List.range 1 = [0] from rfl, nmL, mvF, ndB, ixOf, rowsOf, hget, delD, kn]
end Go.Proofs.YtjhbihooobingaaGreatDoor
/-
  Walks: impl.TreeValid.
-/
namespace Go.Proofs.YtjhbihooobingaaGreatDoor
open Go Go.RowKit Go.Proofs
attribute [local irreducible] RWp AW run kPe pe Kt effA gd gu br retR RDp runD kPeD brW gW effD
set_option maxRecDepth 100000

/-- Short enough for any machine. -/
structure SmT (l : List Nd) : Prop where
  n : l.length < 4294967281
  p : ∀ n ∈ l, n.p.length < 4294967281
theorem ndV_2 {n : Nd} (h : ndV n = true) : 2 ≤ n.p.length := by
  simp only [ndV, Bool.and_eq_true, decide_eq_true_eq] at h
  exact (pV_len h.1.1.1 h.1.1.2).1
theorem ndV_eq (n : Nd) : ndV n = (pV n.p && !decide (n.p = [47]) && ctV n.c && !eqI n.c.k 0) := by
  unfold ndV root
  rw [eqI_d]
  simp
set_option maxHeartbeats 1000000 in
theorem TreeValid_pc (l : List Nd) (hs : SmT l) : PC Tryz.prog 115 [ndA l] (vB (tV l)) := by
  have hl := hs.n
  refine pc_enter Tryz.func115 rfl rfl fun w0 fb => go_on ?_; (try simp only [Tryz.ntmps115, push_cast, simprocAttr])
  refine at_loop (X := Nat) (fun k => [(7, iA k)]) (fun _ => [(1, ⟨30, 1, [[ndA l]], true⟩)]) (fun k => k ≤ l.length ∧ (∀ (j : Nat) n, j < k → l[j]? = some n → ndV n = true) ∧ (l.all ndV && sortP l) = tvL (prevN l k) (l.drop k)) (fun k => l.length - k) 0 ⟨Nat.zero_le _, fun j n h => (by omega), (tvL_none l).symm⟩ ?_ ?_
  · (refine wk_ok ?_ ?_ ?_ ?_ <;> simp [leL, leH, idsL, idsA, idsR, inH, hget, sameRow, upA, hvA, dsts, dstO, setA_0, setA_1, setA_8, List.append, List.cons_append, List.nil_append])
  · rintro k ⟨h1, h0, h2⟩
    simp only [upA, hvA, dsts, dstO, setA_0, setA_1, setA_8, List.append, List.cons_append, List.nil_append]
    refine go_on ?_
    (try simp only [push_cast, simprocAttr])
    refine at_b (fun hg => ?_) (fun hg => ?_)
    · have hlt := lt_tt hg
      obtain ⟨n, hk⟩ := get_of_lt hlt
      have i1 := ix_n hk
      have i2 := map_get ndC hk
      simp only [ndC] at i2
      rw [drop_of_get hk] at h2
      have hnp := hs.p n (mem_of_get hk)
      have w1 := wr ((k : Int) + 1) (by omega)
      (try simp only [hg, i1, i2, push_cast, simprocAttr])
      refine at_draw rfl (by kernel_rfl) ?_; simp only [push_cast, simprocAttr]
      have hV : tV l = (tvL (prevN l k) (n :: l.drop (k + 1)) && l.all (dirUp l) && decide (l.length ≤ 10)) := by unfold tV; rw [← h2]
      have hnd := ndV_eq n
      cases k with
      | zero =>
        have h2' : (l.all ndV && sortP l) = (ndV n && tvL (some n) (l.drop 1)) := h2
        have hV' : tV l = (ndV n && tvL (some n) (l.drop 1) && l.all (dirUp l) && decide (l.length ≤ 10)) := hV
        clear h2 hV
        have w3 : IntKind.i64.wrap 1 = 1 := wr 1 (by omega)
        repeat' first | (refine at_bWn (fun hb => ?_) (fun hb => ?_) <;> simp only [w1, hb, push_cast, simprocAttr]) | (refine at_bW (fun hb => ?_) (fun hb => ?_) <;> simp only [w1, hb, push_cast, simprocAttr]) | (refine at_callD (by simp [clB, idsL, idsA, hget]) ?_; (try simp only [push_cast, simprocAttr]); first | (refine rcd_v (PathValid_pc n.p hnp) ?_; simp only [w1, push_cast, simprocAttr]) | (refine rcd_d (PathValid_pc n.p hnp) (by simp [flatV, flatL, ctC, ndC, cmC]) (by simp [ren, ctC, ndC, cmC]) ?_; simp only [w1, push_cast, simprocAttr]) | (refine rcd_v (ContentValid_pc n.c) ?_; simp only [w1, push_cast, simprocAttr]) | (refine rcd_d (ContentValid_pc n.c) (by simp [flatV, flatL, ctC, ndC, cmC]) (by simp [ren, ctC, ndC, cmC]) ?_; simp only [w1, push_cast, simprocAttr])) | (refine at_done (by kernel_rfl) (by kernel_rfl) (go_on ?_); (try simp only [w1, push_cast, simprocAttr]))
        all_goals first
          | (refine at_ret ?_; simp only [Tryz.results115, push_cast, simprocAttr]; simp [vX, hV', hnd, *]; done)
          | (refine at_b (fun hz => ?_) (fun hz => ?_)
             · (try simp only [hz, push_cast, simprocAttr])
               refine at_ret ?_; simp only [Tryz.results115, push_cast, simprocAttr]
               simp [vX, hV', hnd, *]
             · (try simp only [hz, w1, w3, push_cast, simprocAttr])
               have hn1 : ndV n = true := by simp [hnd, *]
               refine at_fin ⟨1, ⟨by omega, ?_, ?_⟩, by omega, ?_⟩
               · intro j n' hj hn'
                 rcases Nat.lt_or_ge j (0) with hj2 | hj2
                 · exact h0 j n' hj2 hn'
                 · have : j = 0 := by omega
                   subst this
                   rw [hk] at hn'
                   cases hn'
                   exact hn1
               · rw [h2', hn1, prevN, hk]; simp [*]
               · (refine wk_ok ?_ ?_ ?_ ?_ <;> simp [leL, leH, idsL, idsA, idsR, inH, hget, sameRow, upA, hvA, dsts, dstO, setA_0, setA_1, setA_8, List.append, List.cons_append, List.nil_append]))
      | succ m =>
        obtain ⟨q, hm⟩ := get_of_lt (l := l) (k := m) (by omega)
        have h2' : (l.all ndV && sortP l) = (ndV n && slt q.p n.p && tvL (some n) (l.drop (m + 1 + 1))) := by rw [h2, prevN, hm]; rfl
        have hV' : tV l = (ndV n && slt q.p n.p && tvL (some n) (l.drop (m + 1 + 1)) && l.all (dirUp l) && decide (l.length ≤ 10)) := by rw [hV, prevN, hm]; rfl
        have i3 := ix_n hm
        have i4 := map_get ndC hm
        simp only [ndC] at i4
        have wm : IntKind.i64.wrap ((m : Int) + 1 - 1) = m := by rw [wr _ (by omega)]; omega
        have l0 : ltI 0 ((m : Int) + 1) = true := ltI_t (by omega)
        clear h2 hV
        have w2 : IntKind.i64.wrap ((m : Int) + 1 + 1) = (m : Int) + 1 + 1 := wr _ (by omega)
        repeat' first | (refine at_bWn (fun hb => ?_) (fun hb => ?_) <;> simp only [w2, i3, i4, wm, l0, slt_not_le, hb, push_cast, simprocAttr]) | (refine at_bW (fun hb => ?_) (fun hb => ?_) <;> simp only [w2, i3, i4, wm, l0, slt_not_le, hb, push_cast, simprocAttr]) | (refine at_callD (by simp [clB, idsL, idsA, hget]) ?_; (try simp only [push_cast, simprocAttr]); first | (refine rcd_v (PathValid_pc n.p hnp) ?_; simp only [w2, i3, i4, wm, l0, slt_not_le, push_cast, simprocAttr]) | (refine rcd_d (PathValid_pc n.p hnp) (by simp [flatV, flatL, ctC, ndC, cmC]) (by simp [ren, ctC, ndC, cmC]) ?_; simp only [w2, i3, i4, wm, l0, slt_not_le, push_cast, simprocAttr]) | (refine rcd_v (ContentValid_pc n.c) ?_; simp only [w2, i3, i4, wm, l0, slt_not_le, push_cast, simprocAttr]) | (refine rcd_d (ContentValid_pc n.c) (by simp [flatV, flatL, ctC, ndC, cmC]) (by simp [ren, ctC, ndC, cmC]) ?_; simp only [w2, i3, i4, wm, l0, slt_not_le, push_cast, simprocAttr])) | (refine at_done (by kernel_rfl) (by kernel_rfl) (go_on ?_); (try simp only [w2, i3, i4, wm, l0, slt_not_le, push_cast, simprocAttr]))
        all_goals first
          | (refine at_ret ?_; simp only [Tryz.results115, push_cast, simprocAttr]; simp [vX, hV', hnd, *]; done)
          | (refine at_b (fun hz => ?_) (fun hz => ?_)
             · (try simp only [hz, push_cast, simprocAttr])
               refine at_ret ?_; simp only [Tryz.results115, push_cast, simprocAttr]
               simp [vX, hV', hnd, *]
             · (try simp only [hz, w2, push_cast, simprocAttr])
               have hn1 : ndV n = true := by simp [hnd, *]
               refine at_fin ⟨m + 1 + 1, ⟨by omega, ?_, ?_⟩, by omega, ?_⟩
               · intro j n' hj hn'
                 rcases Nat.lt_or_ge j (m + 1) with hj2 | hj2
                 · exact h0 j n' hj2 hn'
                 · have : j = m + 1 := by omega
                   subst this
                   rw [hk] at hn'
                   cases hn'
                   exact hn1
               · rw [h2', hn1, prevN, hk]; simp [*]
               · (refine wk_ok ?_ ?_ ?_ ?_ <;> simp [leL, leH, idsL, idsA, idsR, inH, hget, sameRow, upA, hvA, dsts, dstO, setA_0, setA_1, setA_8, List.append, List.cons_append, List.nil_append]))
    · have h3 := lt_ff hg
      have hall : ∀ n ∈ l, ndV n = true := by
        intro n hn
        obtain ⟨j, hj, rfl⟩ := List.getElem_of_mem hn
        exact h0 j _ (by omega) (List.getElem?_eq_getElem hj)
      have hV : tV l = (l.all (dirUp l) && decide (l.length ≤ 10)) := by
        unfold tV
        rw [h2, List.drop_of_length_le h3]
        cases prevN l k <;> simp [tvL]
      have hC := ContainsFuncN_pc l hl 161 [.ip [ndA l]] rfl (fun n => !decide ((getC l (par n.p)).k = 1)) (fun n hn => TreeValid1_pc l hl n (ndV_2 (hall n hn)) (hs.p n hn))
      (try simp only [hg, push_cast, simprocAttr])
      refine at_b (fun hz => ?_) (fun hz => ?_)
      · (try simp only [hz, push_cast, simprocAttr])
        (refine at_call ?_; (try simp only [push_cast, simprocAttr]); refine rwc_v (hC) (go_on ?_); (try simp only [push_cast, simprocAttr]))
        refine at_ret ?_; simp only [Tryz.results115, push_cast, simprocAttr]
        have h5 := of_leI_t hz
        have h6 : decide (l.length ≤ 10) = true := by simp; omega
        have h7 : (!l.any fun n => !decide ((getC l (par n.p)).k = 1)) = l.all (dirUp l) := by
          rw [← List.all_eq_not_any_not]; rfl
        simp [vX, hV, h6, h7]
      · (try simp only [hz, push_cast, simprocAttr])
        refine at_ret ?_; simp only [Tryz.results115, push_cast, simprocAttr]
        have h5 := of_leI_f hz
        have h6 : decide (l.length ≤ 10) = false := by simp; omega
        simp [vX, hV, h6]
end Go.Proofs.YtjhbihooobingaaGreatDoor
/-
  Walks: impl.put, impl.TreePut.
-/
namespace Go.Proofs.YtjhbihooobingaaGreatDoor
open Go Go.RowKit Go.Proofs
attribute [local irreducible] RWp AW run kPe pe Kt effA gd gu br retR RDp runD kPeD brW gW effD
set_option maxRecDepth 100000

theorem put1_pc (n : Nd) (path : Str) : PC Tryz.prog 207 [nodeA n, .ip [sA path]] (vB (decide (n.p = path))) := by
  unfold nodeA ndC
  refine pc_enter Tryz.func207 rfl rfl fun w0 fb => go_on ?_; (try simp only [Tryz.ntmps207, push_cast, simprocAttr])
  repeat' first | (refine at_b (fun hb => ?_) (fun hb => ?_) <;> simp only [hb, push_cast, simprocAttr]) | (refine at_ret ?_; simp only [Tryz.results207, push_cast, simprocAttr]) | (show RWp _ _ _ _ _; simp only [push_cast, simprocAttr])
  simp [vX]
theorem put_pc (l : List Nd) (hl : l.length < 4294967280) (path : Str) (c : Ct) : PC Tryz.prog 195 [ndA l, sA path, ctA c] (rX (.o 0 (putC l path c).length) [rowN (putC l path c)]) := by
  unfold ctA ctC
  refine pc_enter Tryz.func195 rfl rfl fun w0 fb => go_on ?_; (try simp only [Tryz.ntmps195, push_cast, simprocAttr])
  refine at_call ?_
  (try simp only [push_cast, simprocAttr])
  refine rwc_r (cloneTree_pc l (by omega)) rfl (flat_n _) (by simp [frB, baseOf]) ?_
  (try simp only [push_cast, simprocAttr])
  (refine at_frzS [4, 5] (by refine wk_frz ?_ ?_ ?_ ?_ <;> simp [frzS, frzT, hasN, delL, hdel, leF, leHF, frzB, idsL, idsA, idsR, inH, hget, sameRow, viewN, tk]) ?_; simp only [frzS, frzT, hasN, delL, hdel, idsA, idsL, viewN, hget, List.map_cons, List.map_nil, List.all_cons, List.all_nil, List.append_nil, List.drop, List.getElem?_cons_zero, List.getElem?_cons_succ, Bool.not_false, Bool.not_true, Bool.and_true, if_true, if_false, simprocAttr])
  obtain ⟨f, hf⟩ : ∃ f, f = l.filter fun n => !decide (n.p = path) := ⟨_, rfl⟩
  have hfl : f.length ≤ l.length := by rw [hf]; exact List.length_filter_le _ _
  have hD := DeleteFunc_pcl l (by omega) 207 [.ip [sA path]] rfl (fun n => decide (n.p = path)) (fun n _ => put1_pc n path)
  rw [← hf] at hD
  refine go_on ?_
  (try simp only [push_cast, simprocAttr])
  refine call_lend [11000] (some 0) (lr := [rowN l]) (by simp [ndB]) (by simp [rowsOf, hget]) (by simp [idsL, idsA]) (by simp [mvN]) (by simpa [rnA, ixOf] using hD) ?_
  rintro rv lr' rows ⟨rfl, rfl, rfl⟩
  refine ⟨by simp [shB, mvF], by simp [frB], go_on ?_⟩
  (try simp only [killA, killH, killRow, push_cast, simprocAttr])
  refine at_b (fun hk => ?_) (fun hk => ?_)
  · have hk0 := of_eqI_f (not_t hk)
    have hput : putC l path c = insN ⟨path, c⟩ f := by unfold putC; rw [if_neg hk0, hf]; congr 1; apply List.filter_congr; intro n _; simp
    rw [hput]
    (try simp only [hk, push_cast, simprocAttr])
    refine at_loop (X := Nat) (fun k => [(8, iA k)]) (fun _ => [(6, rowN []), (11000, rowN f)]) (fun k => k ≤ f.length ∧ insN ⟨path, c⟩ f = f.take k ++ insN ⟨path, c⟩ (f.drop k)) (fun k => f.length - k) 0 ⟨Nat.zero_le _, by simp⟩ ?_ ?_
    · (refine wk_ok ?_ ?_ ?_ ?_ <;> simp [leL, leH, idsL, idsA, idsR, inH, hget, sameRow, upA, hvA, dsts, dstO, setA_0, setA_1, setA_8, List.append, List.cons_append, List.nil_append])
    · rintro k ⟨h1, h2⟩
      simp only [upA, hvA, dsts, dstO, setA_0, setA_1, setA_8, List.append, List.cons_append, List.nil_append]
      refine go_on ?_
      (try simp only [push_cast, simprocAttr])
      by_cases hlt : k < f.length
      · obtain ⟨x, hx⟩ := get_of_lt hlt
        have i0 : ltI (k : Int) f.length = true := ltI_t (by omega)
        have i1 := ix_n hx
        have i2 := map_get ndC hx
        simp only [ndC] at i2
        have w1 := wr ((k : Int) + 1) (by omega)
        refine at_draw rfl (by kernel_rfl) ?_
        (try simp only [i0, i1, i2, push_cast, simprocAttr])
        repeat' first | (refine at_bWn (fun hb => ?_) (fun hb => ?_) <;> simp only [i0, hb, push_cast, simprocAttr]) | (refine at_bW (fun hb => ?_) (fun hb => ?_) <;> simp only [i0, hb, push_cast, simprocAttr])  | (refine at_done (by kernel_rfl) (by kernel_rfl) (go_on ?_); (try simp only [i0, push_cast, simprocAttr]))
        refine at_b (fun hs => ?_) (fun hs => ?_)
        · (try simp only [hs, w1, push_cast, simprocAttr])
          refine at_fin ⟨k + 1, ⟨by omega, ?_⟩, by omega, ?_⟩
          · rw [h2, drop_of_get hx, insN, hs, if_pos rfl, List.take_add_one, hx]
            simp
          · (refine wk_ok ?_ ?_ ?_ ?_ <;> simp [leL, leH, idsL, idsA, idsR, inH, hget, sameRow, upA, hvA, dsts, dstO, setA_0, setA_1, setA_8, List.append, List.cons_append, List.nil_append])
        · (try simp only [hs, push_cast, simprocAttr])
          have hlen2 : (f.take k ++ (⟨path, c⟩ : Nd) :: f.drop k).length = f.length + 1 := by simp; omega
          refine call_lend [11000, 36] (some 0) (lr := [rowN f, rowN [⟨path, c⟩]]) (by simp [ndB]) (by simp [rowsOf, hget, ndC]) (by simp [idsL, idsA]) (by simp [mvN]) (by simpa [rnA, ixOf] using Insert_pcl f ⟨path, c⟩ k h1 (by omega)) ?_
          rintro rv lr' rows ⟨rfl, rfl, rfl⟩
          refine ⟨by simp [shB, mvF], by simp [frB], go_on ?_⟩
          (try simp only [killA, killH, killRow, push_cast, simprocAttr])
          refine at_call ?_
          (try simp only [hlen2, push_cast, simprocAttr])
          refine rwc_r (cloneTree_pc (f.take k ++ ⟨path, c⟩ :: f.drop k) (by rw [hlen2]; omega)) rfl (flat_n _) (by simp [frB, baseOf]) (go_on ?_)
          (try simp only [push_cast, simprocAttr])
          refine at_ret ?_; simp only [Tryz.results195, push_cast, simprocAttr]
          rw [drop_of_get hx, insN, hs, if_neg (by simp), ← drop_of_get hx] at h2
          simp [rX, ixOf, h2]
      · have i0 : ltI (k : Int) f.length = false := ltI_f (by omega)
        refine at_draw rfl (by kernel_rfl) ?_
        (try simp only [i0, push_cast, simprocAttr])
        repeat' first | (refine at_bWn (fun hb => ?_) (fun hb => ?_) <;> simp only [i0, hb, push_cast, simprocAttr]) | (refine at_bW (fun hb => ?_) (fun hb => ?_) <;> simp only [i0, hb, push_cast, simprocAttr])  | (refine at_done (by kernel_rfl) (by kernel_rfl) (go_on ?_); (try simp only [i0, push_cast, simprocAttr]))
        (try simp only [push_cast, simprocAttr])
        have hlen2 : (f.take k ++ (⟨path, c⟩ : Nd) :: f.drop k).length = f.length + 1 := by simp; omega
        refine call_lend [11000, 36] (some 0) (lr := [rowN f, rowN [⟨path, c⟩]]) (by simp [ndB]) (by simp [rowsOf, hget, ndC]) (by simp [idsL, idsA]) (by simp [mvN]) (by simpa [rnA, ixOf] using Insert_pcl f ⟨path, c⟩ k h1 (by omega)) ?_
        rintro rv lr' rows ⟨rfl, rfl, rfl⟩
        refine ⟨by simp [shB, mvF], by simp [frB], go_on ?_⟩
        (try simp only [killA, killH, killRow, push_cast, simprocAttr])
        refine at_call ?_
        (try simp only [hlen2, push_cast, simprocAttr])
        refine rwc_r (cloneTree_pc (f.take k ++ ⟨path, c⟩ :: f.drop k) (by rw [hlen2]; omega)) rfl (flat_n _) (by simp [frB, baseOf]) (go_on ?_)
        (try simp only [push_cast, simprocAttr])
        refine at_ret ?_; simp only [Tryz.results195, push_cast, simprocAttr]
        rw [List.drop_of_length_le (by omega), insN] at h2
        rw [List.drop_of_length_le (by omega)]
        simp [rX, ixOf, h2]
  · have hk0 := of_eqI_t (not_f hk)
    have hput : putC l path c = f := by unfold putC; rw [if_pos hk0, hf]; apply List.filter_congr; intro n _; simp
    rw [hput]
    (try simp only [hk, push_cast, simprocAttr])
    (refine at_call ?_; (try simp only [push_cast, simprocAttr]); refine rwc_r (cloneTree_pc f (by omega)) rfl (flat_n _) (by simp [frB, baseOf]) (go_on ?_); (try simp only [push_cast, simprocAttr]))
    refine at_ret ?_; simp only [Tryz.results195, push_cast, simprocAttr]
    simp [rX, ixOf]
end Go.Proofs.YtjhbihooobingaaGreatDoor
/-
  Walks: impl.TreePut, commands.
-/
namespace Go.Proofs.YtjhbihooobingaaGreatDoor
open Go Go.RowKit Go.Proofs
def dropT (ids : List Nat) (x : AV) : AV := if (idsA x).all (fun r => !hasN ids r) = true then x else .any
def dropS (ids : List Nat) (s : AS) : AS := ⟨s.t.map (dropT ids), delL s.h ids⟩
theorem at_dropS {P : Program} {w0 : World} {lent : Lent} {Q : Exit → Act → World → Prop} {k : List It} {s : AS} (ids : List Nat) (h : Wk s (dropS ids s)) (h' : AW P w0 lent Q k (dropS ids s)) : AW P w0 lent Q k s := AW.wk h h'
attribute [local irreducible] RWp AW run kPe pe Kt effA gd gu br retR RDp runD kPeD brW gW effD
set_option maxRecDepth 100000

theorem ctg : Tryz.prog.eqGuardType Tryz.prog.depth 34 = false := by kernel_rfl
theorem cth : Tryz.prog.stoodInHeld 34 = false := by kernel_rfl
theorem ct_eq (a b : Ct) : (eqI a.k b.k && eqI a.v b.v) = decide (a = b) := by
  obtain ⟨a1, a2⟩ := a
  obtain ⟨b1, b2⟩ := b
  simp [eqI_d]
theorem CommandValid_pc (c : Cm) (hp : c.p.length < 4294967281) : PC Tryz.prog 98 [cmdA c] (vB (cmV c)) := by
  unfold cmdA cmC
  have hc : cmV c = (pV c.p && !decide (c.p = [47]) && ctV c.a && ctV c.b && !decide (c.a = c.b)) := by unfold cmV root; simp
  refine pc_enter Tryz.func98 rfl rfl fun w0 fb => go_on ?_; (try simp only [Tryz.ntmps98, push_cast, simprocAttr])
  repeat' first | (refine at_b (fun hb => ?_) (fun hb => ?_) <;> simp only [ctg, cth, hb, push_cast, simprocAttr]) | (refine at_ret ?_; simp only [ctg, cth, Tryz.results98, push_cast, simprocAttr]) | (refine at_call ?_; (try simp only [push_cast, simprocAttr]); refine rwc_v (by first | exact PathValid_pc c.p hp | exact ContentValid_pc c.a | exact ContentValid_pc c.b) (go_on ?_); simp only [ctg, cth, push_cast, simprocAttr]) | (show RWp _ _ _ _ _; simp only [ctg, cth, push_cast, simprocAttr])
  all_goals simp [vX, hc, ct_eq, *]
  all_goals simp [*] at *
/-- A tree, perhaps. -/
def optN (r : Option (List Nd)) : AV → List Row → Prop := rX (.tup [.o 0 (r.getD []).length, bA r.isSome]) [rowN (r.getD [])]
theorem ctC_len (l : List Nd) (path : Str) (c : Ct) : (putC l path c).length ≤ l.length + 1 := by
  unfold putC
  split
  · exact Nat.le_succ_of_le (List.length_filter_le _ _)
  · rw [insN_len]
    exact Nat.succ_le_succ (List.length_filter_le _ _)
theorem sm_put {l : List Nd} (hs : SmT l) (hl : l.length < 4294967280) {path : Str} (hp : path.length < 4294967281) (c : Ct) : SmT (putC l path c) := by
  refine ⟨by have := ctC_len l path c; omega, fun n hn => ?_⟩
  rcases (mem_putC n).1 hn with ⟨_, rfl⟩ | ⟨h, _⟩
  · exact hp
  · exact hs.p n h
theorem TreePut_pc (l : List Nd) (hs : SmT l) (hl : l.length < 4294967280) (path : Str) (hp : path.length < 4294967281) (c : Ct) : PC Tryz.prog 172 [ndA l, sA path, ctA c] (optN (tPut l path c)) := by
  have hput := put_pc l hl path c
  have hsp := sm_put hs hl hp c
  have ht : tPut l path c = if (tV l && pV path && ctV c && !decide (path = [47])) = true then (if tV (putC l path c) = true then some (putC l path c) else none) else none := by
    unfold tPut root
    cases tV l <;> cases pV path <;> cases ctV c <;> by_cases h : path = [47] <;> cases tV (putC l path c) <;> simp [h]
  unfold ctA ctC at *
  refine pc_enter Tryz.func172 rfl rfl fun w0 fb => go_on ?_; (try simp only [Tryz.ntmps172, push_cast, simprocAttr])
  refine at_call ?_
  (try simp only [push_cast, simprocAttr])
  refine rwc_v (TreeValid_pc l hs) ?_
  (try simp only [push_cast, simprocAttr])
  (refine at_dropS [6] (by refine wk_ok ?_ ?_ ?_ ?_ <;> simp [dropS, dropT, hasN, delL, hdel, leL, leH, idsL, idsA, idsR, inH, hget, sameRow]) ?_; simp only [dropS, dropT, hasN, delL, hdel, idsA, idsL, hget, List.map_cons, List.map_nil, List.all_cons, List.all_nil, List.append_nil, Bool.not_false, Bool.not_true, Bool.and_true, if_true, if_false, simprocAttr])
  refine go_on ?_
  repeat' first | (refine at_b (fun hb => ?_) (fun hb => ?_) <;> simp only [hb, push_cast, simprocAttr]) | (refine at_ret ?_; simp only [Tryz.results172, push_cast, simprocAttr]) | (refine at_call ?_; (try simp only [push_cast, simprocAttr]); refine rwc_v (by first | exact PathValid_pc path hp | exact ContentValid_pc c) (go_on ?_); simp only [push_cast, simprocAttr]) | (show RWp _ _ _ _ _; simp only [push_cast, simprocAttr])
  all_goals first
    | (simp only [Bool.not_eq_true', Bool.not_eq_false'] at *; simp [optN, rX, ht, *]; done)
    | (simp [optN, rX, ht, *]; done)
    | ((refine at_call ?_; (try simp only [push_cast, simprocAttr]); refine rwc_r (hput) rfl (flat_n _) (by simp [frB, baseOf]) (go_on ?_); (try simp only [push_cast, simprocAttr]))
       (refine at_call ?_; (try simp only [push_cast, simprocAttr]); refine rwc_v (TreeValid_pc _ hsp) (go_on ?_); (try simp only [push_cast, simprocAttr]))
       refine at_b (fun hv => ?_) (fun hv => ?_)
       · (try simp only [hv, push_cast, simprocAttr])
         refine at_ret ?_; simp only [Tryz.results172, push_cast, simprocAttr]
         simp only [Bool.not_eq_true', Bool.not_eq_false'] at *
         simp [optN, rX, ht, ixOf, *]
       · (try simp only [hv, push_cast, simprocAttr])
         refine at_ret ?_; simp only [Tryz.results172, push_cast, simprocAttr]
         simp only [Bool.not_eq_true', Bool.not_eq_false'] at *
         simp [optN, rX, ht, ixOf, *])
/-- What a method leaves: a tree as data, and whether. -/
def shN (l : List Nd) (b : Bool) : AV → List Row → Prop := vX (.tup [ndA l, bA b])
def apB2 (l : List Nd) (c : Cm) : List Nd × Bool := match apC l c with | some t => (t, true) | none => (l, false)
theorem apply_pc (l : List Nd) (hs : SmT l) (hl : l.length < 4294967280) (c : Cm) (hp : c.p.length < 4294967281) : PC Tryz.prog 145 [cmdA c, ndA l] (shN (apB2 l c).1 (apB2 l c).2) := by
  have hput := TreePut_pc l hs hl c.p hp c.b
  unfold cmdA cmC
  refine pc_enter Tryz.func145 rfl rfl fun w0 fb => go_on ?_; (try simp only [Tryz.ntmps145, push_cast, simprocAttr])
  refine at_draw rfl (by kernel_rfl) ?_; simp only [push_cast, simprocAttr]
  repeat' first | (refine at_bWn (fun hb => ?_) (fun hb => ?_) <;> simp only [ctg, cth, ct_eq, hb, push_cast, simprocAttr]) | (refine at_bW (fun hb => ?_) (fun hb => ?_) <;> simp only [ctg, cth, ct_eq, hb, push_cast, simprocAttr]) | (refine at_callD (by simp [clB, idsL, idsA, hget]) ?_; (try simp only [push_cast, simprocAttr]); first | (refine rcd_v (get_pc l (by omega) c.p) ?_; simp only [ctg, cth, ct_eq, push_cast, simprocAttr]) | (refine rcd_d (get_pc l (by omega) c.p) (by simp [flatV, flatL, ctC, ndC, cmC]) (by simp [ren, ctC, ndC, cmC]) ?_; simp only [ctg, cth, ct_eq, push_cast, simprocAttr])) | (refine at_done (by kernel_rfl) (by kernel_rfl) (go_on ?_); (try simp only [ctg, cth, ct_eq, push_cast, simprocAttr]))
  have hN : flatV (.tup [.o 0 0, bA true]) = true := by simp [flatV, flatL]
  refine at_b (fun hb => ?_) (fun hb => ?_)
  · have h1 : apB2 l c = (l, false) := by
      have := not_t hb
      simp at this
      simp [apB2, apC, this]
    (try simp only [hb, push_cast, simprocAttr])
    refine at_retf ?_; simp only [Tryz.results145, push_cast, simprocAttr]
    simp [shN, vX, h1]
  · have h1 : getC l c.p = c.a := by simpa using not_f hb
    (try simp only [hb, push_cast, simprocAttr])
    cases hr : tPut l c.p c.b with
    | none =>
      have h2 : apB2 l c = (l, false) := by simp [apB2, apC, h1, hr]
      rw [hr] at hput
      unfold optN at hput
      simp only [Option.getD_none, Option.isSome_none, List.length_nil] at hput
      (refine at_call ?_; (try simp only [push_cast, simprocAttr]); refine rwc_r (hput) (by simp [flatV, flatL]) (flat_n []) (by simp [frB, baseOf]) (go_on ?_); (try simp only [push_cast, simprocAttr]))
      refine at_retf ?_; simp only [Tryz.results145, push_cast, simprocAttr]
      simp [shN, vX, h2]
    | some t =>
      have h2 : apB2 l c = (t, true) := by simp [apB2, apC, h1, hr]
      rw [hr] at hput
      unfold optN at hput
      simp only [Option.getD_some, Option.isSome_some] at hput
      (refine at_call ?_; (try simp only [push_cast, simprocAttr]); refine rwc_r (hput) (by simp [flatV, flatL]) (flat_n _) (by simp [frB, baseOf]) (go_on ?_); (try simp only [push_cast, simprocAttr]))
      refine at_retf ?_; simp only [Tryz.results145, push_cast, simprocAttr]
      simp [shN, vX, h2, ixOf]
end Go.Proofs.YtjhbihooobingaaGreatDoor
/-
  Walks: logs; impl.SiteValid.
-/
namespace Go.Proofs.YtjhbihooobingaaGreatDoor
open Go Go.RowKit Go.Proofs
theorem at_share2 {P : Program} {w0 : World} {lent : Lent} {Q : Exit → Act → World → Prop} {f : FuncId} {args : List AV} {dst : Option Tmp} {k : List It} {s : AS} {x : AV} (hc : args.all isC2 = true) (hx : ren (baseOf dst) x = x)
    (hpc : PC P f args (vX x)) (hk : AW P w0 lent Q k (s.put dst x)) : RWp P w0 lent Q (.call f args dst k s) := by
  intro loc a w hR vs hs hg
  refine ⟨hpc.1 vs w, (hpc.2 w (Live s.h loc) vs (fun b hb => ?_) hs fun j y hy => ?_).mono ?_⟩
  · rcases hb with hb | hb
    · exact Live.lt hR.rw hb
    · rw [hR.fbe] at hb
      exact Nat.lt_of_lt_of_le (hR.fbl b hb).1 hR.size
  · exact isC2_ok (hg j y hy) (List.all_eq_true.1 hc y (List.mem_of_getElem? hy))
  · rintro e w' ⟨rv, rows, v, ⟨rfl, rfl⟩, rfl, hb, hres⟩
    obtain ⟨loc', hR', hv⟩ := Rel.join true (baseOf dst) hR hb hres (frB_0 _ _) (fun _ q hq => hq) (.inl rfl)
    rw [hx] at hv
    simp only [hpOf, List.append_nil] at hR' hv
    exact ⟨v, rfl, hk loc' _ w' (hR'.put dst hv)⟩
attribute [local irreducible] RWp AW run kPe pe Kt effA gd gu br retR RDp runD kPeD brW gW effD
set_option maxRecDepth 100000

/-- Short enough for any machine. -/
structure SmL (l : List Cm) : Prop where
  n : l.length < 4294967280
  p : ∀ c ∈ l, c.p.length < 4294967281
structure SmT2 (l : List Nd) : Prop where
  s : SmT l
  n : l.length < 4294967280
theorem sm_tv {l : List Nd} (h : TV l) : SmT2 l := by
  have hl := h.le
  refine ⟨⟨by omega, fun n hn => ?_⟩, by omega⟩
  obtain ⟨h1, h2, _⟩ := h.nd n hn
  have := (pV_len h1 h2).2
  omega
theorem IndexFuncC_pc (l : List Cm) (hl : l.length < 4294967281) (g : FuncId) (caps : List AV) (hc : caps.all isC = true) (p : Cm → Bool) (hp : ∀ n ∈ l, PC Tryz.prog g (cmdA n :: caps) (vB (p n))) :
    PC Tryz.prog 118 [cmA l, .fn g caps] (vI (idxF p 0 l)) := by
  refine pc_enter Tryz.func118 rfl rfl fun w0 fb => go_on ?_; (try simp only [Tryz.ntmps118, push_cast, simprocAttr])
  refine at_loop (X := Nat) (fun k => [(8, iA k)]) (fun _ => []) (fun k => k ≤ l.length ∧ idxF p 0 l = idxF p k (l.drop k)) (fun k => l.length - k) 0 ⟨Nat.zero_le _, rfl⟩ ?_ ?_
  · (refine wk_ok ?_ ?_ ?_ ?_ <;> simp [closed_ids hc, leL, leH, idsL, idsA, idsR, inH, hget, sameRow, upA, hvA, dsts, dstO, setA_0, setA_1, setA_8, List.append, List.cons_append, List.nil_append])
  · rintro k ⟨h1, h2⟩
    simp only [upA, hvA, dsts, dstO, setA_0, setA_1, setA_8, List.append, List.cons_append, List.nil_append]
    refine go_on ?_
    (try simp only [push_cast, simprocAttr])
    refine at_b (fun hg => ?_) (fun hg => ?_)
    · have hlt := lt_tt hg
      obtain ⟨x, hk⟩ := get_of_lt hlt
      have i1 := ix_n hk
      have i2 := map_get cmC hk
      simp only [cmC] at i2
      rw [drop_of_get hk] at h2
      (try simp only [hg, i1, i2, push_cast, simprocAttr])
      have hx := hp x (mem_of_get hk)
      refine at_call ?_
      simp only [List.map_cons, closed_view hc]
      (try simp only [push_cast, simprocAttr])
      refine rwc_v hx (go_on ?_)
      (try simp only [push_cast, simprocAttr])
      refine at_b (fun hn => ?_) (fun hn => ?_)
      · (try simp only [hn, push_cast, simprocAttr])
        refine at_ret ?_; simp only [Tryz.results118, push_cast, simprocAttr]
        simp [vX, h2, idxF, hn]
      · have w1 := wr ((k : Int) + 1) (by omega)
        (try simp only [hn, w1, push_cast, simprocAttr])
        refine at_fin ⟨k + 1, ⟨by omega, ?_⟩, by omega, ?_⟩
        · rw [h2]; simp [idxF, hn]
        · (refine wk_ok ?_ ?_ ?_ ?_ <;> simp [closed_ids hc, leL, leH, idsL, idsA, idsR, inH, hget, sameRow, upA, hvA, dsts, dstO, setA_0, setA_1, setA_8, List.append, List.cons_append, List.nil_append])
    · have h3 := lt_ff hg
      (try simp only [hg, push_cast, simprocAttr])
      refine at_ret ?_; simp only [Tryz.results118, push_cast, simprocAttr]
      rw [List.drop_of_length_le h3] at h2
      simp [vX, h2, idxF]
theorem ContainsFuncC_pc (l : List Cm) (hl : l.length < 4294967281) (g : FuncId) (caps : List AV) (hc : caps.all isC = true) (p : Cm → Bool) (hp : ∀ n ∈ l, PC Tryz.prog g (cmdA n :: caps) (vB (p n))) :
    PC Tryz.prog 151 [cmA l, .fn g caps] (vB (l.any p)) := by
  refine pc_enter Tryz.func151 rfl rfl fun w0 fb => go_on ?_; (try simp only [Tryz.ntmps151, push_cast, simprocAttr])
  refine at_call ?_
  simp only [List.map_cons, List.map_nil, view_fn 2, closed_view hc]
  (try simp only [push_cast, simprocAttr])
  refine rwc_v (IndexFuncC_pc l hl g caps hc p hp) (go_on ?_)
  (try simp only [push_cast, simprocAttr])
  refine at_ret ?_; simp only [Tryz.results151, push_cast, simprocAttr]
  simp [vX, idxF_any]
theorem allValid1_pc (c : Cm) (hp : c.p.length < 4294967281) : PC Tryz.prog 192 [cmdA c] (vB (!cmV c)) := by
  have h := CommandValid_pc c hp
  unfold cmdA cmC at *
  refine pc_enter Tryz.func192 rfl rfl fun w0 fb => go_on ?_; (try simp only [Tryz.ntmps192, push_cast, simprocAttr])
  (refine at_call ?_; (try simp only [push_cast, simprocAttr]); refine rwc_v (h) (go_on ?_); (try simp only [push_cast, simprocAttr]))
  refine at_ret ?_; simp only [Tryz.results192, push_cast, simprocAttr]
  simp [vX]
theorem allValid_pc (l : List Cm) (hs : SmL l) : PC Tryz.prog 164 [cmA l] (vB (l.all cmV)) := by
  have hC := ContainsFuncC_pc l (by have := hs.n; omega) 192 [] rfl (fun c => !cmV c) (fun c hc => allValid1_pc c (hs.p c hc))
  refine pc_enter Tryz.func164 rfl rfl fun w0 fb => go_on ?_; (try simp only [Tryz.ntmps164, push_cast, simprocAttr])
  (refine at_call ?_; (try simp only [push_cast, simprocAttr]); refine rwc_v (hC) (go_on ?_); (try simp only [push_cast, simprocAttr]))
  refine at_ret ?_; simp only [Tryz.results164, push_cast, simprocAttr]
  have : (!l.any fun c => !cmV c) = l.all cmV := by rw [← List.all_eq_not_any_not]
  simp [vX, this]
theorem LogValid_pc (l : List Cm) (hs : SmL l) : PC Tryz.prog 117 [cmA l] (vB (lV l)) := by
  refine pc_enter Tryz.func117 rfl rfl fun w0 fb => go_on ?_; (try simp only [Tryz.ntmps117, push_cast, simprocAttr])
  repeat' first | (refine at_b (fun hb => ?_) (fun hb => ?_) <;> simp only [hb, push_cast, simprocAttr]) | (refine at_ret ?_; simp only [Tryz.results117, push_cast, simprocAttr]) | (refine at_call ?_; (try simp only [push_cast, simprocAttr]); refine rwc_v (by first | exact allValid_pc l hs) (go_on ?_); simp only [push_cast, simprocAttr]) | (show RWp _ _ _ _ _; simp only [push_cast, simprocAttr])
  · have h6 : decide (l.length ≤ 20) = true := by have := of_leI_t hb; simp; omega
    simp [vX, lV, h6]
  · have h6 : decide (l.length ≤ 20) = false := by have := of_leI_f hb; simp; omega
    simp [vX, lV, h6]
theorem apB2_sm {t : List Nd} (hs : SmT2 t) (c : Cm) : SmT2 (apB2 t c).1 := by
  unfold apB2
  cases h : apC t c with
  | none => exact hs
  | some t' => exact sm_tv (apC_some h).2.2.2.1
theorem applyAll_pc (l : List Cm) (hs : SmL l) (t : List Nd) (ht : SmT2 t) : PC Tryz.prog 122 [ndA t, cmA l] (vX (.tup [ndA (apAll t l).1, iA (apAll t l).2])) := by
  refine pc_enter Tryz.func122 rfl rfl fun w0 fb => go_on ?_; (try simp only [Tryz.ntmps122, push_cast, simprocAttr])
  refine at_loop (X := Nat × List Nd) (fun x => [(0, ndA x.2), (12, iA x.1)]) (fun _ => [(4, rowN [])]) (fun x => x.1 ≤ l.length ∧ SmT2 x.2 ∧ apAll t l = ((apAll x.2 (l.drop x.1)).1, (apAll x.2 (l.drop x.1)).2 + x.1)) (fun x => l.length - x.1) (0, t) ⟨Nat.zero_le _, ht, by simp⟩ ?_ ?_
  · (refine wk_ok ?_ ?_ ?_ ?_ <;> simp [leL, leH, idsL, idsA, idsR, inH, hget, sameRow, upA, hvA, dsts, dstO, setA_0, setA_1, setA_8, List.append, List.cons_append, List.nil_append])
  · rintro ⟨k, u⟩ ⟨h1, hu, h2⟩
    simp only at h1 hu h2
    simp only [upA, hvA, dsts, dstO, setA_0, setA_1, setA_8, List.append, List.cons_append, List.nil_append]
    refine go_on ?_
    (try simp only [push_cast, simprocAttr])
    refine at_b (fun hg => ?_) (fun hg => ?_)
    · have hlt := lt_tt hg
      obtain ⟨x, hk⟩ := get_of_lt hlt
      have i1 := ix_n hk
      have i2 := map_get cmC hk
      simp only [cmC] at i2
      rw [drop_of_get hk] at h2
      have w1 := wr ((k : Int) + 1) (by have := hs.n; omega)
      have hA := apply_pc u hu.s hu.n x (hs.p x (mem_of_get hk))
      unfold cmdA cmC at hA
      (try simp only [hg, i1, i2, push_cast, simprocAttr])
      unfold shN at hA
      cases hr : apC u x with
      | none =>
        have e : apB2 u x = (u, false) := by simp [apB2, hr]
        rw [e] at hA
        ((try simp only [push_cast, simprocAttr]); refine at_share2 (by simp [isC2, isC]) (by first | rfl | simp [ren]) (hA) (go_on ?_); (try simp only [push_cast, simprocAttr]))
        refine at_ret ?_; simp only [Tryz.results122, push_cast, simprocAttr]
        simp [vX, h2, apAll, hr]
      | some u' =>
        have e : apB2 u x = (u', true) := by simp [apB2, hr]
        have hu' : SmT2 u' := by have := apB2_sm hu x; rw [e] at this; exact this
        rw [e] at hA
        ((try simp only [push_cast, simprocAttr]); refine at_share2 (by simp [isC2, isC]) (by first | rfl | simp [ren]) (hA) (go_on ?_); (try simp only [w1, push_cast, simprocAttr]))
        refine at_fin ⟨(k + 1, u'), ⟨by dsimp only; omega, hu', ?_⟩, by dsimp only; omega, ?_⟩
        · dsimp only
          rw [h2]
          simp only [apAll, hr]
          congr 1
          omega
        · (refine wk_ok ?_ ?_ ?_ ?_ <;> simp [leL, leH, idsL, idsA, idsR, inH, hget, sameRow, upA, hvA, dsts, dstO, setA_0, setA_1, setA_8, List.append, List.cons_append, List.nil_append])
    · have h3 := lt_ff hg
      rw [List.drop_of_length_le h3] at h2
      have hk : k = l.length := by omega
      (try simp only [hg, push_cast, simprocAttr])
      refine at_ret ?_; simp only [Tryz.results122, push_cast, simprocAttr]
      simp [vX, h2, apAll, hk]
/-- What a log does. -/
def lap (t : List Nd) (l : List Cm) : List Nd × Int := if (tV t && lV l) = true then ((apAll t l).1, ((apAll t l).2 : Int)) else ([], -1)
theorem apAll_sm : ∀ (l : List Cm) (t : List Nd), SmT2 t → SmT2 (apAll t l).1
  | [], t, h => h
  | c :: l, t, h => by
    unfold apAll
    cases hr : apC t c with
    | none => exact h
    | some t' => exact apAll_sm l t' (sm_tv (apC_some hr).2.2.2.1)
theorem LogApply_pc (t : List Nd) (ht : SmT2 t) (l : List Cm) (hs : SmL l) : PC Tryz.prog 79 [ndA t, cmA l] (rX (.tup [.o 0 (lap t l).1.length, iA (lap t l).2]) [rowN (lap t l).1]) := by
  have hsm := apAll_sm l t ht
  have hA := applyAll_pc l hs t ht
  refine pc_enter Tryz.func79 rfl rfl fun w0 fb => go_on ?_; (try simp only [Tryz.ntmps79, push_cast, simprocAttr])
  refine at_call ?_
  (try simp only [push_cast, simprocAttr])
  refine rwc_v (TreeValid_pc t ht.s) ?_
  (try simp only [push_cast, simprocAttr])
  (refine at_dropS [4] (by refine wk_ok ?_ ?_ ?_ ?_ <;> simp [dropS, dropT, hasN, delL, hdel, leL, leH, idsL, idsA, idsR, inH, hget, sameRow]) ?_; simp only [dropS, dropT, hasN, delL, hdel, idsA, idsL, hget, List.map_cons, List.map_nil, List.all_cons, List.all_nil, List.append_nil, Bool.not_false, Bool.not_true, Bool.and_true, if_true, if_false, simprocAttr])
  refine go_on ?_
  repeat' first | (refine at_b (fun hb => ?_) (fun hb => ?_) <;> simp only [hb, push_cast, simprocAttr]) | (refine at_ret ?_; simp only [Tryz.results79, push_cast, simprocAttr]) | (refine at_call ?_; (try simp only [push_cast, simprocAttr]); refine rwc_v (by first | exact LogValid_pc l hs) (go_on ?_); simp only [push_cast, simprocAttr]) | (show RWp _ _ _ _ _; simp only [push_cast, simprocAttr])
  · have : tV t = false := not_t hb
    simp [rX, lap, this]
  · rename_i hb1
    have : lV l = false := not_t hb
    simp [rX, lap, this]
  · rename_i hb1
    have e : lap t l = ((apAll t l).1, ((apAll t l).2 : Int)) := by unfold lap; rw [if_pos (by simp [not_f hb1, not_f hb])]
    ((try simp only [push_cast, simprocAttr]); refine at_share2 (by simp [isC2, isC]) (by first | rfl | simp [ren]) (hA) (go_on ?_); (try simp only [push_cast, simprocAttr]))
    (refine at_call ?_; (try simp only [push_cast, simprocAttr]); refine rwc_r (cloneTree_pc _ hsm.s.n) rfl (flat_n _) (by simp [frB, baseOf]) (go_on ?_); (try simp only [push_cast, simprocAttr]))
    refine at_ret ?_; simp only [Tryz.results79, push_cast, simprocAttr]
    simp [rX, e, ixOf]
theorem lap_fits (t : List Nd) (l : List Cm) : eqI (lap t l).2 l.length = fits t l := by
  unfold fits lap
  cases tV t <;> cases lV l <;> simp [eqI_d]
  all_goals omega
theorem LogFits_pc (t : List Nd) (ht : SmT2 t) (l : List Cm) (hs : SmL l) : PC Tryz.prog 116 [ndA t, cmA l] (vB (fits t l)) := by
  have hA := LogApply_pc t ht l hs
  refine pc_enter Tryz.func116 rfl rfl fun w0 fb => go_on ?_; (try simp only [Tryz.ntmps116, push_cast, simprocAttr])
  (refine at_call ?_; (try simp only [push_cast, simprocAttr]); refine rwc_r (hA) (by simp [flatV, flatL]) (flat_n _) (by simp [frB, baseOf]) (go_on ?_); (try simp only [push_cast, simprocAttr]))
  refine at_ret ?_; simp only [Tryz.results116, push_cast, simprocAttr]
  simp [vX, lap_fits]
def stC (s : St) : List AV := [iA s.ep, ndA s.base, cmA s.log]
abbrev stA' (s : St) : AV := .agg (stC s)
structure SmS (s : St) : Prop where
  t : SmT2 s.base
  l : SmL s.log
theorem isEpoch_pc (n : Int) : PC Tryz.prog 114 [iA n] (vB (inR n 0 99)) := by
  refine pc_enter Tryz.func114 rfl rfl fun w0 fb => go_on ?_; (try simp only [Tryz.ntmps114, push_cast, simprocAttr])
  (refine at_call ?_; (try simp only [push_cast, simprocAttr]); refine rwc_v (in_pc _ _ _) (go_on ?_); (try simp only [push_cast, simprocAttr]))
  refine at_ret ?_; simp only [Tryz.results114, push_cast, simprocAttr]
  simp [vX]
theorem SiteValid_pc (s : St) (hs : SmS s) : PC Tryz.prog 77 [stA' s] (vB (siteV s)) := by
  unfold stA' stC
  have e : siteV s = (inR s.ep 0 99 && tV s.base && fits s.base s.log) := rfl
  refine pc_enter Tryz.func77 rfl rfl fun w0 fb => go_on ?_; (try simp only [Tryz.ntmps77, push_cast, simprocAttr])
  repeat' first | (refine at_b (fun hb => ?_) (fun hb => ?_) <;> simp only [hb, push_cast, simprocAttr]) | (refine at_ret ?_; simp only [Tryz.results77, push_cast, simprocAttr]) | (refine at_call ?_; (try simp only [push_cast, simprocAttr]); refine rwc_v (by first | exact isEpoch_pc s.ep | exact TreeValid_pc s.base hs.t.s | exact LogFits_pc s.base hs.t s.log hs.l) (go_on ?_); simp only [push_cast, simprocAttr]) | (show RWp _ _ _ _ _; simp only [push_cast, simprocAttr])
  all_goals simp [vX, e, *]
end Go.Proofs.YtjhbihooobingaaGreatDoor
/-
  Walks: the reference's trees.
-/
namespace Go.Proofs.YtjhbihooobingaaGreatDoor
open Go Go.RowKit Go.Proofs
attribute [local irreducible] RWp AW run kPe pe Kt effA gd gu br retR RDp runD kPeD brW gW effD
set_option maxRecDepth 100000

theorem take_snoc {α β : Type} (l : List α) (f : α → β) (e : β) : (l.map f ++ [e]).take (l.length + 1) = l.map f ++ [e] := by
  rw [List.take_of_length_le (by simp)]
set_option maxHeartbeats 1000000 in
theorem l3Put_pc (l : List Nd) (hl : l.length < 4294967280) (path : Str) (c : Ct) : PC Tryz.prog 61 [ndA l, sA path, ctA c] (rX (.o 0 (l3P path c (decide (c.k = 0)) l).length) [rowN (l3P path c (decide (c.k = 0)) l)]) := by
  unfold ctA ctC
  refine pc_enter Tryz.func61 rfl rfl fun w0 fb => go_on ?_; (try simp only [Tryz.ntmps61, push_cast, simprocAttr])
  obtain ⟨R, hR⟩ : ∃ R, R = l3P path c (decide (c.k = 0)) l := ⟨_, rfl⟩
  rw [← hR]
  refine at_loop (X := Nat × List Nd × Bool) (fun x => [(7, .o 10 x.2.1.length), (8, bA x.2.2), (9, iA x.1), (10, .any)]) (fun x => [(5, ⟨34, 2, [[iA c.k, iA c.v]], true⟩), (6, rowN []), (10, rowN x.2.1)])
    (fun x => x.1 ≤ l.length ∧ x.2.1.length ≤ 2 * x.1 ∧ R = x.2.1 ++ l3P path c x.2.2 (l.drop x.1)) (fun x => l.length - x.1) (0, [], decide (c.k = 0)) ⟨Nat.zero_le _, by simp, hR⟩ ?_ ?_
  · (refine wk_ok ?_ ?_ ?_ ?_ <;> simp [eqI_d, leL, leH, idsL, idsA, idsR, inH, hget, sameRow, upA, hvA, dsts, dstO, setA_0, setA_1, setA_8, List.append, List.cons_append, List.nil_append])
  · rintro ⟨k, out, d⟩ ⟨h1, h3, h2⟩
    simp only at h1 h2 h3
    simp only [upA, hvA, dsts, dstO, setA_0, setA_1, setA_8, List.append, List.cons_append, List.nil_append]
    refine go_on ?_
    (try simp only [push_cast, simprocAttr])
    refine at_b (fun hg => ?_) (fun hg => ?_)
    · have hlt := lt_tt hg
      obtain ⟨n, hk⟩ := get_of_lt hlt
      have i1 := ix_n hk
      have i2 := map_get ndC hk
      simp only [ndC] at i2
      rw [drop_of_get hk] at h2
      have w1 := wr ((k : Int) + 1) (by omega)
      have fin : ∀ (out' : List Nd) (d' : Bool), R = out' ++ l3P path c d' (l.drop (k + 1)) → out'.length ≤ 2 * (k + 1) → True := fun _ _ _ _ => trivial
      cases d with
      | true =>
        (try simp only [hg, i1, i2, push_cast, simprocAttr])
        refine at_b (fun he => ?_) (fun he => ?_)
        · (try simp only [he, w1, push_cast, simprocAttr])
          have he' : n.p = path := by simpa using he
          refine at_fin ⟨(k + 1, out, true), ⟨by dsimp only; omega, by dsimp only; omega, ?_⟩, by dsimp only; omega, ?_⟩
          · dsimp only
            rw [h2]; simp [l3P, he']
          · (refine wk_ok ?_ ?_ ?_ ?_ <;> simp [leL, leH, idsL, idsA, idsR, inH, hget, sameRow, upA, hvA, dsts, dstO, setA_0, setA_1, setA_8, List.append, List.cons_append, List.nil_append])
        · (try simp only [he, i1, i2, push_cast, simprocAttr])
          refine at_chk (by omega) ?_
          (try simp only [w1, push_cast, simprocAttr])
          have he' : ¬ n.p = path := by simpa using he
          refine at_fin ⟨(k + 1, out ++ [n], true), ⟨by dsimp only; omega, by simp; omega, ?_⟩, by dsimp only; omega, ?_⟩
          · dsimp only
            rw [h2]; simp [l3P, he']
          · (refine wk_ok ?_ ?_ ?_ ?_ <;> simp [ndC, leL, leH, idsL, idsA, idsR, inH, hget, sameRow, upA, hvA, dsts, dstO, setA_0, setA_1, setA_8, List.append, List.cons_append, List.nil_append])
      | false =>
        (try simp only [hg, i1, i2, push_cast, simprocAttr])
        refine at_b (fun hs => ?_) (fun hs => ?_)
        · (try simp only [hs, push_cast, simprocAttr])
          refine at_chk (by omega) ?_
          (try simp only [i1, i2, push_cast, simprocAttr])
          refine at_b (fun he => ?_) (fun he => ?_)
          · (try simp only [he, w1, push_cast, simprocAttr])
            have he' : n.p = path := by simpa using he
            refine at_fin ⟨(k + 1, out ++ [⟨path, c⟩], true), ⟨by dsimp only; omega, by simp; omega, ?_⟩, by dsimp only; omega, ?_⟩
            · dsimp only
              rw [h2]; rw [he'] at hs; simp [l3P, he', hs]
            · (refine wk_ok ?_ ?_ ?_ ?_ <;> simp [ndC, leL, leH, idsL, idsA, idsR, inH, hget, sameRow, upA, hvA, dsts, dstO, setA_0, setA_1, setA_8, List.append, List.cons_append, List.nil_append])
          · (try simp only [he, i1, i2, push_cast, simprocAttr])
            refine at_chk (by omega) ?_
            (try simp only [take_snoc, w1, push_cast, simprocAttr])
            have he' : ¬ n.p = path := by simpa using he
            refine at_fin ⟨(k + 1, out ++ [⟨path, c⟩, n], true), ⟨by dsimp only; omega, by simp; omega, ?_⟩, by dsimp only; omega, ?_⟩
            · dsimp only
              rw [h2]; simp [l3P, he', hs]
            · (refine wk_ok ?_ ?_ ?_ ?_ <;> simp [ndC, leL, leH, idsL, idsA, idsR, inH, hget, sameRow, upA, hvA, dsts, dstO, setA_0, setA_1, setA_8, List.append, List.cons_append, List.nil_append])
        · (try simp only [hs, i1, i2, push_cast, simprocAttr])
          refine at_b (fun he => ?_) (fun he => ?_)
          · (try simp only [he, push_cast, simprocAttr])
            refine at_chk (by omega) ?_
            (try simp only [w1, push_cast, simprocAttr])
            have he' : n.p = path := by simpa using he
            refine at_fin ⟨(k + 1, out ++ [⟨path, c⟩], true), ⟨by dsimp only; omega, by simp; omega, ?_⟩, by dsimp only; omega, ?_⟩
            · dsimp only
              rw [h2]; rw [he'] at hs; simp [l3P, he', hs]
            · (refine wk_ok ?_ ?_ ?_ ?_ <;> simp [ndC, leL, leH, idsL, idsA, idsR, inH, hget, sameRow, upA, hvA, dsts, dstO, setA_0, setA_1, setA_8, List.append, List.cons_append, List.nil_append])
          · (try simp only [he, i1, i2, push_cast, simprocAttr])
            refine at_chk (by omega) ?_
            (try simp only [w1, push_cast, simprocAttr])
            have he' : ¬ n.p = path := by simpa using he
            refine at_fin ⟨(k + 1, out ++ [n], false), ⟨by dsimp only; omega, by simp; omega, ?_⟩, by dsimp only; omega, ?_⟩
            · dsimp only
              rw [h2]; simp [l3P, he', hs]
            · (refine wk_ok ?_ ?_ ?_ ?_ <;> simp [ndC, leL, leH, idsL, idsA, idsR, inH, hget, sameRow, upA, hvA, dsts, dstO, setA_0, setA_1, setA_8, List.append, List.cons_append, List.nil_append])
    · have h4 := lt_ff hg
      rw [List.drop_of_length_le h4] at h2
      cases d with
      | true =>
        (try simp only [hg, push_cast, simprocAttr])
        refine at_ret ?_; simp only [Tryz.results61, push_cast, simprocAttr]
        simp [rX, h2, l3P, ixOf]
      | false =>
        (try simp only [hg, push_cast, simprocAttr])
        refine at_chk (by omega) ?_
        (try simp only [push_cast, simprocAttr])
        refine at_ret ?_; simp only [Tryz.results61, push_cast, simprocAttr]
        simp [rX, h2, l3P, ixOf, ndC]
end Go.Proofs.YtjhbihooobingaaGreatDoor
/-
  Walks: the reference's TreeValid.
-/
namespace Go.Proofs.YtjhbihooobingaaGreatDoor
open Go Go.RowKit Go.Proofs
def tvS (L : List Nd) : Option Nd → List Nd → Bool
  | _, [] => true
  | none, n :: r => ndV n && dirUp L n && tvS L (some n) r
  | some m, n :: r => ndV n && slt m.p n.p && dirUp L n && tvS L (some n) r
theorem tvS_eq (L : List Nd) : ∀ (l : List Nd) (o : Option Nd), tvS L o l = (tvL o l && l.all (dirUp L))
  | [], o => by cases o <;> simp [tvS, tvL]
  | n :: r, none => by
    rw [tvS, tvL, tvS_eq L r]
    simp only [List.all_cons]
    cases ndV n <;> cases dirUp L n <;> cases tvL (some n) r <;> simp
  | n :: r, some m => by
    rw [tvS, tvL, tvS_eq L r]
    simp only [List.all_cons]
    cases ndV n <;> cases dirUp L n <;> cases slt m.p n.p <;> cases tvL (some n) r <;> simp
theorem depth_lt (s : Str) : ltI (depth s) 1 = !(pV s && !decide (s = [47])) := by
  have h := depth_pos s
  unfold ltI
  have e : decide (depth s < 1) = !decide (0 < depth s) := by
    rw [Bool.eq_iff_iff]; simp; omega
  rw [e, h]
  by_cases hr : s = [47] <;> simp [hr, root]
attribute [local irreducible] RWp AW run kPe pe Kt effA gd gu br retR RDp runD kPeD brW gW effD
set_option maxRecDepth 100000
theorem ndV_eq2 (n : Nd) : ndV n = ((pV n.p && !decide (n.p = [47])) && ctV n.c && !eqI n.c.k 0) := ndV_eq n
theorem dirUp_eq (l : List Nd) (n : Nd) : dirUp l n = eqI (getC l (par n.p)).k 1 := by unfold dirUp; rw [eqI_d]
set_option maxHeartbeats 1000000 in
theorem specTreeValid_pc (l : List Nd) (hs : SmT l) : PC Tryz.prog 35 [ndA l] (vB (tV l)) := by
  have hl := hs.n
  have hT : tV l = (tvS l none l && decide (l.length ≤ 10)) := by rw [tvS_eq, tvL_none]; rfl
  refine pc_enter Tryz.func35 rfl rfl fun w0 fb => go_on ?_; (try simp only [Tryz.ntmps35, push_cast, simprocAttr])
  refine at_loop (X := Nat) (fun k => [(3, iA k)]) (fun _ => []) (fun k => k ≤ l.length ∧ tvS l none l = tvS l (prevN l k) (l.drop k)) (fun k => l.length - k) 0 ⟨Nat.zero_le _, rfl⟩ ?_ ?_
  · (refine wk_ok ?_ ?_ ?_ ?_ <;> simp [leL, leH, idsL, idsA, idsR, inH, hget, sameRow, upA, hvA, dsts, dstO, setA_0, setA_1, setA_8, List.append, List.cons_append, List.nil_append])
  · rintro k ⟨h1, h2⟩
    simp only [upA, hvA, dsts, dstO, setA_0, setA_1, setA_8, List.append, List.cons_append, List.nil_append]
    refine go_on ?_
    (try simp only [push_cast, simprocAttr])
    refine at_b (fun hg => ?_) (fun hg => ?_)
    · have hlt := lt_tt hg
      obtain ⟨n, hk⟩ := get_of_lt hlt
      have i1 := ix_n hk
      have i2 := map_get ndC hk
      simp only [ndC] at i2
      rw [drop_of_get hk] at h2
      have hnp := hs.p n (mem_of_get hk)
      have w1 := wr ((k : Int) + 1) (by omega)
      (try simp only [hg, i1, i2, push_cast, simprocAttr])
      refine at_draw rfl (by kernel_rfl) ?_; simp only [push_cast, simprocAttr]
      have hnd := ndV_eq2 n
      have hdu := dirUp_eq l n
      cases k with
      | zero =>
        have h2' : tvS l none l = (ndV n && dirUp l n && tvS l (some n) (l.drop 1)) := h2
        have w3 : IntKind.i64.wrap 1 = 1 := wr 1 (by omega)
        repeat' first | (refine at_bWn (fun hb => ?_) (fun hb => ?_) <;> simp only [depth_lt, hb, push_cast, simprocAttr]) | (refine at_bW (fun hb => ?_) (fun hb => ?_) <;> simp only [depth_lt, hb, push_cast, simprocAttr]) | (refine at_callD (by simp [clB, idsL, idsA, hget]) ?_; (try simp only [push_cast, simprocAttr]); first | (refine rcd_v (PathDepth_pc n.p hnp) ?_; simp only [depth_lt, push_cast, simprocAttr]) | (refine rcd_d (PathDepth_pc n.p hnp) (by simp [flatV, flatL, ctC, ndC, cmC]) (by simp [ren, ctC, ndC, cmC]) ?_; simp only [depth_lt, push_cast, simprocAttr]) | (refine rcd_v (specContentValid_pc n.c) ?_; simp only [depth_lt, push_cast, simprocAttr]) | (refine rcd_d (specContentValid_pc n.c) (by simp [flatV, flatL, ctC, ndC, cmC]) (by simp [ren, ctC, ndC, cmC]) ?_; simp only [depth_lt, push_cast, simprocAttr])) | (refine at_done (by kernel_rfl) (by kernel_rfl) (go_on ?_); (try simp only [depth_lt, push_cast, simprocAttr]))
        all_goals first
          | (refine at_ret ?_; simp only [Tryz.results35, push_cast, simprocAttr]; simp [vX, hT, h2', hnd, *]; done)
          | ((refine at_call ?_; (try simp only [push_cast, simprocAttr]); refine rwc_v (l1Parent_pc n.p hnp) (go_on ?_); (try simp only [push_cast, simprocAttr]))
             (refine at_call ?_; (try simp only [push_cast, simprocAttr]); refine rwc_d (l3Get_pc l hl (par n.p)) (by simp [flatV, flatL, ctC, ndC, cmC]) (by simp [ren, ctC, ndC, cmC]) (go_on ?_); (try simp only [push_cast, simprocAttr]))
             refine at_b (fun hy => ?_) (fun hy => ?_)
             · (try simp only [hy, push_cast, simprocAttr])
               refine at_ret ?_; simp only [Tryz.results35, push_cast, simprocAttr]
               have := not_t hy
               simp [vX, hT, h2', hdu, this]
             · (try simp only [hy, w1, w3, push_cast, simprocAttr])
               have hy' := not_f hy
               have hn1 : ndV n = true := by simp [hnd, *]
               refine at_fin ⟨1, ⟨by omega, ?_⟩, by omega, ?_⟩
               · rw [h2', hn1, hdu, hy', prevN, hk]; simp [*]
               · (refine wk_ok ?_ ?_ ?_ ?_ <;> simp [leL, leH, idsL, idsA, idsR, inH, hget, sameRow, upA, hvA, dsts, dstO, setA_0, setA_1, setA_8, List.append, List.cons_append, List.nil_append]))
      | succ m =>
        obtain ⟨q, hm⟩ := get_of_lt (l := l) (k := m) (by omega)
        have h2' : tvS l none l = (ndV n && slt q.p n.p && dirUp l n && tvS l (some n) (l.drop (m + 1 + 1))) := by rw [h2, prevN, hm]; rfl
        have i3 := ix_n hm
        have i4 := map_get ndC hm
        simp only [ndC] at i4
        have wm : IntKind.i64.wrap ((m : Int) + 1 - 1) = m := by rw [wr _ (by omega)]; omega
        have l0 : ltI 0 ((m : Int) + 1) = true := ltI_t (by omega)
        have w2 : IntKind.i64.wrap ((m : Int) + 1 + 1) = (m : Int) + 1 + 1 := wr _ (by omega)
        repeat' first | (refine at_bWn (fun hb => ?_) (fun hb => ?_) <;> simp only [depth_lt, i3, i4, wm, l0, hb, push_cast, simprocAttr]) | (refine at_bW (fun hb => ?_) (fun hb => ?_) <;> simp only [depth_lt, i3, i4, wm, l0, hb, push_cast, simprocAttr]) | (refine at_callD (by simp [clB, idsL, idsA, hget]) ?_; (try simp only [push_cast, simprocAttr]); first | (refine rcd_v (PathDepth_pc n.p hnp) ?_; simp only [depth_lt, i3, i4, wm, l0, push_cast, simprocAttr]) | (refine rcd_d (PathDepth_pc n.p hnp) (by simp [flatV, flatL, ctC, ndC, cmC]) (by simp [ren, ctC, ndC, cmC]) ?_; simp only [depth_lt, i3, i4, wm, l0, push_cast, simprocAttr]) | (refine rcd_v (specContentValid_pc n.c) ?_; simp only [depth_lt, i3, i4, wm, l0, push_cast, simprocAttr]) | (refine rcd_d (specContentValid_pc n.c) (by simp [flatV, flatL, ctC, ndC, cmC]) (by simp [ren, ctC, ndC, cmC]) ?_; simp only [depth_lt, i3, i4, wm, l0, push_cast, simprocAttr])) | (refine at_done (by kernel_rfl) (by kernel_rfl) (go_on ?_); (try simp only [depth_lt, i3, i4, wm, l0, push_cast, simprocAttr]))
        all_goals first
          | (refine at_ret ?_; simp only [Tryz.results35, push_cast, simprocAttr]; simp [vX, hT, h2', hnd, *]; done)
          | (refine at_b (fun hz => ?_) (fun hz => ?_)
             · (try simp only [hz, push_cast, simprocAttr])
               refine at_ret ?_; simp only [Tryz.results35, push_cast, simprocAttr]
               have := not_t hz
               simp [vX, hT, h2', hnd, *]
             · have hz' := not_f hz
               (try simp only [hz, push_cast, simprocAttr])
               (refine at_call ?_; (try simp only [push_cast, simprocAttr]); refine rwc_v (l1Parent_pc n.p hnp) (go_on ?_); (try simp only [push_cast, simprocAttr]))
               (refine at_call ?_; (try simp only [push_cast, simprocAttr]); refine rwc_d (l3Get_pc l hl (par n.p)) (by simp [flatV, flatL, ctC, ndC, cmC]) (by simp [ren, ctC, ndC, cmC]) (go_on ?_); (try simp only [push_cast, simprocAttr]))
               refine at_b (fun hy => ?_) (fun hy => ?_)
               · (try simp only [hy, push_cast, simprocAttr])
                 refine at_ret ?_; simp only [Tryz.results35, push_cast, simprocAttr]
                 have := not_t hy
                 simp [vX, hT, h2', hdu, this]
               · (try simp only [hy, w2, push_cast, simprocAttr])
                 have hy' := not_f hy
                 have hn1 : ndV n = true := by simp [hnd, *]
                 refine at_fin ⟨m + 1 + 1, ⟨by omega, ?_⟩, by omega, ?_⟩
                 · rw [h2', hn1, hdu, hy', prevN, hk]; simp [*]
                 · (refine wk_ok ?_ ?_ ?_ ?_ <;> simp [leL, leH, idsL, idsA, idsR, inH, hget, sameRow, upA, hvA, dsts, dstO, setA_0, setA_1, setA_8, List.append, List.cons_append, List.nil_append]))
    · have h3 := lt_ff hg
      rw [List.drop_of_length_le h3] at h2
      have h4 : tvS l none l = true := by rw [h2]; cases prevN l k <;> rfl
      (try simp only [hg, push_cast, simprocAttr])
      refine at_ret ?_; simp only [Tryz.results35, push_cast, simprocAttr]
      simp [vX, hT, h4, leI]
      omega
end Go.Proofs.YtjhbihooobingaaGreatDoor
/-
  Walks: the reference's commands and logs.
-/
namespace Go.Proofs.YtjhbihooobingaaGreatDoor
open Go Go.RowKit Go.Proofs
attribute [local irreducible] RWp AW run kPe pe Kt effA gd gu br retR RDp runD kPeD brW gW effD
set_option maxRecDepth 100000

theorem tV_sort {l : List Nd} (h : tV l = true) : sortP l = true := ((tV_iff l).1 h).so
theorem specTreePut_pc (l : List Nd) (hs : SmT l) (hl : l.length < 4294967280) (path : Str) (hp : path.length < 4294967281) (c : Ct) : PC Tryz.prog 37 [ndA l, sA path, ctA c] (optN (tPut l path c)) := by
  have hL := l3Put_pc l hl path c
  have hsp := sm_put hs hl hp c
  have ht : tPut l path c = if (tV l && (pV path && !decide (path = [47])) && ctV c) = true then (if tV (putC l path c) = true then some (putC l path c) else none) else none := by
    unfold tPut root
    cases tV l <;> cases pV path <;> cases ctV c <;> by_cases h : path = [47] <;> cases tV (putC l path c) <;> simp [h]
  unfold ctA ctC at *
  refine pc_enter Tryz.func37 rfl rfl fun w0 fb => go_on ?_; (try simp only [Tryz.ntmps37, push_cast, simprocAttr])
  repeat' first | (refine at_b (fun hb => ?_) (fun hb => ?_) <;> simp only [depth_lt, hb, push_cast, simprocAttr]) | (refine at_ret ?_; simp only [depth_lt, Tryz.results37, push_cast, simprocAttr]) | (refine at_call ?_; (try simp only [push_cast, simprocAttr]); refine rwc_v (by first | exact specTreeValid_pc l hs | exact PathDepth_pc path hp | exact specContentValid_pc c) (go_on ?_); simp only [depth_lt, push_cast, simprocAttr]) | (show RWp _ _ _ _ _; simp only [depth_lt, push_cast, simprocAttr])
  all_goals simp only [Bool.not_eq_true', Bool.not_eq_false'] at *
  all_goals first
    | (simp [optN, rX, ht, ixOf, *]; done)
    | skip
  rename_i h1 h2
  rw [l3P_put (tV_sort h1)] at hL
  (refine at_call ?_; (try simp only [push_cast, simprocAttr]); refine rwc_r (hL) rfl (flat_n _) (by simp [frB, baseOf]) (go_on ?_); (try simp only [push_cast, simprocAttr]))
  (refine at_call ?_; (try simp only [push_cast, simprocAttr]); refine rwc_v (specTreeValid_pc _ hsp) (go_on ?_); (try simp only [push_cast, simprocAttr]))
  refine at_b (fun hv => ?_) (fun hv => ?_)
  · (try simp only [hv, push_cast, simprocAttr])
    refine at_ret ?_; simp only [Tryz.results37, push_cast, simprocAttr]
    simp only [Bool.not_eq_true'] at hv
    simp [optN, rX, ht, ixOf, *]
  · (try simp only [hv, push_cast, simprocAttr])
    refine at_ret ?_; simp only [Tryz.results37, push_cast, simprocAttr]
    simp only [Bool.not_eq_false'] at hv
    simp [optN, rX, ht, ixOf, *]
theorem depth_gt (s : Str) : ltI 0 (depth s) = (pV s && !decide (s = [47])) := by
  have h := depth_pos s
  unfold ltI
  rw [h]
  by_cases hr : s = [47] <;> simp [hr, root]
theorem specCommandValid_pc (c : Cm) (hp : c.p.length < 4294967281) : PC Tryz.prog 36 [cmdA c] (vB (cmV c)) := by
  unfold cmdA cmC
  have hc : cmV c = ((pV c.p && !decide (c.p = [47])) && ctV c.a && ctV c.b && !decide (c.a = c.b)) := by unfold cmV root; simp
  refine pc_enter Tryz.func36 rfl rfl fun w0 fb => go_on ?_; (try simp only [Tryz.ntmps36, push_cast, simprocAttr])
  repeat' first | (refine at_b (fun hb => ?_) (fun hb => ?_) <;> simp only [ctg, cth, depth_gt, hb, push_cast, simprocAttr]) | (refine at_ret ?_; simp only [ctg, cth, depth_gt, Tryz.results36, push_cast, simprocAttr]) | (refine at_call ?_; (try simp only [push_cast, simprocAttr]); refine rwc_v (by first | exact PathDepth_pc c.p hp | exact specContentValid_pc c.a | exact specContentValid_pc c.b) (go_on ?_); simp only [ctg, cth, depth_gt, push_cast, simprocAttr]) | (show RWp _ _ _ _ _; simp only [ctg, cth, depth_gt, push_cast, simprocAttr])
  all_goals simp [vX, hc, ct_eq, *]
  all_goals simp [*] at *
end Go.Proofs.YtjhbihooobingaaGreatDoor
/-
  Walks: the reference's logs and sides.
-/
namespace Go.Proofs.YtjhbihooobingaaGreatDoor
open Go Go.RowKit Go.Proofs
attribute [local irreducible] RWp AW run kPe pe Kt effA gd gu br retR RDp runD kPeD brW gW effD
set_option maxRecDepth 100000

def cap2 (t : List Nd) (c : Cm) : List Nd × Bool := if (tV t && cmV c) = true then apB2 t c else ([], false)
theorem specCommandApply_pc (l : List Nd) (hs : SmT l) (hl : l.length < 4294967280) (c : Cm) (hp : c.p.length < 4294967281) : PC Tryz.prog 21 [ndA l, cmdA c] (rX (.tup [.o 0 (cap2 l c).1.length, bA (cap2 l c).2]) [rowN (cap2 l c).1]) := by
  have hput := specTreePut_pc l hs hl c.p hp c.b
  have hcv := specCommandValid_pc c hp
  unfold cmdA cmC at *
  refine pc_enter Tryz.func21 rfl rfl fun w0 fb => go_on ?_; (try simp only [Tryz.ntmps21, push_cast, simprocAttr])
  repeat' first | (refine at_b (fun hb => ?_) (fun hb => ?_) <;> simp only [hb, push_cast, simprocAttr]) | (refine at_ret ?_; simp only [Tryz.results21, push_cast, simprocAttr]) | (refine at_call ?_; (try simp only [push_cast, simprocAttr]); refine rwc_v (by first | exact specTreeValid_pc l hs | exact hcv) (go_on ?_); simp only [push_cast, simprocAttr]) | (show RWp _ _ _ _ _; simp only [push_cast, simprocAttr])
  all_goals simp only [Bool.not_eq_true', Bool.not_eq_false'] at *
  all_goals first
    | (simp [rX, cap2, ixOf, *]; done)
    | skip
  rename_i h1
  have e : cap2 l c = apB2 l c := by simp [cap2, h1, hb]
  rw [e]
  refine at_draw rfl (by kernel_rfl) ?_; simp only [push_cast, simprocAttr]
  repeat' first | (refine at_bWn (fun hb => ?_) (fun hb => ?_) <;> simp only [ctg, cth, ct_eq, hb, push_cast, simprocAttr]) | (refine at_bW (fun hb => ?_) (fun hb => ?_) <;> simp only [ctg, cth, ct_eq, hb, push_cast, simprocAttr]) | (refine at_callD (by simp [clB, idsL, idsA, hget]) ?_; (try simp only [push_cast, simprocAttr]); first | (refine rcd_v (l3Get_pc l (by omega) c.p) ?_; simp only [ctg, cth, ct_eq, push_cast, simprocAttr]) | (refine rcd_d (l3Get_pc l (by omega) c.p) (by simp [flatV, flatL, ctC, ndC, cmC]) (by simp [ren, ctC, ndC, cmC]) ?_; simp only [ctg, cth, ct_eq, push_cast, simprocAttr])) | (refine at_done (by kernel_rfl) (by kernel_rfl) (go_on ?_); (try simp only [ctg, cth, ct_eq, push_cast, simprocAttr]))
  refine at_b (fun hb => ?_) (fun hb => ?_)
  · have h3 : getC l c.p = c.a := by simpa using hb
    (try simp only [hb, push_cast, simprocAttr])
    cases hr : tPut l c.p c.b with
    | none =>
      have e2 : apB2 l c = (l, false) := by simp [apB2, apC, h3, hr]
      rw [hr] at hput
      unfold optN at hput
      simp only [Option.getD_none, Option.isSome_none, List.length_nil] at hput
      (refine at_call ?_; (try simp only [push_cast, simprocAttr]); refine rwc_r (hput) (by simp [flatV, flatL]) (flat_n []) (by simp [frB, baseOf]) (go_on ?_); (try simp only [push_cast, simprocAttr]))
      refine at_chk (by omega) ?_
      (try simp only [push_cast, simprocAttr])
      refine at_ret ?_; simp only [Tryz.results21, push_cast, simprocAttr]
      simp [rX, e2, ixOf]
    | some t =>
      have e2 : apB2 l c = (t, true) := by simp [apB2, apC, h3, hr]
      rw [hr] at hput
      unfold optN at hput
      simp only [Option.getD_some, Option.isSome_some] at hput
      (refine at_call ?_; (try simp only [push_cast, simprocAttr]); refine rwc_r (hput) (by simp [flatV, flatL]) (flat_n _) (by simp [frB, baseOf]) (go_on ?_); (try simp only [push_cast, simprocAttr]))
      refine at_ret ?_; simp only [Tryz.results21, push_cast, simprocAttr]
      simp [rX, e2, ixOf]
  · have h3 : ¬ getC l c.p = c.a := by simpa using hb
    have e2 : apB2 l c = (l, false) := by simp [apB2, apC, h3]
    (try simp only [hb, push_cast, simprocAttr])
    refine at_chk (by omega) ?_
    (try simp only [push_cast, simprocAttr])
    refine at_ret ?_; simp only [Tryz.results21, push_cast, simprocAttr]
    simp [rX, e2, ixOf]
theorem specLogValid_pc (l : List Cm) (hs : SmL l) : PC Tryz.prog 132 [cmA l] (vB (lV l)) := by
  refine pc_enter Tryz.func132 rfl rfl fun w0 fb => go_on ?_; (try simp only [Tryz.ntmps132, push_cast, simprocAttr])
  refine at_loop (X := Nat) (fun k => [(3, iA k)]) (fun _ => []) (fun k => k ≤ l.length ∧ l.all cmV = (l.drop k).all cmV) (fun k => l.length - k) 0 ⟨Nat.zero_le _, rfl⟩ ?_ ?_
  · (refine wk_ok ?_ ?_ ?_ ?_ <;> simp [leL, leH, idsL, idsA, idsR, inH, hget, sameRow, upA, hvA, dsts, dstO, setA_0, setA_1, setA_8, List.append, List.cons_append, List.nil_append])
  · rintro k ⟨h1, h2⟩
    simp only [upA, hvA, dsts, dstO, setA_0, setA_1, setA_8, List.append, List.cons_append, List.nil_append]
    refine go_on ?_
    (try simp only [push_cast, simprocAttr])
    refine at_b (fun hg => ?_) (fun hg => ?_)
    · have hlt := lt_tt hg
      obtain ⟨x, hk⟩ := get_of_lt hlt
      have i1 := ix_n hk
      have i2 := map_get cmC hk
      have hcv := specCommandValid_pc x (hs.p x (mem_of_get hk))
      simp only [cmC] at i2
      unfold cmdA cmC at hcv
      rw [drop_of_get hk] at h2
      (try simp only [hg, i1, i2, push_cast, simprocAttr])
      (refine at_call ?_; (try simp only [push_cast, simprocAttr]); refine rwc_v (hcv) (go_on ?_); (try simp only [push_cast, simprocAttr]))
      refine at_b (fun hn => ?_) (fun hn => ?_)
      · (try simp only [hn, push_cast, simprocAttr])
        refine at_ret ?_; simp only [Tryz.results132, push_cast, simprocAttr]
        simp [vX, lV, h2, not_t hn]
      · have w1 := wr ((k : Int) + 1) (by have := hs.n; omega)
        (try simp only [hn, w1, push_cast, simprocAttr])
        refine at_fin ⟨k + 1, ⟨by omega, ?_⟩, by omega, ?_⟩
        · rw [h2]; simp [not_f hn]
        · (refine wk_ok ?_ ?_ ?_ ?_ <;> simp [leL, leH, idsL, idsA, idsR, inH, hget, sameRow, upA, hvA, dsts, dstO, setA_0, setA_1, setA_8, List.append, List.cons_append, List.nil_append])
    · have h3 := lt_ff hg
      rw [List.drop_of_length_le h3] at h2
      (try simp only [hg, push_cast, simprocAttr])
      refine at_ret ?_; simp only [Tryz.results132, push_cast, simprocAttr]
      simp [vX, lV, h2, leI]
      omega
theorem apC_tv {t t' : List Nd} {c : Cm} (h : apC t c = some t') : tV t' = true := (tV_iff t').2 (apC_some h).2.2.2.1
/-- What is left reads so. -/
def vF (X : AV) (rv : AV) (rows : List Row) : Prop := viewN 3 (hpOf 0 rows) rv = X
theorem PC.toF {P : Program} {f : FuncId} {args : List AV} {X : AV} (h : PC P f args (vF X)) : PC P f args (vX X) := h.frz fun rv rows h => ⟨h, rfl⟩
theorem specLogApply_pc (t : List Nd) (ht : SmT2 t) (l : List Cm) (hs : SmL l) : PC Tryz.prog 88 [ndA t, cmA l] (vX (.tup [ndA (lap t l).1, iA (lap t l).2])) := by
  refine PC.toF ?_
  have htn := ht.n
  refine pc_enter Tryz.func88 rfl rfl fun w0 fb => go_on ?_; (try simp only [Tryz.ntmps88, push_cast, simprocAttr])
  repeat' first | (refine at_b (fun hb => ?_) (fun hb => ?_) <;> simp only [hb, push_cast, simprocAttr]) | (refine at_ret ?_; simp only [Tryz.results88, push_cast, simprocAttr]) | (refine at_call ?_; (try simp only [push_cast, simprocAttr]); refine rwc_v (by first | exact specTreeValid_pc t ht.s | exact specLogValid_pc l hs) (go_on ?_); simp only [push_cast, simprocAttr]) | (show RWp _ _ _ _ _; simp only [push_cast, simprocAttr])
  all_goals simp only [Bool.not_eq_true', Bool.not_eq_false'] at *
  all_goals first
    | (simp [vF, lap, viewN, hpOf, hget, tk, ixOf, *]; done)
    | skip
  rename_i h1
  have e : lap t l = ((apAll t l).1, ((apAll t l).2 : Int)) := by simp [lap, h1, hb]
  rw [e]
  have hcv : ∀ c ∈ l, cmV c = true := by
    simp only [lV, Bool.and_eq_true] at hb
    exact fun c hc => List.all_eq_true.1 hb.1 c hc
  refine at_chk (by omega) ?_
  refine at_loop (X := Nat × List Nd) (fun x => [(6, ndA x.2), (7, iA x.1), (21, .any)]) (fun _ => [(4, rowN [])]) (fun x => x.1 ≤ l.length ∧ SmT2 x.2 ∧ tV x.2 = true ∧ apAll t l = ((apAll x.2 (l.drop x.1)).1, (apAll x.2 (l.drop x.1)).2 + x.1)) (fun x => l.length - x.1) (0, t) ⟨Nat.zero_le _, ht, h1, by simp⟩ ?_ ?_
  · (refine wk_frz ?_ ?_ ?_ ?_ <;> simp [leF, leHF, frzB, idsL, idsA, idsR, inH, hget, sameRow, viewN, tk, upA, hvA, dsts, dstO, setA_0, setA_1, setA_8, List.append, List.cons_append, List.nil_append])
  · rintro ⟨k, u⟩ ⟨q1, hu, huv, h2⟩
    simp only at q1 hu huv h2
    simp only [upA, hvA, dsts, dstO, setA_0, setA_1, setA_8, List.append, List.cons_append, List.nil_append]
    refine go_on ?_
    (try simp only [push_cast, simprocAttr])
    refine at_b (fun hg => ?_) (fun hg => ?_)
    · have hlt := lt_tt hg
      obtain ⟨x, hk⟩ := get_of_lt hlt
      have i1 := ix_n hk
      have i2 := map_get cmC hk
      simp only [cmC] at i2
      rw [drop_of_get hk] at h2
      have w1 := wr ((k : Int) + 1) (by have := hs.n; omega)
      have hA := specCommandApply_pc u hu.s hu.n x (hs.p x (mem_of_get hk))
      unfold cmdA cmC at hA
      have hx := hcv x (mem_of_get hk)
      have e2 : cap2 u x = apB2 u x := by simp [cap2, huv, hx]
      rw [e2] at hA
      (try simp only [hg, i1, i2, push_cast, simprocAttr])
      cases hr : apC u x with
      | none =>
        have e3 : apB2 u x = (u, false) := by simp [apB2, hr]
        rw [e3] at hA
        (refine at_call ?_; (try simp only [push_cast, simprocAttr]); refine rwc_r (hA) (by simp [flatV, flatL]) (flat_n _) (by simp [frB, baseOf]) (go_on ?_); (try simp only [push_cast, simprocAttr]))
        refine at_ret ?_; simp only [Tryz.results88, push_cast, simprocAttr]
        simp [vF, viewN, h2, apAll, hr]
      | some u' =>
        have e3 : apB2 u x = (u', true) := by simp [apB2, hr]
        have hu' : SmT2 u' := by have := apB2_sm hu x; rw [e3] at this; exact this
        rw [e3] at hA
        (refine at_call ?_; (try simp only [push_cast, simprocAttr]); refine rwc_r (hA) (by simp [flatV, flatL]) (flat_n _) (by simp [frB, baseOf]) (go_on ?_); (try simp only [w1, push_cast, simprocAttr]))
        refine at_fin ⟨(k + 1, u'), ⟨by dsimp only; omega, hu', apC_tv hr, ?_⟩, by dsimp only; omega, ?_⟩
        · dsimp only
          rw [h2]
          simp only [apAll, hr]
          congr 1
          omega
        · (refine wk_frz ?_ ?_ ?_ ?_ <;> simp [leF, leHF, frzB, idsL, idsA, idsR, inH, hget, sameRow, viewN, tk, upA, hvA, dsts, dstO, setA_0, setA_1, setA_8, List.append, List.cons_append, List.nil_append])
    · have h3 := lt_ff hg
      rw [List.drop_of_length_le h3] at h2
      have hk : k = l.length := by omega
      (try simp only [hg, push_cast, simprocAttr])
      refine at_ret ?_; simp only [Tryz.results88, push_cast, simprocAttr]
      simp [vF, viewN, h2, apAll, hk]
theorem specLogFits_pc (t : List Nd) (ht : SmT2 t) (l : List Cm) (hs : SmL l) : PC Tryz.prog 129 [ndA t, cmA l] (vB (fits t l)) := by
  have hA := specLogApply_pc t ht l hs
  refine pc_enter Tryz.func129 rfl rfl fun w0 fb => go_on ?_; (try simp only [Tryz.ntmps129, push_cast, simprocAttr])
  ((try simp only [push_cast, simprocAttr]); refine at_share2 (by simp [isC2, isC]) (by first | rfl | simp [ren]) (hA) (go_on ?_); (try simp only [push_cast, simprocAttr]))
  refine at_ret ?_; simp only [Tryz.results129, push_cast, simprocAttr]
  simp [vX, lap_fits]
theorem fits_tv {t : List Nd} {l : List Cm} : (tV t && fits t l) = fits t l := by
  unfold fits
  cases tV t <;> simp
theorem specSiteValid_pc (s : St) (hs : SmS s) : PC Tryz.prog 86 [stA' s] (vB (siteV s)) := by
  unfold stA' stC
  have e : siteV s = (inR s.ep 0 99 && fits s.base s.log) := by unfold siteV; rw [Bool.and_assoc, fits_tv]
  refine pc_enter Tryz.func86 rfl rfl fun w0 fb => go_on ?_; (try simp only [Tryz.ntmps86, push_cast, simprocAttr])
  repeat' first | (refine at_b (fun hb => ?_) (fun hb => ?_) <;> simp only [hb, push_cast, simprocAttr]) | (refine at_ret ?_; simp only [Tryz.results86, push_cast, simprocAttr]) | (refine at_call ?_; (try simp only [push_cast, simprocAttr]); refine rwc_v (by first | exact l6In_pc _ _ _ | exact specLogFits_pc s.base hs.t s.log hs.l) (go_on ?_); simp only [push_cast, simprocAttr]) | (show RWp _ _ _ _ _; simp only [push_cast, simprocAttr])
  all_goals simp [vX, e, *]
end Go.Proofs.YtjhbihooobingaaGreatDoor
/-
  Walks: texts of contents and of commands.
-/
namespace Go.Proofs.YtjhbihooobingaaGreatDoor
open Go Go.RowKit Go.Proofs
theorem pc_val {P : Program} {f : FuncId} {argv : List Value} {x : Value} (hen : ∀ (vs : Array Value) (W : World), (callFunc f vs).run P W = .ok (.enter f vs) W)
    (h : ∀ w, Calls P f argv.toArray w fun e w' => e = .returned x ∧ w' = w) : PC P f (argv.map .v) (vX (.v x)) := by
  refine ⟨hen, fun w fb vs hfb hvs hg => ?_⟩
  have e : vs = argv.toArray := by
    apply Array.ext
    · simp [hvs]
    · intro i h1 h2
      have h3 : i < argv.length := by simpa using h2
      have := hg i (.v argv[i]) (by rw [List.getElem?_map, List.getElem?_eq_getElem h3]; rfl)
      have h5 : vs.getD i undef = argv[i] := by
        generalize vs.getD i undef = u at this
        cases this
        rfl
      simpa [Array.getD, h1] using h5
  subst e
  refine (h w).mono ?_
  rintro e w' ⟨rfl, rfl⟩
  refine ⟨_, [], _, ⟨rfl, rfl⟩, rfl, Below.refl _ _, ⟨fun _ => none, fb⟩, rfl, .cl .v, ?_, ?_, ?_⟩
  · intro r row hr; cases hr
  · intro r r' row row' b c1 c2 hr; cases hr
  · intro r row b c1 hr; cases hr
theorem dec_len (n : Nat) : (dec n).length ≤ 2 := by unfold dec; split <;> simp
theorem txtC_len (c : Ct) : (txtC c).length ≤ 3 := by
  have := dec_len c.v.toNat
  unfold txtC
  split
  · split
    · simp; omega
    · split <;> simp
  · simp
attribute [local irreducible] RWp AW run kPe pe Kt effA gd gu br retR RDp runD kPeD brW gW effD
set_option maxRecDepth 100000
theorem itoa_pc (n : Nat) (h : n < 100) : PC Tryz.prog 45 [iA n] (vS (dec n)) := by
  have := pc_val (P := Tryz.prog) (f := 45) (argv := [.int .i64 n]) (x := .string ⟨(Lib.decDigits n).toArray⟩) (enters_of Tryz.func45 (by kernel_rfl) rfl) fun w => Any.strconv_Itoa_small Tryz.lays171 n h w
  rw [decDigits_100 h] at this
  exact this
theorem l6Dec_1 (n : Nat) (h : n < 10) : PC Tryz.prog 52 [iA n] (vS (dec n)) := by
  have i1 : ltI (n : Int) (-9223372036854775807) = false := ltI_f (by omega)
  have i2 : ltI (n : Int) 0 = false := ltI_f (by omega)
  have i3 : ltI (n : Int) 10 = true := ltI_t (by omega)
  have w1 : IntKind.i64.wrap (48 + (n : Int)) = 48 + (n : Int) := wr _ (by omega)
  have w3 : IntKind.u8.wrap (48 + (n : Int)) = 48 + (n : Int) := by simp [IntKind.wrap, IntKind.bits, IntKind.signed]; omega
  have w4 : (48 + (n : Int)).toNat = 48 + n := by omega
  refine pc_enter Tryz.func52 rfl rfl fun w0 fb => go_on ?_; (try simp only [Tryz.ntmps52, push_cast, simprocAttr])
  (try simp only [i1, i2, i3, w1, w3, w4, push_cast, simprocAttr])
  refine at_ret ?_; simp only [Tryz.results52, push_cast, simprocAttr]
  simp [vX, dec, h]
theorem l6Dec_pc (n : Nat) (h : n < 100) : PC Tryz.prog 52 [iA n] (vS (dec n)) := by
  by_cases h10 : n < 10
  · exact l6Dec_1 n h10
  have i1 : ltI (n : Int) (-9223372036854775807) = false := ltI_f (by omega)
  have i2 : ltI (n : Int) 0 = false := ltI_f (by omega)
  have i3 : ltI (n : Int) 10 = false := ltI_f (by omega)
  have t1 : Int.tmod (n : Int) 10 = ((n % 10 : Nat) : Int) := by rw [Int.tmod_eq_emod_of_nonneg (by omega)]; omega
  have t2 : Int.tdiv (n : Int) 10 = ((n / 10 : Nat) : Int) := by rw [Int.tdiv_eq_ediv_of_nonneg (by omega)]; omega
  obtain ⟨d, hd⟩ : ∃ d, d = n / 10 := ⟨_, rfl⟩
  obtain ⟨m, hm⟩ : ∃ m, m = n % 10 := ⟨_, rfl⟩
  rw [← hd] at t2
  rw [← hm] at t1
  have w1 : IntKind.i64.wrap (48 + (m : Int)) = 48 + (m : Int) := wr _ (by omega)
  have w2 : IntKind.i64.wrap (d : Int) = (d : Int) := wr _ (by omega)
  have w3 : IntKind.u8.wrap (48 + (m : Int)) = 48 + (m : Int) := by simp [IntKind.wrap, IntKind.bits, IntKind.signed]; omega
  have w4 : (48 + (m : Int)).toNat = 48 + m := by omega
  have hD := l6Dec_1 d (by omega)
  have z0 : ((10 : Int) = 0) = False := by simp
  have w5 : (dec d).length + 1 ≤ 9223372036854775807 := by have := dec_len d; omega
  have hdd : dec d = [UInt8.ofNat (48 + d)] := by unfold dec; rw [if_pos (by omega)]
  refine pc_enter Tryz.func52 rfl rfl fun w0 fb => go_on ?_; (try simp only [Tryz.ntmps52, push_cast, simprocAttr])
  (try simp only [i1, i2, i3, push_cast, simprocAttr])
  refine at_draw rfl (by kernel_rfl) ?_
  (try simp only [t1, t2, w1, w2, w3, w4, z0, push_cast, simprocAttr])
  repeat' first | (refine at_bWn (fun hb => ?_) (fun hb => ?_) <;> simp only [t1, t2, w1, w2, w3, w4, z0, w5, hb, push_cast, simprocAttr]) | (refine at_bW (fun hb => ?_) (fun hb => ?_) <;> simp only [t1, t2, w1, w2, w3, w4, z0, w5, hb, push_cast, simprocAttr]) | (refine at_callD (by simp [clB, idsL, idsA, hget]) ?_; (try simp only [push_cast, simprocAttr]); first | (refine rcd_v (hD) ?_; simp only [t1, t2, w1, w2, w3, w4, z0, w5, push_cast, simprocAttr]) | (refine rcd_d (hD) (by simp [flatV, flatL, ctC, ndC, cmC]) (by simp [ren, ctC, ndC, cmC]) ?_; simp only [t1, t2, w1, w2, w3, w4, z0, w5, push_cast, simprocAttr])) | (refine at_done (by kernel_rfl) (by kernel_rfl) (go_on ?_); (try simp only [t1, t2, w1, w2, w3, w4, z0, w5, push_cast, simprocAttr]))
  (try simp only [w5, push_cast, simprocAttr])
  refine at_ret ?_; simp only [Tryz.results52, push_cast, simprocAttr]
  have e : dec n = [UInt8.ofNat (48 + d), UInt8.ofNat (48 + m)] := by unfold dec; rw [if_neg h10, hd, hm]
  simp [vX, e, hdd]
theorem ctV_2 {c : Ct} (hv : ctV c = true) (hk : c.k = 2) : ∃ n : Nat, n < 100 ∧ c.v = n := by
  simp only [ctV, hk, inR, Bool.or_eq_true, Bool.and_eq_true, decide_eq_true_eq] at hv
  exact ⟨c.v.toNat, by omega, by omega⟩
theorem ContentText_pc (c : Ct) : PC Tryz.prog 49 [ctA c] (vS (txtC c)) := by
  have hV := ContentValid_pc c
  unfold ctA ctC at *
  refine pc_enter Tryz.func49 rfl rfl fun w0 fb => go_on ?_; (try simp only [Tryz.ntmps49, push_cast, simprocAttr])
  (refine at_call ?_; (try simp only [push_cast, simprocAttr]); refine rwc_v (hV) (go_on ?_); (try simp only [push_cast, simprocAttr]))
  cases hv : ctV c with
  | false =>
    (try simp only [hv, Bool.not_false, push_cast, simprocAttr])
    refine at_ret ?_; simp only [Tryz.results49, push_cast, simprocAttr]
    simp [vX, txtC, hv]
  | true =>
    (try simp only [hv, Bool.not_true, push_cast, simprocAttr])
    by_cases h2 : c.k = 2
    · have j2 : eqI c.k 2 = true := eqI_t h2
      obtain ⟨n, hn, hcv⟩ := ctV_2 hv h2
      have hI := itoa_pc n hn
      have w5 : 1 + (dec n).length ≤ 9223372036854775807 := by have := dec_len n; omega
      (try simp only [j2, hcv, push_cast, simprocAttr])
      (refine at_call ?_; (try simp only [push_cast, simprocAttr]); refine rwc_v (hI) (go_on ?_); (try simp only [push_cast, simprocAttr]))
      (try simp only [w5, push_cast, simprocAttr])
      refine at_ret ?_; simp only [Tryz.results49, push_cast, simprocAttr]
      simp [vX, txtC, hv, h2, hcv]
    · have j2 : eqI c.k 2 = false := eqI_f h2
      by_cases h1 : c.k = 1
      · have j1 : eqI c.k 1 = true := eqI_t h1
        (try simp only [j2, j1, push_cast, simprocAttr])
        refine at_ret ?_; simp only [Tryz.results49, push_cast, simprocAttr]
        simp [vX, txtC, hv, h1]
      · have j1 : eqI c.k 1 = false := eqI_f h1
        (try simp only [j2, j1, push_cast, simprocAttr])
        refine at_ret ?_; simp only [Tryz.results49, push_cast, simprocAttr]
        simp [vX, txtC, hv, h1, h2]
theorem specContentText_pc (c : Ct) : PC Tryz.prog 38 [ctA c] (vS (txtC c)) := by
  have hV := specContentValid_pc c
  unfold ctA ctC at *
  refine pc_enter Tryz.func38 rfl rfl fun w0 fb => go_on ?_; (try simp only [Tryz.ntmps38, push_cast, simprocAttr])
  (refine at_call ?_; (try simp only [push_cast, simprocAttr]); refine rwc_v (hV) (go_on ?_); (try simp only [push_cast, simprocAttr]))
  cases hv : ctV c with
  | false =>
    (try simp only [hv, Bool.not_false, push_cast, simprocAttr])
    refine at_ret ?_; simp only [Tryz.results38, push_cast, simprocAttr]
    simp [vX, txtC, hv]
  | true =>
    have hk : c.k = 0 ∨ c.k = 1 ∨ c.k = 2 := by
      simp only [ctV, Bool.or_eq_true, Bool.and_eq_true, decide_eq_true_eq] at hv
      omega
    (try simp only [hv, Bool.not_true, push_cast, simprocAttr])
    rcases hk with h0 | h0 | h0
    · have j0 : eqI c.k 0 = true := eqI_t h0
      (try simp only [j0, push_cast, simprocAttr])
      refine at_ret ?_; simp only [Tryz.results38, push_cast, simprocAttr]
      simp [vX, txtC, hv, h0]
    · have j0 : eqI c.k 0 = false := eqI_f (by omega)
      have j1 : eqI c.k 1 = true := eqI_t h0
      (try simp only [j0, j1, push_cast, simprocAttr])
      refine at_ret ?_; simp only [Tryz.results38, push_cast, simprocAttr]
      simp [vX, txtC, hv, h0]
    · have j0 : eqI c.k 0 = false := eqI_f (by omega)
      have j1 : eqI c.k 1 = false := eqI_f (by omega)
      obtain ⟨n, hn, hcv⟩ := ctV_2 hv h0
      have hI := l6Dec_pc n hn
      have w5 : 1 + (dec n).length ≤ 9223372036854775807 := by have := dec_len n; omega
      (try simp only [j0, j1, hcv, push_cast, simprocAttr])
      (refine at_call ?_; (try simp only [push_cast, simprocAttr]); refine rwc_v (hI) (go_on ?_); (try simp only [push_cast, simprocAttr]))
      (try simp only [w5, push_cast, simprocAttr])
      refine at_ret ?_; simp only [Tryz.results38, push_cast, simprocAttr]
      simp [vX, txtC, hv, h0, hcv]
end Go.Proofs.YtjhbihooobingaaGreatDoor
/-
  Walks: texts of commands; contents read from texts.
-/
namespace Go.Proofs.YtjhbihooobingaaGreatDoor
open Go Go.RowKit Go.Proofs
attribute [local irreducible] RWp AW run kPe pe Kt effA gd gu br retR RDp runD kPeD brW gW effD
set_option maxRecDepth 100000
theorem CommandText_pc (c : Cm) (hp : c.p.length < 4294967281) : PC Tryz.prog 76 [cmdA c] (vS (txtM c)) := by
  have hV := CommandValid_pc c hp
  have hA := ContentText_pc c.a
  have hB := ContentText_pc c.b
  have la := txtC_len c.a
  have lb := txtC_len c.b
  unfold cmdA cmC at *
  unfold ctA ctC at hA hB
  refine pc_enter Tryz.func76 rfl rfl fun w0 fb => go_on ?_; (try simp only [Tryz.ntmps76, push_cast, simprocAttr])
  (refine at_call ?_; (try simp only [push_cast, simprocAttr]); refine rwc_v (hV) (go_on ?_); (try simp only [push_cast, simprocAttr]))
  cases hv : cmV c with
  | false =>
    (try simp only [hv, Bool.not_false, push_cast, simprocAttr])
    refine at_ret ?_; simp only [Tryz.results76, push_cast, simprocAttr]
    simp [vX, txtM, hv]
  | true =>
    have w1 : c.p.length ≤ 9223372036854775806 := by omega
    have w2 : (c.p ++ [32]).length + (txtC c.a).length ≤ 9223372036854775807 := by simp; omega
    have w3 : ((c.p ++ [32]) ++ txtC c.a).length ≤ 9223372036854775806 := by simp; omega
    have w4 : (((c.p ++ [32]) ++ txtC c.a) ++ [32]).length + (txtC c.b).length ≤ 9223372036854775807 := by simp; omega
    (try simp only [hv, Bool.not_true, push_cast, simprocAttr])
    refine at_draw rfl (by kernel_rfl) ?_; simp only [push_cast, simprocAttr]
    (try simp only [w1, push_cast, simprocAttr])
    repeat' first | (refine at_bWn (fun hb => ?_) (fun hb => ?_) <;> simp only [w1, w2, w3, w4, hb, push_cast, simprocAttr]) | (refine at_bW (fun hb => ?_) (fun hb => ?_) <;> simp only [w1, w2, w3, w4, hb, push_cast, simprocAttr]) | (refine at_callD (by simp [clB, idsL, idsA, hget]) ?_; (try simp only [push_cast, simprocAttr]); first | (refine rcd_v (hA) ?_; simp only [w1, w2, w3, w4, push_cast, simprocAttr]) | (refine rcd_d (hA) (by simp [flatV, flatL, ctC, ndC, cmC]) (by simp [ren, ctC, ndC, cmC]) ?_; simp only [w1, w2, w3, w4, push_cast, simprocAttr]) | (refine rcd_v (hB) ?_; simp only [w1, w2, w3, w4, push_cast, simprocAttr]) | (refine rcd_d (hB) (by simp [flatV, flatL, ctC, ndC, cmC]) (by simp [ren, ctC, ndC, cmC]) ?_; simp only [w1, w2, w3, w4, push_cast, simprocAttr])) | (refine at_done (by kernel_rfl) (by kernel_rfl) (go_on ?_); (try simp only [w1, w2, w3, w4, push_cast, simprocAttr]))
    (try simp only [w1, w2, w3, w4, push_cast, simprocAttr])
    refine at_ret ?_; simp only [Tryz.results76, push_cast, simprocAttr]
    simp [vX, txtM, hv]
theorem specCommandText_pc (c : Cm) (hp : c.p.length < 4294967281) : PC Tryz.prog 22 [cmdA c] (vS (txtM c)) := by
  have hV := specCommandValid_pc c hp
  have hA := specContentText_pc c.a
  have hB := specContentText_pc c.b
  have la := txtC_len c.a
  have lb := txtC_len c.b
  unfold cmdA cmC at *
  unfold ctA ctC at hA hB
  refine pc_enter Tryz.func22 rfl rfl fun w0 fb => go_on ?_; (try simp only [Tryz.ntmps22, push_cast, simprocAttr])
  (refine at_call ?_; (try simp only [push_cast, simprocAttr]); refine rwc_v (hV) (go_on ?_); (try simp only [push_cast, simprocAttr]))
  cases hv : cmV c with
  | false =>
    (try simp only [hv, Bool.not_false, push_cast, simprocAttr])
    refine at_ret ?_; simp only [Tryz.results22, push_cast, simprocAttr]
    simp [vX, txtM, hv]
  | true =>
    have w1 : c.p.length ≤ 9223372036854775806 := by omega
    have w2 : (c.p ++ [32]).length + (txtC c.a).length ≤ 9223372036854775807 := by simp; omega
    have w3 : ((c.p ++ [32]) ++ txtC c.a).length ≤ 9223372036854775806 := by simp; omega
    have w4 : (((c.p ++ [32]) ++ txtC c.a) ++ [32]).length + (txtC c.b).length ≤ 9223372036854775807 := by simp; omega
    (try simp only [hv, Bool.not_true, push_cast, simprocAttr])
    refine at_draw rfl (by kernel_rfl) ?_; simp only [push_cast, simprocAttr]
    (try simp only [w1, push_cast, simprocAttr])
    repeat' first | (refine at_bWn (fun hb => ?_) (fun hb => ?_) <;> simp only [w1, w2, w3, w4, hb, push_cast, simprocAttr]) | (refine at_bW (fun hb => ?_) (fun hb => ?_) <;> simp only [w1, w2, w3, w4, hb, push_cast, simprocAttr]) | (refine at_callD (by simp [clB, idsL, idsA, hget]) ?_; (try simp only [push_cast, simprocAttr]); first | (refine rcd_v (hA) ?_; simp only [w1, w2, w3, w4, push_cast, simprocAttr]) | (refine rcd_d (hA) (by simp [flatV, flatL, ctC, ndC, cmC]) (by simp [ren, ctC, ndC, cmC]) ?_; simp only [w1, w2, w3, w4, push_cast, simprocAttr]) | (refine rcd_v (hB) ?_; simp only [w1, w2, w3, w4, push_cast, simprocAttr]) | (refine rcd_d (hB) (by simp [flatV, flatL, ctC, ndC, cmC]) (by simp [ren, ctC, ndC, cmC]) ?_; simp only [w1, w2, w3, w4, push_cast, simprocAttr])) | (refine at_done (by kernel_rfl) (by kernel_rfl) (go_on ?_); (try simp only [w1, w2, w3, w4, push_cast, simprocAttr]))
    (try simp only [w1, w2, w3, w4, push_cast, simprocAttr])
    refine at_ret ?_; simp only [Tryz.results22, push_cast, simprocAttr]
    simp [vX, txtM, hv]
end Go.Proofs.YtjhbihooobingaaGreatDoor
/-
  Walks: contents read from texts.
-/
namespace Go.Proofs.YtjhbihooobingaaGreatDoor
open Go Go.RowKit Go.Proofs
theorem mem_allCt {c : Ct} (h : ctV c = true) : c ∈ allCt := by
  obtain ⟨k, v⟩ := c
  simp only [ctV, inR, Bool.or_eq_true, Bool.and_eq_true, decide_eq_true_eq] at h
  unfold allCt
  rcases h with ⟨rfl, rfl | rfl⟩ | ⟨rfl, h1, h2⟩
  · exact List.mem_cons_self
  · exact List.mem_cons_of_mem _ List.mem_cons_self
  · refine List.mem_cons_of_mem _ (List.mem_cons_of_mem _ (List.mem_map.2 ⟨v.toNat, List.mem_range.2 (by omega), ?_⟩))
    simp; omega
theorem allCt_ok : ∀ c ∈ allCt, ctV c = true ∧ parC (txtC c) = some c := by decide +kernel
theorem parC_of {c : Ct} (h : ctV c = true) : parC (txtC c) = some c := (allCt_ok c (mem_allCt h)).2
theorem parC_none {s : Str} (h : ∀ c, ctV c = true → txtC c ≠ s) : parC s = none := by
  unfold parC
  rw [List.find?_eq_none]
  intro c hc
  simpa using h c (allCt_ok c hc).1
theorem txtC_ne {c : Ct} (h : txtC c ≠ []) : ctV c = true := by
  cases hv : ctV c with
  | true => rfl
  | false => simp [txtC, hv] at h
theorem parC_nil : parC [] = none := by decide +kernel
theorem ctV_kv {c : Ct} (h : ctV c = true) : 0 ≤ c.k ∧ c.k ≤ 2 ∧ 0 ≤ c.v ∧ c.v ≤ 99 := by
  simp only [ctV, inR, Bool.or_eq_true, Bool.and_eq_true, decide_eq_true_eq] at h
  omega
def cpR (s : Str) : AV := .tup [.agg (ctC ((parC s).getD ct0)), bA (parC s).isSome]
/-- None of the contents before this one bears the text. -/
def NoC (s : Str) (k v : Nat) : Prop := ∀ c : Ct, ctV c = true → (c.k < k ∨ (c.k = k ∧ c.v < v)) → txtC c ≠ s
attribute [local irreducible] RWp AW run kPe pe Kt effA gd gu br retR RDp runD kPeD brW gW effD
set_option maxRecDepth 100000
theorem ContentParse_pc (s : Str) : PC Tryz.prog 97 [sA s] (vX (cpR s)) := by
  refine pc_enter Tryz.func97 rfl rfl fun w0 fb => go_on ?_; (try simp only [Tryz.ntmps97, push_cast, simprocAttr])
  refine at_loop (X := Nat) (fun k => [(4, iA k)]) (fun _ => [(2, ⟨34, 2, [[iA 0, iA 0]], true⟩)]) (fun k => k ≤ 3 ∧ NoC s k 0) (fun k => 3 - k) 0 ⟨by omega, fun c hc h => by have := ctV_kv hc; omega⟩ ?_ ?_
  · (refine wk_ok ?_ ?_ ?_ ?_ <;> simp [leL, leH, idsL, idsA, idsR, inH, hget, sameRow, upA, hvA, dsts, dstO, setA_0, setA_1, setA_8, List.append, List.cons_append, List.nil_append])
  · rintro k ⟨q1, q2⟩
    simp only [upA, hvA, dsts, dstO, setA_0, setA_1, setA_8, List.append, List.cons_append, List.nil_append]
    refine go_on ?_
    (try simp only [push_cast, simprocAttr])
    refine at_b (fun hg => ?_) (fun hg => ?_)
    · have hk := of_leI_t hg
      (try simp only [hg, push_cast, simprocAttr])
      refine at_loop (X := Nat) (fun v => [(5, iA v)]) (fun _ => [(2, ⟨34, 2, [[iA 0, iA 0]], true⟩)]) (fun v => v ≤ 100 ∧ NoC s k v) (fun v => 100 - v) 0 ⟨by omega, q2⟩ ?_ ?_
      · (refine wk_ok ?_ ?_ ?_ ?_ <;> simp [leL, leH, idsL, idsA, idsR, inH, hget, sameRow, upA, hvA, dsts, dstO, setA_0, setA_1, setA_8, List.append, List.cons_append, List.nil_append])
      · rintro v ⟨p1, p2⟩
        simp only [upA, hvA, dsts, dstO, setA_0, setA_1, setA_8, List.append, List.cons_append, List.nil_append]
        refine go_on ?_
        (try simp only [push_cast, simprocAttr])
        have w1 := wr ((k : Int) + 1) (by omega)
        have w2 := wr ((v : Int) + 1) (by omega)
        have hT := ContentText_pc ⟨k, v⟩
        unfold ctA ctC at hT
        refine at_b (fun hv => ?_) (fun hv => ?_)
        · have hv' := of_leI_t hv
          have next : txtC ⟨k, v⟩ ≠ s ∨ s = [] → NoC s k (v + 1) := fun hne c hc h => by
            by_cases h1 : c.k < k ∨ (c.k = k ∧ c.v < v)
            · exact p2 c hc h1
            · have e : c = ⟨k, v⟩ := by
                obtain ⟨ck, cv⟩ := c
                simp only at h h1
                congr 1 <;> omega
              rcases hne with hne | hne
              · rw [e]; exact hne
              · intro e2
                have := parC_of hc
                rw [e2, hne, parC_nil] at this
                cases this
          (try simp only [hv, push_cast, simprocAttr])
          by_cases hs : s = []
          · have e0 : decide (s = []) = true := by simpa using hs
            (try simp only [e0, Bool.not_true, w2, push_cast, simprocAttr])
            refine at_fin ⟨v + 1, ⟨by omega, next (.inr hs)⟩, by omega, ?_⟩
            (refine wk_ok ?_ ?_ ?_ ?_ <;> simp [leL, leH, idsL, idsA, idsR, inH, hget, sameRow, upA, hvA, dsts, dstO, setA_0, setA_1, setA_8, List.append, List.cons_append, List.nil_append])
          · have e0 : decide (s = []) = false := by simpa using hs
            (try simp only [e0, Bool.not_false, push_cast, simprocAttr])
            (refine at_call ?_; (try simp only [push_cast, simprocAttr]); refine rwc_v (hT) (go_on ?_); (try simp only [push_cast, simprocAttr]))
            by_cases he : txtC ⟨k, v⟩ = s
            · have e1 : decide (txtC ⟨k, v⟩ = s) = true := by simpa using he
              (try simp only [e1, push_cast, simprocAttr])
              refine at_ret ?_; simp only [Tryz.results97, push_cast, simprocAttr]
              have hc := txtC_ne (c := ⟨k, v⟩) (by rw [he]; exact hs)
              have := parC_of hc
              rw [he] at this
              simp [vX, cpR, this, ctC]
            · have e1 : decide (txtC ⟨k, v⟩ = s) = false := by simpa using he
              (try simp only [e1, w2, push_cast, simprocAttr])
              refine at_fin ⟨v + 1, ⟨by omega, next (.inl he)⟩, by omega, ?_⟩
              (refine wk_ok ?_ ?_ ?_ ?_ <;> simp [leL, leH, idsL, idsA, idsR, inH, hget, sameRow, upA, hvA, dsts, dstO, setA_0, setA_1, setA_8, List.append, List.cons_append, List.nil_append])
        · have hv' := of_leI_f hv
          (try simp only [hv, w1, push_cast, simprocAttr])
          refine at_fin ⟨k + 1, ⟨by omega, fun c hc h => ?_⟩, by omega, ?_⟩
          · have := ctV_kv hc
            exact p2 c hc (by omega)
          · (refine wk_ok ?_ ?_ ?_ ?_ <;> simp [leL, leH, idsL, idsA, idsR, inH, hget, sameRow, upA, hvA, dsts, dstO, setA_0, setA_1, setA_8, List.append, List.cons_append, List.nil_append])
    · have hk := of_leI_f hg
      (try simp only [hg, push_cast, simprocAttr])
      refine at_ret ?_; simp only [Tryz.results97, push_cast, simprocAttr]
      have : parC s = none := parC_none fun c hc => q2 c hc (by have := ctV_kv hc; omega)
      simp [vX, cpR, this, ctC, ct0]
end Go.Proofs.YtjhbihooobingaaGreatDoor
/-
  Walks: texts cut at a byte; spec.ContentParse.
-/
namespace Go.Proofs.YtjhbihooobingaaGreatDoor
open Go Go.RowKit Go.Proofs
attribute [local irreducible] RWp AW run kPe pe Kt effA gd gu br retR RDp runD kPeD brW gW effD
set_option maxRecDepth 100000
theorem parC_0 : parC [45] = some ct0 := by decide +kernel
theorem parC_1 : parC [100] = some ⟨1, 0⟩ := by decide +kernel
theorem specContentParse_pc (s : Str) : PC Tryz.prog 136 [sA s] (vX (cpR s)) := by
  refine pc_enter Tryz.func136 rfl rfl fun w0 fb => go_on ?_; (try simp only [Tryz.ntmps136, push_cast, simprocAttr])
  by_cases h0 : s = [45]
  · have e0 : decide (s = [45]) = true := by simpa using h0
    (try simp only [e0, push_cast, simprocAttr])
    refine at_ret ?_; simp only [Tryz.results136, push_cast, simprocAttr]
    simp [vX, cpR, h0, parC_0, ctC, ct0]
  have e0 : decide (s = [45]) = false := by simpa using h0
  by_cases h1 : s = [100]
  · have e1 : decide (s = [100]) = true := by simpa using h1
    (try simp only [e0, e1, push_cast, simprocAttr])
    refine at_ret ?_; simp only [Tryz.results136, push_cast, simprocAttr]
    simp [vX, cpR, h1, parC_1, ctC]
  have e1 : decide (s = [100]) = false := by simpa using h1
  (try simp only [e0, e1, push_cast, simprocAttr])
  refine at_loop (X := Nat) (fun v => [(4, iA v)]) (fun _ => [(2, ⟨34, 2, [[iA 0, iA 0]], true⟩)]) (fun v => v ≤ 100 ∧ NoC s 2 v) (fun v => 100 - v) 0 ⟨by omega, fun c hc h => ?_⟩ ?_ ?_
  · have hkv := ctV_kv hc
    obtain ⟨k, v⟩ := c
    simp only [ctV, inR, Bool.or_eq_true, Bool.and_eq_true, decide_eq_true_eq] at hc
    simp only at h hkv
    have hv : v = 0 := by omega
    have hk : k = 0 ∨ k = 1 := by omega
    subst hv
    rcases hk with rfl | rfl
    · rw [show txtC ⟨0, 0⟩ = [45] by decide +kernel]; exact Ne.symm h0
    · rw [show txtC ⟨1, 0⟩ = [100] by decide +kernel]; exact Ne.symm h1
  · (refine wk_ok ?_ ?_ ?_ ?_ <;> simp [leL, leH, idsL, idsA, idsR, inH, hget, sameRow, upA, hvA, dsts, dstO, setA_0, setA_1, setA_8, List.append, List.cons_append, List.nil_append])
  · rintro v ⟨p1, p2⟩
    simp only [upA, hvA, dsts, dstO, setA_0, setA_1, setA_8, List.append, List.cons_append, List.nil_append]
    refine go_on ?_
    (try simp only [push_cast, simprocAttr])
    have w2 := wr ((v : Int) + 1) (by omega)
    have hT := specContentText_pc ⟨2, v⟩
    unfold ctA ctC at hT
    refine at_b (fun hv => ?_) (fun hv => ?_)
    · have hv' := of_leI_t hv
      (try simp only [hv, push_cast, simprocAttr])
      (refine at_call ?_; (try simp only [push_cast, simprocAttr]); refine rwc_v (hT) (go_on ?_); (try simp only [push_cast, simprocAttr]))
      by_cases he : txtC ⟨2, v⟩ = s
      · have e2 : decide (txtC ⟨2, v⟩ = s) = true := by simpa using he
        (try simp only [e2, push_cast, simprocAttr])
        refine at_ret ?_; simp only [Tryz.results136, push_cast, simprocAttr]
        have hc : ctV ⟨2, (v : Int)⟩ = true := by simp [ctV, inR]; omega
        have := parC_of hc
        rw [he] at this
        simp [vX, cpR, this, ctC]
      · have e2 : decide (txtC ⟨2, v⟩ = s) = false := by simpa using he
        (try simp only [e2, w2, push_cast, simprocAttr])
        refine at_fin ⟨v + 1, ⟨by omega, fun c hc h => ?_⟩, by omega, ?_⟩
        · by_cases h1 : c.k < 2 ∨ (c.k = 2 ∧ c.v < v)
          · exact p2 c hc h1
          · have e : c = ⟨2, v⟩ := by
              obtain ⟨ck, cv⟩ := c
              simp only at h h1
              congr 1 <;> omega
            rw [e]; exact he
        · (refine wk_ok ?_ ?_ ?_ ?_ <;> simp [leL, leH, idsL, idsA, idsR, inH, hget, sameRow, upA, hvA, dsts, dstO, setA_0, setA_1, setA_8, List.append, List.cons_append, List.nil_append])
    · have hv' := of_leI_f hv
      (try simp only [hv, push_cast, simprocAttr])
      refine at_ret ?_; simp only [Tryz.results136, push_cast, simprocAttr]
      have : parC s = none := parC_none fun c hc => p2 c hc (by have := ctV_kv hc; omega)
      simp [vX, cpR, this, ctC, ct0]
theorem genSplitB_pc (b : UInt8) (s : Str) (hs : s.length < 4294967281) : PC Tryz.prog 39 [sA s, sA [b], iA 0, iA (-1)] (rX (.o 0 (cutB b s).length) [⟨9, 1, (cutB b s).map sC, true⟩]) := by
  have hsz : (⟨s.toArray⟩ : ByteArray).size = s.length := size_l s
  have hC : ∀ w, Calls Tryz.prog 63 #[.string ⟨s.toArray⟩, .string ⟨#[b]⟩] w fun e w' => e = .returned (.int .i64 (Lib.countB ⟨s.toArray⟩ ⟨#[b]⟩)) ∧ w' = w := by
    intro w
    refine (Any.strings_Count_one Tryz.lays138 ⟨s.toArray⟩ b w).mono fun e w' h => ⟨?_, h.2⟩
    rw [h.1]
    show _ = Ending.returned (Value.int .i64 ((Lib.count s [b] : Nat) : Int))
    rw [Lib.count_one]
    rfl
  have hI : ∀ (x : ByteArray) w, Calls Tryz.prog 64 #[.string x, .string ⟨#[b]⟩] w fun e w' => e = .returned (.int .i64 (Lib.indexB x ⟨#[b]⟩)) ∧ w' = w := by
    intro x w
    refine (Any.strings_Index_one Tryz.lays143 x b w).mono fun e w' h => ⟨?_, h.2⟩
    rw [h.1]
    show _ = Ending.returned (Value.int .i64 (Lib.index x.data.toList [b]))
    rw [Lib.index_one]
  have hcnt : Lib.countB ⟨s.toArray⟩ ⟨#[b]⟩ = s.count b := Lib.count_one b s
  have hle : s.count b ≤ s.length := List.count_le_length
  have hcut := cutB_len b s
  have hG := fun w => Any.strings_genSplit_core Tryz.lays221 (by kernel_rfl) ⟨s.toArray⟩ ⟨#[b]⟩ 0 (-1) (s.count b + 1) w (by rw [hsz]; exact hs) (Nat.le_refl 1) (Nat.zero_le _) (fun x c _ => hI x _) (hC w) (by decide) (by decide) (by rw [if_pos (by decide), hcnt, hsz]; omega)
  rw [Nat.add_sub_cancel] at hG
  obtain ⟨L, hL⟩ : ∃ L, Lib.splitB ⟨#[b]⟩ 0 (s.count b) ⟨s.toArray⟩ = L := ⟨_, rfl⟩
  have hd : L.map (·.data.toList) = cutB b s := by rw [← hL, Lib.splitB_data]; exact splitK_cutB b s
  have hlen : L.length = (cutB b s).length := by rw [← hd, List.length_map]
  rw [hL] at hG
  have hle2 : L.length ≤ s.count b + 1 := by rw [← hL]; exact Lib.splitB_length_le _ _ _ _
  have := pc_new (P := Tryz.prog) (f := 39) (argv := [.string ⟨s.toArray⟩, .string ⟨#[b]⟩, .int .i64 0, .int .i64 (-1)]) (vals := L.map Value.string) (E := 9) (c := s.count b + 1) (cs := Lib.cellsOf L (s.count b + 1)) (enters_of Tryz.func39 (by kernel_rfl) rfl)
    (fun w => by rw [List.length_map]; exact hG w) (by simpa using hle2) (by unfold maxLen; omega) (Lib.cellsOf_size hle2) ?_
  · have e : (L.map Value.string).map (fun v => [AV.v v]) = (cutB b s).map sC := by rw [← hd]; simp [sC]
    rw [e, List.length_map, hlen] at this
    exact this
  · intro k v hv
    have hk := lt_of_some hv
    refine ⟨?_, ?_⟩
    · unfold Lib.cellsOf
      rw [List.getElem?_toArray, List.getElem?_append_left hk]
      exact hv
    · rw [List.getElem?_map] at hv
      obtain ⟨x, _, rfl⟩ := Option.map_eq_some_iff.1 hv
      rfl
theorem splitB_pc (b : UInt8) (s : Str) (hs : s.length < 4294967281) : PC Tryz.prog 24 [sA s, sA [b]] (rX (.o 0 (cutB b s).length) [⟨9, 1, (cutB b s).map sC, true⟩]) := by
  refine pc_enter Tryz.func24 rfl rfl fun w0 fb => go_on ?_; (try simp only [Tryz.ntmps24, push_cast, simprocAttr])
  (refine at_call ?_; (try simp only [push_cast, simprocAttr]); refine rwc_r (genSplitB_pc b s hs) rfl (flat_s _) (by simp [frB, baseOf]) (go_on ?_); (try simp only [push_cast, simprocAttr]))
  refine at_ret ?_; simp only [Tryz.results24, push_cast, simprocAttr]
  simp [rX]
/-- The pieces, as data. -/
theorem splitBF_pc (b : UInt8) (s : Str) (hs : s.length < 4294967281) : PC Tryz.prog 24 [sA s, sA [b]] (vX (strsA (cutB b s))) := by
  refine (splitB_pc b s hs).frz ?_
  rintro rv rows ⟨rfl, rfl⟩
  refine ⟨?_, rfl⟩
  simp [viewN, hpOf, hget, tk]
theorem l11Words_pc (s : Str) (hs : s.length < 4294967281) : PC Tryz.prog 135 [sA s] (rX (.o 0 (cutB 32 s).length) [⟨9, 1, (cutB 32 s).map sC, true⟩]) := by
  refine pc_enter Tryz.func135 rfl rfl fun w0 fb => go_on ?_; (try simp only [Tryz.ntmps135, push_cast, simprocAttr])
  refine at_loop (X := List Str × Nat × Nat) (fun x => [(3, .o 6 x.1.length), (4, iA x.2.1), (5, iA x.2.2), (6, .any)]) (fun x => [(2, ⟨9, 1, [], true⟩), (6, ⟨9, 1, x.1.map sC, true⟩)])
    (fun x => x.2.1 ≤ x.2.2 ∧ x.2.2 ≤ s.length ∧ x.1.length ≤ x.2.2 ∧ x.1 ++ cutC 32 ((s.take x.2.2).drop x.2.1) (s.drop x.2.2) = cutB 32 s) (fun x => s.length - x.2.2) ([], 0, 0) ⟨by simp, by simp, by simp, ?_⟩ ?_ ?_
  · simp [cutC_nil]
  · (refine wk_ok ?_ ?_ ?_ ?_ <;> simp [leL, leH, idsL, idsA, idsR, inH, hget, sameRow, upA, hvA, dsts, dstO, setA_0, setA_1, setA_8, List.append, List.cons_append, List.nil_append])
  · rintro ⟨out, from_, i⟩ ⟨h2, h3, h4, h5⟩
    simp only at h2 h3 h4 h5
    simp only [upA, hvA, dsts, dstO, setA_0, setA_1, setA_8, List.append, List.cons_append, List.nil_append]
    refine go_on ?_
    (try simp only [push_cast, simprocAttr])
    refine at_b (fun hb => ?_) (fun hb => ?_)
    · have hlt : i < s.length := by simp [ltI] at hb; omega
      obtain ⟨a, hx⟩ := get_of_lt hlt
      have hd : s.drop i = a :: s.drop (i + 1) := drop_of_get hx
      (try simp only [hb, hx, push_cast, simprocAttr])
      refine at_b (fun hc => ?_) (fun hc => ?_)
      · have hfi : (from_ : Int) ≤ i := by omega
        have hil : (i : Int) ≤ s.length := by omega
        (try simp only [hc, hfi, hil, push_cast, simprocAttr])
        refine at_chk (by omega) ?_
        have w1 := wr ((i : Int) + 1) (by omega)
        (try simp only [w1, push_cast, simprocAttr])
        have ha := u8_tt 32 rfl hc
        refine at_fin ⟨(out ++ [(s.take i).drop from_], i + 1, i + 1), ⟨by dsimp only; omega, by dsimp only; omega, by simp; omega, ?_⟩, by dsimp only; omega, ?_⟩
        · dsimp only
          rw [← h5, hd, ha]
          simp [cutC]
        · (refine wk_ok ?_ ?_ ?_ ?_ <;> simp [sC, leL, leH, idsL, idsA, idsR, inH, hget, sameRow, upA, hvA, dsts, dstO, setA_0, setA_1, setA_8, List.append, List.cons_append, List.nil_append])
      · have w1 := wr ((i : Int) + 1) (by omega)
        (try simp only [hc, w1, push_cast, simprocAttr])
        have ha := u8_ff 32 rfl hc
        refine at_fin ⟨(out, from_, i + 1), ⟨by dsimp only; omega, by dsimp only; omega, by simp; omega, ?_⟩, by dsimp only; omega, ?_⟩
        · dsimp only
          rw [← h5, hd]
          simp only [cutC, ha, if_false]
          rw [take_drop_succ h2 hx]
        · (refine wk_ok ?_ ?_ ?_ ?_ <;> simp [leL, leH, idsL, idsA, idsR, inH, hget, sameRow, upA, hvA, dsts, dstO, setA_0, setA_1, setA_8, List.append, List.cons_append, List.nil_append])
    · have hi : i = s.length := by simp [ltI] at hb; omega
      subst hi
      have hfi : (from_ : Int) ≤ s.length := by omega
      (try simp only [hb, hfi, push_cast, simprocAttr])
      refine at_chk (by omega) ?_
      (try simp only [push_cast, simprocAttr])
      refine at_ret ?_; simp only [Tryz.results135, push_cast, simprocAttr]
      rw [← h5]
      simp [cutC, rX, sC, ixOf]
theorem l11Words_d (s : Str) (hs : s.length < 4294967281) : PC Tryz.prog 135 [sA s] (vX (strsA (cutB 32 s))) := by
  refine (l11Words_pc s hs).frz ?_
  rintro rv rows ⟨rfl, rfl⟩
  refine ⟨?_, rfl⟩
  simp [viewN, hpOf, hget, tk]
end Go.Proofs.YtjhbihooobingaaGreatDoor
