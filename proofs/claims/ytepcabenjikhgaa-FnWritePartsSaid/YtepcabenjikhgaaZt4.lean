/- A part of the proof of the session laws: texts N4 N5 N6 N7 J2 N8 N9 N10 N11 N12 M31 M32 M34 M35 N13 N14 N15 M36 M45 N16 N17 N18. -/
import Derived.Test.YtepcabenjikhgaaZt3
import Derived.Test.YtepcabenjikhgaaZt1
set_option linter.unusedSimpArgs false
set_option linter.unusedVariables false
/-
  Walks: disks: the place of a file; copies; DiskRead.
-/
namespace Go.Proofs.Ytepcabenjikhgaa
open Go Go.RowKit Go.Proofs
theorem flat_z2 {E : TypeId} {sz : Nat} {cl : Bool} (a b : List Int) : FlatR [⟨E, sz, a.map inC, cl⟩, ⟨E, sz, b.map inC, cl⟩] := by
  intro row hr e he x hx
  simp only [List.mem_cons, List.not_mem_nil, or_false] at hr
  rcases hr with rfl | rfl
  · exact flat_i (E := E) (sz := sz) (cl := cl) a _ (by simp) e he x hx
  · exact flat_i (E := E) (sz := sz) (cl := cl) b _ (by simp) e he x hx
attribute [local irreducible] RWp AW run kPe pe Kt effA gd gu br retR RDp runD kPeD brW gW effD
set_option maxRecDepth 100000
theorem IndexFuncB_pc (l : List BD) (hl : l.length < 4294967281) (g : FuncId) (caps : List AV) (hc : caps.all isC = true) (p : BD → Bool) (hp : ∀ n ∈ l, PC Try.prog g (blobA n :: caps) (vB (p n))) :
    PC Try.prog 61 [blsA l, .fn g caps] (vI (idxF p 0 l)) := by
  refine pc_enter Try.func61 rfl rfl fun w0 fb => go_on ?_; (try simp only [Try.ntmps61, push_cast, simprocAttr])
  refine at_loop (X := Nat) (fun k => [(8, iA k)]) (fun _ => []) (fun k => k ≤ l.length ∧ idxF p 0 l = idxF p k (l.drop k)) (fun k => l.length - k) 0 ⟨Nat.zero_le _, rfl⟩ ?_ ?_
  · (refine wk_ok ?_ ?_ ?_ ?_ <;> simp [closed_ids hc, leL, leH, idsL, idsA, idsR, inH, hget, sameRow, upA, hvA, dsts, dstO, setA_0, setA_1, setA_8, List.append, List.cons_append, List.nil_append])
  · rintro k ⟨h1, h2⟩
    simp only [upA, hvA, dsts, dstO, setA_0, setA_1, setA_8, List.append, List.cons_append, List.nil_append]
    refine go_on ?_
    (try simp only [push_cast, simprocAttr])
    refine at_b (fun hg => ?_) (fun hg => ?_)
    · have hlt := lt_tt hg
      obtain ⟨x, hk⟩ := get_of_lt hlt
      have i1 := ix_n hk
      have i2 := map_get bC hk
      simp only [bC] at i2
      rw [drop_of_get hk] at h2
      have hx := hp x (mem_of_get hk)
      unfold blobA bC at hx
      (try simp only [hg, i1, i2, push_cast, simprocAttr])
      refine at_call ?_
      simp only [List.map_cons, closed_view hc]
      (try simp only [push_cast, simprocAttr])
      refine rwc_v hx (go_on ?_)
      (try simp only [push_cast, simprocAttr])
      refine at_b (fun hn => ?_) (fun hn => ?_)
      · (try simp only [hn, push_cast, simprocAttr])
        refine at_ret ?_; simp only [Try.results61, push_cast, simprocAttr]
        simp [vX, h2, idxF, hn]
      · have w1 := wr ((k : Int) + 1) (by omega)
        (try simp only [hn, w1, push_cast, simprocAttr])
        refine at_fin ⟨k + 1, ⟨by omega, ?_⟩, by omega, ?_⟩
        · rw [h2]; simp [idxF, hn]
        · (refine wk_ok ?_ ?_ ?_ ?_ <;> simp [closed_ids hc, leL, leH, idsL, idsA, idsR, inH, hget, sameRow, upA, hvA, dsts, dstO, setA_0, setA_1, setA_8, List.append, List.cons_append, List.nil_append])
    · have h3 := lt_ff hg
      (try simp only [hg, push_cast, simprocAttr])
      refine at_ret ?_; simp only [Try.results61, push_cast, simprocAttr]
      rw [List.drop_of_length_le h3] at h2
      simp [vX, h2, idxF]
theorem file1_pc (d : BD) (nm : Int) : PC Try.prog 62 [blobA d, .ip [iA nm]] (vB (eqI d.name nm)) := by
  unfold blobA bC
  refine pc_enter Try.func62 rfl rfl fun w0 fb => go_on ?_; (try simp only [Try.ntmps62, push_cast, simprocAttr])
  refine at_ret ?_; simp only [Try.results62, push_cast, simprocAttr]
  simp [vX]
abbrev ixB (bs : List BD) (nm : Int) : Int := idxF (fun d => decide (d.name = nm)) 0 bs
theorem file_pc (bs : List BD) (hl : bs.length < 4294967281) (nm : Int) : PC Try.prog 47 [blsA bs, iA nm] (vI (ixB bs nm)) := by
  refine pc_enter Try.func47 rfl rfl fun w0 fb => go_on ?_; (try simp only [Try.ntmps47, push_cast, simprocAttr])
  (refine at_call ?_; (try simp only [push_cast, simprocAttr]); refine rwc_v (IndexFuncB_pc bs hl 62 [.ip [iA nm]] rfl (fun d => decide (d.name = nm)) (fun d _ => by rw [← eqI_d]; exact file1_pc d nm)) (go_on ?_); (try simp only [push_cast, simprocAttr]))
  refine at_ret ?_; simp only [Try.results47, push_cast, simprocAttr]
  simp [vX]
theorem ixB_cases (bs : List BD) (nm : Int) : (ixB bs nm = -1 ∧ getB bs nm = none) ∨ ∃ (j : Nat) (d : BD), ixB bs nm = (j : Int) ∧ bs[j]? = some d ∧ getB bs nm = some d := by
  rcases idxF_spec (fun d : BD => decide (d.name = nm)) bs 0 with ⟨h1, h2⟩ | ⟨j, d, h1, h2, h3⟩
  · exact .inl ⟨h1, h2⟩
  · exact .inr ⟨j, d, by rw [Nat.zero_add] at h1; exact h1, h2, h3⟩
theorem blobClone_pc (d : BD) (h : SmD d) : PC Try.prog 56 [blobA d] (rX (.agg [iA d.name, .o 0 d.safe.length, .o 1 d.fresh.length]) [rowZ d.safe, rowZ d.fresh]) := by
  unfold blobA bC
  refine pc_enter Try.func56 rfl rfl fun w0 fb => go_on ?_; (try simp only [Try.ntmps56, push_cast, simprocAttr])
  refine at_draw rfl (by kernel_rfl) ?_; simp only [push_cast, simprocAttr]
  (refine at_callD (by simp [clB, idsL, idsA, hget]) ?_; (try simp only [push_cast, simprocAttr]); refine rcd_r (cloneInts_pc d.safe h.s) (by simp [flatV, flatL]) (flat_i _) (by simp [frB, baseOf]) ?_; (try simp only [push_cast, simprocAttr]))
  (refine at_callD (by simp [clB, idsL, idsA, hget]) ?_; (try simp only [push_cast, simprocAttr]); refine rcd_r (cloneInts_pc d.fresh h.f) (by simp [flatV, flatL]) (flat_i _) (by simp [frB, baseOf]) ?_; (try simp only [push_cast, simprocAttr]))
  refine at_done (by kernel_rfl) (by kernel_rfl) (go_on ?_)
  (try simp only [push_cast, simprocAttr])
  refine at_ret ?_; simp only [Try.results56, push_cast, simprocAttr]
  simp [rX, ixOf]
theorem blobClone_d (d : BD) (h : SmD d) : PC Try.prog 56 [blobA d] (vX (blobA d)) := by
  have := (blobClone_pc d h).frzX
  unfold blobA bC at *
  simpa [viewN, hpOf, hget, isC, tk] using this
theorem cloneDisk_pc (bs : List BD) (hs : SmB bs) : PC Try.prog 40 [blsA bs] (rX (.o 0 bs.length) [rowB bs]) := by
  have hn := hs.n
  refine pc_enter Try.func40 rfl rfl fun w0 fb => go_on ?_; (try simp only [Try.ntmps40, push_cast, simprocAttr])
  refine at_loop (X := Nat) (fun k => [(3, .o 3 k), (8, iA k)]) (fun k => [(2, ⟨55, 3, [], true⟩), (3, rowB (bs.take k))]) (fun k => k ≤ bs.length) (fun k => bs.length - k) 0 (Nat.zero_le _) ?_ ?_
  · (refine wk_ok ?_ ?_ ?_ ?_ <;> simp [leL, leH, idsL, idsA, idsR, inH, hget, sameRow, upA, hvA, dsts, dstO, setA_0, setA_1, setA_8, List.append, List.cons_append, List.nil_append])
  · intro k hk
    simp only [upA, hvA, dsts, dstO, setA_0, setA_1, setA_8, List.append, List.cons_append, List.nil_append]
    refine go_on ?_
    (try simp only [List.length_map, push_cast, simprocAttr])
    refine at_b (fun hg => ?_) (fun hg => ?_)
    · have hlt := lt_tt hg
      obtain ⟨x, hx⟩ := get_of_lt hlt
      have i1 := ix_n hx
      have i2 := map_get bC hx
      have hC := blobClone_d x (hs.d x (mem_of_get hx))
      unfold blobA at hC
      simp only [bC] at i2 hC
      have e : bs.take (k + 1) = bs.take k ++ [x] := by rw [List.take_add_one, hx]; rfl
      have el : (bs.take k).length = k := by rw [List.length_take]; omega
      have w1 := wr ((k : Int) + 1) (by omega)
      (try simp only [hg, i1, i2, push_cast, simprocAttr])
      ((try simp only [push_cast, simprocAttr]); refine at_share2 (by simp [isC2, isC]) (by first | rfl | simp [ren]) (hC) (go_on ?_); (try simp only [push_cast, simprocAttr]))
      refine at_chk (by omega) ?_
      (try simp only [w1, push_cast, simprocAttr])
      refine at_fin ⟨k + 1, by omega, by omega, ?_⟩
      rw [e]
      (refine wk_ok ?_ ?_ ?_ ?_ <;> simp [bC, el, List.take_take, leL, leH, idsL, idsA, idsR, inH, hget, sameRow, upA, hvA, dsts, dstO, setA_0, setA_1, setA_8, List.append, List.cons_append, List.nil_append])
    · have h3 := lt_ff hg
      have hk' : k = bs.length := by omega
      subst hk'
      (try simp only [hg, push_cast, simprocAttr])
      refine at_ret ?_; simp only [Try.results40, push_cast, simprocAttr]
      simp [rX, ixOf]
theorem cloneDisk_d (bs : List BD) (hs : SmB bs) : PC Try.prog 40 [blsA bs] (vX (blsA bs)) := by
  have := (cloneDisk_pc bs hs).frzX
  simpa [viewN, hpOf, hget, isC, tk] using this
theorem DiskRead_pc (bs : List BD) (hs : SmB bs) (nm : Int) : PC Try.prog 30 [blsA bs, iA nm] (rX (.tup [.o 0 (readD bs nm).1.length, bA (readD bs nm).2]) [rowZ (readD bs nm).1]) := by
  have hV := DiskValid_pc bs hs
  have hF := file_pc bs hs.n nm
  have hn := hs.n
  refine pc_enter Try.func30 rfl rfl fun w0 fb => go_on ?_; (try simp only [Try.ntmps30, push_cast, simprocAttr])
  (refine at_call ?_; (try simp only [push_cast, simprocAttr]); refine rwc_v (hF) (go_on ?_); (try simp only [push_cast, simprocAttr]))
  refine at_call ?_
  (try simp only [push_cast, simprocAttr])
  refine rwc_v hV ?_
  (try simp only [push_cast, simprocAttr])
  (refine at_dropS [4] (by refine wk_ok ?_ ?_ ?_ ?_ <;> simp [dropS, dropT, hasN, delL, hdel, leL, leH, idsL, idsA, idsR, inH, hget, sameRow]) ?_; simp only [dropS, dropT, hasN, delL, hdel, idsA, idsL, hget, List.map_cons, List.map_nil, List.all_cons, List.all_nil, List.append_nil, Bool.not_false, Bool.not_true, Bool.and_true, if_true, if_false, simprocAttr])
  refine go_on ?_
  (try simp only [push_cast, simprocAttr])
  cases hv : diskB bs with
  | false =>
    (try simp only [hv, Bool.not_false, push_cast, simprocAttr])
    refine at_ret ?_; simp only [Try.results30, push_cast, simprocAttr]
    simp [rX, ixOf, readD, hv]
  | true =>
    (try simp only [hv, Bool.not_true, push_cast, simprocAttr])
    rcases ixB_cases bs nm with ⟨h1, h2⟩ | ⟨j, d, h1, h2, h3⟩
    · (try simp only [h1, show ltI (-1) 0 = true from rfl, push_cast, simprocAttr])
      refine at_ret ?_; simp only [Try.results30, push_cast, simprocAttr]
      simp [rX, ixOf, readD_v hv, h2]
    · have i1 := ix_n h2
      have i2 := map_get bC h2
      simp only [bC] at i2
      have hjl := lt_of_some h2
      have i3 : ltI (j : Int) 0 = false := ltI_f (by omega)
      obtain ⟨hds, hdf⟩ := hs.d d (mem_of_get h2)
      have hok := disk_okF hv (mem_of_get h2)
      have h400 : d.safe.length + d.fresh.length ≤ 400 := by simp only [okF, Bool.and_eq_true, decide_eq_true_eq] at hok; exact hok.2
      have hC := Concat_pc [d.safe, d.fresh] (by simp) (by simp; omega)
      simp only [List.map_cons, List.map_nil, szC, List.flatten_cons, List.flatten_nil, List.append_nil] at hC
      have hr : readD bs nm = (d.safe ++ d.fresh, true) := by rw [readD_v hv, h3]
      rw [hr]
      (try simp only [h1, i3, push_cast, simprocAttr])
      refine at_draw rfl (by kernel_rfl) ?_; simp only [push_cast, simprocAttr]
      (try simp only [i1, i2, push_cast, simprocAttr])
      (refine at_callD (by simp [clB, idsL, idsA, hget]) ?_; (try simp only [push_cast, simprocAttr]); refine rcd_r hC (by simp [flatV, flatL]) (flat_i _) (by simp [frB, baseOf]) ?_; (try simp only [push_cast, simprocAttr]))
      refine at_done (by kernel_rfl) (by kernel_rfl) (go_on ?_)
      (try simp only [push_cast, simprocAttr])
      refine at_ret ?_; simp only [Try.results30, push_cast, simprocAttr]
      simp [rX, ixOf]
theorem DiskRead_d (bs : List BD) (hs : SmB bs) (nm : Int) : PC Try.prog 30 [blsA bs, iA nm] (vX (.tup [intsA (readD bs nm).1, bA (readD bs nm).2])) := by
  have := (DiskRead_pc bs hs nm).frzX
  simpa [viewN, hpOf, hget, isC, tk] using this
end Go.Proofs.Ytepcabenjikhgaa
/-
  Walks: slices.SortFunc at files: the order.
-/
namespace Go.Proofs.Ytepcabenjikhgaa
open Go Go.RowKit Go.Proofs
open Go.Sort (grow SWO PermIn SortedIn)
/-- A file and the values of its two lists. -/
def BV : Type := {x : BD × Value × Value // (0 ≤ x.1.name ∧ x.1.name ≤ 3) ∧ x.2.1.oneCell' = true ∧ x.2.2.oneCell' = true}
instance : Inhabited BV := ⟨⟨(⟨0, [], []⟩, .bool false, .bool false), ⟨by decide, by decide⟩, rfl, rfl⟩⟩
def encV (x : BV) : List Value := [.int .i64 x.1.1.name, x.1.2.1, x.1.2.2]
def cfB (x y : BV) : Int := x.1.1.name - y.1.1.name
theorem ltOf_cfB (x y : BV) : ltOf cfB x y = decide (x.1.1.name < y.1.1.name) := by
  unfold ltOf cfB
  rw [Bool.eq_iff_iff]
  simp only [decide_eq_true_eq]
  omega
theorem swoB : SWO (ltOf cfB) where
  irrefl x := by rw [ltOf_cfB]; simp
  trans x y z h1 h2 := by simp only [ltOf_cfB, decide_eq_true_eq] at *; omega
  ntrans x y z h1 h2 := by simp only [ltOf_cfB, decide_eq_false_iff_not] at *; omega
set_option maxRecDepth 100000
set_option maxHeartbeats 1000000
theorem sorted1_c (x y : BV) (W : World) : Calls Try.prog 67 #[.agg #[.int .i64 x.1.1.name, x.1.2.1, x.1.2.2], .agg #[.int .i64 y.1.1.name, y.1.2.1, y.1.2.2]] W fun e w' =>
    e = .returned (.int .i64 (cfB x y)) ∧ ∃ q os', w' = grow (W.drewN q) os' := by
  obtain ⟨hx, hx1, hx2⟩ := x.2
  obtain ⟨hy, hy1, hy2⟩ := y.2
  have hw : IntKind.i64.wrap (x.1.1.name - y.1.1.name) = x.1.1.name - y.1.1.name := wr _ (by omega)
  unfold cfB
  generalize x.1.1.name = a at *
  generalize y.1.1.name = b at *
  generalize x.1.2.1 = x1 at *
  generalize x.1.2.2 = x2 at *
  generalize y.1.2.1 = y1 at *
  generalize y.1.2.2 = y2 at *
  clear x y hx hy
  go_enter Try.func67, Try.ntmps67
  go_wp2
  all_goals go_ret
  all_goals exact ⟨rfl, 0, _, by simp only [Go.Sort.alloc_eq_grow, Go.Sort.grow_grow]; rfl⟩
theorem lays_b (blk off size : Nat) (w : World) : CmpLays Try.prog 67 #[] encV 3 cfB blk off size w := fun _ _ _ _ x y => sorted1_c x y _
end Go.Proofs.Ytepcabenjikhgaa
/-
  Walks: slices.SortFunc at files: a contract with a lent row.
-/
namespace Go.Proofs.Ytepcabenjikhgaa
open Go Go.RowKit Go.Proofs
open Go.Sort (grow SWO PermIn SortedIn)
theorem chooseL2 {α β : Type} {p : Nat → α → β → Prop} : ∀ (cs : List α) (n : Nat), (∀ (j : Nat) a, cs[j]? = some a → ∃ v, p (n + j) a v) → ∃ vs : List β, vs.length = cs.length ∧ ∀ (j : Nat) a, cs[j]? = some a → ∃ v, vs[j]? = some v ∧ p (n + j) a v
  | [], n, _ => ⟨[], rfl, fun j a h => by simp at h⟩
  | x :: cs, n, h => by
    obtain ⟨v, hv⟩ := h 0 x rfl
    obtain ⟨vs, hl, hvs⟩ := chooseL2 cs (n + 1) (fun j a ha => by have := h (j + 1) a (by simpa using ha); rwa [show n + 1 + j = n + (j + 1) from by omega])
    refine ⟨v :: vs, by simp [hl], fun j a ha => ?_⟩
    cases j with
    | zero => simp at ha; subst ha; exact ⟨v, rfl, hv⟩
    | succ j =>
      obtain ⟨v', h1, h2⟩ := hvs j a (by simpa using ha)
      exact ⟨v', by simpa using h1, by rwa [show n + (j + 1) = n + 1 + j from by omega]⟩
def srtD (l : List BD) (rv : AV) (lr' rows : List Row) : Prop := ∃ l' : List BD, l'.Perm l ∧ l'.Pairwise (fun a b => a.name ≤ b.name) ∧ rv = .tup [] ∧ lr' = [rowB l'] ∧ rows = []
theorem encV_bd (x : BV) (j : Nat) (a : AV) (h : (bC x.1.1)[j]? = some a) : ((encV x)[j]!).oneCell' = true ∧ j < 3 ∧ ((encV x)[j]? = some ((encV x)[j]!)) := by
  rcases j with _ | _ | _ | j
  · exact ⟨rfl, by omega, rfl⟩
  · exact ⟨x.2.2.1, by omega, rfl⟩
  · exact ⟨x.2.2.2, by omega, rfl⟩
  · simp [bC] at h
theorem encV_one (x : BV) (v : Value) (hv : v ∈ encV x) : v.oneCell' = true := by
  simp only [encV, List.mem_cons, List.not_mem_nil, or_false] at hv
  rcases hv with rfl | rfl | rfl
  · rfl
  · exact x.2.2.1
  · exact x.2.2.2
set_option maxRecDepth 100000
set_option maxHeartbeats 1000000
theorem SortB_pcl (l : List BD) (hl : l.length < 4294967281) (hnm : ∀ d ∈ l, 0 ≤ d.name ∧ d.name ≤ 3) : PCL Try.prog 66 [rowB l] (mvF none) [.o 0 l.length, .fn 67 []] (srtD l) := by
  refine ⟨fun vs W => enters_of Try.func66 (by kernel_rfl) rfl vs W, fun w fb loc vs hlw hs hg => ?_⟩
  have h0 := hg 0 _ rfl
  have h1 := hg 1 _ rfl
  obtain ⟨cs, hv1, hcs, _⟩ := h1.fn_inv
  obtain rfl : cs = #[] := Array.eq_empty_of_size_eq_zero hcs
  have hvs : vs = #[vs.getD 0 undef, vs.getD 1 undef] := by
    apply Array.ext
    · simpa using hs
    · intro i h1 h2
      have : i < 2 := by simpa using h2
      rcases i with _ | _ | i
      · simp [Array.getD, h1]
      · simp [Array.getD, h1]
      · omega
  rw [hv1] at hvs
  generalize vs.getD 0 undef = v0 at h0 hvs
  subst hvs
  clear hs hg hv1 h1 hcs
  have hrow : hget (hpOf 0 [rowB l]) 0 = some (rowB l) := rfl
  generalize hL : l.length = L at h0
  cases h0 with
  | cl hc => cases hc
  | @onil _ row hr hl' =>
    obtain rfl : l = [] := List.eq_nil_of_length_eq_zero hL
    have hcon := AnyF.slices_SortFunc_none Try.sortC none 0 (.func (.func 67) #[] #[]) w
    change Calls Try.prog 66 _ _ _ at hcon
    refine hcon.mono ?_
    rintro e w' ⟨rfl, rfl⟩
    refine ⟨.tup [], [rowB []], [], _, loc, ⟨[], List.Perm.refl _, List.Pairwise.nil, rfl, rfl, rfl⟩, rfl, ⟨rfl, rfl, rfl, rfl, Nat.le_refl _, fun _ _ _ => rfl, hlw.fbe, fun _ _ _ => rfl, .tup #[] rfl (fun j a ha => by simp at ha), hlw.rw, hlw.inj, fun r row b c h1 h2 => .inr ⟨r, row, c, h1, h2⟩⟩⟩
  | @o _ _ row b c hr hl' hn =>
    subst hL
    rw [hrow] at hr
    cases hr
    obtain ⟨hlen, hn', hm, cur, hh, hsz, hcells⟩ := (hlw.rw 0 _ hrow).2.open hl'
    simp only [List.length_map] at hn hn'
    -- the files and the values of their lists
    obtain ⟨xs, hxl, hxs⟩ := chooseL2 (p := fun k (d : BD) (x : BV) => x.1.1 = d ∧ (∀ j, j < 3 → cur[k * 3 + j]? = some ((encV x)[j]!)) ∧ C (Live (hpOf 0 [rowB l]) loc) 0 w (intsA d.safe) x.1.2.1 ∧ C (Live (hpOf 0 [rowB l]) loc) 0 w (intsA d.fresh) x.1.2.2) l 0 fun k d hd => by
      rw [Nat.zero_add]
      have he : (rowB l).es[k]? = some (bC d) := by simp [hd]
      obtain ⟨u0, g0, _, g2, _⟩ := hcells k _ 0 _ he rfl
      obtain ⟨u1, g3, g4, _, g5⟩ := hcells k _ 1 _ he rfl
      obtain ⟨u2, g6, g7, _, g8⟩ := hcells k _ 2 _ he rfl
      refine ⟨⟨(d, u1, u2), hnm d (List.mem_of_getElem? hd), g4, g7⟩, rfl, fun j hj => ?_, g5 rfl, g8 rfl⟩
      rcases j with _ | _ | _ | j
      · rw [g0, g2.v_inv]; rfl
      · exact g3
      · exact g6
      · omega
    have hmap : xs.map (fun x => x.1.1) = l := by
      apply List.ext_getElem?
      intro k
      rw [List.getElem?_map]
      rcases Nat.lt_or_ge k l.length with hk | hk
      · obtain ⟨x, h1, h2, _⟩ := hxs k _ (List.getElem?_eq_getElem hk)
        rw [h1, List.getElem?_eq_getElem hk, ← h2]; rfl
      · rw [List.getElem?_eq_none (by omega), List.getElem?_eq_none hk]; rfl
    have hxC : ∀ x ∈ xs, C (Live (hpOf 0 [rowB l]) loc) 0 w (intsA x.1.1.safe) x.1.2.1 ∧ C (Live (hpOf 0 [rowB l]) loc) 0 w (intsA x.1.1.fresh) x.1.2.2 := fun x hx => by
      obtain ⟨k, hk, rfl⟩ := List.mem_iff_getElem.1 hx
      obtain ⟨y, h1, h2, _, h3⟩ := hxs k _ (List.getElem?_eq_getElem (by omega : k < l.length))
      rw [List.getElem?_eq_getElem hk] at h1
      cases h1
      rw [h2]; exact h3
    have hcm : ∀ (k : Nat) (hk : k < xs.length) (j : Nat), j < 3 → cur[k * 3 + j]? = some ((encV xs[k])[j]!) := fun k hk j hj => by
      obtain ⟨y, h1, _, h3, _⟩ := hxs k _ (List.getElem?_eq_getElem (by omega : k < l.length))
      rw [List.getElem?_eq_getElem hk] at h1
      cases h1
      rw [Nat.zero_add] at h3
      exact h3 j hj
    have hH : Go.Sort.HoldsK encV 3 w b 0 xs.toArray := by
      intro j hj
      rw [Go.Sort.size_flatK] at hj
      have hj' : j < xs.length * 3 := by simpa using hj
      have hk : j / 3 < xs.length := by omega
      rw [Nat.zero_add]
      refine ⟨?_, by simp [World.frozen?, hh]⟩
      have := hcm (j / 3) hk (j % 3) (by omega)
      rw [show j / 3 * 3 + j % 3 = j by omega] at this
      simp only [World.cell?, hh, Option.isSome_none, Bool.false_eq_true, if_false, id]
      rw [this, Go.Sort.get_flatK _ _ _ _ hj]
      congr 3
      simp [hk]
    have hblk : b < w.heap.size := by
      rcases Nat.lt_or_ge b w.heap.size with h | h
      · exact h
      · rw [Array.getElem?_eq_none h] at hh; cases hh
    have eg : ∀ args w, (callFunc 67 args).run Try.prog w = .ok (.enter 67 args) w := enters_of Try.func67 (by kernel_rfl) rfl
    have hcon := AnyQ.slices_SortFunc Try.sortC 3 Try.isAgg55 Try.sizeOf55 encV (fun _ => rfl) encV_one cfB swoB 67 #[] b 0 c xs.toArray w eg (lays_b b 0 _ w) hH hblk (by simp; omega)
    change Calls Try.prog 66 _ _ _ at hcon
    rw [show xs.toArray.size = l.length from by simp [hxl]] at hcon
    refine hcon.mono ?_
    rintro e w' ⟨rfl, d', n, os, hp, hsd, rfl⟩
    obtain ⟨hps, _, hpp⟩ := hp
    have hps' : d'.size = l.length := by simpa [hxl] using hps
    have hperm0 : d'.toList.Perm xs := by
      have e1 : d'.extract 0 l.length = d' := by rw [← hps']; simp
      have e2 : xs.toArray.extract 0 l.length = xs.toArray := by rw [← hxl]; simp
      rw [e1, e2] at hpp
      simpa using hpp
    obtain ⟨l', hl0⟩ : ∃ l', l' = d'.toList.map (fun x => x.1.1) := ⟨_, rfl⟩
    have hperm : l'.Perm l := by rw [hl0, ← hmap]; exact hperm0.map _
    have hord : l'.Pairwise (fun a b => a.name ≤ b.name) := by
      rw [hl0, List.pairwise_map, List.pairwise_iff_getElem]
      intro i j hi hj hij
      have := hsd i j (Nat.zero_le _) hij (by simpa [hps'] using hj)
      rw [ltOf_cfB] at this
      simp only [Array.length_toList] at hi hj
      have h2 : ¬ (d'[j]).1.1.name < (d'[i]).1.1.name := by simpa [hi, hj] using this
      simp only [Array.getElem_toList]
      omega
    have hdl : l'.length = l.length := hperm.length_eq
    have hdC : ∀ x ∈ d'.toList, C (Live (hpOf 0 [rowB l]) loc) 0 w (intsA x.1.1.safe) x.1.2.1 ∧ C (Live (hpOf 0 [rowB l]) loc) 0 w (intsA x.1.1.fresh) x.1.2.2 := fun x hx => hxC x (hperm0.mem_iff.1 hx)
    refine ⟨.tup [], [rowB l'], [], _, loc, ⟨l', hperm, hord, rfl, rfl, rfl⟩, rfl, ?_⟩
    have hbh : (sortWorldK encV 3 w b 0 n d' os).heap[b]? = some (.cells (Go.Sort.putCells id 0 (Go.Sort.flatK encV 3 d') cur) 55 (0, 0)) := by
      unfold sortWorldK
      show ((Go.Sort.putRowK encV 3 (Go.Sort.ahead w n) b 0 d').heap ++ os)[b]? = _
      rw [Array.getElem?_append_left (by rw [Go.Sort.size_putRowK]; exact hblk)]
      unfold Go.Sort.putRowK Go.Sort.putRow Go.Sort.mapBlock
      simp only [Array.getElem?_modify, if_true]
      show Option.map _ w.heap[b]? = _
      rw [hh]
      rfl
    have hbk : ∀ k, k < w.heap.size → k ≠ b → (sortWorldK encV 3 w b 0 n d' os).heap[k]? = w.heap[k]? := fun k hk hne => by
      unfold sortWorldK
      show ((Go.Sort.putRowK encV 3 (Go.Sort.ahead w n) b 0 d').heap ++ os)[k]? = _
      rw [Array.getElem?_append_left (by rw [Go.Sort.size_putRowK]; exact hk)]
      unfold Go.Sort.putRowK Go.Sort.putRow Go.Sort.mapBlock
      simp only [Array.getElem?_modify]
      rw [if_neg (fun e => hne e.symm)]
      rfl
    have hsize : w.heap.size ≤ (sortWorldK encV 3 w b 0 n d' os).heap.size := by
      unfold sortWorldK
      show w.heap.size ≤ ((Go.Sort.putRowK encV 3 (Go.Sort.ahead w n) b 0 d').heap ++ os).size
      rw [Array.size_append, Go.Sort.size_putRowK]
      exact Nat.le_add_right _ _
    have hone : ∀ r row, hget (hpOf 0 [rowB l']) r = some row → r = 0 ∧ row = rowB l' := fun r row h => by
      rcases r with _ | r
      · cases h; exact ⟨rfl, rfl⟩
      · simp [hpOf, hget] at h
    have hlive : ∀ k, Live (hpOf 0 [rowB l']) loc k → Live (hpOf 0 [rowB l]) loc k := by
      rintro k (⟨r, row, c', g1, g2⟩ | hf)
      · obtain ⟨rfl, rfl⟩ := hone r row g1
        exact .inl ⟨0, _, c', hrow, g2⟩
      · exact .inr hf
    have hCC : ∀ x u, C (Live (hpOf 0 [rowB l]) loc) 0 w x u → C (Live (hpOf 0 [rowB l']) loc) 0 (sortWorldK encV 3 w b 0 n d' os) x u := fun x u hx => hx.mono (Nat.le_refl _) hsize fun k _ hk hnl => ⟨fun h => hnl (hlive k h), hbk k hk fun e => hnl (.inl ⟨0, _, c, hrow, by rw [e]; exact hl'⟩)⟩
    have hcell : ∀ (k : Nat) (e : List AV) (j : Nat) (x : AV), (rowB l').es[k]? = some e → e[j]? = some x → ∃ u, (Go.Sort.putCells id 0 (Go.Sort.flatK encV 3 d') cur)[k * 3 + j]? = some u ∧ u.oneCell' = true ∧ C (Live (hpOf 0 [rowB l']) loc) 0 (sortWorldK encV 3 w b 0 n d' os) x u := fun k e j x he hx => by
      rw [List.getElem?_map, Option.map_eq_some_iff] at he
      obtain ⟨y, hy, rfl⟩ := he
      have hk := lt_of_some hy
      rw [hl0, List.getElem?_map, Option.map_eq_some_iff] at hy
      obtain ⟨z, hz, rfl⟩ := hy
      obtain ⟨g1, g2, _⟩ := encV_bd z j x hx
      obtain ⟨c1, c2⟩ := hdC z (List.mem_of_getElem? hz)
      refine ⟨(encV z)[j]!, ?_, g1, ?_⟩
      · have hin : k * 3 + j < (Go.Sort.flatK encV 3 d').size := by rw [Go.Sort.size_flatK, hps']; omega
        have hcu : k * 3 + j < cur.size := by rw [hsz]; show _ < c * 3; omega
        unfold Go.Sort.putCells
        rw [Array.getElem?_mapIdx, Array.getElem?_eq_getElem hcu]
        simp only [Option.map_some, Option.some.injEq]
        rw [if_pos ⟨by omega, by omega⟩, Nat.sub_zero, Go.Sort.get_flatK _ _ _ _ (by rw [Go.Sort.size_flatK] at hin; exact hin)]
        rw [show (k * 3 + j) / 3 = k by omega, show (k * 3 + j) % 3 = j by omega]
        have : d'[k]! = z := by
          rw [Array.getElem?_toList] at hz
          rw [Array.getElem!_eq_getD, Array.getD_eq_getD_getElem?, hz]
          rfl
        rw [this]
        rfl
      · rcases j with _ | _ | _ | j
        · cases hx; exact .v
        · cases hx; exact hCC _ _ c1
        · cases hx; exact hCC _ _ c2
        · omega
    have hc3 : (Go.Sort.putCells id 0 (Go.Sort.flatK encV 3 d') cur).size = c * 3 := by
      unfold Go.Sort.putCells
      rw [Array.size_mapIdx]
      exact hsz
    refine ⟨rfl, rfl, rfl, rfl, hsize, fun k hk hnl => hbk k hk fun e => hnl ⟨0, _, c, hrow, by rw [e]; exact hl'⟩, hlw.fbe, fun _ _ _ => rfl, .tup #[] rfl (fun j a ha => by simp at ha), fun r row h => ?_, fun r r' row row' _ _ _ h h' _ _ => ?_, fun r row b' c' h h' => ?_⟩
    · obtain ⟨rfl, rfl⟩ := hone r row h
      refine ⟨rfl, RowOk.mk' hl' (fun k e he => ?_) (by rw [List.length_map, hdl]; exact hn') hm hbh hc3 fun k e j x he hx => ?_⟩
      · rw [List.getElem?_map, Option.map_eq_some_iff] at he
        obtain ⟨y, _, rfl⟩ := he
        rfl
      · obtain ⟨u, g1, g2, g3⟩ := hcell k e j x he hx
        exact ⟨u, g1, g2, .cl g3, fun _ => g3⟩
    · rw [(hone r row h).1, (hone r' row' h').1]
    · obtain ⟨rfl, rfl⟩ := hone r row h
      rw [hl'] at h'
      cases h'
      exact .inr ⟨0, _, c, hrow, hl'⟩
end Go.Proofs.Ytepcabenjikhgaa
/-
  Walks: disks: sorted.
-/
namespace Go.Proofs.Ytepcabenjikhgaa
open Go Go.RowKit Go.Proofs
theorem fall_retL {P : Program} {w0 : World} {fb : Nat → Prop} {lr : List Row} {mv : Nat → Bool} {loc0 : Loc} {fn : Func} {D : AV → List Row → List Row → Prop} {s : AS} (h : RWL P w0 fb lr mv loc0 fn D (.ret s)) : RWL P w0 fb lr mv loc0 fn D (.fall s) := fun loc a w hR => h loc a w hR
attribute [local irreducible] RWp AW run kPe pe Kt effA gd gu br retR RDp runD kPeD brW gW effD
set_option maxRecDepth 100000
theorem sorted_pcl (l : List BD) (hl : l.length < 4294967281) (hnm : ∀ d ∈ l, 0 ≤ d.name ∧ d.name ≤ 3) : PCL Try.prog 53 [rowB l] (mvF none) [.o 0 l.length] (srtD l) := by
  refine pcl_enter Try.func53 rfl rfl (by simp) fun w0 fb loc => go_on ?_; simp only [Try.ntmps53, hpL, nmL, mvF, renL, decide_true, decide_false, push_cast, simprocAttr]
  (try simp only [push_cast, simprocAttr]); refine call_lend [500000] none (lr := [rowB l]) (by simp [ndB]) (by first | rfl | simp [rowsOf, hget, rdR, rowS, sC, ndC, cmC]) (by simp [idsL, idsA]) (by simp [mvN]) (by simpa [rnA, ixOf] using SortB_pcl l hl hnm) ?_
  rintro rv lr' rows ⟨l', h1, h2, rfl, rfl, rfl⟩
  have hn := h1.length_eq
  (refine ⟨by simp [shB, mvF, hn], by simp [frB, baseOf], go_on ?_⟩; simp only [killA, killH, killRow, push_cast, simprocAttr])
  have hfin : srtD l (.tup []) [rowB l'] [] := ⟨l', h1, h2, rfl, rfl, rfl⟩
  refine fall_retL ?_
  (refine at_retL ?_; simp only [Try.results53, retL, push_cast, simprocAttr]; simp [show List.range 1 = [0] from rfl, show List.range 2 = [0, 1] from rfl, show List.range 3 = [0, 1, 2] from rfl, nmL, mvF, ndB, ixOf, rowsOf, hget, rdR, rowS]; exact  hfin)
end Go.Proofs.Ytepcabenjikhgaa
/-
  Plain: sorted files are a disk with a file in its place.
-/
namespace Go.Proofs.Ytepcabenjikhgaa
open Go Go.RowKit

theorem asc_get : ∀ {x : List BD} {d : BD}, ascB x = true → d ∈ x → getB x d.name = some d
  | [], _, _, h => by simp at h
  | y :: r, d, ha, h => by
    simp only [ascB, Bool.and_eq_true, List.all_eq_true, decide_eq_true_eq] at ha
    unfold getB
    rcases List.mem_cons.1 h with rfl | h
    · rw [List.find?_cons_of_pos (by simp)]
    · have := ha.1 d h
      rw [List.find?_cons_of_neg (by simp; omega)]
      exact asc_get ha.2 h
theorem ext_mem {x y : List BD} (hx : ascB x = true) (hy : ascB y = true) (h : ∀ d, d ∈ x ↔ d ∈ y) : x = y := by
  refine ext_asc hx hy fun nm => ?_
  cases hg : getB x nm with
  | some d =>
    obtain ⟨h1, h2⟩ := getB_name hg
    rw [← h1]; exact (asc_get hy ((h d).1 h2)).symm
  | none =>
    cases hg2 : getB y nm with
    | none => rfl
    | some d =>
      obtain ⟨h1, h2⟩ := getB_name hg2
      exact absurd h1 (getB_none hg d ((h d).2 h2))
theorem ascB_of : ∀ {l : List BD}, l.Pairwise (fun a b => a.name ≤ b.name) → l.Pairwise (fun a b => a.name ≠ b.name) → ascB l = true
  | [], _, _ => rfl
  | d :: r, h1, h2 => by
    rw [List.pairwise_cons] at h1 h2
    simp only [ascB, Bool.and_eq_true, List.all_eq_true, decide_eq_true_eq]
    exact ⟨fun x hx => by have := h1.1 x hx; have := h2.1 x hx; omega, ascB_of h1.2 h2.2⟩
/-- Files in order, of which no two bear a number. -/
theorem srt_eq {l l' y : List BD} (hp : l'.Perm l) (ho : l'.Pairwise (fun a b => a.name ≤ b.name)) (hn : l.Pairwise (fun a b => a.name ≠ b.name)) (hy : ascB y = true) (hm : ∀ d, d ∈ l ↔ d ∈ y) : l' = y := by
  have hn' : l'.Pairwise (fun a b => a.name ≠ b.name) := hp.symm.pairwise hn fun h => Ne.symm h
  exact ext_mem (ascB_of ho hn') hy fun d => (hp.mem_iff).trans (hm d)
theorem asc_pw : ∀ {bs : List BD}, ascB bs = true → bs.Pairwise (fun a b => a.name ≠ b.name)
  | [], _ => List.Pairwise.nil
  | d :: r, h => by
    simp only [ascB, Bool.and_eq_true, List.all_eq_true, decide_eq_true_eq] at h
    exact List.pairwise_cons.2 ⟨fun x hx => by have := h.1 x hx; omega, asc_pw h.2⟩
theorem mem_with {bs : List BD} {d x : BD} : x ∈ withB bs d ↔ x = d ∨ (x ∈ bs ∧ x.name ≠ d.name) := by
  unfold withB
  rw [mem_ins, List.mem_filter]
  simp
/-! ### DiskRename -/
/-! ### DiskWrite -/
theorem set_pw {bs : List BD} {k : Nat} {d d' : BD} (h : ascB bs = true) (hd : bs[k]? = some d) (hn : d'.name = d.name) : (bs.set k d').Pairwise (fun a b => a.name ≠ b.name) := by
  have hp := asc_pw h
  rw [List.pairwise_iff_getElem] at hp ⊢
  intro i j hi hj hij
  simp only [List.length_set] at hi hj
  have := hp i j hi hj hij
  rw [List.getElem_set, List.getElem_set]
  have hk : ∀ (q : Nat) (hq : q < bs.length), k = q → d'.name = (bs[q]).name := fun q hq e => by
    subst e
    rw [List.getElem?_eq_getElem hq] at hd
    cases hd
    exact hn
  split
  · rename_i e
    split
    · omega
    · rw [hk i hi e]; exact this
  · split
    · rename_i e
      rw [hk j hj e]; exact this
    · exact this
theorem wr_old {bs : List BD} {nm : Int} {xs : List Int} {k : Nat} {d : BD} (h : diskB bs = true) (hd : bs[k]? = some d) (hg : getB bs nm = some d) {l' : List BD} (hp : l'.Perm (bs.set k ⟨d.name, d.safe, d.fresh ++ xs⟩)) (ho : l'.Pairwise (fun a b => a.name ≤ b.name)) :
    l' = withB bs (wrB bs nm xs) := by
  have ha := ((diskB_iff _).1 h).2
  obtain ⟨hn, hm⟩ := getB_name hg
  have hw : wrB bs nm xs = ⟨nm, d.safe, d.fresh ++ xs⟩ := by unfold wrB; rw [hg]
  have hk := lt_of_get hd
  have hy : ascB (withB bs (wrB bs nm xs)) = true := by
    unfold withB
    exact ascB_ins (ascB_sub _ ha) fun x hx => by simpa using (List.mem_filter.1 hx).2
  refine srt_eq hp ho (set_pw ha hd rfl) hy fun x => ?_
  rw [mem_with, hw]
  simp only [hn]
  constructor
  · intro hx
    obtain ⟨i, hi, e⟩ := List.mem_iff_getElem.1 hx
    simp only [List.length_set] at hi
    rw [List.getElem_set] at e
    split at e
    · exact .inl e.symm
    · rename_i hki
      refine .inr ⟨List.mem_iff_getElem.2 ⟨i, hi, e⟩, fun hxn => ?_⟩
      have hp := List.pairwise_iff_getElem.1 (asc_pw ha)
      have hdk : bs[k] = d := by rw [List.getElem?_eq_getElem hk] at hd; exact Option.some.inj hd
      rcases Nat.lt_or_gt_of_ne hki with h1 | h1
      · exact hp k i hk hi h1 (by rw [hdk, e, hn, hxn])
      · exact hp i k hi hk h1 (by rw [hdk, e, hn, hxn])
  · rintro (rfl | ⟨h1, h2⟩)
    · exact List.mem_iff_getElem.2 ⟨k, by simpa using hk, by simp [hn]⟩
    · obtain ⟨i, hi, e⟩ := List.mem_iff_getElem.1 h1
      refine List.mem_iff_getElem.2 ⟨i, by simpa using hi, ?_⟩
      rw [List.getElem_set, if_neg, e]
      rintro rfl
      rw [List.getElem?_eq_getElem hi, e] at hd
      cases hd
      exact h2 hn
theorem wr_new {bs : List BD} {nm : Int} {xs : List Int} (h : diskB bs = true) (hg : getB bs nm = none) {l' : List BD} (hp : l'.Perm (bs ++ [⟨nm, [], xs⟩])) (ho : l'.Pairwise (fun a b => a.name ≤ b.name)) :
    l' = withB bs (wrB bs nm xs) := by
  have ha := ((diskB_iff _).1 h).2
  have hw : wrB bs nm xs = ⟨nm, [], xs⟩ := by unfold wrB; rw [hg]
  have hy : ascB (withB bs (wrB bs nm xs)) = true := by
    unfold withB
    exact ascB_ins (ascB_sub _ ha) fun x hx => by simpa using (List.mem_filter.1 hx).2
  refine srt_eq hp ho ?_ hy fun x => ?_
  · rw [List.pairwise_append]
    exact ⟨asc_pw ha, by simp, fun x hx y hy => by simp at hy; subst hy; exact getB_none hg x hx⟩
  · rw [mem_with, hw, List.mem_append, List.mem_singleton]
    constructor
    · rintro (h1 | rfl)
      · exact .inr ⟨h1, getB_none hg x h1⟩
      · exact .inl rfl
    · rintro (rfl | ⟨h1, _⟩)
      · exact .inr rfl
      · exact .inl h1
end Go.Proofs.Ytepcabenjikhgaa
/-
  Walks: disks: DiskRename.
-/
namespace Go.Proofs.Ytepcabenjikhgaa
open Go Go.RowKit Go.Proofs
theorem disk_le3 : ∀ {bs : List BD} {last : Int}, 0 ≤ last → diskFrom last bs = true → bs.length + last ≤ 3 ∨ bs = []
  | [], _, _, _ => .inr rfl
  | d :: r, last, h0, h => by
    simp only [diskFrom, blobB, inB, Bool.and_eq_true, decide_eq_true_eq] at h
    refine .inl ?_
    rcases disk_le3 (last := d.name) (by omega) h.2 with h1 | rfl
    · simp only [List.length_cons]; omega
    · simp; omega
theorem disk_len {bs : List BD} (h : diskB bs = true) : bs.length ≤ 3 := by
  rcases disk_le3 (last := 0) (by omega) h with h1 | rfl
  · omega
  · simp
theorem disk_sm {bs : List BD} (h : diskB bs = true) : SmB bs := by
  have := disk_len h
  refine ⟨by omega, fun d hd => ?_⟩
  have := disk_okF h hd
  simp only [okF, Bool.and_eq_true, decide_eq_true_eq] at this
  exact ⟨by omega, by omega⟩
attribute [local irreducible] RWp AW run kPe pe Kt effA gd gu br retR RDp runD kPeD brW gW effD
set_option maxRecDepth 100000
end Go.Proofs.Ytepcabenjikhgaa
/-
  Walks: disks: the reference's small functions; DiskValid.
-/
namespace Go.Proofs.Ytepcabenjikhgaa
open Go Go.RowKit Go.Proofs
attribute [local irreducible] RWp AW run kPe pe Kt effA gd gu br retR RDp runD kPeD brW gW effD
set_option maxRecDepth 100000
theorem l4Bytes_pc (l : List Int) (hl : l.length < 4294967281) : PC Try.prog 54 [intsA l] (vB (bytesB l)) := by
  refine pc_enter Try.func54 rfl rfl fun w0 fb => go_on ?_; (try simp only [Try.ntmps54, push_cast, simprocAttr])
  refine at_loop (X := Nat) (fun k => [(3, iA k)]) (fun _ => []) (fun k => k ≤ l.length ∧ bytesB l = bytesB (l.drop k)) (fun k => l.length - k) 0 ⟨Nat.zero_le _, rfl⟩ ?_ ?_
  · (refine wk_ok ?_ ?_ ?_ ?_ <;> simp [leL, leH, idsL, idsA, idsR, inH, hget, sameRow, upA, hvA, dsts, dstO, setA_0, setA_1, setA_8, List.append, List.cons_append, List.nil_append])
  · rintro k ⟨h1, h2⟩
    simp only [upA, hvA, dsts, dstO, setA_0, setA_1, setA_8, List.append, List.cons_append, List.nil_append]
    refine go_on ?_
    (try simp only [List.length_map, push_cast, simprocAttr])
    refine at_b (fun hg => ?_) (fun hg => ?_)
    · have hlt := lt_tt hg
      obtain ⟨x, hk⟩ := get_of_lt hlt
      have i1 := ix_n hk
      have i2 := map_get inC hk
      simp only [inC] at i2
      rw [drop_of_get hk] at h2
      have hI := l6In_pc x 0 255
      have w1 := wr ((k : Int) + 1) (by omega)
      have e0 : bytesB (x :: l.drop (k + 1)) = (inR x 0 255 && bytesB (l.drop (k + 1))) := rfl
      rw [e0] at h2
      (try simp only [hg, i1, i2, push_cast, simprocAttr])
      (refine at_call ?_; (try simp only [push_cast, simprocAttr]); refine rwc_v (hI) (go_on ?_); (try simp only [push_cast, simprocAttr]))
      cases e : inR x 0 255 with
      | false =>
        (try simp only [e, Bool.not_false, push_cast, simprocAttr])
        refine at_ret ?_; simp only [Try.results54, push_cast, simprocAttr]
        simp [vX, h2, e]
      | true =>
        (try simp only [e, Bool.not_true, w1, push_cast, simprocAttr])
        refine at_fin ⟨k + 1, ⟨by omega, by rw [h2, e]; rfl⟩, by omega, ?_⟩
        (refine wk_ok ?_ ?_ ?_ ?_ <;> simp [leL, leH, idsL, idsA, idsR, inH, hget, sameRow, upA, hvA, dsts, dstO, setA_0, setA_1, setA_8, List.append, List.cons_append, List.nil_append])
    · have h3 := lt_ff hg
      (try simp only [hg, push_cast, simprocAttr])
      refine at_ret ?_; simp only [Try.results54, push_cast, simprocAttr]
      rw [List.drop_of_length_le h3] at h2
      have h2' : bytesB l = true := by rw [h2]; rfl
      simp [vX, h2']
theorem specDiskValid_pc (bs : List BD) (hs : SmB bs) : PC Try.prog 33 [blsA bs] (vB (diskB bs)) := by
  have hn := hs.n
  refine pc_enter Try.func33 rfl rfl fun w0 fb => go_on ?_; (try simp only [Try.ntmps33, push_cast, simprocAttr])
  refine at_loop (X := Nat × Int) (fun x => [(3, iA x.1)]) (fun _ => []) (fun x => x.1 ≤ bs.length ∧ 0 ≤ x.2 ∧ x.2 ≤ 3 ∧ diskB bs = diskFrom x.2 (bs.drop x.1) ∧ (x.1 = 0 ∧ x.2 = 0 ∨ ∃ m d, x.1 = m + 1 ∧ bs[m]? = some d ∧ d.name = x.2)) (fun x => bs.length - x.1) (0, 0) ⟨Nat.zero_le _, by simp, by simp, rfl, .inl ⟨rfl, rfl⟩⟩ ?_ ?_
  · (refine wk_ok ?_ ?_ ?_ ?_ <;> simp [leL, leH, idsL, idsA, idsR, inH, hget, sameRow, upA, hvA, dsts, dstO, setA_0, setA_1, setA_8, List.append, List.cons_append, List.nil_append])
  · rintro ⟨k, last⟩ ⟨h1, h2, h3, h4, h5⟩
    simp only at h1 h2 h3 h4 h5
    simp only [upA, hvA, dsts, dstO, setA_0, setA_1, setA_8, List.append, List.cons_append, List.nil_append]
    refine go_on ?_
    (try simp only [List.length_map, push_cast, simprocAttr])
    refine at_b (fun hg => ?_) (fun hg => ?_)
    · have hlt := lt_tt hg
      obtain ⟨d, hk⟩ := get_of_lt hlt
      have i1 := ix_n hk
      have i2 := map_get bC hk
      simp only [bC] at i2
      obtain ⟨hds, hdf⟩ := hs.d d (mem_of_get hk)
      have hI := l6In_pc d.name 1 3
      have hS := l4Bytes_pc d.safe (by omega)
      have hF := l4Bytes_pc d.fresh (by omega)
      have w1 := wr ((k : Int) + 1) (by omega)
      have w3 := wr ((d.safe.length : Int) + d.fresh.length) (by omega)
      rw [drop_of_get hk] at h4
      simp only [diskFrom, blobB] at h4
      have eI : inB d.name (last + 1) 3 = (inR d.name 1 3 && decide (last < d.name)) := by
        unfold inB inR
        rw [Bool.eq_iff_iff]
        simp only [Bool.and_eq_true, decide_eq_true_eq]
        omega
      rw [eI] at h4
      (try simp only [hg, i1, i2, push_cast, simprocAttr])
      cases e1 : inR d.name 1 3 with
      | false =>
        refine at_draw rfl (by kernel_rfl) ?_; simp only [push_cast, simprocAttr]
        repeat' first | (refine at_bWn (fun hb => ?_) (fun hb => ?_) <;> simp only [e1, Bool.not_false, hb, push_cast, simprocAttr]) | (refine at_bW (fun hb => ?_) (fun hb => ?_) <;> simp only [e1, Bool.not_false, hb, push_cast, simprocAttr]) | (refine at_callD (by simp [clB, idsL, idsA, hget]) ?_; (try simp only [push_cast, simprocAttr]); first | (refine rcd_v (hI) ?_; simp only [e1, Bool.not_false, push_cast, simprocAttr]) | (refine rcd_d (hI) (by simp [flatV, flatL, ctC, ndC, cmC]) (by simp [ren, ctC, ndC, cmC]) ?_; simp only [e1, Bool.not_false, push_cast, simprocAttr])) | (refine at_done (by kernel_rfl) (by kernel_rfl) (go_on ?_); (try simp only [e1, Bool.not_false, push_cast, simprocAttr]))
        (try simp only [e1, Bool.not_false, push_cast, simprocAttr])
        refine at_ret ?_; simp only [Try.results33, push_cast, simprocAttr]
        simp [vX, h4, e1]
      | true =>
        have hnm : 1 ≤ d.name ∧ d.name ≤ 3 := by simp only [inR, Bool.and_eq_true, decide_eq_true_eq] at e1; omega
        cases e2 : bytesB d.safe with
        | false =>
          refine at_draw rfl (by kernel_rfl) ?_; simp only [push_cast, simprocAttr]
          repeat' first | (refine at_bWn (fun hb => ?_) (fun hb => ?_) <;> simp only [e1, e2, Bool.not_false, Bool.not_true, hb, push_cast, simprocAttr]) | (refine at_bW (fun hb => ?_) (fun hb => ?_) <;> simp only [e1, e2, Bool.not_false, Bool.not_true, hb, push_cast, simprocAttr]) | (refine at_callD (by simp [clB, idsL, idsA, hget]) ?_; (try simp only [push_cast, simprocAttr]); first | (refine rcd_v (hI) ?_; simp only [e1, e2, Bool.not_false, Bool.not_true, push_cast, simprocAttr]) | (refine rcd_d (hI) (by simp [flatV, flatL, ctC, ndC, cmC]) (by simp [ren, ctC, ndC, cmC]) ?_; simp only [e1, e2, Bool.not_false, Bool.not_true, push_cast, simprocAttr]) | (refine rcd_v (hS) ?_; simp only [e1, e2, Bool.not_false, Bool.not_true, push_cast, simprocAttr]) | (refine rcd_d (hS) (by simp [flatV, flatL, ctC, ndC, cmC]) (by simp [ren, ctC, ndC, cmC]) ?_; simp only [e1, e2, Bool.not_false, Bool.not_true, push_cast, simprocAttr])) | (refine at_done (by kernel_rfl) (by kernel_rfl) (go_on ?_); (try simp only [e1, e2, Bool.not_false, Bool.not_true, push_cast, simprocAttr]))
          (try simp only [Bool.not_false, push_cast, simprocAttr])
          refine at_ret ?_; simp only [Try.results33, push_cast, simprocAttr]
          simp [vX, h4, e2]
        | true =>
          cases e3 : bytesB d.fresh with
          | false =>
            refine at_draw rfl (by kernel_rfl) ?_; simp only [push_cast, simprocAttr]
            repeat' first | (refine at_bWn (fun hb => ?_) (fun hb => ?_) <;> simp only [e1, e2, e3, Bool.not_false, Bool.not_true, hb, push_cast, simprocAttr]) | (refine at_bW (fun hb => ?_) (fun hb => ?_) <;> simp only [e1, e2, e3, Bool.not_false, Bool.not_true, hb, push_cast, simprocAttr]) | (refine at_callD (by simp [clB, idsL, idsA, hget]) ?_; (try simp only [push_cast, simprocAttr]); first | (refine rcd_v (hI) ?_; simp only [e1, e2, e3, Bool.not_false, Bool.not_true, push_cast, simprocAttr]) | (refine rcd_d (hI) (by simp [flatV, flatL, ctC, ndC, cmC]) (by simp [ren, ctC, ndC, cmC]) ?_; simp only [e1, e2, e3, Bool.not_false, Bool.not_true, push_cast, simprocAttr]) | (refine rcd_v (hS) ?_; simp only [e1, e2, e3, Bool.not_false, Bool.not_true, push_cast, simprocAttr]) | (refine rcd_d (hS) (by simp [flatV, flatL, ctC, ndC, cmC]) (by simp [ren, ctC, ndC, cmC]) ?_; simp only [e1, e2, e3, Bool.not_false, Bool.not_true, push_cast, simprocAttr]) | (refine rcd_v (hF) ?_; simp only [e1, e2, e3, Bool.not_false, Bool.not_true, push_cast, simprocAttr]) | (refine rcd_d (hF) (by simp [flatV, flatL, ctC, ndC, cmC]) (by simp [ren, ctC, ndC, cmC]) ?_; simp only [e1, e2, e3, Bool.not_false, Bool.not_true, push_cast, simprocAttr])) | (refine at_done (by kernel_rfl) (by kernel_rfl) (go_on ?_); (try simp only [e1, e2, e3, Bool.not_false, Bool.not_true, push_cast, simprocAttr]))
            (try simp only [Bool.not_false, push_cast, simprocAttr])
            refine at_ret ?_; simp only [Try.results33, push_cast, simprocAttr]
            simp [vX, h4, e3]
          | true =>
            by_cases h400 : d.safe.length + d.fresh.length ≤ 400
            · have e4 : ltI 400 ((d.safe.length : Int) + d.fresh.length) = false := ltI_f (by omega)
              rcases h5 with ⟨rfl, rfl⟩ | ⟨m, p, hkm, hm, hpl⟩
              · have e5 : ltI 0 ((0 : Nat) : Int) = false := rfl
                refine at_draw rfl (by kernel_rfl) ?_; simp only [push_cast, simprocAttr]
                repeat' first | (refine at_bWn (fun hb => ?_) (fun hb => ?_) <;> simp only [e1, e2, e3, e4, e5, show ltI 0 0 = false from rfl, w3, List.length_map, Bool.not_false, Bool.not_true, hb, push_cast, simprocAttr]) | (refine at_bW (fun hb => ?_) (fun hb => ?_) <;> simp only [e1, e2, e3, e4, e5, show ltI 0 0 = false from rfl, w3, List.length_map, Bool.not_false, Bool.not_true, hb, push_cast, simprocAttr]) | (refine at_callD (by simp [clB, idsL, idsA, hget]) ?_; (try simp only [push_cast, simprocAttr]); first | (refine rcd_v (hI) ?_; simp only [e1, e2, e3, e4, e5, show ltI 0 0 = false from rfl, w3, List.length_map, Bool.not_false, Bool.not_true, push_cast, simprocAttr]) | (refine rcd_d (hI) (by simp [flatV, flatL, ctC, ndC, cmC]) (by simp [ren, ctC, ndC, cmC]) ?_; simp only [e1, e2, e3, e4, e5, show ltI 0 0 = false from rfl, w3, List.length_map, Bool.not_false, Bool.not_true, push_cast, simprocAttr]) | (refine rcd_v (hS) ?_; simp only [e1, e2, e3, e4, e5, show ltI 0 0 = false from rfl, w3, List.length_map, Bool.not_false, Bool.not_true, push_cast, simprocAttr]) | (refine rcd_d (hS) (by simp [flatV, flatL, ctC, ndC, cmC]) (by simp [ren, ctC, ndC, cmC]) ?_; simp only [e1, e2, e3, e4, e5, show ltI 0 0 = false from rfl, w3, List.length_map, Bool.not_false, Bool.not_true, push_cast, simprocAttr]) | (refine rcd_v (hF) ?_; simp only [e1, e2, e3, e4, e5, show ltI 0 0 = false from rfl, w3, List.length_map, Bool.not_false, Bool.not_true, push_cast, simprocAttr]) | (refine rcd_d (hF) (by simp [flatV, flatL, ctC, ndC, cmC]) (by simp [ren, ctC, ndC, cmC]) ?_; simp only [e1, e2, e3, e4, e5, show ltI 0 0 = false from rfl, w3, List.length_map, Bool.not_false, Bool.not_true, push_cast, simprocAttr])) | (refine at_done (by kernel_rfl) (by kernel_rfl) (go_on ?_); (try simp only [e1, e2, e3, e4, e5, show ltI 0 0 = false from rfl, w3, List.length_map, Bool.not_false, Bool.not_true, push_cast, simprocAttr]))
                (try simp only [w1, show IntKind.i64.wrap (0 + 1) = 1 from rfl, show IntKind.i64.wrap 1 = 1 from rfl, push_cast, simprocAttr])
                refine at_fin ⟨(0 + 1, d.name), ⟨by dsimp only; omega, by dsimp only; omega, by dsimp only; omega, ?_, .inr ⟨0, d, rfl, hk, rfl⟩⟩, by dsimp only; omega, ?_⟩
                · rw [h4]
                  have : decide ((0 : Int) < d.name) = true := by simp; omega
                  simp [e1, e2, e3, h400, this]
                · (refine wk_ok ?_ ?_ ?_ ?_ <;> simp [show IntKind.i64.wrap 1 = 1 from rfl, leL, leH, idsL, idsA, idsR, inH, hget, sameRow, upA, hvA, dsts, dstO, setA_0, setA_1, setA_8, List.append, List.cons_append, List.nil_append])
              · have e5 : ltI 0 (k : Int) = true := ltI_t (by omega)
                have w2 : IntKind.i64.wrap ((k : Int) - 1) = (m : Int) := by rw [wr _ (by omega)]; omega
                have j1 := ix_n hm
                have j2 := map_get bC hm
                simp only [bC] at j2
                by_cases hlt2 : last < d.name
                · have e6 : leI d.name p.name = false := leI_f (by omega)
                  refine at_draw rfl (by kernel_rfl) ?_; simp only [push_cast, simprocAttr]
                  repeat' first | (refine at_bWn (fun hb => ?_) (fun hb => ?_) <;> simp only [e1, e2, e3, e4, e5, e6, w2, w3, j1, j2, List.length_map, Bool.not_false, Bool.not_true, hb, push_cast, simprocAttr]) | (refine at_bW (fun hb => ?_) (fun hb => ?_) <;> simp only [e1, e2, e3, e4, e5, e6, w2, w3, j1, j2, List.length_map, Bool.not_false, Bool.not_true, hb, push_cast, simprocAttr]) | (refine at_callD (by simp [clB, idsL, idsA, hget]) ?_; (try simp only [push_cast, simprocAttr]); first | (refine rcd_v (hI) ?_; simp only [e1, e2, e3, e4, e5, e6, w2, w3, j1, j2, List.length_map, Bool.not_false, Bool.not_true, push_cast, simprocAttr]) | (refine rcd_d (hI) (by simp [flatV, flatL, ctC, ndC, cmC]) (by simp [ren, ctC, ndC, cmC]) ?_; simp only [e1, e2, e3, e4, e5, e6, w2, w3, j1, j2, List.length_map, Bool.not_false, Bool.not_true, push_cast, simprocAttr]) | (refine rcd_v (hS) ?_; simp only [e1, e2, e3, e4, e5, e6, w2, w3, j1, j2, List.length_map, Bool.not_false, Bool.not_true, push_cast, simprocAttr]) | (refine rcd_d (hS) (by simp [flatV, flatL, ctC, ndC, cmC]) (by simp [ren, ctC, ndC, cmC]) ?_; simp only [e1, e2, e3, e4, e5, e6, w2, w3, j1, j2, List.length_map, Bool.not_false, Bool.not_true, push_cast, simprocAttr]) | (refine rcd_v (hF) ?_; simp only [e1, e2, e3, e4, e5, e6, w2, w3, j1, j2, List.length_map, Bool.not_false, Bool.not_true, push_cast, simprocAttr]) | (refine rcd_d (hF) (by simp [flatV, flatL, ctC, ndC, cmC]) (by simp [ren, ctC, ndC, cmC]) ?_; simp only [e1, e2, e3, e4, e5, e6, w2, w3, j1, j2, List.length_map, Bool.not_false, Bool.not_true, push_cast, simprocAttr])) | (refine at_done (by kernel_rfl) (by kernel_rfl) (go_on ?_); (try simp only [e1, e2, e3, e4, e5, e6, w2, w3, j1, j2, List.length_map, Bool.not_false, Bool.not_true, push_cast, simprocAttr]))
                  (try simp only [w1, push_cast, simprocAttr])
                  refine at_fin ⟨(k + 1, d.name), ⟨by dsimp only; omega, by dsimp only; omega, by dsimp only; omega, ?_, .inr ⟨k, d, rfl, hk, rfl⟩⟩, by dsimp only; omega, ?_⟩
                  · rw [h4]; simp [e1, e2, e3, h400, hlt2]
                  · (refine wk_ok ?_ ?_ ?_ ?_ <;> simp [leL, leH, idsL, idsA, idsR, inH, hget, sameRow, upA, hvA, dsts, dstO, setA_0, setA_1, setA_8, List.append, List.cons_append, List.nil_append])
                · have e6 : leI d.name p.name = true := leI_t (by omega)
                  refine at_draw rfl (by kernel_rfl) ?_; simp only [push_cast, simprocAttr]
                  repeat' first | (refine at_bWn (fun hb => ?_) (fun hb => ?_) <;> simp only [e1, e2, e3, e4, e5, e6, w2, w3, j1, j2, List.length_map, Bool.not_false, Bool.not_true, hb, push_cast, simprocAttr]) | (refine at_bW (fun hb => ?_) (fun hb => ?_) <;> simp only [e1, e2, e3, e4, e5, e6, w2, w3, j1, j2, List.length_map, Bool.not_false, Bool.not_true, hb, push_cast, simprocAttr]) | (refine at_callD (by simp [clB, idsL, idsA, hget]) ?_; (try simp only [push_cast, simprocAttr]); first | (refine rcd_v (hI) ?_; simp only [e1, e2, e3, e4, e5, e6, w2, w3, j1, j2, List.length_map, Bool.not_false, Bool.not_true, push_cast, simprocAttr]) | (refine rcd_d (hI) (by simp [flatV, flatL, ctC, ndC, cmC]) (by simp [ren, ctC, ndC, cmC]) ?_; simp only [e1, e2, e3, e4, e5, e6, w2, w3, j1, j2, List.length_map, Bool.not_false, Bool.not_true, push_cast, simprocAttr]) | (refine rcd_v (hS) ?_; simp only [e1, e2, e3, e4, e5, e6, w2, w3, j1, j2, List.length_map, Bool.not_false, Bool.not_true, push_cast, simprocAttr]) | (refine rcd_d (hS) (by simp [flatV, flatL, ctC, ndC, cmC]) (by simp [ren, ctC, ndC, cmC]) ?_; simp only [e1, e2, e3, e4, e5, e6, w2, w3, j1, j2, List.length_map, Bool.not_false, Bool.not_true, push_cast, simprocAttr]) | (refine rcd_v (hF) ?_; simp only [e1, e2, e3, e4, e5, e6, w2, w3, j1, j2, List.length_map, Bool.not_false, Bool.not_true, push_cast, simprocAttr]) | (refine rcd_d (hF) (by simp [flatV, flatL, ctC, ndC, cmC]) (by simp [ren, ctC, ndC, cmC]) ?_; simp only [e1, e2, e3, e4, e5, e6, w2, w3, j1, j2, List.length_map, Bool.not_false, Bool.not_true, push_cast, simprocAttr])) | (refine at_done (by kernel_rfl) (by kernel_rfl) (go_on ?_); (try simp only [e1, e2, e3, e4, e5, e6, w2, w3, j1, j2, List.length_map, Bool.not_false, Bool.not_true, push_cast, simprocAttr]))
                  (try simp only [Bool.not_false, push_cast, simprocAttr])
                  refine at_ret ?_; simp only [Try.results33, push_cast, simprocAttr]
                  simp [vX, h4, hlt2]
            · have e4 : ltI 400 ((d.safe.length : Int) + d.fresh.length) = true := ltI_t (by omega)
              refine at_draw rfl (by kernel_rfl) ?_; simp only [push_cast, simprocAttr]
              repeat' first | (refine at_bWn (fun hb => ?_) (fun hb => ?_) <;> simp only [e1, e2, e3, e4, w3, List.length_map, Bool.not_false, Bool.not_true, hb, push_cast, simprocAttr]) | (refine at_bW (fun hb => ?_) (fun hb => ?_) <;> simp only [e1, e2, e3, e4, w3, List.length_map, Bool.not_false, Bool.not_true, hb, push_cast, simprocAttr]) | (refine at_callD (by simp [clB, idsL, idsA, hget]) ?_; (try simp only [push_cast, simprocAttr]); first | (refine rcd_v (hI) ?_; simp only [e1, e2, e3, e4, w3, List.length_map, Bool.not_false, Bool.not_true, push_cast, simprocAttr]) | (refine rcd_d (hI) (by simp [flatV, flatL, ctC, ndC, cmC]) (by simp [ren, ctC, ndC, cmC]) ?_; simp only [e1, e2, e3, e4, w3, List.length_map, Bool.not_false, Bool.not_true, push_cast, simprocAttr]) | (refine rcd_v (hS) ?_; simp only [e1, e2, e3, e4, w3, List.length_map, Bool.not_false, Bool.not_true, push_cast, simprocAttr]) | (refine rcd_d (hS) (by simp [flatV, flatL, ctC, ndC, cmC]) (by simp [ren, ctC, ndC, cmC]) ?_; simp only [e1, e2, e3, e4, w3, List.length_map, Bool.not_false, Bool.not_true, push_cast, simprocAttr]) | (refine rcd_v (hF) ?_; simp only [e1, e2, e3, e4, w3, List.length_map, Bool.not_false, Bool.not_true, push_cast, simprocAttr]) | (refine rcd_d (hF) (by simp [flatV, flatL, ctC, ndC, cmC]) (by simp [ren, ctC, ndC, cmC]) ?_; simp only [e1, e2, e3, e4, w3, List.length_map, Bool.not_false, Bool.not_true, push_cast, simprocAttr])) | (refine at_done (by kernel_rfl) (by kernel_rfl) (go_on ?_); (try simp only [e1, e2, e3, e4, w3, List.length_map, Bool.not_false, Bool.not_true, push_cast, simprocAttr]))
              (try simp only [Bool.not_false, push_cast, simprocAttr])
              refine at_ret ?_; simp only [Try.results33, push_cast, simprocAttr]
              simp [vX, h4, h400]
    · have h5 := lt_ff hg
      (try simp only [hg, push_cast, simprocAttr])
      refine at_ret ?_; simp only [Try.results33, push_cast, simprocAttr]
      rw [List.drop_of_length_le h5] at h4
      simp [vX, h4, diskFrom]
end Go.Proofs.Ytepcabenjikhgaa
/-
  Walks: disks: the reference's copies, l31Without, l31With.
-/
namespace Go.Proofs.Ytepcabenjikhgaa
open Go Go.RowKit Go.Proofs
attribute [local irreducible] RWp AW run kPe pe Kt effA gd gu br retR RDp runD kPeD brW gW effD
set_option maxRecDepth 100000
theorem l31Find_pc (bs : List BD) (hn : bs.length < 4294967281) (nm : Int) : PC Try.prog 44 [blsA bs, iA nm] (vI (ixB bs nm)) := by
  refine pc_enter Try.func44 rfl rfl fun w0 fb => go_on ?_; (try simp only [Try.ntmps44, push_cast, simprocAttr])
  refine at_loop (X := Nat) (fun k => [(5, iA k)]) (fun _ => []) (fun k => k ≤ bs.length ∧ ixB bs nm = idxF (fun d => decide (d.name = nm)) k (bs.drop k)) (fun k => bs.length - k) 0 ⟨Nat.zero_le _, rfl⟩ ?_ ?_
  · (refine wk_ok ?_ ?_ ?_ ?_ <;> simp [leL, leH, idsL, idsA, idsR, inH, hget, sameRow, upA, hvA, dsts, dstO, setA_0, setA_1, setA_8, List.append, List.cons_append, List.nil_append])
  · rintro k ⟨h1, h2⟩
    simp only [upA, hvA, dsts, dstO, setA_0, setA_1, setA_8, List.append, List.cons_append, List.nil_append]
    refine go_on ?_
    (try simp only [List.length_map, push_cast, simprocAttr])
    refine at_b (fun hg => ?_) (fun hg => ?_)
    · have hlt := lt_tt hg
      obtain ⟨x, hk⟩ := get_of_lt hlt
      have i1 := ix_n hk
      have i2 := map_get bC hk
      simp only [bC] at i2
      rw [drop_of_get hk] at h2
      have w1 := wr ((k : Int) + 1) (by omega)
      (try simp only [hg, i1, i2, push_cast, simprocAttr])
      by_cases hx : x.name = nm
      · have e := eqI_t hx
        (try simp only [e, push_cast, simprocAttr])
        refine at_ret ?_; simp only [Try.results44, push_cast, simprocAttr]
        rw [h2]
        simp [vX, idxF, hx]
      · have e := eqI_f hx
        (try simp only [e, w1, push_cast, simprocAttr])
        refine at_fin ⟨k + 1, ⟨by omega, by rw [h2]; simp [idxF, hx]⟩, by omega, ?_⟩
        (refine wk_ok ?_ ?_ ?_ ?_ <;> simp [leL, leH, idsL, idsA, idsR, inH, hget, sameRow, upA, hvA, dsts, dstO, setA_0, setA_1, setA_8, List.append, List.cons_append, List.nil_append])
    · have h3 := lt_ff hg
      (try simp only [hg, push_cast, simprocAttr])
      refine at_ret ?_; simp only [Try.results44, push_cast, simprocAttr]
      rw [List.drop_of_length_le h3] at h2
      rw [h2]
      simp [vX, idxF]
theorem l31Copy_pc (d : BD) (h : SmD d) : PC Try.prog 55 [blobA d] (rX (.agg [iA d.name, .o 0 d.safe.length, .o 1 d.fresh.length]) [rowZ d.safe, rowZ d.fresh]) := by
  have h1 := h.s
  have h2 := h.f
  unfold blobA bC
  refine pc_enter Try.func55 rfl rfl fun w0 fb => go_on ?_; (try simp only [Try.ntmps55, push_cast, simprocAttr])
  refine at_draw rfl (by kernel_rfl) ?_; simp only [push_cast, simprocAttr]
  (try simp only [effD_app2, push_cast, simprocAttr])
  refine at_chkD (by omega) ?_
  (try simp only [effD_app2, push_cast, simprocAttr])
  refine at_chkD (by omega) ?_
  (try simp only [push_cast, simprocAttr])
  refine at_done (by kernel_rfl) (by kernel_rfl) (go_on ?_)
  (try simp only [push_cast, simprocAttr])
  refine at_ret ?_; simp only [Try.results55, push_cast, simprocAttr]
  simp [rX, ixOf]
theorem l31Copy_d (d : BD) (h : SmD d) : PC Try.prog 55 [blobA d] (vX (blobA d)) := by
  have := (l31Copy_pc d h).frzX
  unfold blobA bC at *
  simpa [viewN, hpOf, hget, isC, tk] using this
theorem l31Without_pc (bs : List BD) (hs : SmB bs) (nm : Int) : PC Try.prog 57 [blsA bs, iA nm] (rX (.o 0 (bs.filter fun x => decide (x.name ≠ nm)).length) [rowB (bs.filter fun x => decide (x.name ≠ nm))]) := by
  have hn := hs.n
  refine pc_enter Try.func57 rfl rfl fun w0 fb => go_on ?_; (try simp only [Try.ntmps57, push_cast, simprocAttr])
  refine at_loop (X := Nat) (fun k => [(5, .o 7 ((bs.take k).filter fun x => decide (x.name ≠ nm)).length), (6, iA k), (7, .any)]) (fun k => [(4, ⟨55, 3, [], true⟩), (7, rowB ((bs.take k).filter fun x => decide (x.name ≠ nm)))]) (fun k => k ≤ bs.length) (fun k => bs.length - k) 0 (Nat.zero_le _) ?_ ?_
  · (refine wk_ok ?_ ?_ ?_ ?_ <;> simp [leL, leH, idsL, idsA, idsR, inH, hget, sameRow, upA, hvA, dsts, dstO, setA_0, setA_1, setA_8, List.append, List.cons_append, List.nil_append])
  · rintro k hk
    simp only [upA, hvA, dsts, dstO, setA_0, setA_1, setA_8, List.append, List.cons_append, List.nil_append]
    refine go_on ?_
    (try simp only [List.length_map, push_cast, simprocAttr])
    have hfl := List.length_filter_le (fun x : BD => decide (x.name ≠ nm)) (bs.take k)
    have hfl2 : (bs.take k).length ≤ k := by rw [List.length_take]; omega
    refine at_b (fun hg => ?_) (fun hg => ?_)
    · have hlt := lt_tt hg
      obtain ⟨x, hx⟩ := get_of_lt hlt
      have i1 := ix_n hx
      have i2 := map_get bC hx
      have hC := l31Copy_d x (hs.d x (mem_of_get hx))
      unfold blobA at hC
      simp only [bC] at i2 hC
      have w1 := wr ((k : Int) + 1) (by omega)
      have e : bs.take (k + 1) = bs.take k ++ [x] := by rw [List.take_add_one, hx]; rfl
      (try simp only [hg, i1, i2, push_cast, simprocAttr])
      by_cases hxn : x.name = nm
      · have e1 := eqI_t hxn
        have ef : (bs.take (k + 1)).filter (fun x => decide (x.name ≠ nm)) = (bs.take k).filter (fun x => decide (x.name ≠ nm)) := by rw [e, List.filter_append]; simp [hxn]
        (try simp only [e1, Bool.not_true, w1, push_cast, simprocAttr])
        refine at_fin ⟨k + 1, by omega, by omega, ?_⟩
        rw [ef]
        (refine wk_ok ?_ ?_ ?_ ?_ <;> simp [leL, leH, idsL, idsA, idsR, inH, hget, sameRow, upA, hvA, dsts, dstO, setA_0, setA_1, setA_8, List.append, List.cons_append, List.nil_append])
      · have e1 := eqI_f hxn
        have ef : (bs.take (k + 1)).filter (fun x => decide (x.name ≠ nm)) = (bs.take k).filter (fun x => decide (x.name ≠ nm)) ++ [x] := by rw [e, List.filter_append]; simp [hxn]
        (try simp only [e1, Bool.not_false, i1, i2, push_cast, simprocAttr])
        ((try simp only [push_cast, simprocAttr]); refine at_share2 (by simp [isC2, isC]) (by first | rfl | simp [ren]) (hC) (go_on ?_); (try simp only [push_cast, simprocAttr]))
        refine at_chk (by omega) ?_
        (try simp only [w1, push_cast, simprocAttr])
        refine at_fin ⟨k + 1, by omega, by omega, ?_⟩
        rw [ef, List.length_append]
        (refine wk_ok ?_ ?_ ?_ ?_ <;> simp [bC, leL, leH, idsL, idsA, idsR, inH, hget, sameRow, upA, hvA, dsts, dstO, setA_0, setA_1, setA_8, List.append, List.cons_append, List.nil_append])
    · have h3 := lt_ff hg
      have hk' : k = bs.length := by omega
      have hT : bs.take k = bs := by rw [hk', List.take_length]
      rw [hT]
      (try simp only [hg, push_cast, simprocAttr])
      refine at_ret ?_; simp only [Try.results57, push_cast, simprocAttr]
      simp [rX, ixOf]
theorem l31Without_d (bs : List BD) (hs : SmB bs) (nm : Int) : PC Try.prog 57 [blsA bs, iA nm] (vX (blsA (bs.filter fun x => decide (x.name ≠ nm)))) := by
  have := (l31Without_pc bs hs nm).frzX
  simpa [viewN, hpOf, hget, isC, tk] using this
end Go.Proofs.Ytepcabenjikhgaa
/-
  Walks: disks: l31With; the reference's DiskRename, DiskWrite.
-/
namespace Go.Proofs.Ytepcabenjikhgaa
open Go Go.RowKit Go.Proofs
theorem insB_len (d : BD) : ∀ l : List BD, (insB d l).length = l.length + 1
  | [] => rfl
  | x :: r => by
    unfold insB
    split
    · simp
    · simp [insB_len d r]
attribute [local irreducible] RWp AW run kPe pe Kt effA gd gu br retR RDp runD kPeD brW gW effD
set_option maxRecDepth 100000
theorem l31With_d (bs : List BD) (hs : SmB bs) (hn : bs.length ≤ 1000) (d : BD) (hd : SmD d) : PC Try.prog 45 [blsA bs, blobA d] (vX (blsA (withB bs d))) := by
  have hW := l31Without_d bs hs d.name
  have hC := l31Copy_d d hd
  obtain ⟨R, hR⟩ : ∃ R, R = bs.filter fun x => decide (x.name ≠ d.name) := ⟨_, rfl⟩
  have hRn : R.length ≤ 1000 := by rw [hR]; have := List.length_filter_le (fun x : BD => decide (x.name ≠ d.name)) bs; omega
  have hwb : withB bs d = insB d R := by rw [hR]; rfl
  rw [← hR] at hW
  rw [hwb]
  have hf : PC Try.prog 45 [blsA bs, blobA d] (rX (.o 0 (insB d R).length) [rowB (insB d R)]) := by
    unfold blobA at *
    simp only [bC] at *
    refine pc_enter Try.func45 rfl rfl fun w0 fb => go_on ?_; (try simp only [Try.ntmps45, push_cast, simprocAttr])
    ((try simp only [push_cast, simprocAttr]); refine at_share2 (by simp [isC2, isC]) (by first | rfl | simp [ren]) (hW) (go_on ?_); (try simp only [push_cast, simprocAttr]))
    refine at_loop (X := Nat × Bool × List BD) (fun x => [(5, .o 9 x.2.2.length), (7, bA x.2.1), (8, iA x.1), (9, .any)]) (fun x => [(3, ⟨55, 3, [bC d], true⟩), (4, ⟨55, 3, [], true⟩), (9, rowB x.2.2)])
      (fun x => x.1 ≤ R.length ∧ x.2.2 ++ (if x.2.1 = true then R.drop x.1 else insB d (R.drop x.1)) = insB d R) (fun x => R.length - x.1) (0, false, []) ⟨Nat.zero_le _, by simp⟩ ?_ ?_
    · (refine wk_ok ?_ ?_ ?_ ?_ <;> simp [bC, leL, leH, idsL, idsA, idsR, inH, hget, sameRow, upA, hvA, dsts, dstO, setA_0, setA_1, setA_8, List.append, List.cons_append, List.nil_append])
    · rintro ⟨k, dn, out⟩ ⟨h1, h2⟩
      simp only at h1 h2
      simp only [upA, hvA, dsts, dstO, setA_0, setA_1, setA_8, List.append, List.cons_append, List.nil_append]
      refine go_on ?_
      (try simp only [List.length_map, push_cast, simprocAttr])
      have hil := insB_len d R
      have hol : out.length ≤ 1001 := by
        have := congrArg List.length h2
        rw [List.length_append, hil] at this
        omega
      refine at_b (fun hg => ?_) (fun hg => ?_)
      · have hlt := lt_tt hg
        obtain ⟨x, hx⟩ := get_of_lt hlt
        have i1 := ix_n hx
        have i2 := map_get bC hx
        simp only [bC] at i2
        have w1 := wr ((k : Int) + 1) (by omega)
        rw [drop_of_get hx] at h2
        (try simp only [hg, push_cast, simprocAttr])
        cases dn with
        | true =>
          simp only [if_true] at h2
          refine at_draw rfl (by kernel_rfl) ?_; simp only [push_cast, simprocAttr]
          (try simp only [i1, i2, bC, Bool.not_true, push_cast, simprocAttr])
          repeat' first | (refine at_bWn (fun hb => ?_) (fun hb => ?_) <;> simp only [i1, i2, bC, Bool.not_true, hb, push_cast, simprocAttr]) | (refine at_bW (fun hb => ?_) (fun hb => ?_) <;> simp only [i1, i2, bC, Bool.not_true, hb, push_cast, simprocAttr])  | (refine at_done (by kernel_rfl) (by kernel_rfl) (go_on ?_); (try simp only [i1, i2, bC, Bool.not_true, push_cast, simprocAttr]))
          (try simp only [i1, i2, push_cast, simprocAttr])
          refine at_chk (by omega) ?_
          (try simp only [w1, push_cast, simprocAttr])
          refine at_fin ⟨(k + 1, true, out ++ [x]), ⟨by dsimp only; omega, by simpa using h2⟩, by dsimp only; omega, ?_⟩
          (refine wk_ok ?_ ?_ ?_ ?_ <;> simp [bC, leL, leH, idsL, idsA, idsR, inH, hget, sameRow, upA, hvA, dsts, dstO, setA_0, setA_1, setA_8, List.append, List.cons_append, List.nil_append])
        | false =>
          simp only [Bool.false_eq_true, if_false] at h2
          by_cases hl : d.name < x.name
          · have e1 : ltI d.name x.name = true := ltI_t hl
            have h3 : out ++ (d :: x :: R.drop (k + 1)) = insB d R := by rw [← h2]; simp [insB, hl]
            have hTk : List.take (out.length + 1) (List.map bC out ++ [[iA d.name, intsA d.safe, intsA d.fresh]]) = List.map bC out ++ [[iA d.name, intsA d.safe, intsA d.fresh]] := List.take_of_length_le (by simp)
            refine at_draw rfl (by kernel_rfl) ?_; simp only [push_cast, simprocAttr]
            (try simp only [i1, i2, e1, bC, Bool.not_false, push_cast, simprocAttr])
            repeat' first | (refine at_bWn (fun hb => ?_) (fun hb => ?_) <;> simp only [i1, i2, e1, bC, Bool.not_false, hb, push_cast, simprocAttr]) | (refine at_bW (fun hb => ?_) (fun hb => ?_) <;> simp only [i1, i2, e1, bC, Bool.not_false, hb, push_cast, simprocAttr])  | (refine at_done (by kernel_rfl) (by kernel_rfl) (go_on ?_); (try simp only [i1, i2, e1, bC, Bool.not_false, push_cast, simprocAttr]))
            (try simp only [bC, push_cast, simprocAttr])
            ((try simp only [push_cast, simprocAttr]); refine at_share2 (by simp [isC2, isC]) (by first | rfl | simp [ren]) (hC) (go_on ?_); (try simp only [push_cast, simprocAttr]))
            refine at_chk (by omega) ?_
            (try simp only [i1, i2, push_cast, simprocAttr])
            refine at_chk (by omega) ?_
            (try simp only [w1, push_cast, simprocAttr])
            refine at_fin ⟨(k + 1, true, out ++ [d, x]), ⟨by dsimp only; omega, by simpa using h3⟩, by dsimp only; omega, ?_⟩
            (refine wk_ok ?_ ?_ ?_ ?_ <;> simp [bC, hTk, leL, leH, idsL, idsA, idsR, inH, hget, sameRow, upA, hvA, dsts, dstO, setA_0, setA_1, setA_8, List.append, List.cons_append, List.nil_append])
          · have e1 : ltI d.name x.name = false := ltI_f (by omega)
            have h3 : out ++ (x :: insB d (R.drop (k + 1))) = insB d R := by rw [← h2]; simp [insB, hl]
            refine at_draw rfl (by kernel_rfl) ?_; simp only [push_cast, simprocAttr]
            (try simp only [i1, i2, e1, bC, Bool.not_false, push_cast, simprocAttr])
            repeat' first | (refine at_bWn (fun hb => ?_) (fun hb => ?_) <;> simp only [i1, i2, e1, bC, Bool.not_false, hb, push_cast, simprocAttr]) | (refine at_bW (fun hb => ?_) (fun hb => ?_) <;> simp only [i1, i2, e1, bC, Bool.not_false, hb, push_cast, simprocAttr])  | (refine at_done (by kernel_rfl) (by kernel_rfl) (go_on ?_); (try simp only [i1, i2, e1, bC, Bool.not_false, push_cast, simprocAttr]))
            (try simp only [i1, i2, push_cast, simprocAttr])
            refine at_chk (by omega) ?_
            (try simp only [w1, push_cast, simprocAttr])
            refine at_fin ⟨(k + 1, false, out ++ [x]), ⟨by dsimp only; omega, by simpa using h3⟩, by dsimp only; omega, ?_⟩
            (refine wk_ok ?_ ?_ ?_ ?_ <;> simp [bC, leL, leH, idsL, idsA, idsR, inH, hget, sameRow, upA, hvA, dsts, dstO, setA_0, setA_1, setA_8, List.append, List.cons_append, List.nil_append])
      · have h3 := lt_ff hg
        rw [List.drop_of_length_le h3] at h2
        (try simp only [hg, push_cast, simprocAttr])
        cases dn with
        | true =>
          simp only [if_true, List.append_nil] at h2
          (try simp only [Bool.not_true, push_cast, simprocAttr])
          refine at_ret ?_; simp only [Try.results45, push_cast, simprocAttr]
          rw [← h2]
          simp [rX, ixOf]
        | false =>
          simp only [Bool.false_eq_true, if_false, insB] at h2
          (try simp only [Bool.not_false, bC, push_cast, simprocAttr])
          ((try simp only [push_cast, simprocAttr]); refine at_share2 (by simp [isC2, isC]) (by first | rfl | simp [ren]) (hC) (go_on ?_); (try simp only [push_cast, simprocAttr]))
          refine at_chk (by omega) ?_
          (try simp only [push_cast, simprocAttr])
          refine at_ret ?_; simp only [Try.results45, push_cast, simprocAttr]
          rw [← h2]
          simp [rX, ixOf, bC]
  have := hf.frzX
  simpa [viewN, hpOf, hget, isC, tk] using this
end Go.Proofs.Ytepcabenjikhgaa
/-
  Walks: disks: the reference's DiskRename, DiskWrite.
-/
namespace Go.Proofs.Ytepcabenjikhgaa
open Go Go.RowKit Go.Proofs
attribute [local irreducible] RWp AW run kPe pe Kt effA gd gu br retR RDp runD kPeD brW gW effD
set_option maxRecDepth 100000
end Go.Proofs.Ytepcabenjikhgaa
/-
  The abstract machine: a region that draws its order, one call within that borrows rows.
-/
namespace Go.Proofs.Ytepcabenjikhgaa
open Go Go.RowKit

section
variable {P : Program}
variable {w0 : World} {lent : Lent} {Q : Exit → Act → World → Prop}
end

end Go.Proofs.Ytepcabenjikhgaa
/-
  The abstract machine: a drawn region with one call that borrows a row, run as its text stands.
-/
namespace Go.Proofs.Ytepcabenjikhgaa
open Go Go.RowKit

section
variable {P : Program} {w0 : World} {lent : Lent} {Q : Exit → Act → World → Prop}
end

end Go.Proofs.Ytepcabenjikhgaa
/-
  The abstract machine: a region that draws its order, several calls within that borrow a row, and operations that wait for none of them.
-/
namespace Go.Proofs.Ytepcabenjikhgaa
open Go Go.RowKit

/-! ### Moves of slots that nothing writes: they see no row -/
section
variable {P : Program} {w0 : World} {lent : Lent} {Q : Exit → Act → World → Prop}
end

end Go.Proofs.Ytepcabenjikhgaa
/-
  The abstract machine: what a call that was lent rows leaves anew, read as data.
-/
namespace Go.Proofs.Ytepcabenjikhgaa
open Go Go.RowKit

theorem hp_app {l l' : List Row} {r : Nat} {row : Row} (h : hget (hpOf 0 l) r = some row) : hget (hpOf 0 (l ++ l')) r = some row := by
  rw [hget_hpOf] at h ⊢
  rw [if_pos (Nat.zero_le _)] at h ⊢
  have := lt_of_some h
  rw [List.getElem?_append_left this]
  exact h
theorem live_app {l l' : List Row} {loc : Loc} {b : Nat} (h : Live (hpOf 0 l) loc b) : Live (hpOf 0 (l ++ l')) loc b := by
  rcases h with ⟨r, row, c, h1, h2⟩ | h
  · exact .inl ⟨r, row, c, hp_app h1, h2⟩
  · exact .inr h
theorem PCL.frz {P : Program} {f : FuncId} {lr : List Row} {mv : Nat → Bool} {args : List AV} {D D' : AV → List Row → List Row → Prop} (h : PCL P f lr mv args D)
    (hd : ∀ rv lr' rows, D rv lr' rows → (idsA rv).all (fun r => decide (lr.length ≤ r)) = true ∧ D' (viewN 3 (hpOf 0 (lr' ++ rows)) rv) lr' []) : PCL P f lr mv args D' := by
  refine ⟨h.1, fun w fb loc vs h1 h2 h3 => (h.2 w fb loc vs h1 h2 h3).mono ?_⟩
  rintro e w' ⟨rv, lr', rows, v, loc', hD, rfl, hL⟩
  obtain ⟨hi, hD'⟩ := hd _ _ _ hD
  have hC : ∀ {x u}, C (Live (hpOf 0 (lr' ++ rows)) loc') 0 w' x u → C (Live (hpOf 0 (lr' ++ [])) loc') 0 w' x u := fun hx => hx.mono (Nat.le_refl _) (Nat.le_refl _) fun b _ _ hnl => ⟨fun hl => by
    rw [List.append_nil] at hl
    exact hnl (live_app hl), rfl⟩
  refine ⟨_, lr', [], v, loc', hD', rfl, ⟨hL.len, hL.os, hL.tape, hL.output, hL.size, hL.keep, hL.fbe, hL.stay, .cl ?_, fun r row hr => ?_, fun r r' row row' b c c' hr hr' => ?_, fun r row b c hr => ?_⟩⟩
  · refine view_frz (fun r row hr => (hL.rw r row hr).2) hL.inj (fun r row b c hr hl hf => ?_) (fun r row' hr => ⟨row', ?_⟩) 3 rv v hL.val ?_
    · rw [hL.fbe] at hf
      obtain ⟨g1, g2⟩ := h1.fbl b hf
      rcases hL.own r row b c hr hl with g3 | g3
      · omega
      · exact g2 g3
    · rw [List.append_nil] at hr
      exact hp_app hr
    · refine List.all_eq_true.2 fun r hr => ?_
      have h4 := of_decide_eq_true (List.all_eq_true.1 hi r hr)
      rw [Bool.and_eq_true]
      refine ⟨?_, ?_⟩
      · have : hget (hpOf 0 (lr' ++ [])) r = none := by
          rw [hget_hpOf, if_pos (Nat.zero_le _), List.append_nil]
          exact List.getElem?_eq_none (by have := hL.len; omega)
        unfold inH
        rw [this]
        rfl
      · cases hg : hget (hpOf 0 (lr' ++ rows)) r with
        | none => rfl
        | some row => exact (hL.rw r row hg).1
  · rw [List.append_nil] at hr
    obtain ⟨g1, g2, xs, g3, g4⟩ := hL.rw r row (hp_app hr)
    refine ⟨g1, g2, xs, g3, fun k e j a he ha => ?_⟩
    obtain ⟨u, g5, g6, _, g8⟩ := g4 k e j a he ha
    have := hC (g8 g1)
    exact ⟨u, g5, g6, .cl this, fun _ => this⟩
  · rw [List.append_nil] at hr hr'
    exact hL.inj r r' row row' b c c' (hp_app hr) (hp_app hr')
  · rw [List.append_nil] at hr
    exact hL.own r row b c (hp_app hr)

end Go.Proofs.Ytepcabenjikhgaa
/-
  Walks: disks: the draws.
-/
namespace Go.Proofs.Ytepcabenjikhgaa
open Go Go.RowKit Go.Proofs
def byoD (z : List Int) (p c : Nat) (rv : AV) (lr' rows : List Row) : Prop := ∃ l : List Int, l.length ≤ 200 ∧ rv = .o 1 l.length ∧ RdD z p c lr' ∧ rows = [rowZ l]
def bytD (z : List Int) (p c : Nat) (rv : AV) (lr' rows : List Row) : Prop := ∃ l : List Int, l.length ≤ 200 ∧ rv = intsA l ∧ RdD z p c lr' ∧ rows = []
structure DrB (l : List BD) : Prop where
  n : l.length ≤ 4
  d : ∀ d ∈ l, d.safe.length ≤ 200 ∧ d.fresh.length ≤ 200
theorem DrB.sm {l : List BD} (h : DrB l) : SmB l := ⟨by have := h.n; omega, fun d hd => ⟨by have := h.d d hd; omega, by have := h.d d hd; omega⟩⟩
def dsoD (z : List Int) (p c : Nat) (rv : AV) (lr' rows : List Row) : Prop := ∃ l : List BD, DrB l ∧ rv = .o 1 l.length ∧ RdD z p c lr' ∧ rows = [rowB l]
def dsaD (z : List Int) (p c : Nat) (rv : AV) (lr' rows : List Row) : Prop := ∃ l : List BD, DrB l ∧ rv = blsA l ∧ RdD z p c lr' ∧ rows = []
def nmD (z : List Int) (p c : Nat) (rv : AV) (lr' rows : List Row) : Prop := ∃ k : Nat, k ≤ 4 ∧ rv = iA k ∧ RdD z p c lr' ∧ rows = []
attribute [local irreducible] RWp AW run kPe pe Kt effA gd gu br retR RDp runD kPeD brW gW effD
set_option maxRecDepth 100000
theorem l92Bytes_pcl0 (z : List Int) (p : Nat) (hr : RdOk z (p + 210)) : PCL Try.prog 51 [rdR z p] (mvF none) [.p 0 0 0] (byoD z p 210) := by
  refine pcl_enter Try.func51 rfl rfl (by simp) fun w0 fb loc => go_on ?_; simp only [Try.ntmps51, hpL, nmL, mvF, renL, decide_true, decide_false, push_cast, simprocAttr]
  (try simp only [push_cast, simprocAttr]); refine call_lend [500000] none (lr := [rdR z p]) (by simp [ndB]) (by first | rfl | simp [rowsOf, hget, rdR, rowS, sC, ndC, cmC]) (by simp [idsL, idsA]) (by simp [mvN]) (by simpa [rnA, ixOf] using pick_pcl z p 8 (hr.le (by omega)) (by omega)) ?_
  rintro rv lr' rows ⟨n8, rfl, hn8, rfl, rfl⟩
  have hn8 := hn8 (by omega)
  (refine ⟨by simp [shB, mvF, rdR, rowS], by simp [frB, baseOf], go_on ?_⟩; simp only [killA, killH, killRow, push_cast, simprocAttr])
  (try simp only [push_cast, simprocAttr]); refine call_lend [500000] none (lr := [rdR z (p + 1)]) (by simp [ndB]) (by first | rfl | simp [rowsOf, hget, rdR, rowS, sC, ndC, cmC]) (by simp [idsL, idsA]) (by simp [mvN]) (by simpa [rnA, ixOf] using pick_pcl z (p + 1) 20 (hr.le (by omega)) (by omega)) ?_
  rintro rv lr' rows ⟨m20, rfl, hm20, rfl, rfl⟩
  (refine ⟨by simp [shB, mvF, rdR, rowS], by simp [frB, baseOf], go_on ?_⟩; simp only [killA, killH, killRow, push_cast, simprocAttr])
  have fin : ∀ (l : List Int) (r : Nat), l.length ≤ 200 → p ≤ r → r ≤ p + 210 → byoD z p 210 (.o 1 l.length) [rdR z r] [rowZ l] := fun l r h1 h2 h3 => ⟨l, h1, rfl, ⟨r, rfl, h2, h3⟩, rfl⟩
  refine at_b (fun hb0 => ?_) (fun hb0 => ?_)
  · (try simp only [hb0, push_cast, simprocAttr])
    refine at_loop (X := Nat × List Int × Nat) (fun x => [(3, .o 6 x.2.1.length), (5, iA x.1), (6, .any)]) (fun x => [(2, ⟨3, 1, [], true⟩), (6, rowZ x.2.1), (500000, rdR z x.2.2)])
      (fun x => x.1 ≤ 200 ∧ x.2.1.length = x.1 ∧ p ≤ x.2.2 ∧ x.2.2 = p + 2 + x.1) (fun x => 200 - x.1) (0, [], p + 1 + 1) ⟨by omega, rfl, by first | (dsimp only; done) | (dsimp only; omega), by first | (dsimp only; done) | (dsimp only; omega)⟩ ?_ ?_
    · (refine wk_frz ?_ ?_ ?_ ?_ <;> simp [rdR, leF, leHF, frzB, idsL, idsA, idsR, inH, hget, sameRow, viewN, tk, upA, hvA, dsts, dstO, setA_0, setA_1, setA_8, List.append, List.cons_append, List.nil_append])
    · rintro ⟨i, l, r⟩ ⟨q1, q2, q3, q4⟩
      simp only at q1 q2 q3 q4
      simp only [upA, hvA, dsts, dstO, setA_0, setA_1, setA_8, List.append, List.cons_append, List.nil_append]
      refine go_on ?_
      (try simp only [push_cast, simprocAttr])
      by_cases hlt : i < 200
      · have i0 : ltI (i : Int) 200 = true := ltI_t (by omega)
        have w1 := wr ((i : Int) + 1) (by omega)
        (try simp only [i0, push_cast, simprocAttr])
        (try simp only [push_cast, simprocAttr]); refine call_lend [500000] none (lr := [rdR z r]) (by simp [ndB]) (by first | rfl | simp [rowsOf, hget, rdR, rowS, sC, ndC, cmC]) (by simp [idsL, idsA]) (by simp [mvN]) (by simpa [rnA, ixOf] using pick_pcl z r 256 (hr.le (by omega)) (by omega)) ?_
        rintro rv lr' rows ⟨k, rfl, hk, rfl, rfl⟩
        (refine ⟨by simp [shB, mvF, rdR, rowS], by simp [frB, baseOf], go_on ?_⟩; simp only [killA, killH, killRow, push_cast, simprocAttr])
        refine at_chk (by omega) ?_
        (try simp only [w1, push_cast, simprocAttr])
        refine at_fin ⟨(i + 1, l ++ [(k : Int)], r + 1), ⟨by dsimp only; omega, by simp [q2], by dsimp only; omega, by dsimp only; omega⟩, by dsimp only; omega, ?_⟩
        simp only [List.length_append, List.length_cons, List.length_nil]
        (refine wk_frz ?_ ?_ ?_ ?_ <;> simp [rdR, inC, leF, leHF, frzB, idsL, idsA, idsR, inH, hget, sameRow, viewN, tk, upA, hvA, dsts, dstO, setA_0, setA_1, setA_8, List.append, List.cons_append, List.nil_append])
      · have i0 : ltI (i : Int) 200 = false := ltI_f (by omega)
        have hin : l.length = 200 := by omega
        (try simp only [i0, push_cast, simprocAttr])
        by_cases hn0 : 0 < 200
        · have j0 : ltI 0 200 = true := ltI_t (by omega)
          (try simp only [j0, push_cast, simprocAttr])
          (try simp only [push_cast, simprocAttr]); refine call_lend [500000] none (lr := [rdR z r]) (by simp [ndB]) (by first | rfl | simp [rowsOf, hget, rdR, rowS, sC, ndC, cmC]) (by simp [idsL, idsA]) (by simp [mvN]) (by simpa [rnA, ixOf] using pick_pcl z r 30 (hr.le (by omega)) (by omega)) ?_
          rintro rv lr' rows ⟨m30, rfl, hm30, rfl, rfl⟩
          (refine ⟨by simp [shB, mvF, rdR, rowS], by simp [frB, baseOf], go_on ?_⟩; simp only [killA, killH, killRow, push_cast, simprocAttr])
          refine at_b (fun hb => ?_) (fun hb => ?_)
          · (try simp only [hb, push_cast, simprocAttr])
            (try simp only [push_cast, simprocAttr]); refine call_lend [500000] none (lr := [rdR z (r + 1)]) (by simp [ndB]) (by first | rfl | simp [rowsOf, hget, rdR, rowS, sC, ndC, cmC]) (by simp [idsL, idsA]) (by simp [mvN]) (by simpa [rnA, ixOf] using pick_pcl z (r + 1) 200 (hr.le (by omega)) (by omega)) ?_
            rintro rv lr' rows ⟨j, rfl, hj, rfl, rfl⟩
            have hj := hj hn0
            (refine ⟨by simp [shB, mvF, rdR, rowS], by simp [frB, baseOf], go_on ?_⟩; simp only [killA, killH, killRow, push_cast, simprocAttr])
            (try simp only [push_cast, simprocAttr]); refine call_lend [500000] none (lr := [rdR z (r + 1 + 1)]) (by simp [ndB]) (by first | rfl | simp [rowsOf, hget, rdR, rowS, sC, ndC, cmC]) (by simp [idsL, idsA]) (by simp [mvN]) (by simpa [rnA, ixOf] using pick_pcl z (r + 1 + 1) 2 (hr.le (by omega)) (by omega)) ?_
            rintro rv lr' rows ⟨m2, rfl, hm2, rfl, rfl⟩
            have hm2 := hm2 (by omega)
            obtain ⟨e, he⟩ := get_of_lt (l := l) (k := j) (by omega)
            have i2 := ix_n he
            have i3 := map_get inC he
            simp only [inC] at i3
            obtain ⟨v, g1, g2⟩ : ∃ v : Int, toIx (m2 : Int) 2 = some m2 ∧ ([[iA (-1)], [iA 256]] : List (List AV))[m2]? = some [iA v] := by
              rcases (show m2 = 0 ∨ m2 = 1 by omega) with rfl | rfl
              · exact ⟨-1, rfl, rfl⟩
              · exact ⟨256, rfl, rfl⟩
            have hset : (l.map inC).set j [iA v] = (l.set j v).map inC := by rw [List.map_set]; rfl
            have hfin := fin (l.set j v) (r + 1 + 1 + 1) (by simp; omega) (by omega) (by omega)
            rw [List.length_set] at hfin
            unfold rowZ at hfin
            (refine ⟨by simp [shB, mvF, rdR, rowS], by simp [frB, baseOf], go_on ?_⟩; simp only [i2, i3, g1, g2, hset, killA, killH, killRow, push_cast, simprocAttr])
            (refine at_retL ?_; simp only [Try.results51, retL, push_cast, simprocAttr]; simpa [show List.range 1 = [0] from rfl, show List.range 2 = [0, 1] from rfl, show List.range 3 = [0, 1, 2] from rfl, nmL, mvF, ndB, ixOf, rowsOf, hget, rdR, rowS] using  hfin)
          · have hfin := fin l (r + 1) (by omega) (by omega) (by omega)
            (try simp only [hb, push_cast, simprocAttr])
            (refine at_retL ?_; simp only [Try.results51, retL, push_cast, simprocAttr]; simpa [show List.range 1 = [0] from rfl, show List.range 2 = [0, 1] from rfl, show List.range 3 = [0, 1, 2] from rfl, nmL, mvF, ndB, ixOf, rowsOf, hget, rdR, rowS] using  hfin)
        · have j0 : ltI 0 200 = false := ltI_f (by omega)
          have hfin := fin l r (by omega) (by omega) (by omega)
          (try simp only [j0, push_cast, simprocAttr])
          (refine at_retL ?_; simp only [Try.results51, retL, push_cast, simprocAttr]; simp [show List.range 1 = [0] from rfl, show List.range 2 = [0, 1] from rfl, show List.range 3 = [0, 1, 2] from rfl, nmL, mvF, ndB, ixOf, rowsOf, hget, rdR, rowS]; exact  hfin)
  · (try simp only [hb0, push_cast, simprocAttr])
    refine at_loop (X := Nat × List Int × Nat) (fun x => [(3, .o 6 x.2.1.length), (5, iA x.1), (6, .any)]) (fun x => [(2, ⟨3, 1, [], true⟩), (6, rowZ x.2.1), (500000, rdR z x.2.2)])
      (fun x => x.1 ≤ n8 ∧ x.2.1.length = x.1 ∧ p ≤ x.2.2 ∧ x.2.2 = p + 2 + x.1) (fun x => n8 - x.1) (0, [], p + 1 + 1) ⟨by omega, rfl, by first | (dsimp only; done) | (dsimp only; omega), by first | (dsimp only; done) | (dsimp only; omega)⟩ ?_ ?_
    · (refine wk_frz ?_ ?_ ?_ ?_ <;> simp [rdR, leF, leHF, frzB, idsL, idsA, idsR, inH, hget, sameRow, viewN, tk, upA, hvA, dsts, dstO, setA_0, setA_1, setA_8, List.append, List.cons_append, List.nil_append])
    · rintro ⟨i, l, r⟩ ⟨q1, q2, q3, q4⟩
      simp only at q1 q2 q3 q4
      simp only [upA, hvA, dsts, dstO, setA_0, setA_1, setA_8, List.append, List.cons_append, List.nil_append]
      refine go_on ?_
      (try simp only [push_cast, simprocAttr])
      by_cases hlt : i < n8
      · have i0 : ltI (i : Int) (n8 : Int) = true := ltI_t (by omega)
        have w1 := wr ((i : Int) + 1) (by omega)
        (try simp only [i0, push_cast, simprocAttr])
        (try simp only [push_cast, simprocAttr]); refine call_lend [500000] none (lr := [rdR z r]) (by simp [ndB]) (by first | rfl | simp [rowsOf, hget, rdR, rowS, sC, ndC, cmC]) (by simp [idsL, idsA]) (by simp [mvN]) (by simpa [rnA, ixOf] using pick_pcl z r 256 (hr.le (by omega)) (by omega)) ?_
        rintro rv lr' rows ⟨k, rfl, hk, rfl, rfl⟩
        (refine ⟨by simp [shB, mvF, rdR, rowS], by simp [frB, baseOf], go_on ?_⟩; simp only [killA, killH, killRow, push_cast, simprocAttr])
        refine at_chk (by omega) ?_
        (try simp only [w1, push_cast, simprocAttr])
        refine at_fin ⟨(i + 1, l ++ [(k : Int)], r + 1), ⟨by dsimp only; omega, by simp [q2], by dsimp only; omega, by dsimp only; omega⟩, by dsimp only; omega, ?_⟩
        simp only [List.length_append, List.length_cons, List.length_nil]
        (refine wk_frz ?_ ?_ ?_ ?_ <;> simp [rdR, inC, leF, leHF, frzB, idsL, idsA, idsR, inH, hget, sameRow, viewN, tk, upA, hvA, dsts, dstO, setA_0, setA_1, setA_8, List.append, List.cons_append, List.nil_append])
      · have i0 : ltI (i : Int) (n8 : Int) = false := ltI_f (by omega)
        have hin : l.length = n8 := by omega
        (try simp only [i0, push_cast, simprocAttr])
        by_cases hn0 : 0 < n8
        · have j0 : ltI 0 (n8 : Int) = true := ltI_t (by omega)
          (try simp only [j0, push_cast, simprocAttr])
          (try simp only [push_cast, simprocAttr]); refine call_lend [500000] none (lr := [rdR z r]) (by simp [ndB]) (by first | rfl | simp [rowsOf, hget, rdR, rowS, sC, ndC, cmC]) (by simp [idsL, idsA]) (by simp [mvN]) (by simpa [rnA, ixOf] using pick_pcl z r 30 (hr.le (by omega)) (by omega)) ?_
          rintro rv lr' rows ⟨m30, rfl, hm30, rfl, rfl⟩
          (refine ⟨by simp [shB, mvF, rdR, rowS], by simp [frB, baseOf], go_on ?_⟩; simp only [killA, killH, killRow, push_cast, simprocAttr])
          refine at_b (fun hb => ?_) (fun hb => ?_)
          · (try simp only [hb, push_cast, simprocAttr])
            (try simp only [push_cast, simprocAttr]); refine call_lend [500000] none (lr := [rdR z (r + 1)]) (by simp [ndB]) (by first | rfl | simp [rowsOf, hget, rdR, rowS, sC, ndC, cmC]) (by simp [idsL, idsA]) (by simp [mvN]) (by simpa [rnA, ixOf] using pick_pcl z (r + 1) n8 (hr.le (by omega)) (by omega)) ?_
            rintro rv lr' rows ⟨j, rfl, hj, rfl, rfl⟩
            have hj := hj hn0
            (refine ⟨by simp [shB, mvF, rdR, rowS], by simp [frB, baseOf], go_on ?_⟩; simp only [killA, killH, killRow, push_cast, simprocAttr])
            (try simp only [push_cast, simprocAttr]); refine call_lend [500000] none (lr := [rdR z (r + 1 + 1)]) (by simp [ndB]) (by first | rfl | simp [rowsOf, hget, rdR, rowS, sC, ndC, cmC]) (by simp [idsL, idsA]) (by simp [mvN]) (by simpa [rnA, ixOf] using pick_pcl z (r + 1 + 1) 2 (hr.le (by omega)) (by omega)) ?_
            rintro rv lr' rows ⟨m2, rfl, hm2, rfl, rfl⟩
            have hm2 := hm2 (by omega)
            obtain ⟨e, he⟩ := get_of_lt (l := l) (k := j) (by omega)
            have i2 := ix_n he
            have i3 := map_get inC he
            simp only [inC] at i3
            obtain ⟨v, g1, g2⟩ : ∃ v : Int, toIx (m2 : Int) 2 = some m2 ∧ ([[iA (-1)], [iA 256]] : List (List AV))[m2]? = some [iA v] := by
              rcases (show m2 = 0 ∨ m2 = 1 by omega) with rfl | rfl
              · exact ⟨-1, rfl, rfl⟩
              · exact ⟨256, rfl, rfl⟩
            have hset : (l.map inC).set j [iA v] = (l.set j v).map inC := by rw [List.map_set]; rfl
            have hfin := fin (l.set j v) (r + 1 + 1 + 1) (by simp; omega) (by omega) (by omega)
            rw [List.length_set] at hfin
            unfold rowZ at hfin
            (refine ⟨by simp [shB, mvF, rdR, rowS], by simp [frB, baseOf], go_on ?_⟩; simp only [i2, i3, g1, g2, hset, killA, killH, killRow, push_cast, simprocAttr])
            (refine at_retL ?_; simp only [Try.results51, retL, push_cast, simprocAttr]; simpa [show List.range 1 = [0] from rfl, show List.range 2 = [0, 1] from rfl, show List.range 3 = [0, 1, 2] from rfl, nmL, mvF, ndB, ixOf, rowsOf, hget, rdR, rowS] using  hfin)
          · have hfin := fin l (r + 1) (by omega) (by omega) (by omega)
            (try simp only [hb, push_cast, simprocAttr])
            (refine at_retL ?_; simp only [Try.results51, retL, push_cast, simprocAttr]; simpa [show List.range 1 = [0] from rfl, show List.range 2 = [0, 1] from rfl, show List.range 3 = [0, 1, 2] from rfl, nmL, mvF, ndB, ixOf, rowsOf, hget, rdR, rowS] using  hfin)
        · have j0 : ltI 0 (n8 : Int) = false := ltI_f (by omega)
          have hfin := fin l r (by omega) (by omega) (by omega)
          (try simp only [j0, push_cast, simprocAttr])
          (refine at_retL ?_; simp only [Try.results51, retL, push_cast, simprocAttr]; simp [show List.range 1 = [0] from rfl, show List.range 2 = [0, 1] from rfl, show List.range 3 = [0, 1, 2] from rfl, nmL, mvF, ndB, ixOf, rowsOf, hget, rdR, rowS]; exact  hfin)
theorem l92Bytes_pcl (z : List Int) (p : Nat) (hr : RdOk z (p + 210)) : PCL Try.prog 51 [rdR z p] (mvF none) [.p 0 0 0] (bytD z p 210) := by
  refine (l92Bytes_pcl0 z p hr).frz ?_
  rintro rv lr' rows ⟨l, h1, rfl, ⟨u, rfl, h2, h3⟩, rfl⟩
  exact ⟨by simp [idsA], l, h1, by simp [viewN, hpOf, hget, isC, tk], ⟨u, rfl, h2, h3⟩, rfl⟩
end Go.Proofs.Ytepcabenjikhgaa
/-
  Walks: disks: the draws: a disk, a number; DrawDiskRename, DrawDiskWrite.
-/
namespace Go.Proofs.Ytepcabenjikhgaa
open Go Go.RowKit Go.Proofs
attribute [local irreducible] RWp AW run kPe pe Kt effA gd gu br retR RDp runD kPeD brW gW effD
set_option maxRecDepth 100000
theorem l92Name_pcl (z : List Int) (p : Nat) (hr : RdOk z (p + 2)) : PCL Try.prog 50 [rdR z p] (mvF none) [.p 0 0 0] (nmD z p 2) := by
  have fin : ∀ (k r : Nat), k ≤ 4 → p ≤ r → r ≤ p + 2 → nmD z p 2 (iA k) [rdR z r] [] := fun k r h1 h2 h3 => ⟨k, h1, rfl, ⟨r, rfl, h2, h3⟩, rfl⟩
  refine pcl_enter Try.func50 rfl rfl (by simp) fun w0 fb loc => go_on ?_; simp only [Try.ntmps50, hpL, nmL, mvF, renL, decide_true, decide_false, push_cast, simprocAttr]
  (try simp only [push_cast, simprocAttr]); refine call_lend [500000] none (lr := [rdR z p]) (by simp [ndB]) (by first | rfl | simp [rowsOf, hget, rdR, rowS, sC, ndC, cmC]) (by simp [idsL, idsA]) (by simp [mvN]) (by simpa [rnA, ixOf] using pick_pcl z p 16 (hr.le (by omega)) (by omega)) ?_
  rintro rv lr' rows ⟨m16, rfl, hm16, rfl, rfl⟩
  (refine ⟨by simp [shB, mvF, rdR, rowS], by simp [frB, baseOf], go_on ?_⟩; simp only [killA, killH, killRow, push_cast, simprocAttr])
  refine at_b (fun hb => ?_) (fun hb => ?_)
  · (try simp only [hb, push_cast, simprocAttr])
    (try simp only [push_cast, simprocAttr]); refine call_lend [500000] none (lr := [rdR z (p + 1)]) (by simp [ndB]) (by first | rfl | simp [rowsOf, hget, rdR, rowS, sC, ndC, cmC]) (by simp [idsL, idsA]) (by simp [mvN]) (by simpa [rnA, ixOf] using pick_pcl z (p + 1) 2 (hr.le (by omega)) (by omega)) ?_
    rintro rv lr' rows ⟨m, rfl, hm, rfl, rfl⟩
    have hm := hm (by omega)
    obtain ⟨k, hk⟩ : ∃ k, k = m * 4 := ⟨_, rfl⟩
    have w1 : IntKind.i64.wrap ((m : Int) * 4) = (k : Int) := by rw [wr _ (by omega)]; omega
    have hfin := fin k (p + 1 + 1) (by omega) (by omega) (by omega)
    (refine ⟨by simp [shB, mvF, rdR, rowS], by simp [frB, baseOf], go_on ?_⟩; simp only [w1, killA, killH, killRow, push_cast, simprocAttr])
    (refine at_retL ?_; simp only [Try.results50, retL, push_cast, simprocAttr]; simpa [show List.range 1 = [0] from rfl, show List.range 2 = [0, 1] from rfl, show List.range 3 = [0, 1, 2] from rfl, nmL, mvF, ndB, ixOf, rowsOf, hget, rdR, rowS] using  hfin)
  · (try simp only [hb, push_cast, simprocAttr])
    (try simp only [push_cast, simprocAttr]); refine call_lend [500000] none (lr := [rdR z (p + 1)]) (by simp [ndB]) (by first | rfl | simp [rowsOf, hget, rdR, rowS, sC, ndC, cmC]) (by simp [idsL, idsA]) (by simp [mvN]) (by simpa [rnA, ixOf] using pick_pcl z (p + 1) 3 (hr.le (by omega)) (by omega)) ?_
    rintro rv lr' rows ⟨m, rfl, hm, rfl, rfl⟩
    have hm := hm (by omega)
    obtain ⟨k, hk⟩ : ∃ k, k = 1 + m := ⟨_, rfl⟩
    have w1 : IntKind.i64.wrap (1 + (m : Int)) = (k : Int) := by rw [wr _ (by omega)]; omega
    have hfin := fin k (p + 1 + 1) (by omega) (by omega) (by omega)
    (refine ⟨by simp [shB, mvF, rdR, rowS], by simp [frB, baseOf], go_on ?_⟩; simp only [w1, killA, killH, killRow, push_cast, simprocAttr])
    (refine at_retL ?_; simp only [Try.results50, retL, push_cast, simprocAttr]; simpa [show List.range 1 = [0] from rfl, show List.range 2 = [0, 1] from rfl, show List.range 3 = [0, 1, 2] from rfl, nmL, mvF, ndB, ixOf, rowsOf, hget, rdR, rowS] using  hfin)
theorem l92Disk_pcl0 (z : List Int) (p : Nat) (hr : RdOk z (p + 2000)) : PCL Try.prog 49 [rdR z p] (mvF none) [.p 0 0 0] (dsoD z p 2000) := by
  have fin : ∀ (l : List BD) (r : Nat), DrB l → p ≤ r → r ≤ p + 2000 → dsoD z p 2000 (.o 1 l.length) [rdR z r] [rowB l] := fun l r h1 h2 h3 => ⟨l, h1, rfl, ⟨r, rfl, h2, h3⟩, rfl⟩
  refine pcl_enter Try.func49 rfl rfl (by simp) fun w0 fb loc => go_on ?_; simp only [Try.ntmps49, hpL, nmL, mvF, renL, decide_true, decide_false, push_cast, simprocAttr]
  refine at_loop (X := Nat × List BD × Nat) (fun x => [(3, .o 6 x.2.1.length), (4, iA x.1), (6, .any)]) (fun x => [(2, ⟨55, 3, [], true⟩), (6, rowB x.2.1), (500000, rdR z x.2.2)])
    (fun x => 1 ≤ x.1 ∧ x.1 ≤ 4 ∧ x.2.1.length + 1 ≤ x.1 ∧ (∀ d ∈ x.2.1, d.safe.length ≤ 200 ∧ d.fresh.length ≤ 200) ∧ p ≤ x.2.2 ∧ x.2.2 + 500 ≤ p + 500 * x.1) (fun x => 4 - x.1) (1, [], p) ⟨by simp, by simp, by simp, by simp, by simp, by dsimp only; omega⟩ ?_ ?_
  · (refine wk_frz ?_ ?_ ?_ ?_ <;> simp [rdR, leF, leHF, frzB, idsL, idsA, idsR, inH, hget, sameRow, viewN, tk, upA, hvA, dsts, dstO, setA_0, setA_1, setA_8, List.append, List.cons_append, List.nil_append])
  · rintro ⟨i, l, r⟩ ⟨q1, q2, q3, q4, q5, q6⟩
    simp only at q1 q2 q3 q4 q5 q6
    simp only [upA, hvA, dsts, dstO, setA_0, setA_1, setA_8, List.append, List.cons_append, List.nil_append]
    refine go_on ?_
    (try simp only [push_cast, simprocAttr])
    by_cases hlt : i ≤ 3
    · have i0 : leI (i : Int) 3 = true := leI_t (by omega)
      have w1 := wr ((i : Int) + 1) (by omega)
      (try simp only [i0, push_cast, simprocAttr])
      (try simp only [push_cast, simprocAttr]); refine call_lend [500000] none (lr := [rdR z r]) (by simp [ndB]) (by first | rfl | simp [rowsOf, hget, rdR, rowS, sC, ndC, cmC]) (by simp [idsL, idsA]) (by simp [mvN]) (by simpa [rnA, ixOf] using pick_pcl z r 3 (hr.le (by omega)) (by omega)) ?_
      rintro rv lr' rows ⟨m3, rfl, hm3, rfl, rfl⟩
      (refine ⟨by simp [shB, mvF, rdR, rowS], by simp [frB, baseOf], go_on ?_⟩; simp only [killA, killH, killRow, push_cast, simprocAttr])
      refine at_b (fun hb => ?_) (fun hb => ?_)
      · (try simp only [hb, push_cast, simprocAttr])
        (try simp only [push_cast, simprocAttr]); refine call_lend [500000] none (lr := [rdR z (r + 1)]) (by simp [ndB]) (by first | rfl | simp [rowsOf, hget, rdR, rowS, sC, ndC, cmC]) (by simp [idsL, idsA]) (by simp [mvN]) (by simpa [rnA, ixOf] using l92Bytes_pcl z (r + 1) (hr.le (by omega))) ?_
        rintro rv lr' rows ⟨s, hs, rfl, ⟨u, rfl, g1, g2⟩, rfl⟩
        (refine ⟨by simp [shB, mvF, rdR, rowS], by simp [frB, baseOf], go_on ?_⟩; simp only [killA, killH, killRow, push_cast, simprocAttr])
        (try simp only [push_cast, simprocAttr]); refine call_lend [500000] none (lr := [rdR z u]) (by simp [ndB]) (by first | rfl | simp [rowsOf, hget, rdR, rowS, sC, ndC, cmC]) (by simp [idsL, idsA]) (by simp [mvN]) (by simpa [rnA, ixOf] using l92Bytes_pcl z u (hr.le (by omega))) ?_
        rintro rv lr' rows ⟨f, hf, rfl, ⟨v, rfl, g3, g4⟩, rfl⟩
        (refine ⟨by simp [shB, mvF, rdR, rowS], by simp [frB, baseOf], go_on ?_⟩; simp only [killA, killH, killRow, push_cast, simprocAttr])
        refine at_chk (by omega) ?_
        (try simp only [w1, push_cast, simprocAttr])
        refine at_fin ⟨(i + 1, l ++ [⟨(i : Int), s, f⟩], v), ⟨by dsimp only; omega, by dsimp only; omega, by simp; omega, fun d hd => ?_, by dsimp only; omega, by dsimp only; omega⟩, by dsimp only; omega, ?_⟩
        · rcases List.mem_append.1 hd with hd | hd
          · exact q4 d hd
          · simp only [List.mem_singleton] at hd
            subst hd
            exact ⟨hs, hf⟩
        · simp only [List.length_append, List.length_cons, List.length_nil]
          (refine wk_frz ?_ ?_ ?_ ?_ <;> simp [rdR, bC, leF, leHF, frzB, idsL, idsA, idsR, inH, hget, sameRow, viewN, tk, upA, hvA, dsts, dstO, setA_0, setA_1, setA_8, List.append, List.cons_append, List.nil_append])
      · (try simp only [hb, w1, push_cast, simprocAttr])
        refine at_fin ⟨(i + 1, l, r + 1), ⟨by dsimp only; omega, by dsimp only; omega, by dsimp only; omega, q4, by dsimp only; omega, by dsimp only; omega⟩, by dsimp only; omega, ?_⟩
        (refine wk_frz ?_ ?_ ?_ ?_ <;> simp [rdR, leF, leHF, frzB, idsL, idsA, idsR, inH, hget, sameRow, viewN, tk, upA, hvA, dsts, dstO, setA_0, setA_1, setA_8, List.append, List.cons_append, List.nil_append])
    · have i0 : leI (i : Int) 3 = false := leI_f (by omega)
      have hD : DrB l := ⟨by omega, q4⟩
      (try simp only [i0, push_cast, simprocAttr])
      by_cases hl0 : l = []
      · subst hl0
        have hfin := fin [] r hD q5 (by omega)
        unfold rowB at hfin
        (try simp only [List.length_nil, show ltI 0 ((0 : Nat) : Int) = false from rfl, show ltI 0 0 = false from rfl, push_cast, simprocAttr])
        (refine at_retL ?_; simp only [Try.results49, retL, push_cast, simprocAttr]; simpa [show List.range 1 = [0] from rfl, show List.range 2 = [0, 1] from rfl, show List.range 3 = [0, 1, 2] from rfl, nmL, mvF, ndB, ixOf, rowsOf, hget, rdR, rowS] using  hfin)
      · have hl1 : 0 < l.length := List.length_pos_iff.2 hl0
        have j0 : ltI 0 (l.length : Int) = true := ltI_t (by omega)
        obtain ⟨e, he⟩ := get_of_lt (l := l) (k := 0) (by omega)
        have i2 : toIx 0 l.length = some 0 := ix_n he
        have i3 := map_get bC he
        simp only [bC] at i3
        have hem := q4 e (List.mem_of_getElem? he)
        (try simp only [j0, push_cast, simprocAttr])
        (try simp only [push_cast, simprocAttr]); refine call_lend [500000] none (lr := [rdR z r]) (by simp [ndB]) (by first | rfl | simp [rowsOf, hget, rdR, rowS, sC, ndC, cmC]) (by simp [idsL, idsA]) (by simp [mvN]) (by simpa [rnA, ixOf] using pick_pcl z r 24 (hr.le (by omega)) (by omega)) ?_
        rintro rv lr' rows ⟨m24, rfl, hm24, rfl, rfl⟩
        (refine ⟨by simp [shB, mvF, rdR, rowS], by simp [frB, baseOf], go_on ?_⟩; simp only [killA, killH, killRow, push_cast, simprocAttr])
        refine at_b (fun hb => ?_) (fun hb => ?_)
        · (try simp only [hb, push_cast, simprocAttr])
          (try simp only [push_cast, simprocAttr]); refine call_lend [500000] none (lr := [rdR z (r + 1)]) (by simp [ndB]) (by first | rfl | simp [rowsOf, hget, rdR, rowS, sC, ndC, cmC]) (by simp [idsL, idsA]) (by simp [mvN]) (by simpa [rnA, ixOf] using pick_pcl z (r + 1) 3 (hr.le (by omega)) (by omega)) ?_
          rintro rv lr' rows ⟨m3, rfl, hm3, rfl, rfl⟩
          have hm3 := hm3 (by omega)
          obtain ⟨v, g1, g2⟩ : ∃ v : Int, toIx (m3 : Int) 3 = some m3 ∧ ([[iA 0], [iA 3], [iA 4]] : List (List AV))[m3]? = some [iA v] := by
            rcases (show m3 = 0 ∨ m3 = 1 ∨ m3 = 2 by omega) with rfl | rfl | rfl
            · exact ⟨0, rfl, rfl⟩
            · exact ⟨3, rfl, rfl⟩
            · exact ⟨4, rfl, rfl⟩
          have hset : (l.map bC).set 0 [iA v, intsA e.safe, intsA e.fresh] = (l.set 0 ⟨v, e.safe, e.fresh⟩).map bC := by rw [List.map_set]; rfl
          have hfin := fin (l.set 0 ⟨v, e.safe, e.fresh⟩) (r + 1 + 1) ⟨by simp; exact hD.n, fun d hd => by
            rcases List.mem_or_eq_of_mem_set hd with hd | rfl
            · exact q4 d hd
            · exact hem⟩ (by omega) (by omega)
          rw [List.length_set] at hfin
          unfold rowB at hfin
          (refine ⟨by simp [shB, mvF, rdR, rowS], by simp [frB, baseOf], go_on ?_⟩; simp only [i2, i3, g1, g2, hset, killA, killH, killRow, push_cast, simprocAttr])
          (refine at_retL ?_; simp only [Try.results49, retL, push_cast, simprocAttr]; simpa [show List.range 1 = [0] from rfl, show List.range 2 = [0, 1] from rfl, show List.range 3 = [0, 1, 2] from rfl, nmL, mvF, ndB, ixOf, rowsOf, hget, rdR, rowS] using  hfin)
        · (try simp only [hb, push_cast, simprocAttr])
          refine at_b (fun hc => ?_) (fun hc => ?_)
          · have hfin := fin (l ++ [e]) (r + 1) ⟨by simp; omega, fun d hd => by
              rcases List.mem_append.1 hd with hd | hd
              · exact q4 d hd
              · simp only [List.mem_singleton] at hd; subst hd; exact hem⟩ (by omega) (by omega)
            have happ : (l.map bC) ++ [[iA e.name, intsA e.safe, intsA e.fresh]] = (l ++ [e]).map bC := by rw [List.map_append]; rfl
            rw [List.length_append] at hfin
            simp only [List.length_cons, List.length_nil] at hfin
            unfold rowB at hfin
            (try simp only [hc, i2, i3, push_cast, simprocAttr])
            refine at_chk (by omega) ?_
            (try simp only [happ, push_cast, simprocAttr])
            (refine at_retL ?_; simp only [Try.results49, retL, push_cast, simprocAttr]; simpa [show List.range 1 = [0] from rfl, show List.range 2 = [0, 1] from rfl, show List.range 3 = [0, 1, 2] from rfl, nmL, mvF, ndB, ixOf, rowsOf, hget, rdR, rowS] using  hfin)
          · have hfin := fin l (r + 1) hD (by omega) (by omega)
            (try simp only [hc, push_cast, simprocAttr])
            (refine at_retL ?_; simp only [Try.results49, retL, push_cast, simprocAttr]; simpa [show List.range 1 = [0] from rfl, show List.range 2 = [0, 1] from rfl, show List.range 3 = [0, 1, 2] from rfl, nmL, mvF, ndB, ixOf, rowsOf, hget, rdR, rowS] using  hfin)
theorem l92Disk_pcl (z : List Int) (p : Nat) (hr : RdOk z (p + 2000)) : PCL Try.prog 49 [rdR z p] (mvF none) [.p 0 0 0] (dsaD z p 2000) := by
  refine (l92Disk_pcl0 z p hr).frz ?_
  rintro rv lr' rows ⟨l, h1, rfl, ⟨u, rfl, h2, h3⟩, rfl⟩
  exact ⟨by simp [idsA], l, h1, by simp [viewN, hpOf, hget, isC, tk], ⟨u, rfl, h2, h3⟩, rfl⟩
def dwrX (rv : AV) (rows : List Row) : Prop := ∃ (l : List BD) (a : Nat) (xs : List Int), DrB l ∧ xs.length ≤ 200 ∧ rv = .tup [blsA l, iA a, intsA xs] ∧ rows = []
theorem DrawDiskWrite_pc (z : List Int) (hz : BytesOk z) : PC Try.prog 23 [byA z] dwrX := by
  have hr : RdOk (z.take 2000) (0 + 4000) := ⟨hz.tk, by rw [List.length_take]; omega, by omega⟩
  refine pc_enter Try.func23 rfl rfl fun w0 fb => go_on ?_; (try simp only [Try.ntmps23, push_cast, simprocAttr])
  refine call_share (by simp [isC]) (l6Open_pc z hz) ?_
  rintro rv rows ⟨rfl, rfl⟩
  refine ⟨by simp [frB, baseOf], go_on ?_⟩
  (try simp only [push_cast, simprocAttr])
  obtain ⟨y, hy⟩ : ∃ y, y = z.take 2000 := ⟨_, rfl⟩
  rw [← hy] at hr ⊢
  (try simp only [push_cast, simprocAttr]); refine call_lend [10000] none (lr := [rdR y 0]) (by simp [ndB]) (by first | rfl | simp [rowsOf, hget, rdR, rowS, sC, ndC, cmC]) (by simp [idsL, idsA]) (by simp [mvN]) (by simpa [rnA, ixOf] using l92Disk_pcl y 0 (hr.le (by omega))) ?_
  rintro rv lr' rows ⟨l, hl, rfl, ⟨u, rfl, g1, g2⟩, rfl⟩
  (refine ⟨by simp [shB, mvF, rdR, rowS], by simp [frB, baseOf], go_on ?_⟩; simp only [killA, killH, killRow, push_cast, simprocAttr])
  (try simp only [push_cast, simprocAttr]); refine call_lend [10000] none (lr := [rdR y u]) (by simp [ndB]) (by first | rfl | simp [rowsOf, hget, rdR, rowS, sC, ndC, cmC]) (by simp [idsL, idsA]) (by simp [mvN]) (by simpa [rnA, ixOf] using l92Name_pcl y u (hr.le (by omega))) ?_
  rintro rv lr' rows ⟨a, ha, rfl, ⟨v, rfl, g3, g4⟩, rfl⟩
  (refine ⟨by simp [shB, mvF, rdR, rowS], by simp [frB, baseOf], go_on ?_⟩; simp only [killA, killH, killRow, push_cast, simprocAttr])
  (try simp only [push_cast, simprocAttr]); refine call_lend [10000] none (lr := [rdR y v]) (by simp [ndB]) (by first | rfl | simp [rowsOf, hget, rdR, rowS, sC, ndC, cmC]) (by simp [idsL, idsA]) (by simp [mvN]) (by simpa [rnA, ixOf] using l92Bytes_pcl y v (hr.le (by omega))) ?_
  rintro rv lr' rows ⟨xs, hb, rfl, ⟨w, rfl, g5, g6⟩, rfl⟩
  (refine ⟨by simp [shB, mvF, rdR, rowS], by simp [frB, baseOf], go_on ?_⟩; simp only [killA, killH, killRow, push_cast, simprocAttr])
  refine at_ret ?_; simp only [Try.results23, push_cast, simprocAttr]
  exact ⟨l, a, xs, hl, hb, rfl, rfl⟩
end Go.Proofs.Ytepcabenjikhgaa
/-
  Walks: disks: laws.sameInts, laws.sameDisk at equal things.
-/
namespace Go.Proofs.Ytepcabenjikhgaa
open Go Go.RowKit Go.Proofs
attribute [local irreducible] RWp AW run kPe pe Kt effA gd gu br retR RDp runD kPeD brW gW effD
set_option maxRecDepth 100000
theorem sameInts_pc (l : List Int) (hl : l.length < 4294967281) : PC Try.prog 31 [intsA l, intsA l] (vB true) := by
  have e0 : eqI (l.length : Int) l.length = true := eqI_t rfl
  refine pc_enter Try.func31 rfl rfl fun w0 fb => go_on ?_; (try simp only [Try.ntmps31, push_cast, simprocAttr])
  (try simp only [List.length_map, e0, Bool.not_true, push_cast, simprocAttr])
  refine at_loop (X := Nat) (fun k => [(5, iA k)]) (fun _ => []) (fun k => k ≤ l.length) (fun k => l.length - k) 0 (Nat.zero_le _) ?_ ?_
  · (refine wk_ok ?_ ?_ ?_ ?_ <;> simp [leL, leH, idsL, idsA, idsR, inH, hget, sameRow, upA, hvA, dsts, dstO, setA_0, setA_1, setA_8, List.append, List.cons_append, List.nil_append])
  · rintro k h1
    simp only [upA, hvA, dsts, dstO, setA_0, setA_1, setA_8, List.append, List.cons_append, List.nil_append]
    refine go_on ?_
    (try simp only [List.length_map, push_cast, simprocAttr])
    refine at_b (fun hg => ?_) (fun hg => ?_)
    · have hlt := lt_tt hg
      obtain ⟨x, hk⟩ := get_of_lt hlt
      have i1 := ix_n hk
      have i2 := map_get inC hk
      simp only [inC] at i2
      have e1 : eqI x x = true := eqI_t rfl
      have w1 := wr ((k : Int) + 1) (by omega)
      (try simp only [hg, push_cast, simprocAttr])
      refine at_draw rfl (by kernel_rfl) ?_; simp only [push_cast, simprocAttr]
      (try simp only [i1, i2, e1, Bool.not_true, push_cast, simprocAttr])
      repeat' first | (refine at_bWn (fun hb => ?_) (fun hb => ?_) <;> simp only [i1, i2, e1, Bool.not_true, hb, push_cast, simprocAttr]) | (refine at_bW (fun hb => ?_) (fun hb => ?_) <;> simp only [i1, i2, e1, Bool.not_true, hb, push_cast, simprocAttr])  | (refine at_done (by kernel_rfl) (by kernel_rfl) (go_on ?_); (try simp only [i1, i2, e1, Bool.not_true, push_cast, simprocAttr]))
      (try simp only [w1, push_cast, simprocAttr])
      refine at_fin ⟨k + 1, by omega, by omega, ?_⟩
      (refine wk_ok ?_ ?_ ?_ ?_ <;> simp [leL, leH, idsL, idsA, idsR, inH, hget, sameRow, upA, hvA, dsts, dstO, setA_0, setA_1, setA_8, List.append, List.cons_append, List.nil_append])
    · (try simp only [hg, push_cast, simprocAttr])
      refine at_ret ?_; simp only [Try.results31, push_cast, simprocAttr]
      simp [vX]
theorem sameDisk_pc (bs : List BD) (hs : SmB bs) : PC Try.prog 26 [blsA bs, blsA bs] (vB true) := by
  have hn := hs.n
  have e0 : eqI (bs.length : Int) bs.length = true := eqI_t rfl
  refine pc_enter Try.func26 rfl rfl fun w0 fb => go_on ?_; (try simp only [Try.ntmps26, push_cast, simprocAttr])
  (try simp only [List.length_map, e0, Bool.not_true, push_cast, simprocAttr])
  refine at_loop (X := Nat) (fun k => [(5, iA k)]) (fun _ => []) (fun k => k ≤ bs.length) (fun k => bs.length - k) 0 (Nat.zero_le _) ?_ ?_
  · (refine wk_ok ?_ ?_ ?_ ?_ <;> simp [leL, leH, idsL, idsA, idsR, inH, hget, sameRow, upA, hvA, dsts, dstO, setA_0, setA_1, setA_8, List.append, List.cons_append, List.nil_append])
  · rintro k h1
    simp only [upA, hvA, dsts, dstO, setA_0, setA_1, setA_8, List.append, List.cons_append, List.nil_append]
    refine go_on ?_
    (try simp only [List.length_map, push_cast, simprocAttr])
    refine at_b (fun hg => ?_) (fun hg => ?_)
    · have hlt := lt_tt hg
      obtain ⟨x, hk⟩ := get_of_lt hlt
      have i1 := ix_n hk
      have i2 := map_get bC hk
      simp only [bC] at i2
      have e1 : eqI x.name x.name = true := eqI_t rfl
      have hd := hs.d x (mem_of_get hk)
      have hS := sameInts_pc x.safe (by have := hd.s; omega)
      have hF := sameInts_pc x.fresh (by have := hd.f; omega)
      have w1 := wr ((k : Int) + 1) (by omega)
      (try simp only [hg, push_cast, simprocAttr])
      refine at_draw rfl (by kernel_rfl) ?_; simp only [push_cast, simprocAttr]
      (try simp only [i1, i2, e1, Bool.not_true, push_cast, simprocAttr])
      repeat' first | (refine at_bWn (fun hb => ?_) (fun hb => ?_) <;> simp only [i1, i2, e1, Bool.not_true, hb, push_cast, simprocAttr]) | (refine at_bW (fun hb => ?_) (fun hb => ?_) <;> simp only [i1, i2, e1, Bool.not_true, hb, push_cast, simprocAttr]) | (refine at_callD (by simp [clB, idsL, idsA, hget]) ?_; (try simp only [push_cast, simprocAttr]); first | (refine rcd_v (hS) ?_; simp only [i1, i2, e1, Bool.not_true, push_cast, simprocAttr]) | (refine rcd_d (hS) (by simp [flatV, flatL, ctC, ndC, cmC]) (by simp [ren, ctC, ndC, cmC]) ?_; simp only [i1, i2, e1, Bool.not_true, push_cast, simprocAttr]) | (refine rcd_v (hF) ?_; simp only [i1, i2, e1, Bool.not_true, push_cast, simprocAttr]) | (refine rcd_d (hF) (by simp [flatV, flatL, ctC, ndC, cmC]) (by simp [ren, ctC, ndC, cmC]) ?_; simp only [i1, i2, e1, Bool.not_true, push_cast, simprocAttr])) | (refine at_done (by kernel_rfl) (by kernel_rfl) (go_on ?_); (try simp only [i1, i2, e1, Bool.not_true, push_cast, simprocAttr]))
      (try simp only [Bool.not_true, w1, push_cast, simprocAttr])
      refine at_fin ⟨k + 1, by omega, by omega, ?_⟩
      (refine wk_ok ?_ ?_ ?_ ?_ <;> simp [leL, leH, idsL, idsA, idsR, inH, hget, sameRow, upA, hvA, dsts, dstO, setA_0, setA_1, setA_8, List.append, List.cons_append, List.nil_append])
    · (try simp only [hg, push_cast, simprocAttr])
      refine at_ret ?_; simp only [Try.results26, push_cast, simprocAttr]
      simp [vX]
end Go.Proofs.Ytepcabenjikhgaa
/-
  The abstract machine: a slice that is nil, read as an empty one, within rows.
-/
namespace Go.Proofs.Ytepcabenjikhgaa
open Go Go.RowKit

def nlv (x y : AV) : Prop := x = y ∨ (x = .v (.slice none 0 0) ∧ ∃ n, y = .sl n [])
def nlC : List AV → List AV → Prop
  | [], [] => True
  | x :: l, y :: l' => nlv x y ∧ nlC l l'
  | _, _ => False
def nlE : List (List AV) → List (List AV) → Prop
  | [], [] => True
  | x :: l, y :: l' => nlC x y ∧ nlE l l'
  | _, _ => False
theorem nlC_refl : ∀ l, nlC l l
  | [] => trivial
  | _ :: l => ⟨.inl rfl, nlC_refl l⟩
theorem nlE_refl : ∀ l, nlE l l
  | [] => trivial
  | x :: l => ⟨nlC_refl x, nlE_refl l⟩
theorem nlC_get : ∀ {l l' : List AV}, nlC l l' → l.length = l'.length ∧ ∀ (j : Nat) y, l'[j]? = some y → ∃ x, l[j]? = some x ∧ nlv x y
  | [], [], _ => ⟨rfl, fun j y h => by simp at h⟩
  | x :: l, y :: l', ⟨h1, h2⟩ => by
    obtain ⟨g1, g2⟩ := nlC_get h2
    refine ⟨by simp [g1], fun j z hz => ?_⟩
    cases j with
    | zero => simp at hz; subst hz; exact ⟨x, rfl, h1⟩
    | succ j => exact g2 j z (by simpa using hz)
  | [], _ :: _, h => h.elim
  | _ :: _, [], h => h.elim
theorem nlE_get : ∀ {l l' : List (List AV)}, nlE l l' → l.length = l'.length ∧ ∀ (j : Nat) y, l'[j]? = some y → ∃ x, l[j]? = some x ∧ nlC x y
  | [], [], _ => ⟨rfl, fun j y h => by simp at h⟩
  | x :: l, y :: l', ⟨h1, h2⟩ => by
    obtain ⟨g1, g2⟩ := nlE_get h2
    refine ⟨by simp [g1], fun j z hz => ?_⟩
    cases j with
    | zero => simp at hz; subst hz; exact ⟨x, rfl, h1⟩
    | succ j => exact g2 j z (by simpa using hz)
  | [], _ :: _, h => h.elim
  | _ :: _, [], h => h.elim
def rowN2 (row row' : Row) : Prop := row'.E = row.E ∧ row'.sz = row.sz ∧ nlE row.es row'.es ∧ (row'.cl = true → (row.cl || row.es.all (·.all isC)) = true)
def leN (h : Hp) : Hp → Prop
  | [] => True
  | (r, row') :: l => (match hget h r with | some row => rowN2 row row' | none => False) ∧ leN h l
theorem leN_get {h : Hp} : ∀ {h' : Hp}, leN h h' → ∀ r row', hget h' r = some row' → ∃ row, hget h r = some row ∧ rowN2 row row'
  | [], _, r, row', hr => by simp [hget] at hr
  | (q, row0) :: h', hl, r, row', hr => by
    obtain ⟨h1, h2⟩ := hl
    simp only [hget] at hr
    split at hr
    · rename_i hq
      cases hr
      subst hq
      cases hg : hget h q with
      | none => rw [hg] at h1; exact h1.elim
      | some row => rw [hg] at h1; exact ⟨row, rfl, h1⟩
    · exact leN_get h2 r row' hr
theorem G.sub2 {h h' : Hp} {loc : Loc} {w : World} {x : AV} {u : Value} (hg : G h loc w x u) (hs : ∀ r ∈ idsA x, inH h' r = true) (hh : leN h h') (hC : ∀ x u, C (Live h loc) 0 w x u → C (Live h' loc) 0 w x u) : G h' loc w x u := by
  have hrow : ∀ r row, inH h' r = true → hget h r = some row → ∃ row', hget h' r = some row' ∧ rowN2 row row' := fun r row hi hr => by
    unfold inH at hi
    split at hi
    · rename_i row' hr'
      obtain ⟨row2, h1, h2⟩ := leN_get hh r row' hr'
      rw [hr] at h1
      cases h1
      exact ⟨row', hr', h2⟩
    · cases hi
  induction hg with
  | cl hc => exact .cl (hC _ _ hc)
  | @o r n row b c hr hl hn =>
    obtain ⟨row', h1, h2, h3, h4, _⟩ := hrow r row (hs r (by simp [idsA])) hr
    exact .o h1 hl (by rw [← (nlE_get h4).1]; exact hn)
  | @onil r row hr hl =>
    obtain ⟨row', h1, _⟩ := hrow r row (hs r (by simp [idsA])) hr
    exact .onil h1 hl
  | @p r k off row b c hr hl =>
    obtain ⟨row', h1, h2, h3, h4, _⟩ := hrow r row (hs r (by simp [idsA])) hr
    rw [← h3]
    exact .p h1 hl
  | @q r lo z n row b c A c' hr hl hn =>
    obtain ⟨row', h1, h2, h3, h4, _⟩ := hrow r row (hs r (by simp [idsA])) hr
    exact .q h1 hl hn
  | fn vs hvs hg ih => exact .fn vs hvs fun j a ha => ih j a ha fun r hr => hs r (by simp only [idsA]; exact idsL_mem ha r hr)
  | agg vs hvs hg ih => exact .agg vs hvs fun j a ha => ih j a ha fun r hr => hs r (by simp only [idsA]; exact idsL_mem ha r hr)
  | tup vs hvs hg ih => exact .tup vs hvs fun j a ha => ih j a ha fun r hr => hs r (by simp only [idsA]; exact idsL_mem ha r hr)
theorem wk_nil {s s' : AS} (ht : leL s.t s'.t) (hh : leN s.h s'.h) (hi : (idsL s'.t).all (inH s'.h) = true) (hr : idsR s'.h s'.h = true) : Wk s s' := by
  intro w0 lent loc a w hR
  obtain ⟨g1, g2⟩ := leL_get ht
  have hlive : ∀ b, Live s'.h loc b → Live s.h loc b := by
    rintro b (⟨r, row', c, h1, h2⟩ | hf)
    · obtain ⟨row, h3, _⟩ := leN_get hh r row' h1
      exact .inl ⟨r, row, c, h3, h2⟩
    · exact .inr hf
  have hC : ∀ x u, C (Live s.h loc) 0 w x u → C (Live s'.h loc) 0 w x u := fun x u hx => hx.mono (Nat.le_refl _) (Nat.le_refl _) fun b _ _ hnl => ⟨fun h => hnl (hlive b h), rfl⟩
  refine ⟨loc, hR.tsz.trans g1, fun i y hy => ?_, hR.df, fun r row' h1 => ?_, fun r r' row row' b c c' h1 h2 h3 h4 => ?_, fun r row' b c h1 h2 => ?_, hR.os, hR.tape, hR.output, hR.size, hR.keep, hR.fbe, hR.fbl, hR.pn, hR.pl⟩
  · rcases g2 i y hy with rfl | h
    · exact .cl .any
    · exact (hR.tm i y h).sub2 (fun r hr => List.all_eq_true.1 hi r (idsL_mem hy r hr)) hh hC
  · obtain ⟨row, h2, e1, e2, e3, e4⟩ := leN_get hh r row' h1
    obtain ⟨q1, xs, q2, q3⟩ := hR.rw r row h2
    obtain ⟨f1, f2⟩ := nlE_get e3
    refine ⟨fun k e he => ?_, xs, ?_, fun k e j y he hy => ?_⟩
    · obtain ⟨e0, f3, f4⟩ := f2 k e he
      rw [e2, ← (nlC_get f4).1]; exact q1 k e0 f3
    · rw [e1, e2, ← f1]; exact q2
    · obtain ⟨e0, f3, f4⟩ := f2 k e he
      obtain ⟨x, f5, f6⟩ := (nlC_get f4).2 j y hy
      obtain ⟨u, p1, p2, p3, p4⟩ := q3 k e0 j x f3 f5
      refine ⟨u, by rw [e2]; exact p1, p2, ?_, fun hc => ?_⟩
      · rcases f6 with rfl | ⟨rfl, n, rfl⟩
        · rcases idsR_get hr r row' h1 with hc | hc
          · have := e4 hc
            rw [Bool.or_eq_true] at this
            rcases this with h | h
            · exact .cl (hC _ _ (p4 h))
            · exact .cl (hC _ _ (isC_ok p3 (List.all_eq_true.1 (List.all_eq_true.1 h e0 (List.mem_of_getElem? f3)) x (List.mem_of_getElem? f5))))
          · refine p3.sub2 (fun r' hr' => ?_) hh hC
            have := hc e (List.mem_of_getElem? he)
            exact List.all_eq_true.1 this r' (idsL_mem hy r' hr')
        · have := G.nil2 (n := n) p3
          rw [p3.v_inv]
          exact .cl (.nilsl _)
      · rcases f6 with rfl | ⟨rfl, n, rfl⟩
        · have := e4 hc
          rw [Bool.or_eq_true] at this
          rcases this with h | h
          · exact hC _ _ (p4 h)
          · exact hC _ _ (isC_ok p3 (List.all_eq_true.1 (List.all_eq_true.1 h e0 (List.mem_of_getElem? f3)) x (List.mem_of_getElem? f5)))
        · rw [p3.v_inv]
          exact .nilsl _
  · obtain ⟨row1, g3, _⟩ := leN_get hh r row h1
    obtain ⟨row2, g4, _⟩ := leN_get hh r' row' h2
    exact hR.inj r r' row1 row2 b c c' g3 g4 h3 h4
  · obtain ⟨row1, g3, _⟩ := leN_get hh r row' h1
    exact hR.own r row1 b c g3 h2

end Go.Proofs.Ytepcabenjikhgaa
/-
  The abstract machine: own rows read as data, whatever rows stand beside them; at a call, too.
-/
namespace Go.Proofs.Ytepcabenjikhgaa
open Go Go.RowKit Go.Proofs
def frwRow (ids : List Nat) (h : Hp) (row : Row) : Row := if (row.es.all fun e => e.all fun x => (idsA x).all fun r => !hasN ids r) = true then row else ⟨row.E, row.sz, row.es.map (·.map (viewN 3 h)), true⟩
def frwH (ids : List Nat) (h : Hp) : Hp → Hp
  | [] => []
  | (r, row) :: l => (r, frwRow ids h row) :: frwH ids h l
def frwS (ids : List Nat) (s : AS) : AS := ⟨s.t.map (frzT ids s.h), frwH ids s.h (delL s.h ids)⟩
theorem at_callW {P : Program} {w0 : World} {lent : Lent} {Q : Exit → Act → World → Prop} {f : FuncId} {args : List AV} {dst : Option Tmp} {k : List It} {s : AS} (ids : List Nat) (h : Wk ⟨s.t ++ args, s.h⟩ (frwS ids ⟨s.t ++ args, s.h⟩))
    (hk : RWp P w0 lent Q (.call f (args.map (frzT ids s.h)) dst k (frwS ids s))) : RWp P w0 lent Q (.call f args dst k s) := by
  intro loc a w hR vs hs hg
  have hR1 : Rel w0 lent ⟨s.t ++ args, s.h⟩ loc { a with tmps := a.tmps ++ vs } w := by
    refine ⟨by simp [hR.tsz, hs], fun i x hx => ?_, hR.df, hR.rw, hR.inj, hR.own, hR.os, hR.tape, hR.output, hR.size, hR.keep, hR.fbe, hR.fbl, hR.pn, hR.pl⟩
    have htsz := hR.tsz
    rcases Nat.lt_or_ge i s.t.length with h1 | h1
    · rw [List.getElem?_append_left h1] at hx
      have := hR.tm i x hx
      have e : (a.tmps ++ vs).getD i undef = a.tmps.getD i undef := by
        simp only [Array.getD_eq_getD_getElem?]
        rw [Array.getElem?_append_left (by omega)]
      rw [e]; exact this
    · rw [List.getElem?_append_right h1] at hx
      have := hg (i - s.t.length) x hx
      have e : (a.tmps ++ vs).getD i undef = vs.getD (i - s.t.length) undef := by
        simp only [Array.getD_eq_getD_getElem?]
        rw [Array.getElem?_append_right (by omega), htsz]
      rw [e]; exact this
  obtain ⟨loc', hR2⟩ := h w0 lent loc _ w hR1
  have ht : (frwS ids ⟨s.t ++ args, s.h⟩).t = (frwS ids s).t ++ args.map (frzT ids s.h) := by simp [frwS]
  have hh : (frwS ids ⟨s.t ++ args, s.h⟩).h = (frwS ids s).h := rfl
  have hl : (frwS ids s).t.length = s.t.length := by simp [frwS]
  have htsz := hR.tsz
  have hR3 : Rel w0 lent (frwS ids s) loc' a w := by
    refine ⟨by rw [hl]; exact htsz, fun i x hx => ?_, hR.df, hR2.rw, hR2.inj, hR2.own, hR2.os, hR2.tape, hR2.output, hR2.size, hR2.keep, hR2.fbe, hR2.fbl, hR2.pn, hR2.pl⟩
    have hi := lt_of_some hx
    have := hR2.tm i x (by rw [ht, List.getElem?_append_left hi]; exact hx)
    have e : (a.tmps ++ vs).getD i undef = a.tmps.getD i undef := by
      simp only [Array.getD_eq_getD_getElem?]
      rw [Array.getElem?_append_left (by omega)]
    rw [hh] at this
    dsimp only at this
    rw [e] at this; exact this
  refine hk loc' a w hR3 vs (by simp [hs]) fun j x hx => ?_
  have := hR2.tm (s.t.length + j) x (by rw [ht, List.getElem?_append_right (by omega), hl, Nat.add_sub_cancel_left]; exact hx)
  have e : (a.tmps ++ vs).getD (s.t.length + j) undef = vs.getD j undef := by
    simp only [Array.getD_eq_getD_getElem?]
    rw [Array.getElem?_append_right (by omega), htsz, Nat.add_sub_cancel_left]
  rw [hh] at this
  dsimp only at this
  rw [e] at this; exact this
def nlCell (n : Nat) : AV → AV
  | .v (.slice none 0 0) => .sl n []
  | x => x
def nilH (r n : Nat) : Hp → Hp
  | [] => []
  | (k, row) :: l => (k, if k = r then ⟨row.E, row.sz, row.es.map (·.map (nlCell n)), row.cl⟩ else row) :: nilH r n l
def nilR (r n : Nat) (s : AS) : AS := ⟨s.t, nilH r n s.h⟩
/-- The nil slices in a row, read as empty ones. -/
theorem at_nilR {P : Program} {w0 : World} {lent : Lent} {Q : Exit → Act → World → Prop} {k : List It} {s : AS} (r n : Nat) (h : Wk s (nilR r n s)) (h' : AW P w0 lent Q k (nilR r n s)) : AW P w0 lent Q k s := AW.wk h h'
theorem at_callV {P : Program} {w0 : World} {lent : Lent} {Q : Exit → Act → World → Prop} {f : FuncId} {args : List AV} {dst : Option Tmp} {k : List It} {s : AS} (g : AV → AV) (h' : Hp) (h : Wk ⟨s.t ++ args, s.h⟩ ⟨(s.t ++ args).map g, h'⟩)
    (hk : RWp P w0 lent Q (.call f (args.map g) dst k ⟨s.t.map g, h'⟩)) : RWp P w0 lent Q (.call f args dst k s) := by
  intro loc a w hR vs hs hg
  have hR1 : Rel w0 lent ⟨s.t ++ args, s.h⟩ loc { a with tmps := a.tmps ++ vs } w := by
    refine ⟨by simp [hR.tsz, hs], fun i x hx => ?_, hR.df, hR.rw, hR.inj, hR.own, hR.os, hR.tape, hR.output, hR.size, hR.keep, hR.fbe, hR.fbl, hR.pn, hR.pl⟩
    have htsz := hR.tsz
    rcases Nat.lt_or_ge i s.t.length with h1 | h1
    · rw [List.getElem?_append_left h1] at hx
      have := hR.tm i x hx
      have e : (a.tmps ++ vs).getD i undef = a.tmps.getD i undef := by
        simp only [Array.getD_eq_getD_getElem?]
        rw [Array.getElem?_append_left (by omega)]
      rw [e]; exact this
    · rw [List.getElem?_append_right h1] at hx
      have := hg (i - s.t.length) x hx
      have e : (a.tmps ++ vs).getD i undef = vs.getD (i - s.t.length) undef := by
        simp only [Array.getD_eq_getD_getElem?]
        rw [Array.getElem?_append_right (by omega), htsz]
      rw [e]; exact this
  obtain ⟨loc', hR2⟩ := h w0 lent loc _ w hR1
  have ht : (s.t ++ args).map g = s.t.map g ++ args.map g := List.map_append
  have hl : (s.t.map g).length = s.t.length := List.length_map _
  have htsz := hR.tsz
  have hR3 : Rel w0 lent ⟨s.t.map g, h'⟩ loc' a w := by
    refine ⟨by simpa using htsz, fun i x hx => ?_, hR.df, hR2.rw, hR2.inj, hR2.own, hR2.os, hR2.tape, hR2.output, hR2.size, hR2.keep, hR2.fbe, hR2.fbl, hR2.pn, hR2.pl⟩
    have hi := lt_of_some hx
    dsimp only at hi
    rw [hl] at hi
    have := hR2.tm i x (by dsimp only; rw [ht, List.getElem?_append_left (by omega)]; exact hx)
    have e : (a.tmps ++ vs).getD i undef = a.tmps.getD i undef := by
      simp only [Array.getD_eq_getD_getElem?]
      rw [Array.getElem?_append_left (by omega)]
    dsimp only at this
    rw [e] at this; exact this
  refine hk loc' a w hR3 vs (by simp [hs]) fun j x hx => ?_
  have := hR2.tm (s.t.length + j) x (by dsimp only; rw [ht, List.getElem?_append_right (by omega), hl, Nat.add_sub_cancel_left]; exact hx)
  have e : (a.tmps ++ vs).getD (s.t.length + j) undef = vs.getD j undef := by
    simp only [Array.getD_eq_getD_getElem?]
    rw [Array.getElem?_append_right (by omega), htsz, Nat.add_sub_cancel_left]
  dsimp only at this
  rw [e] at this; exact this
theorem at_callN {P : Program} {w0 : World} {lent : Lent} {Q : Exit → Act → World → Prop} {f : FuncId} {args : List AV} {dst : Option Tmp} {k : List It} {s : AS} (r n : Nat) (h : Wk ⟨s.t ++ args, s.h⟩ ⟨s.t ++ args, nilH r n s.h⟩)
    (hk : RWp P w0 lent Q (.call f args dst k (nilR r n s))) : RWp P w0 lent Q (.call f args dst k s) := at_callV id (nilH r n s.h) (by rw [List.map_id]; exact h) (by simpa [nilR] using hk)
end Go.Proofs.Ytepcabenjikhgaa
/-
  Walks: disks: the reference's DiskWrite.
-/
namespace Go.Proofs.Ytepcabenjikhgaa
open Go Go.RowKit Go.Proofs
theorem writeD_false {bs : List BD} {nm : Int} {xs : List Int} (h : (diskB bs && bytesB xs && inB nm 1 3 && diskB (withB bs (wrB bs nm xs))) = false) : writeD bs nm xs = ([], false) := by
  unfold writeD; rw [h]; rfl
theorem insB_mem {bs : List BD} {d x : BD} (h : x ∈ withB bs d) : x = d ∨ x ∈ bs := by
  rcases mem_with.1 h with h | h
  · exact .inl h
  · exact .inr h.1
theorem withB_len (bs : List BD) (d : BD) : (withB bs d).length ≤ bs.length + 1 := by
  unfold withB
  rw [insB_len]
  have := List.length_filter_le (fun x : BD => decide (x.name ≠ d.name)) bs
  omega
theorem withB_sm {bs : List BD} {d : BD} (h : SmB bs) (hn : bs.length ≤ 1000) (hd : SmD d) : SmB (withB bs d) := by
  have := withB_len bs d
  refine ⟨by omega, fun x hx => ?_⟩
  rcases insB_mem hx with rfl | hx
  · exact hd
  · exact h.d x hx
attribute [local irreducible] RWp AW run kPe pe Kt effA gd gu br retR RDp runD kPeD brW gW effD
set_option maxRecDepth 100000
theorem specDiskWrite_d (bs : List BD) (hs : SmB bs) (nm : Int) (xs : List Int) (hx : xs.length ≤ 2000000) (hd2 : ∀ d ∈ bs, d.fresh.length ≤ 2000000) : PC Try.prog 25 [blsA bs, iA nm, intsA xs] (vX (.tup [blsA (writeD bs nm xs).1, bA (writeD bs nm xs).2])) := by
  have hV := specDiskValid_pc bs hs
  have hB := l4Bytes_pc xs (by omega)
  have hn := hs.n
  have emp : ∀ {q : PC Try.prog 25 [blsA bs, iA nm, intsA xs] (rX (.tup [.o 0 0, bA false]) [rowB []])}, PC Try.prog 25 [blsA bs, iA nm, intsA xs] (vX (.tup [blsA [], bA false])) := fun {q} => by
    have := q.frzX
    simp [viewN, hpOf, hget, isC, tk] at this
    exact this
  cases hv : diskB bs with
  | false =>
    rw [writeD_false (by simp [hv])]
    refine emp (q := ?_)
    refine pc_enter Try.func25 rfl rfl fun w0 fb => go_on ?_; (try simp only [Try.ntmps25, push_cast, simprocAttr])
    (refine at_call ?_; (try simp only [push_cast, simprocAttr]); refine rwc_v (hV) (go_on ?_); (try simp only [push_cast, simprocAttr]))
    (try simp only [hv, Bool.not_false, push_cast, simprocAttr])
    refine at_ret ?_; simp only [Try.results25, push_cast, simprocAttr]
    simp [rX, ixOf]
  | true =>
    have h3n := disk_len hv
    cases hxb : bytesB xs with
    | false =>
      rw [writeD_false (by simp [hxb])]
      refine emp (q := ?_)
      refine pc_enter Try.func25 rfl rfl fun w0 fb => go_on ?_; (try simp only [Try.ntmps25, push_cast, simprocAttr])
      (refine at_call ?_; (try simp only [push_cast, simprocAttr]); refine rwc_v (hV) (go_on ?_); (try simp only [push_cast, simprocAttr]))
      (try simp only [hv, Bool.not_true, push_cast, simprocAttr])
      (refine at_call ?_; (try simp only [push_cast, simprocAttr]); refine rwc_v (hB) (go_on ?_); (try simp only [push_cast, simprocAttr]))
      (try simp only [hxb, Bool.not_false, push_cast, simprocAttr])
      refine at_ret ?_; simp only [Try.results25, push_cast, simprocAttr]
      simp [rX, ixOf]
    | true =>
      have hF := l31Find_pc bs hs.n nm
      obtain ⟨D, hD⟩ : ∃ D, D = wrB bs nm xs := ⟨_, rfl⟩
      have hDs : SmD D := by
        rw [hD]
        unfold wrB
        cases hg : getB bs nm with
        | none => exact ⟨by simp, by simp only; omega⟩
        | some d =>
          have hm := (getB_name hg).2
          exact ⟨(hs.d d hm).s, by have := hd2 d hm; simp only [List.length_append]; omega⟩
      have hW := l31With_d bs hs (by omega) D hDs
      have hwl := withB_len bs D
      have hws := withB_sm hs (by omega) hDs
      have hV2 := specDiskValid_pc (withB bs D) hws
      have hok : (diskB (withB bs D)) = (diskB bs && bytesB xs && inB nm 1 3 && diskB (withB bs (wrB bs nm xs))) := by
        rw [hv, hxb, ← hD]
        cases h : diskB (withB bs D) with
        | false => simp
        | true =>
          have := disk_with_ok h
          simp only [okF, Bool.and_eq_true] at this
          have e : D.name = nm := by rw [hD]; exact wrB_name bs nm xs
          rw [e] at this
          simp [this.1.1.1]
      rcases ixB_cases bs nm with ⟨h1, h2⟩ | ⟨j, d, h1, h2, h3⟩
      · have hDe : D = ⟨nm, [], xs⟩ := by rw [hD]; unfold wrB; rw [h2]
        rw [hDe] at hW
        unfold blobA at hW
        simp only [bC, List.map_nil] at hW
        rw [← hDe] at hW
        cases hV3 : diskB (withB bs D) with
        | false =>
          rw [writeD_false (by rw [← hok, hV3])]
          refine emp (q := ?_)
          refine pc_enter Try.func25 rfl rfl fun w0 fb => go_on ?_; (try simp only [Try.ntmps25, push_cast, simprocAttr])
          (refine at_call ?_; (try simp only [push_cast, simprocAttr]); refine rwc_v (hV) (go_on ?_); (try simp only [push_cast, simprocAttr]))
          (try simp only [hv, Bool.not_true, push_cast, simprocAttr])
          (refine at_call ?_; (try simp only [push_cast, simprocAttr]); refine rwc_v (hB) (go_on ?_); (try simp only [push_cast, simprocAttr]))
          (try simp only [hxb, Bool.not_true, push_cast, simprocAttr])
          refine at_call ?_
          (try simp only [push_cast, simprocAttr])
          refine rwc_v hF ?_
          (try simp only [push_cast, simprocAttr])
          refine at_nilR 8 1 (by refine wk_nil ?_ ?_ ?_ ?_ <;> simp [nilR, nilH, nlCell, leL, leN, rowN2, nlE, nlC, nlv, idsL, idsA, idsR, inH, hget]) ?_
          simp only [nilR, nilH, nlCell, Nat.reduceEqDiff, if_true, if_false, List.map_cons, List.map_nil, simprocAttr]
          refine go_on ?_
          (try simp only [h1, show leI 0 (-1) = false from rfl, push_cast, simprocAttr])
          refine at_chk (by simp) ?_
          (try simp only [push_cast, simprocAttr])
          refine at_chk (by omega) ?_
          (try simp only [Nat.zero_add, push_cast, simprocAttr])
          (refine at_callW [32] (by refine wk_frz ?_ ?_ ?_ ?_ <;> simp [frwS, frwH, frwRow, frzT, hasN, delL, hdel, leF, leHF, rowF, frzB, idsL, idsA, idsR, inH, hget, sameRow, viewN, tk]) ?_; simp only [frwS, frwH, frwRow, frzT, hasN, delL, hdel, idsA, idsL, viewN, hget, tk, isC, List.map_cons, List.map_nil, List.all_cons, List.all_nil, List.append_nil, List.drop, List.getElem?_cons_zero, List.getElem?_cons_succ, Bool.not_false, Bool.not_true, Bool.and_true, if_true, if_false, Nat.zero_add, List.length_map, simprocAttr])
          ((try simp only [push_cast, simprocAttr]); refine at_share2 (by simp [isC2, isC]) (by first | rfl | simp [ren]) (hW) (go_on ?_); (try simp only [push_cast, simprocAttr]))
          (refine at_call ?_; (try simp only [push_cast, simprocAttr]); refine rwc_v (hV2) (go_on ?_); (try simp only [push_cast, simprocAttr]))
          (try simp only [hV3, Bool.not_false, push_cast, simprocAttr])
          refine at_ret ?_; simp only [Try.results25, push_cast, simprocAttr]
          simp [rX, ixOf]
        | true =>
          have hr : writeD bs nm xs = (withB bs D, true) := by unfold writeD; rw [← hok, hV3, hD]; rfl
          rw [hr]
          refine pc_enter Try.func25 rfl rfl fun w0 fb => go_on ?_; (try simp only [Try.ntmps25, push_cast, simprocAttr])
          (refine at_call ?_; (try simp only [push_cast, simprocAttr]); refine rwc_v (hV) (go_on ?_); (try simp only [push_cast, simprocAttr]))
          (try simp only [hv, Bool.not_true, push_cast, simprocAttr])
          (refine at_call ?_; (try simp only [push_cast, simprocAttr]); refine rwc_v (hB) (go_on ?_); (try simp only [push_cast, simprocAttr]))
          (try simp only [hxb, Bool.not_true, push_cast, simprocAttr])
          refine at_call ?_
          (try simp only [push_cast, simprocAttr])
          refine rwc_v hF ?_
          (try simp only [push_cast, simprocAttr])
          refine at_nilR 8 1 (by refine wk_nil ?_ ?_ ?_ ?_ <;> simp [nilR, nilH, nlCell, leL, leN, rowN2, nlE, nlC, nlv, idsL, idsA, idsR, inH, hget]) ?_
          simp only [nilR, nilH, nlCell, Nat.reduceEqDiff, if_true, if_false, List.map_cons, List.map_nil, simprocAttr]
          refine go_on ?_
          (try simp only [h1, show leI 0 (-1) = false from rfl, push_cast, simprocAttr])
          refine at_chk (by simp) ?_
          (try simp only [push_cast, simprocAttr])
          refine at_chk (by omega) ?_
          (try simp only [Nat.zero_add, push_cast, simprocAttr])
          (refine at_callW [32] (by refine wk_frz ?_ ?_ ?_ ?_ <;> simp [frwS, frwH, frwRow, frzT, hasN, delL, hdel, leF, leHF, rowF, frzB, idsL, idsA, idsR, inH, hget, sameRow, viewN, tk]) ?_; simp only [frwS, frwH, frwRow, frzT, hasN, delL, hdel, idsA, idsL, viewN, hget, tk, isC, List.map_cons, List.map_nil, List.all_cons, List.all_nil, List.append_nil, List.drop, List.getElem?_cons_zero, List.getElem?_cons_succ, Bool.not_false, Bool.not_true, Bool.and_true, if_true, if_false, Nat.zero_add, List.length_map, simprocAttr])
          ((try simp only [push_cast, simprocAttr]); refine at_share2 (by simp [isC2, isC]) (by first | rfl | simp [ren]) (hW) (go_on ?_); (try simp only [push_cast, simprocAttr]))
          (refine at_call ?_; (try simp only [push_cast, simprocAttr]); refine rwc_v (hV2) (go_on ?_); (try simp only [push_cast, simprocAttr]))
          (try simp only [hV3, Bool.not_true, push_cast, simprocAttr])
          refine at_ret ?_; simp only [Try.results25, push_cast, simprocAttr]
          simp [vX]
      · have hDe : D = ⟨nm, d.safe, d.fresh ++ xs⟩ := by rw [hD]; unfold wrB; rw [h3]
        have hdn := (getB_name h3).1
        have hdm := (getB_name h3).2
        have hdf := hd2 d hdm
        have i1 := ix_n h2
        have i2 := map_get bC h2
        have j1 : leI 0 (j : Int) = true := leI_t (by omega)
        have hC := l31Copy_d d (hs.d d hdm)
        rw [hDe] at hW
        unfold blobA at hW hC
        simp only [bC, List.map_append] at hW hC i2
        rw [← hDe, ← hdn] at hW
        cases hV3 : diskB (withB bs D) with
        | false =>
          rw [writeD_false (by rw [← hok, hV3])]
          refine emp (q := ?_)
          refine pc_enter Try.func25 rfl rfl fun w0 fb => go_on ?_; (try simp only [Try.ntmps25, push_cast, simprocAttr])
          (refine at_call ?_; (try simp only [push_cast, simprocAttr]); refine rwc_v (hV) (go_on ?_); (try simp only [push_cast, simprocAttr]))
          (try simp only [hv, Bool.not_true, push_cast, simprocAttr])
          (refine at_call ?_; (try simp only [push_cast, simprocAttr]); refine rwc_v (hB) (go_on ?_); (try simp only [push_cast, simprocAttr]))
          (try simp only [hxb, Bool.not_true, push_cast, simprocAttr])
          (refine at_call ?_; (try simp only [push_cast, simprocAttr]); refine rwc_v (hF) (go_on ?_); (try simp only [push_cast, simprocAttr]))
          (try simp only [h1, j1, push_cast, simprocAttr])
          (refine at_call ?_; (try simp only [push_cast, simprocAttr]); refine rwc_v (hF) (go_on ?_); (try simp only [push_cast, simprocAttr]))
          (try simp only [h1, i1, i2, push_cast, simprocAttr])
          ((try simp only [push_cast, simprocAttr]); refine at_share2 (by simp [isC2, isC]) (by first | rfl | simp [ren]) (hC) (go_on ?_); (try simp only [push_cast, simprocAttr]))
          refine at_chk (by omega) ?_
          (try simp only [Nat.zero_add, push_cast, simprocAttr])
          refine at_chk (by omega) ?_
          (try simp only [Nat.zero_add, push_cast, simprocAttr])
          (refine at_callW [32] (by refine wk_frz ?_ ?_ ?_ ?_ <;> simp [← List.map_append, List.length_append, eq_self, frwS, frwH, frwRow, frzT, hasN, delL, hdel, leF, leHF, rowF, frzB, idsL, idsA, idsR, inH, hget, sameRow, viewN, tk]) ?_; simp only [← List.map_append, List.length_append, eq_self, frwS, frwH, frwRow, frzT, hasN, delL, hdel, idsA, idsL, viewN, hget, tk, isC, List.map_cons, List.map_nil, List.all_cons, List.all_nil, List.append_nil, List.drop, List.getElem?_cons_zero, List.getElem?_cons_succ, Bool.not_false, Bool.not_true, Bool.and_true, if_true, if_false, Nat.zero_add, List.length_map, simprocAttr])
          ((try simp only [push_cast, simprocAttr]); refine at_share2 (by simp [isC2, isC]) (by first | rfl | simp [ren]) (hW) (go_on ?_); (try simp only [push_cast, simprocAttr]))
          (refine at_call ?_; (try simp only [push_cast, simprocAttr]); refine rwc_v (hV2) (go_on ?_); (try simp only [push_cast, simprocAttr]))
          (try simp only [hV3, Bool.not_false, push_cast, simprocAttr])
          refine at_ret ?_; simp only [Try.results25, push_cast, simprocAttr]
          simp [rX, ixOf]
        | true =>
          have hr : writeD bs nm xs = (withB bs D, true) := by unfold writeD; rw [← hok, hV3, hD]; rfl
          rw [hr]
          refine pc_enter Try.func25 rfl rfl fun w0 fb => go_on ?_; (try simp only [Try.ntmps25, push_cast, simprocAttr])
          (refine at_call ?_; (try simp only [push_cast, simprocAttr]); refine rwc_v (hV) (go_on ?_); (try simp only [push_cast, simprocAttr]))
          (try simp only [hv, Bool.not_true, push_cast, simprocAttr])
          (refine at_call ?_; (try simp only [push_cast, simprocAttr]); refine rwc_v (hB) (go_on ?_); (try simp only [push_cast, simprocAttr]))
          (try simp only [hxb, Bool.not_true, push_cast, simprocAttr])
          (refine at_call ?_; (try simp only [push_cast, simprocAttr]); refine rwc_v (hF) (go_on ?_); (try simp only [push_cast, simprocAttr]))
          (try simp only [h1, j1, push_cast, simprocAttr])
          (refine at_call ?_; (try simp only [push_cast, simprocAttr]); refine rwc_v (hF) (go_on ?_); (try simp only [push_cast, simprocAttr]))
          (try simp only [h1, i1, i2, push_cast, simprocAttr])
          ((try simp only [push_cast, simprocAttr]); refine at_share2 (by simp [isC2, isC]) (by first | rfl | simp [ren]) (hC) (go_on ?_); (try simp only [push_cast, simprocAttr]))
          refine at_chk (by omega) ?_
          (try simp only [Nat.zero_add, push_cast, simprocAttr])
          refine at_chk (by omega) ?_
          (try simp only [Nat.zero_add, push_cast, simprocAttr])
          (refine at_callW [32] (by refine wk_frz ?_ ?_ ?_ ?_ <;> simp [← List.map_append, List.length_append, eq_self, frwS, frwH, frwRow, frzT, hasN, delL, hdel, leF, leHF, rowF, frzB, idsL, idsA, idsR, inH, hget, sameRow, viewN, tk]) ?_; simp only [← List.map_append, List.length_append, eq_self, frwS, frwH, frwRow, frzT, hasN, delL, hdel, idsA, idsL, viewN, hget, tk, isC, List.map_cons, List.map_nil, List.all_cons, List.all_nil, List.append_nil, List.drop, List.getElem?_cons_zero, List.getElem?_cons_succ, Bool.not_false, Bool.not_true, Bool.and_true, if_true, if_false, Nat.zero_add, List.length_map, simprocAttr])
          ((try simp only [push_cast, simprocAttr]); refine at_share2 (by simp [isC2, isC]) (by first | rfl | simp [ren]) (hW) (go_on ?_); (try simp only [push_cast, simprocAttr]))
          (refine at_call ?_; (try simp only [push_cast, simprocAttr]); refine rwc_v (hV2) (go_on ?_); (try simp only [push_cast, simprocAttr]))
          (try simp only [hV3, Bool.not_true, push_cast, simprocAttr])
          refine at_ret ?_; simp only [Try.results25, push_cast, simprocAttr]
          simp [vX]
end Go.Proofs.Ytepcabenjikhgaa
/-
  Walks: disks: a copy of a disk, of which one file's fresh bytes stay a row.
-/
namespace Go.Proofs.Ytepcabenjikhgaa
open Go Go.RowKit Go.Proofs
def lnkC (d : BD) (p q : Nat) : List AV := [iA d.name, .o p d.safe.length, .o q d.fresh.length]
def lnkR (bs : List BD) (j : Nat) (d : BD) (p q : Nat) : Row := ⟨55, 3, (bs.map bC).set j (lnkC d p q), false⟩
def atD (bs : List BD) (j : Nat) (d : BD) (rv : AV) (lr' rows : List Row) : Prop := rv = .o 0 bs.length ∧ lr' = [] ∧ rows = [lnkR bs j d 1 2, rowZ d.safe, rowZ d.fresh]
def clnH (bs : List BD) (j : Nat) (d : BD) (k : Nat) : Bool → Hp
  | false => [(2, ⟨55, 3, [], true⟩), (3, rowB (bs.take k))]
  | true => [(2, ⟨55, 3, [], true⟩), (15000, rowZ d.safe), (15001, rowZ d.fresh), (3, lnkR (bs.take k) j d 15000 15001)]
theorem mem_set_or {α : Type} {l : List α} {j : Nat} {x y : α} (h : y ∈ l.set j x) : y ∈ l ∨ y = x := List.mem_or_eq_of_mem_set h
theorem bC_ids {d : BD} {x : AV} (h : x ∈ bC d) : idsA x = [] := by
  simp only [bC, List.mem_cons, List.not_mem_nil, or_false] at h
  rcases h with rfl | rfl | rfl <;> simp [idsA]
theorem lnk_ids {bs : List BD} {j : Nat} {d : BD} {p q : Nat} {e : List AV} (he : e ∈ (lnkR bs j d p q).es) {x : AV} (hx : x ∈ e) : ∀ r ∈ idsA x, r = p ∨ r = q := by
  intro r hr
  rcases mem_set_or he with h | h
  · obtain ⟨y, _, rfl⟩ := List.mem_map.1 h
    rw [bC_ids hx] at hr; cases hr
  · subst h
    simp only [lnkC, List.mem_cons, List.not_mem_nil, or_false] at hx
    rcases hx with rfl | rfl | rfl <;> simp [idsA] at hr
    · exact .inl hr
    · exact .inr hr
theorem lnk_in {σ : List Nat} {bs : List BD} {j : Nat} {d : BD} {p q : Nat} (hp : σ.contains p = true) (hq : σ.contains q = true) : inRow σ (lnkR bs j d p q) = true := by
  unfold inRow
  rw [Bool.or_eq_true]
  refine .inr (List.all_eq_true.2 fun e he => List.all_eq_true.2 fun x hx => List.all_eq_true.2 fun r hr => ?_)
  rcases lnk_ids he hx r hr with rfl | rfl
  · exact hp
  · exact hq
theorem lnk_rf (f : Nat → Nat) {bs : List BD} {j : Nat} {d : BD} {p q : Nat} (hj : j < bs.length) : rfRow f (lnkR bs j d p q) = lnkR bs j d (f p) (f q) := by
  have hc : cloRow (lnkR bs j d p q) = false := by
    unfold cloRow
    simp only [lnkR, Bool.false_or]
    rw [Bool.eq_false_iff]
    intro h
    have := List.all_eq_true.1 h (lnkC d p q) (List.mem_iff_getElem.2 ⟨j, by simpa using hj, by simp⟩)
    simp [lnkC, isC] at this
  unfold rfRow
  rw [hc]
  simp only [Bool.false_eq_true, if_false, lnkR, Row.mk.injEq, true_and, and_true]
  rw [List.map_set, List.map_map]
  have e1 : (lnkC d p q).map (rfA f) = lnkC d (f p) (f q) := by simp [lnkC, rfA]
  have e2 : ((fun x => x.map (rfA f)) ∘ bC : BD → List AV) = bC := by funext x; simp [bC, rfA]
  rw [e1]
  congr 1
  exact congrArg (fun g => bs.map g) e2
theorem lnk_idsR {h : Hp} {bs : List BD} {j : Nat} {d : BD} {p q : Nat} (hp : inH h p = true) (hq : inH h q = true) : ((lnkR bs j d p q).es.all fun e => (idsL e).all fun r => inH h r) = true := by
  refine List.all_eq_true.2 fun e he => List.all_eq_true.2 fun r hr => ?_
  have : ∃ x ∈ e, r ∈ idsA x := by
    clear he
    induction e with
    | nil => simp [idsL] at hr
    | cons y l ih =>
      simp only [idsL, List.mem_append] at hr
      rcases hr with hr | hr
      · exact ⟨y, List.mem_cons_self, hr⟩
      · obtain ⟨x, h1, h2⟩ := ih hr
        exact ⟨x, List.mem_cons_of_mem _ h1, h2⟩
  obtain ⟨x, h1, h2⟩ := this
  rcases lnk_ids he h1 r h2 with rfl | rfl
  · exact hp
  · exact hq
theorem kill_bC (r : Nat) : ((fun x => List.map (killA r) x) ∘ bC : BD → List AV) = bC := by funext x; simp [bC, killA]
theorem lnk_kill {bs : List BD} {j : Nat} {d : BD} {p q r : Nat} (hp : p ≠ r) (hq : q ≠ r) : (lnkR bs j d p q).es.map (fun x => List.map (killA r) x) = (lnkR bs j d p q).es := by
  simp only [lnkR]
  rw [List.map_set, List.map_map, kill_bC]
  simp [lnkC, killA, hp, hq]
theorem rowZ_in (σ : List Nat) (l : List Int) : inRow σ (rowZ l) = true := rfl
theorem rowZ_rf (f : Nat → Nat) (l : List Int) : rfRow f (rowZ l) = rowZ l := rfl
theorem set_end {α : Type} (l : List α) (x y : α) : (l ++ [x]).set l.length y = l ++ [y] := by simp
attribute [local irreducible] RWp AW run kPe pe Kt effA gd gu br retR RDp runD kPeD brW gW effD
set_option maxRecDepth 100000
theorem cloneDisk_at (bs : List BD) (hs : SmB bs) (j : Nat) (d : BD) (hj : bs[j]? = some d) : PCX Try.prog 40 [] [blsA bs] (atD bs j d) := by
  have hn := hs.n
  have hjl := lt_of_some hj
  refine pcx_enter Try.func40 rfl rfl (by simp) fun w0 fb loc => go_on ?_
  simp only [Try.ntmps40, hpX, rfA, push_cast, simprocAttr]
  refine at_loop (X := Nat × Bool) (fun x => [(3, .o 3 x.1), (8, iA x.1)]) (fun x => clnH bs j d x.1 x.2) (fun x => x.1 ≤ bs.length ∧ (x.2 = false ∧ x.1 ≤ j ∨ x.2 = true ∧ j < x.1)) (fun x => bs.length - x.1) (0, false) ⟨Nat.zero_le _, .inl ⟨rfl, by dsimp only; omega⟩⟩ ?_ ?_
  · (refine wk_ok ?_ ?_ ?_ ?_ <;> simp [clnH, leL, leH, idsL, idsA, idsR, inH, hget, sameRow, upA, hvA, dsts, dstO, setA_0, setA_1, setA_8, List.append, List.cons_append, List.nil_append])
  · rintro ⟨k, ph⟩ ⟨hk, hp⟩
    simp only at hk hp
    simp only [upA, hvA, dsts, dstO, setA_0, setA_1, setA_8, List.append, List.cons_append, List.nil_append]
    refine go_on ?_
    (try simp only [List.length_map, push_cast, simprocAttr])
    have el : (bs.take k).length = k := by rw [List.length_take]; omega
    refine at_b (fun hg => ?_) (fun hg => ?_)
    · have hlt := lt_tt hg
      obtain ⟨x, hx⟩ := get_of_lt hlt
      have i1 := ix_n hx
      have i2 := map_get bC hx
      have hC := blobClone_d x (hs.d x (mem_of_get hx))
      have hC0 := blobClone_pc x (hs.d x (mem_of_get hx))
      unfold blobA at hC hC0
      simp only [bC] at i2 hC hC0
      have e : bs.take (k + 1) = bs.take k ++ [x] := by rw [List.take_add_one, hx]; rfl
      have w1 := wr ((k : Int) + 1) (by omega)
      rcases hp with ⟨rfl, hkj⟩ | ⟨rfl, hkj⟩
      · simp only [clnH]
        by_cases hkj2 : k = j
        · have hxd : x = d := by rw [hkj2, hj] at hx; exact (Option.some.inj hx).symm
          subst hxd
          have hL : lnkR (bs.take (k + 1)) j x 15000 15001 = ⟨55, 3, (bs.take k).map bC ++ [[iA x.name, .o 15000 x.safe.length, .o 15001 x.fresh.length]], false⟩ := by
            unfold lnkR
            rw [e, List.map_append, ← hkj2]
            have := set_end ((bs.take k).map bC) (bC x) (lnkC x 15000 15001)
            rw [List.length_map, el] at this
            rw [show [x].map bC = [bC x] from rfl, this]
            rfl
          (try simp only [hg, i1, i2, push_cast, simprocAttr])
          (refine at_call ?_; (try simp only [push_cast, simprocAttr]); refine rwc_r (hC0) rfl (flat_z2 _ _) (by simp [frB, baseOf]) (go_on ?_); (try simp only [push_cast, simprocAttr]))
          refine at_chk (by omega) ?_
          (try simp only [w1, push_cast, simprocAttr])
          refine at_fin ⟨(k + 1, true), ⟨by dsimp only; omega, .inr ⟨rfl, by dsimp only; omega⟩⟩, by dsimp only; omega, ?_⟩
          simp only [clnH]
          rw [hL]
          refine wk_ok ?_ ?_ ?_ ?_
          · simp [leL, upA, hvA, dsts, dstO, setA_0, setA_1, setA_8, List.append, List.cons_append, List.nil_append]
          · simp [leH, hget, sameRow, List.take_take, kill_bC, killA]
          · simp [idsL, idsA, inH, hget, upA, hvA, dsts, dstO, setA_0, setA_1, setA_8, List.append, List.cons_append, List.nil_append]
          · rw [← hL]
            simp [idsR, lnk_idsR, inH, hget]
        · (try simp only [hg, i1, i2, push_cast, simprocAttr])
          ((try simp only [push_cast, simprocAttr]); refine at_share2 (by simp [isC2, isC]) (by first | rfl | simp [ren]) (hC) (go_on ?_); (try simp only [push_cast, simprocAttr]))
          refine at_chk (by omega) ?_
          (try simp only [w1, push_cast, simprocAttr])
          refine at_fin ⟨(k + 1, false), ⟨by dsimp only; omega, .inl ⟨rfl, by dsimp only; omega⟩⟩, by dsimp only; omega, ?_⟩
          simp only [clnH]
          rw [e]
          (refine wk_ok ?_ ?_ ?_ ?_ <;> simp [bC, el, List.take_take, leL, leH, idsL, idsA, idsR, inH, hget, sameRow, upA, hvA, dsts, dstO, setA_0, setA_1, setA_8, List.append, List.cons_append, List.nil_append])
      · simp only [clnH]
        obtain ⟨ES, hES⟩ : ∃ ES, ES = (lnkR (bs.take k) j d 15000 15001).es := ⟨_, rfl⟩
        have hrow : lnkR (bs.take k) j d 15000 15001 = ⟨55, 3, ES, false⟩ := by rw [hES]; rfl
        have hESl : ES.length = k := by rw [hES]; simp [lnkR]; omega
        have hTk : List.take k ES = ES := List.take_of_length_le (by omega)
        have hKl : ES.map (fun x => List.map (killA 3) x) = ES := by rw [hES]; exact lnk_kill (by decide) (by decide)
        have hL : lnkR (bs.take (k + 1)) j d 15000 15001 = ⟨55, 3, ES ++ [[iA x.name, intsA x.safe, intsA x.fresh]], false⟩ := by
          rw [hES]
          unfold lnkR
          rw [e, List.map_append, List.set_append_left _ _ (by simp; omega)]
          rfl
        rw [hrow]
        (try simp only [hg, i1, i2, push_cast, simprocAttr])
        ((try simp only [push_cast, simprocAttr]); refine at_share2 (by simp [isC2, isC]) (by first | rfl | simp [ren]) (hC) (go_on ?_); (try simp only [push_cast, simprocAttr]))
        refine at_chk (by omega) ?_
        (try simp only [w1, hTk, hKl, push_cast, simprocAttr])
        refine at_fin ⟨(k + 1, true), ⟨by dsimp only; omega, .inr ⟨rfl, by dsimp only; omega⟩⟩, by dsimp only; omega, ?_⟩
        simp only [clnH]
        rw [hL]
        refine wk_ok ?_ ?_ ?_ ?_
        · simp [leL, upA, hvA, dsts, dstO, setA_0, setA_1, setA_8, List.append, List.cons_append, List.nil_append]
        · simp [leH, hget, sameRow, hTk, hKl, killA]
        · simp [idsL, idsA, inH, hget, upA, hvA, dsts, dstO, setA_0, setA_1, setA_8, List.append, List.cons_append, List.nil_append]
        · rw [← hL]
          simp [idsR, lnk_idsR, inH, hget]
    · have h3 := lt_ff hg
      have hk' : k = bs.length := by omega
      subst hk'
      rcases hp with ⟨rfl, hkj⟩ | ⟨rfl, hkj⟩
      · omega
      · simp only [clnH, List.take_length]
        (try simp only [hg, push_cast, simprocAttr])
        refine at_retX [3, 15000, 15001] ?_
        have hin := lnk_in (σ := [3, 15000, 15001]) (bs := bs) (j := j) (d := d) (p := 15000) (q := 15001) rfl rfl
        have hrf := lnk_rf (ixOf [3, 15000, 15001]) (d := d) (p := 15000) (q := 15001) hjl
        have hrx : ∀ h : Hp, hget h 3 = some (lnkR bs j d 15000 15001) → hget h 15000 = some (rowZ d.safe) → hget h 15001 = some (rowZ d.fresh) → rowsX h [3, 15000, 15001] [3, 15000, 15001] = some [lnkR bs j d 1 2, rowZ d.safe, rowZ d.fresh] := fun h a b c => by
          simp only [rowsX, a, b, c, hin, hrf, rowZ_in, rowZ_rf, if_true]
          rfl
        simp only [Try.results40, retX, push_cast, simprocAttr]
        simp only [show ((List.range 0).map nmX ++ [3, 15000, 15001]) = [3, 15000, 15001] from rfl]
        rw [hrx _ rfl rfl rfl, if_pos (by decide)]
        exact ⟨by simp [rfA, ixOf], rfl, rfl⟩
end Go.Proofs.Ytepcabenjikhgaa
/-
  Walks: disks: impl.DiskWrite, where there is no such file, or nothing is written.
-/
namespace Go.Proofs.Ytepcabenjikhgaa
open Go Go.RowKit Go.Proofs
theorem disk_names {bs : List BD} (h : diskB bs = true) : ∀ d ∈ bs, 0 ≤ d.name ∧ d.name ≤ 3 := fun d hd => by
  have := disk_okF h hd
  simp only [okF, inB, Bool.and_eq_true, decide_eq_true_eq] at this
  omega
attribute [local irreducible] RWp AW run kPe pe Kt effA gd gu br retR RDp runD kPeD brW gW effD
set_option maxRecDepth 100000
theorem DiskWrite_bad (bs : List BD) (hs : SmB bs) (nm : Int) (xs : List Int) (hx : xs.length ≤ 2000000) (h : (diskB bs && bytesB xs && inB nm 1 3) = false) : PC Try.prog 24 [blsA bs, iA nm, intsA xs] (rX (.tup [.o 0 0, bA false]) [rowB []]) := by
  have hV := DiskValid_pc bs hs
  have hB := bytesValid_pc xs (by omega)
  have hI := in_pc nm 1 3
  have eI : inB nm 1 3 = inR nm 1 3 := rfl
  rw [eI] at h
  cases hv : diskB bs with
  | false =>
    refine pc_enter Try.func24 rfl rfl fun w0 fb => go_on ?_; (try simp only [Try.ntmps24, push_cast, simprocAttr])
    refine at_call ?_
    (try simp only [push_cast, simprocAttr])
    refine rwc_v hV ?_
    (try simp only [push_cast, simprocAttr])
    (refine at_dropS [6] (by refine wk_ok ?_ ?_ ?_ ?_ <;> simp [dropS, dropT, hasN, delL, hdel, leL, leH, idsL, idsA, idsR, inH, hget, sameRow]) ?_; simp only [dropS, dropT, hasN, delL, hdel, idsA, idsL, hget, List.map_cons, List.map_nil, List.all_cons, List.all_nil, List.append_nil, Bool.not_false, Bool.not_true, Bool.and_true, if_true, if_false, simprocAttr])
    refine go_on ?_
    (try simp only [hv, Bool.not_false, push_cast, simprocAttr])
    refine at_ret ?_; simp only [Try.results24, push_cast, simprocAttr]
    simp [rX, ixOf]
  | true =>
    cases hxb : bytesB xs with
    | false =>
      refine pc_enter Try.func24 rfl rfl fun w0 fb => go_on ?_; (try simp only [Try.ntmps24, push_cast, simprocAttr])
      refine at_call ?_
      (try simp only [push_cast, simprocAttr])
      refine rwc_v hV ?_
      (try simp only [push_cast, simprocAttr])
      (refine at_dropS [6] (by refine wk_ok ?_ ?_ ?_ ?_ <;> simp [dropS, dropT, hasN, delL, hdel, leL, leH, idsL, idsA, idsR, inH, hget, sameRow]) ?_; simp only [dropS, dropT, hasN, delL, hdel, idsA, idsL, hget, List.map_cons, List.map_nil, List.all_cons, List.all_nil, List.append_nil, Bool.not_false, Bool.not_true, Bool.and_true, if_true, if_false, simprocAttr])
      refine go_on ?_
      (try simp only [hv, Bool.not_true, push_cast, simprocAttr])
      (refine at_call ?_; (try simp only [push_cast, simprocAttr]); refine rwc_v (hB) (go_on ?_); (try simp only [push_cast, simprocAttr]))
      (try simp only [hxb, Bool.not_false, push_cast, simprocAttr])
      refine at_ret ?_; simp only [Try.results24, push_cast, simprocAttr]
      simp [rX, ixOf]
    | true =>
      have hi : inR nm 1 3 = false := by simpa [hv, hxb] using h
      refine pc_enter Try.func24 rfl rfl fun w0 fb => go_on ?_; (try simp only [Try.ntmps24, push_cast, simprocAttr])
      refine at_call ?_
      (try simp only [push_cast, simprocAttr])
      refine rwc_v hV ?_
      (try simp only [push_cast, simprocAttr])
      (refine at_dropS [6] (by refine wk_ok ?_ ?_ ?_ ?_ <;> simp [dropS, dropT, hasN, delL, hdel, leL, leH, idsL, idsA, idsR, inH, hget, sameRow]) ?_; simp only [dropS, dropT, hasN, delL, hdel, idsA, idsL, hget, List.map_cons, List.map_nil, List.all_cons, List.all_nil, List.append_nil, Bool.not_false, Bool.not_true, Bool.and_true, if_true, if_false, simprocAttr])
      refine go_on ?_
      (try simp only [hv, Bool.not_true, push_cast, simprocAttr])
      (refine at_call ?_; (try simp only [push_cast, simprocAttr]); refine rwc_v (hB) (go_on ?_); (try simp only [push_cast, simprocAttr]))
      (try simp only [hxb, Bool.not_true, push_cast, simprocAttr])
      (refine at_call ?_; (try simp only [push_cast, simprocAttr]); refine rwc_v (hI) (go_on ?_); (try simp only [push_cast, simprocAttr]))
      (try simp only [hi, Bool.not_false, push_cast, simprocAttr])
      refine at_ret ?_; simp only [Try.results24, push_cast, simprocAttr]
      simp [rX, ixOf]
theorem DiskWrite_new0 (bs : List BD) (nm : Int) (xs : List Int) (hx : xs.length ≤ 2000000) (hv : diskB bs = true) (hxb : bytesB xs = true) (hi : inB nm 1 3 = true) (hg : getB bs nm = none) (hb : bs = []) : PC Try.prog 24 [blsA bs, iA nm, intsA xs] (vX (.tup [blsA (writeD bs nm xs).1, bA (writeD bs nm xs).2])) := by
  have hs := disk_sm hv
  have hn3 := disk_len hv
  have hV := DiskValid_pc bs hs
  have hB := bytesValid_pc xs (by omega)
  have hI := in_pc nm 1 3
  have hF := file_pc bs hs.n nm
  have hC := cloneDisk_pc bs hs
  have hi' : inR nm 1 3 = true := hi
  have hnm : 0 ≤ nm ∧ nm ≤ 3 := by simp only [inR, Bool.and_eq_true, decide_eq_true_eq] at hi'; omega
  have hwl := withB_len bs (wrB bs nm xs)
  have hnms := disk_names hv
  have hWs : SmD (wrB bs nm xs) := by
    unfold wrB
    cases hg : getB bs nm with
    | none => exact ⟨by simp, by simp only; omega⟩
    | some d =>
      have hm := (getB_name hg).2
      have hok := disk_okF hv hm
      simp only [okF, Bool.and_eq_true, decide_eq_true_eq] at hok
      exact ⟨(hs.d d hm).s, by simp only [List.length_append]; omega⟩
  have hws : SmB (withB bs (wrB bs nm xs)) := withB_sm hs (by omega) hWs
  obtain ⟨Y, hY⟩ : ∃ Y, Y = withB bs (wrB bs nm xs) := ⟨_, rfl⟩
  rw [← hY] at hws hwl
  have hwr : writeD bs nm xs = if diskB Y = true then (Y, true) else ([], false) := by unfold writeD; rw [hv, hxb, hi, ← hY]; rfl
  have hV2 := DiskValid_pc Y hws
  have hC2 := cloneDisk_d Y hws
  have emp : ∀ {q : PC Try.prog 24 [blsA bs, iA nm, intsA xs] (rX (.tup [.o 0 0, bA false]) [rowB []])}, PC Try.prog 24 [blsA bs, iA nm, intsA xs] (vX (.tup [blsA [], bA false])) := fun {q} => by
    have := q.frzX
    simp [viewN, hpOf, hget, isC, tk] at this
    exact this
  have hix : ixB bs nm = -1 := by
    rcases ixB_cases bs nm with ⟨h1, _⟩ | ⟨j, d, _, _, h3⟩
    · exact h1
    · rw [hg] at h3; cases h3
  rw [hix] at hF
  subst hb
  have hS := sorted_pcl ([⟨nm, [], xs⟩] : List BD) (by simp) fun d hd => by
    rcases List.mem_append.1 (show d ∈ [] ++ [(⟨nm, [], xs⟩ : BD)] from hd) with hd | hd
    · exact hnms d hd
    · simp only [List.mem_singleton] at hd; subst hd; exact hnm
  cases hd : diskB Y with
  | false =>
    have hr : writeD [] nm xs = ([], false) := by rw [hwr, hd]; rfl
    rw [hr]
    refine emp (q := ?_)
    refine pc_enter Try.func24 rfl rfl fun w0 fb => go_on ?_; (try simp only [Try.ntmps24, push_cast, simprocAttr])
    refine at_call ?_
    (try simp only [push_cast, simprocAttr])
    refine rwc_v hV ?_
    (try simp only [push_cast, simprocAttr])
    (refine at_dropS [6] (by refine wk_ok ?_ ?_ ?_ ?_ <;> simp [dropS, dropT, hasN, delL, hdel, leL, leH, idsL, idsA, idsR, inH, hget, sameRow]) ?_; simp only [dropS, dropT, hasN, delL, hdel, idsA, idsL, hget, List.map_cons, List.map_nil, List.all_cons, List.all_nil, List.append_nil, Bool.not_false, Bool.not_true, Bool.and_true, if_true, if_false, simprocAttr])
    refine go_on ?_
    (try simp only [hv, Bool.not_true, push_cast, simprocAttr])
    (refine at_call ?_; (try simp only [push_cast, simprocAttr]); refine rwc_v (hB) (go_on ?_); (try simp only [push_cast, simprocAttr]))
    (try simp only [hxb, Bool.not_true, push_cast, simprocAttr])
    (refine at_call ?_; (try simp only [push_cast, simprocAttr]); refine rwc_v (hI) (go_on ?_); (try simp only [push_cast, simprocAttr]))
    (try simp only [hi', Bool.not_true, push_cast, simprocAttr])
    refine call_share (by simp [isC]) hC ?_
    rintro rv rows ⟨rfl, rfl⟩
    refine ⟨by simp [frB, baseOf], go_on ?_⟩
    (try simp only [bC, push_cast, simprocAttr])
    (refine at_call ?_; simp only [bC, viewN, hget, tk, isC, List.map_cons, List.map_nil, List.length_map, List.length_cons, List.length_nil, Nat.reduceAdd, Nat.reduceEqDiff, if_true, if_false, reduceIte, simprocAttr]; refine rwc_v (hF) (go_on ?_); (try simp only [push_cast, simprocAttr]))
    (try simp only [show ltI (-1) 0 = true from rfl, push_cast, simprocAttr])
    refine at_chk (by first | omega | simp) ?_
    (try simp only [bC, show IntKind.i64.wrap 0 = 0 from rfl, show IntKind.i64.wrap (1 - 1) = 0 from rfl, show toIx 0 1 = some 0 from rfl, Nat.zero_add, push_cast, simprocAttr])
    refine at_chk (by first | omega | simp) ?_
    (try simp only [bC, Nat.zero_add, push_cast, simprocAttr])
    (refine at_callN 25000 1 (by refine wk_nil ?_ ?_ ?_ ?_ <;> simp [nilH, nlCell, nlE_refl, leL, leN, rowN2, nlE, nlC, nlv, idsL, idsA, idsR, inH, hget]) ?_; simp only [nilR, nilH, nlCell, Nat.reduceEqDiff, if_true, if_false, List.map_cons, List.map_nil, simprocAttr])
    (refine at_callW [46] (by refine wk_frz ?_ ?_ ?_ ?_ <;> simp [frwS, frwH, frwRow, frzT, hasN, delL, hdel, leF, leHF, rowF, frzB, idsL, idsA, idsR, inH, hget, sameRow, viewN, tk]) ?_; simp only [frwS, frwH, frwRow, frzT, hasN, delL, hdel, idsA, idsL, viewN, hget, tk, isC, List.map_cons, List.map_nil, List.all_cons, List.all_nil, List.append_nil, List.drop, List.getElem?_cons_zero, List.getElem?_cons_succ, Bool.not_false, Bool.not_true, Bool.and_true, if_true, if_false, Nat.zero_add, List.length_map, simprocAttr])
    (try simp only [push_cast, simprocAttr]); refine call_lend [25000] none (lr := [rowB [⟨nm, [], xs⟩]]) (by simp [ndB]) (by first | rfl | simp [rowsOf, hget, rdR, rowS, sC, ndC, cmC]) (by simp [idsL, idsA]) (by simp [mvN]) (by simpa [rnA, ixOf] using hS) ?_
    rintro rv lr' rows ⟨L', g1, g2, rfl, rfl, rfl⟩
    have hlen := g1.length_eq
    simp only [List.length_cons, List.length_nil, Nat.reduceAdd] at hlen
    have hLY : L' = Y := by rw [hY]; exact wr_new hv hg g1 g2
    (refine ⟨by simp [shB, mvF, hlen], by simp [frB, baseOf], go_on ?_⟩; simp only [killA, killH, killRow, push_cast, simprocAttr])
    rw [hLY]
    have hYl : Y.length = 1 := by rw [← hLY]; exact hlen
    (try simp only [push_cast, simprocAttr])
    (refine at_call ?_; simp only [hYl, viewN, hget, tk, isC, List.map_cons, List.map_nil, List.length_map, List.length_cons, List.length_nil, Nat.reduceAdd, Nat.reduceEqDiff, if_true, if_false, reduceIte, simprocAttr]; refine rwc_v (hV2) (go_on ?_); (try simp only [push_cast, simprocAttr]))
    (try simp only [hd, Bool.not_false, push_cast, simprocAttr])
    refine at_ret ?_; simp only [Try.results24, push_cast, simprocAttr]
    simp [rX, ixOf]
  | true =>
    have hr : writeD [] nm xs = (Y, true) := by rw [hwr, hd]; rfl
    rw [hr]
    refine pc_enter Try.func24 rfl rfl fun w0 fb => go_on ?_; (try simp only [Try.ntmps24, push_cast, simprocAttr])
    refine at_call ?_
    (try simp only [push_cast, simprocAttr])
    refine rwc_v hV ?_
    (try simp only [push_cast, simprocAttr])
    (refine at_dropS [6] (by refine wk_ok ?_ ?_ ?_ ?_ <;> simp [dropS, dropT, hasN, delL, hdel, leL, leH, idsL, idsA, idsR, inH, hget, sameRow]) ?_; simp only [dropS, dropT, hasN, delL, hdel, idsA, idsL, hget, List.map_cons, List.map_nil, List.all_cons, List.all_nil, List.append_nil, Bool.not_false, Bool.not_true, Bool.and_true, if_true, if_false, simprocAttr])
    refine go_on ?_
    (try simp only [hv, Bool.not_true, push_cast, simprocAttr])
    (refine at_call ?_; (try simp only [push_cast, simprocAttr]); refine rwc_v (hB) (go_on ?_); (try simp only [push_cast, simprocAttr]))
    (try simp only [hxb, Bool.not_true, push_cast, simprocAttr])
    (refine at_call ?_; (try simp only [push_cast, simprocAttr]); refine rwc_v (hI) (go_on ?_); (try simp only [push_cast, simprocAttr]))
    (try simp only [hi', Bool.not_true, push_cast, simprocAttr])
    refine call_share (by simp [isC]) hC ?_
    rintro rv rows ⟨rfl, rfl⟩
    refine ⟨by simp [frB, baseOf], go_on ?_⟩
    (try simp only [bC, push_cast, simprocAttr])
    (refine at_call ?_; simp only [bC, viewN, hget, tk, isC, List.map_cons, List.map_nil, List.length_map, List.length_cons, List.length_nil, Nat.reduceAdd, Nat.reduceEqDiff, if_true, if_false, reduceIte, simprocAttr]; refine rwc_v (hF) (go_on ?_); (try simp only [push_cast, simprocAttr]))
    (try simp only [show ltI (-1) 0 = true from rfl, push_cast, simprocAttr])
    refine at_chk (by first | omega | simp) ?_
    (try simp only [bC, show IntKind.i64.wrap 0 = 0 from rfl, show IntKind.i64.wrap (1 - 1) = 0 from rfl, show toIx 0 1 = some 0 from rfl, Nat.zero_add, push_cast, simprocAttr])
    refine at_chk (by first | omega | simp) ?_
    (try simp only [bC, Nat.zero_add, push_cast, simprocAttr])
    (refine at_callN 25000 1 (by refine wk_nil ?_ ?_ ?_ ?_ <;> simp [nilH, nlCell, nlE_refl, leL, leN, rowN2, nlE, nlC, nlv, idsL, idsA, idsR, inH, hget]) ?_; simp only [nilR, nilH, nlCell, Nat.reduceEqDiff, if_true, if_false, List.map_cons, List.map_nil, simprocAttr])
    (refine at_callW [46] (by refine wk_frz ?_ ?_ ?_ ?_ <;> simp [frwS, frwH, frwRow, frzT, hasN, delL, hdel, leF, leHF, rowF, frzB, idsL, idsA, idsR, inH, hget, sameRow, viewN, tk]) ?_; simp only [frwS, frwH, frwRow, frzT, hasN, delL, hdel, idsA, idsL, viewN, hget, tk, isC, List.map_cons, List.map_nil, List.all_cons, List.all_nil, List.append_nil, List.drop, List.getElem?_cons_zero, List.getElem?_cons_succ, Bool.not_false, Bool.not_true, Bool.and_true, if_true, if_false, Nat.zero_add, List.length_map, simprocAttr])
    (try simp only [push_cast, simprocAttr]); refine call_lend [25000] none (lr := [rowB [⟨nm, [], xs⟩]]) (by simp [ndB]) (by first | rfl | simp [rowsOf, hget, rdR, rowS, sC, ndC, cmC]) (by simp [idsL, idsA]) (by simp [mvN]) (by simpa [rnA, ixOf] using hS) ?_
    rintro rv lr' rows ⟨L', g1, g2, rfl, rfl, rfl⟩
    have hlen := g1.length_eq
    simp only [List.length_cons, List.length_nil, Nat.reduceAdd] at hlen
    have hLY : L' = Y := by rw [hY]; exact wr_new hv hg g1 g2
    (refine ⟨by simp [shB, mvF, hlen], by simp [frB, baseOf], go_on ?_⟩; simp only [killA, killH, killRow, push_cast, simprocAttr])
    rw [hLY]
    have hYl : Y.length = 1 := by rw [← hLY]; exact hlen
    (try simp only [push_cast, simprocAttr])
    (refine at_call ?_; simp only [hYl, viewN, hget, tk, isC, List.map_cons, List.map_nil, List.length_map, List.length_cons, List.length_nil, Nat.reduceAdd, Nat.reduceEqDiff, if_true, if_false, reduceIte, simprocAttr]; refine rwc_v (hV2) (go_on ?_); (try simp only [push_cast, simprocAttr]))
    (try simp only [hd, Bool.not_true, push_cast, simprocAttr])
    (refine at_callW [25000] (by refine wk_frz ?_ ?_ ?_ ?_ <;> simp [hYl, frwS, frwH, frwRow, frzT, hasN, delL, hdel, leF, leHF, rowF, frzB, idsL, idsA, idsR, inH, hget, sameRow, viewN, tk]) ?_; simp only [hYl, frwS, frwH, frwRow, frzT, hasN, delL, hdel, idsA, idsL, viewN, hget, tk, isC, List.map_cons, List.map_nil, List.all_cons, List.all_nil, List.append_nil, List.drop, List.getElem?_cons_zero, List.getElem?_cons_succ, Bool.not_false, Bool.not_true, Bool.and_true, if_true, if_false, Nat.zero_add, List.length_map, simprocAttr])
    ((try simp only [push_cast, simprocAttr]); refine at_share2 (by simp [isC2, isC]) (by first | rfl | simp [ren]) (hC2) (go_on ?_); (try simp only [push_cast, simprocAttr]))
    refine at_ret ?_; simp only [Try.results24, push_cast, simprocAttr]
    simp [vX]
theorem DiskWrite_new1 (bs : List BD) (nm : Int) (xs : List Int) (hx : xs.length ≤ 2000000) (hv : diskB bs = true) (hxb : bytesB xs = true) (hi : inB nm 1 3 = true) (hg : getB bs nm = none) (hb : ∃ d0, bs = [d0]) : PC Try.prog 24 [blsA bs, iA nm, intsA xs] (vX (.tup [blsA (writeD bs nm xs).1, bA (writeD bs nm xs).2])) := by
  have hs := disk_sm hv
  have hn3 := disk_len hv
  have hV := DiskValid_pc bs hs
  have hB := bytesValid_pc xs (by omega)
  have hI := in_pc nm 1 3
  have hF := file_pc bs hs.n nm
  have hC := cloneDisk_pc bs hs
  have hi' : inR nm 1 3 = true := hi
  have hnm : 0 ≤ nm ∧ nm ≤ 3 := by simp only [inR, Bool.and_eq_true, decide_eq_true_eq] at hi'; omega
  have hwl := withB_len bs (wrB bs nm xs)
  have hnms := disk_names hv
  have hWs : SmD (wrB bs nm xs) := by
    unfold wrB
    cases hg : getB bs nm with
    | none => exact ⟨by simp, by simp only; omega⟩
    | some d =>
      have hm := (getB_name hg).2
      have hok := disk_okF hv hm
      simp only [okF, Bool.and_eq_true, decide_eq_true_eq] at hok
      exact ⟨(hs.d d hm).s, by simp only [List.length_append]; omega⟩
  have hws : SmB (withB bs (wrB bs nm xs)) := withB_sm hs (by omega) hWs
  obtain ⟨Y, hY⟩ : ∃ Y, Y = withB bs (wrB bs nm xs) := ⟨_, rfl⟩
  rw [← hY] at hws hwl
  have hwr : writeD bs nm xs = if diskB Y = true then (Y, true) else ([], false) := by unfold writeD; rw [hv, hxb, hi, ← hY]; rfl
  have hV2 := DiskValid_pc Y hws
  have hC2 := cloneDisk_d Y hws
  have emp : ∀ {q : PC Try.prog 24 [blsA bs, iA nm, intsA xs] (rX (.tup [.o 0 0, bA false]) [rowB []])}, PC Try.prog 24 [blsA bs, iA nm, intsA xs] (vX (.tup [blsA [], bA false])) := fun {q} => by
    have := q.frzX
    simp [viewN, hpOf, hget, isC, tk] at this
    exact this
  have hix : ixB bs nm = -1 := by
    rcases ixB_cases bs nm with ⟨h1, _⟩ | ⟨j, d, _, _, h3⟩
    · exact h1
    · rw [hg] at h3; cases h3
  rw [hix] at hF
  obtain ⟨d0, rfl⟩ := hb
  have hS := sorted_pcl ([d0, ⟨nm, [], xs⟩] : List BD) (by simp) fun d hd => by
    rcases List.mem_append.1 (show d ∈ [d0] ++ [(⟨nm, [], xs⟩ : BD)] from hd) with hd | hd
    · exact hnms d hd
    · simp only [List.mem_singleton] at hd; subst hd; exact hnm
  cases hd : diskB Y with
  | false =>
    have hr : writeD [d0] nm xs = ([], false) := by rw [hwr, hd]; rfl
    rw [hr]
    refine emp (q := ?_)
    refine pc_enter Try.func24 rfl rfl fun w0 fb => go_on ?_; (try simp only [Try.ntmps24, push_cast, simprocAttr])
    refine at_call ?_
    (try simp only [push_cast, simprocAttr])
    refine rwc_v hV ?_
    (try simp only [push_cast, simprocAttr])
    (refine at_dropS [6] (by refine wk_ok ?_ ?_ ?_ ?_ <;> simp [dropS, dropT, hasN, delL, hdel, leL, leH, idsL, idsA, idsR, inH, hget, sameRow]) ?_; simp only [dropS, dropT, hasN, delL, hdel, idsA, idsL, hget, List.map_cons, List.map_nil, List.all_cons, List.all_nil, List.append_nil, Bool.not_false, Bool.not_true, Bool.and_true, if_true, if_false, simprocAttr])
    refine go_on ?_
    (try simp only [hv, Bool.not_true, push_cast, simprocAttr])
    (refine at_call ?_; (try simp only [push_cast, simprocAttr]); refine rwc_v (hB) (go_on ?_); (try simp only [push_cast, simprocAttr]))
    (try simp only [hxb, Bool.not_true, push_cast, simprocAttr])
    (refine at_call ?_; (try simp only [push_cast, simprocAttr]); refine rwc_v (hI) (go_on ?_); (try simp only [push_cast, simprocAttr]))
    (try simp only [hi', Bool.not_true, push_cast, simprocAttr])
    refine call_share (by simp [isC]) hC ?_
    rintro rv rows ⟨rfl, rfl⟩
    refine ⟨by simp [frB, baseOf], go_on ?_⟩
    (try simp only [bC, push_cast, simprocAttr])
    (refine at_call ?_; simp only [bC, viewN, hget, tk, isC, List.map_cons, List.map_nil, List.length_map, List.length_cons, List.length_nil, Nat.reduceAdd, Nat.reduceEqDiff, if_true, if_false, reduceIte, simprocAttr]; refine rwc_v (hF) (go_on ?_); (try simp only [push_cast, simprocAttr]))
    (try simp only [show ltI (-1) 0 = true from rfl, push_cast, simprocAttr])
    refine at_chk (by first | omega | simp) ?_
    (try simp only [bC, show IntKind.i64.wrap 1 = 1 from rfl, show IntKind.i64.wrap (2 - 1) = 1 from rfl, show toIx 1 2 = some 1 from rfl, Nat.zero_add, push_cast, simprocAttr])
    refine at_chk (by first | omega | simp) ?_
    (try simp only [bC, Nat.zero_add, push_cast, simprocAttr])
    (refine at_callN 25000 1 (by refine wk_nil ?_ ?_ ?_ ?_ <;> simp [nilH, nlCell, nlE_refl, leL, leN, rowN2, nlE, nlC, nlv, idsL, idsA, idsR, inH, hget]) ?_; simp only [nilR, nilH, nlCell, Nat.reduceEqDiff, if_true, if_false, List.map_cons, List.map_nil, simprocAttr])
    (refine at_callW [46] (by refine wk_frz ?_ ?_ ?_ ?_ <;> simp [frwS, frwH, frwRow, frzT, hasN, delL, hdel, leF, leHF, rowF, frzB, idsL, idsA, idsR, inH, hget, sameRow, viewN, tk]) ?_; simp only [frwS, frwH, frwRow, frzT, hasN, delL, hdel, idsA, idsL, viewN, hget, tk, isC, List.map_cons, List.map_nil, List.all_cons, List.all_nil, List.append_nil, List.drop, List.getElem?_cons_zero, List.getElem?_cons_succ, Bool.not_false, Bool.not_true, Bool.and_true, if_true, if_false, Nat.zero_add, List.length_map, simprocAttr])
    (try simp only [push_cast, simprocAttr]); refine call_lend [25000] none (lr := [rowB [d0, ⟨nm, [], xs⟩]]) (by simp [ndB]) (by first | rfl | simp [rowsOf, hget, rdR, rowS, sC, ndC, cmC]) (by simp [idsL, idsA]) (by simp [mvN]) (by simpa [rnA, ixOf] using hS) ?_
    rintro rv lr' rows ⟨L', g1, g2, rfl, rfl, rfl⟩
    have hlen := g1.length_eq
    simp only [List.length_cons, List.length_nil, Nat.reduceAdd] at hlen
    have hLY : L' = Y := by rw [hY]; exact wr_new hv hg g1 g2
    (refine ⟨by simp [shB, mvF, hlen], by simp [frB, baseOf], go_on ?_⟩; simp only [killA, killH, killRow, push_cast, simprocAttr])
    rw [hLY]
    have hYl : Y.length = 2 := by rw [← hLY]; exact hlen
    (try simp only [push_cast, simprocAttr])
    (refine at_call ?_; simp only [hYl, viewN, hget, tk, isC, List.map_cons, List.map_nil, List.length_map, List.length_cons, List.length_nil, Nat.reduceAdd, Nat.reduceEqDiff, if_true, if_false, reduceIte, simprocAttr]; refine rwc_v (hV2) (go_on ?_); (try simp only [push_cast, simprocAttr]))
    (try simp only [hd, Bool.not_false, push_cast, simprocAttr])
    refine at_ret ?_; simp only [Try.results24, push_cast, simprocAttr]
    simp [rX, ixOf]
  | true =>
    have hr : writeD [d0] nm xs = (Y, true) := by rw [hwr, hd]; rfl
    rw [hr]
    refine pc_enter Try.func24 rfl rfl fun w0 fb => go_on ?_; (try simp only [Try.ntmps24, push_cast, simprocAttr])
    refine at_call ?_
    (try simp only [push_cast, simprocAttr])
    refine rwc_v hV ?_
    (try simp only [push_cast, simprocAttr])
    (refine at_dropS [6] (by refine wk_ok ?_ ?_ ?_ ?_ <;> simp [dropS, dropT, hasN, delL, hdel, leL, leH, idsL, idsA, idsR, inH, hget, sameRow]) ?_; simp only [dropS, dropT, hasN, delL, hdel, idsA, idsL, hget, List.map_cons, List.map_nil, List.all_cons, List.all_nil, List.append_nil, Bool.not_false, Bool.not_true, Bool.and_true, if_true, if_false, simprocAttr])
    refine go_on ?_
    (try simp only [hv, Bool.not_true, push_cast, simprocAttr])
    (refine at_call ?_; (try simp only [push_cast, simprocAttr]); refine rwc_v (hB) (go_on ?_); (try simp only [push_cast, simprocAttr]))
    (try simp only [hxb, Bool.not_true, push_cast, simprocAttr])
    (refine at_call ?_; (try simp only [push_cast, simprocAttr]); refine rwc_v (hI) (go_on ?_); (try simp only [push_cast, simprocAttr]))
    (try simp only [hi', Bool.not_true, push_cast, simprocAttr])
    refine call_share (by simp [isC]) hC ?_
    rintro rv rows ⟨rfl, rfl⟩
    refine ⟨by simp [frB, baseOf], go_on ?_⟩
    (try simp only [bC, push_cast, simprocAttr])
    (refine at_call ?_; simp only [bC, viewN, hget, tk, isC, List.map_cons, List.map_nil, List.length_map, List.length_cons, List.length_nil, Nat.reduceAdd, Nat.reduceEqDiff, if_true, if_false, reduceIte, simprocAttr]; refine rwc_v (hF) (go_on ?_); (try simp only [push_cast, simprocAttr]))
    (try simp only [show ltI (-1) 0 = true from rfl, push_cast, simprocAttr])
    refine at_chk (by first | omega | simp) ?_
    (try simp only [bC, show IntKind.i64.wrap 1 = 1 from rfl, show IntKind.i64.wrap (2 - 1) = 1 from rfl, show toIx 1 2 = some 1 from rfl, Nat.zero_add, push_cast, simprocAttr])
    refine at_chk (by first | omega | simp) ?_
    (try simp only [bC, Nat.zero_add, push_cast, simprocAttr])
    (refine at_callN 25000 1 (by refine wk_nil ?_ ?_ ?_ ?_ <;> simp [nilH, nlCell, nlE_refl, leL, leN, rowN2, nlE, nlC, nlv, idsL, idsA, idsR, inH, hget]) ?_; simp only [nilR, nilH, nlCell, Nat.reduceEqDiff, if_true, if_false, List.map_cons, List.map_nil, simprocAttr])
    (refine at_callW [46] (by refine wk_frz ?_ ?_ ?_ ?_ <;> simp [frwS, frwH, frwRow, frzT, hasN, delL, hdel, leF, leHF, rowF, frzB, idsL, idsA, idsR, inH, hget, sameRow, viewN, tk]) ?_; simp only [frwS, frwH, frwRow, frzT, hasN, delL, hdel, idsA, idsL, viewN, hget, tk, isC, List.map_cons, List.map_nil, List.all_cons, List.all_nil, List.append_nil, List.drop, List.getElem?_cons_zero, List.getElem?_cons_succ, Bool.not_false, Bool.not_true, Bool.and_true, if_true, if_false, Nat.zero_add, List.length_map, simprocAttr])
    (try simp only [push_cast, simprocAttr]); refine call_lend [25000] none (lr := [rowB [d0, ⟨nm, [], xs⟩]]) (by simp [ndB]) (by first | rfl | simp [rowsOf, hget, rdR, rowS, sC, ndC, cmC]) (by simp [idsL, idsA]) (by simp [mvN]) (by simpa [rnA, ixOf] using hS) ?_
    rintro rv lr' rows ⟨L', g1, g2, rfl, rfl, rfl⟩
    have hlen := g1.length_eq
    simp only [List.length_cons, List.length_nil, Nat.reduceAdd] at hlen
    have hLY : L' = Y := by rw [hY]; exact wr_new hv hg g1 g2
    (refine ⟨by simp [shB, mvF, hlen], by simp [frB, baseOf], go_on ?_⟩; simp only [killA, killH, killRow, push_cast, simprocAttr])
    rw [hLY]
    have hYl : Y.length = 2 := by rw [← hLY]; exact hlen
    (try simp only [push_cast, simprocAttr])
    (refine at_call ?_; simp only [hYl, viewN, hget, tk, isC, List.map_cons, List.map_nil, List.length_map, List.length_cons, List.length_nil, Nat.reduceAdd, Nat.reduceEqDiff, if_true, if_false, reduceIte, simprocAttr]; refine rwc_v (hV2) (go_on ?_); (try simp only [push_cast, simprocAttr]))
    (try simp only [hd, Bool.not_true, push_cast, simprocAttr])
    (refine at_callW [25000] (by refine wk_frz ?_ ?_ ?_ ?_ <;> simp [hYl, frwS, frwH, frwRow, frzT, hasN, delL, hdel, leF, leHF, rowF, frzB, idsL, idsA, idsR, inH, hget, sameRow, viewN, tk]) ?_; simp only [hYl, frwS, frwH, frwRow, frzT, hasN, delL, hdel, idsA, idsL, viewN, hget, tk, isC, List.map_cons, List.map_nil, List.all_cons, List.all_nil, List.append_nil, List.drop, List.getElem?_cons_zero, List.getElem?_cons_succ, Bool.not_false, Bool.not_true, Bool.and_true, if_true, if_false, Nat.zero_add, List.length_map, simprocAttr])
    ((try simp only [push_cast, simprocAttr]); refine at_share2 (by simp [isC2, isC]) (by first | rfl | simp [ren]) (hC2) (go_on ?_); (try simp only [push_cast, simprocAttr]))
    refine at_ret ?_; simp only [Try.results24, push_cast, simprocAttr]
    simp [vX]
theorem DiskWrite_new2 (bs : List BD) (nm : Int) (xs : List Int) (hx : xs.length ≤ 2000000) (hv : diskB bs = true) (hxb : bytesB xs = true) (hi : inB nm 1 3 = true) (hg : getB bs nm = none) (hb : ∃ d0 d1, bs = [d0, d1]) : PC Try.prog 24 [blsA bs, iA nm, intsA xs] (vX (.tup [blsA (writeD bs nm xs).1, bA (writeD bs nm xs).2])) := by
  have hs := disk_sm hv
  have hn3 := disk_len hv
  have hV := DiskValid_pc bs hs
  have hB := bytesValid_pc xs (by omega)
  have hI := in_pc nm 1 3
  have hF := file_pc bs hs.n nm
  have hC := cloneDisk_pc bs hs
  have hi' : inR nm 1 3 = true := hi
  have hnm : 0 ≤ nm ∧ nm ≤ 3 := by simp only [inR, Bool.and_eq_true, decide_eq_true_eq] at hi'; omega
  have hwl := withB_len bs (wrB bs nm xs)
  have hnms := disk_names hv
  have hWs : SmD (wrB bs nm xs) := by
    unfold wrB
    cases hg : getB bs nm with
    | none => exact ⟨by simp, by simp only; omega⟩
    | some d =>
      have hm := (getB_name hg).2
      have hok := disk_okF hv hm
      simp only [okF, Bool.and_eq_true, decide_eq_true_eq] at hok
      exact ⟨(hs.d d hm).s, by simp only [List.length_append]; omega⟩
  have hws : SmB (withB bs (wrB bs nm xs)) := withB_sm hs (by omega) hWs
  obtain ⟨Y, hY⟩ : ∃ Y, Y = withB bs (wrB bs nm xs) := ⟨_, rfl⟩
  rw [← hY] at hws hwl
  have hwr : writeD bs nm xs = if diskB Y = true then (Y, true) else ([], false) := by unfold writeD; rw [hv, hxb, hi, ← hY]; rfl
  have hV2 := DiskValid_pc Y hws
  have hC2 := cloneDisk_d Y hws
  have emp : ∀ {q : PC Try.prog 24 [blsA bs, iA nm, intsA xs] (rX (.tup [.o 0 0, bA false]) [rowB []])}, PC Try.prog 24 [blsA bs, iA nm, intsA xs] (vX (.tup [blsA [], bA false])) := fun {q} => by
    have := q.frzX
    simp [viewN, hpOf, hget, isC, tk] at this
    exact this
  have hix : ixB bs nm = -1 := by
    rcases ixB_cases bs nm with ⟨h1, _⟩ | ⟨j, d, _, _, h3⟩
    · exact h1
    · rw [hg] at h3; cases h3
  rw [hix] at hF
  obtain ⟨d0, d1, rfl⟩ := hb
  have hS := sorted_pcl ([d0, d1, ⟨nm, [], xs⟩] : List BD) (by simp) fun d hd => by
    rcases List.mem_append.1 (show d ∈ [d0, d1] ++ [(⟨nm, [], xs⟩ : BD)] from hd) with hd | hd
    · exact hnms d hd
    · simp only [List.mem_singleton] at hd; subst hd; exact hnm
  cases hd : diskB Y with
  | false =>
    have hr : writeD [d0, d1] nm xs = ([], false) := by rw [hwr, hd]; rfl
    rw [hr]
    refine emp (q := ?_)
    refine pc_enter Try.func24 rfl rfl fun w0 fb => go_on ?_; (try simp only [Try.ntmps24, push_cast, simprocAttr])
    refine at_call ?_
    (try simp only [push_cast, simprocAttr])
    refine rwc_v hV ?_
    (try simp only [push_cast, simprocAttr])
    (refine at_dropS [6] (by refine wk_ok ?_ ?_ ?_ ?_ <;> simp [dropS, dropT, hasN, delL, hdel, leL, leH, idsL, idsA, idsR, inH, hget, sameRow]) ?_; simp only [dropS, dropT, hasN, delL, hdel, idsA, idsL, hget, List.map_cons, List.map_nil, List.all_cons, List.all_nil, List.append_nil, Bool.not_false, Bool.not_true, Bool.and_true, if_true, if_false, simprocAttr])
    refine go_on ?_
    (try simp only [hv, Bool.not_true, push_cast, simprocAttr])
    (refine at_call ?_; (try simp only [push_cast, simprocAttr]); refine rwc_v (hB) (go_on ?_); (try simp only [push_cast, simprocAttr]))
    (try simp only [hxb, Bool.not_true, push_cast, simprocAttr])
    (refine at_call ?_; (try simp only [push_cast, simprocAttr]); refine rwc_v (hI) (go_on ?_); (try simp only [push_cast, simprocAttr]))
    (try simp only [hi', Bool.not_true, push_cast, simprocAttr])
    refine call_share (by simp [isC]) hC ?_
    rintro rv rows ⟨rfl, rfl⟩
    refine ⟨by simp [frB, baseOf], go_on ?_⟩
    (try simp only [bC, push_cast, simprocAttr])
    (refine at_call ?_; simp only [bC, viewN, hget, tk, isC, List.map_cons, List.map_nil, List.length_map, List.length_cons, List.length_nil, Nat.reduceAdd, Nat.reduceEqDiff, if_true, if_false, reduceIte, simprocAttr]; refine rwc_v (hF) (go_on ?_); (try simp only [push_cast, simprocAttr]))
    (try simp only [show ltI (-1) 0 = true from rfl, push_cast, simprocAttr])
    refine at_chk (by first | omega | simp) ?_
    (try simp only [bC, show IntKind.i64.wrap 2 = 2 from rfl, show IntKind.i64.wrap (3 - 1) = 2 from rfl, show toIx 2 3 = some 2 from rfl, Nat.zero_add, push_cast, simprocAttr])
    refine at_chk (by first | omega | simp) ?_
    (try simp only [bC, Nat.zero_add, push_cast, simprocAttr])
    (refine at_callN 25000 1 (by refine wk_nil ?_ ?_ ?_ ?_ <;> simp [nilH, nlCell, nlE_refl, leL, leN, rowN2, nlE, nlC, nlv, idsL, idsA, idsR, inH, hget]) ?_; simp only [nilR, nilH, nlCell, Nat.reduceEqDiff, if_true, if_false, List.map_cons, List.map_nil, simprocAttr])
    (refine at_callW [46] (by refine wk_frz ?_ ?_ ?_ ?_ <;> simp [frwS, frwH, frwRow, frzT, hasN, delL, hdel, leF, leHF, rowF, frzB, idsL, idsA, idsR, inH, hget, sameRow, viewN, tk]) ?_; simp only [frwS, frwH, frwRow, frzT, hasN, delL, hdel, idsA, idsL, viewN, hget, tk, isC, List.map_cons, List.map_nil, List.all_cons, List.all_nil, List.append_nil, List.drop, List.getElem?_cons_zero, List.getElem?_cons_succ, Bool.not_false, Bool.not_true, Bool.and_true, if_true, if_false, Nat.zero_add, List.length_map, simprocAttr])
    (try simp only [push_cast, simprocAttr]); refine call_lend [25000] none (lr := [rowB [d0, d1, ⟨nm, [], xs⟩]]) (by simp [ndB]) (by first | rfl | simp [rowsOf, hget, rdR, rowS, sC, ndC, cmC]) (by simp [idsL, idsA]) (by simp [mvN]) (by simpa [rnA, ixOf] using hS) ?_
    rintro rv lr' rows ⟨L', g1, g2, rfl, rfl, rfl⟩
    have hlen := g1.length_eq
    simp only [List.length_cons, List.length_nil, Nat.reduceAdd] at hlen
    have hLY : L' = Y := by rw [hY]; exact wr_new hv hg g1 g2
    (refine ⟨by simp [shB, mvF, hlen], by simp [frB, baseOf], go_on ?_⟩; simp only [killA, killH, killRow, push_cast, simprocAttr])
    rw [hLY]
    have hYl : Y.length = 3 := by rw [← hLY]; exact hlen
    (try simp only [push_cast, simprocAttr])
    (refine at_call ?_; simp only [hYl, viewN, hget, tk, isC, List.map_cons, List.map_nil, List.length_map, List.length_cons, List.length_nil, Nat.reduceAdd, Nat.reduceEqDiff, if_true, if_false, reduceIte, simprocAttr]; refine rwc_v (hV2) (go_on ?_); (try simp only [push_cast, simprocAttr]))
    (try simp only [hd, Bool.not_false, push_cast, simprocAttr])
    refine at_ret ?_; simp only [Try.results24, push_cast, simprocAttr]
    simp [rX, ixOf]
  | true =>
    have hr : writeD [d0, d1] nm xs = (Y, true) := by rw [hwr, hd]; rfl
    rw [hr]
    refine pc_enter Try.func24 rfl rfl fun w0 fb => go_on ?_; (try simp only [Try.ntmps24, push_cast, simprocAttr])
    refine at_call ?_
    (try simp only [push_cast, simprocAttr])
    refine rwc_v hV ?_
    (try simp only [push_cast, simprocAttr])
    (refine at_dropS [6] (by refine wk_ok ?_ ?_ ?_ ?_ <;> simp [dropS, dropT, hasN, delL, hdel, leL, leH, idsL, idsA, idsR, inH, hget, sameRow]) ?_; simp only [dropS, dropT, hasN, delL, hdel, idsA, idsL, hget, List.map_cons, List.map_nil, List.all_cons, List.all_nil, List.append_nil, Bool.not_false, Bool.not_true, Bool.and_true, if_true, if_false, simprocAttr])
    refine go_on ?_
    (try simp only [hv, Bool.not_true, push_cast, simprocAttr])
    (refine at_call ?_; (try simp only [push_cast, simprocAttr]); refine rwc_v (hB) (go_on ?_); (try simp only [push_cast, simprocAttr]))
    (try simp only [hxb, Bool.not_true, push_cast, simprocAttr])
    (refine at_call ?_; (try simp only [push_cast, simprocAttr]); refine rwc_v (hI) (go_on ?_); (try simp only [push_cast, simprocAttr]))
    (try simp only [hi', Bool.not_true, push_cast, simprocAttr])
    refine call_share (by simp [isC]) hC ?_
    rintro rv rows ⟨rfl, rfl⟩
    refine ⟨by simp [frB, baseOf], go_on ?_⟩
    (try simp only [bC, push_cast, simprocAttr])
    (refine at_call ?_; simp only [bC, viewN, hget, tk, isC, List.map_cons, List.map_nil, List.length_map, List.length_cons, List.length_nil, Nat.reduceAdd, Nat.reduceEqDiff, if_true, if_false, reduceIte, simprocAttr]; refine rwc_v (hF) (go_on ?_); (try simp only [push_cast, simprocAttr]))
    (try simp only [show ltI (-1) 0 = true from rfl, push_cast, simprocAttr])
    refine at_chk (by first | omega | simp) ?_
    (try simp only [bC, show IntKind.i64.wrap 2 = 2 from rfl, show IntKind.i64.wrap (3 - 1) = 2 from rfl, show toIx 2 3 = some 2 from rfl, Nat.zero_add, push_cast, simprocAttr])
    refine at_chk (by first | omega | simp) ?_
    (try simp only [bC, Nat.zero_add, push_cast, simprocAttr])
    (refine at_callN 25000 1 (by refine wk_nil ?_ ?_ ?_ ?_ <;> simp [nilH, nlCell, nlE_refl, leL, leN, rowN2, nlE, nlC, nlv, idsL, idsA, idsR, inH, hget]) ?_; simp only [nilR, nilH, nlCell, Nat.reduceEqDiff, if_true, if_false, List.map_cons, List.map_nil, simprocAttr])
    (refine at_callW [46] (by refine wk_frz ?_ ?_ ?_ ?_ <;> simp [frwS, frwH, frwRow, frzT, hasN, delL, hdel, leF, leHF, rowF, frzB, idsL, idsA, idsR, inH, hget, sameRow, viewN, tk]) ?_; simp only [frwS, frwH, frwRow, frzT, hasN, delL, hdel, idsA, idsL, viewN, hget, tk, isC, List.map_cons, List.map_nil, List.all_cons, List.all_nil, List.append_nil, List.drop, List.getElem?_cons_zero, List.getElem?_cons_succ, Bool.not_false, Bool.not_true, Bool.and_true, if_true, if_false, Nat.zero_add, List.length_map, simprocAttr])
    (try simp only [push_cast, simprocAttr]); refine call_lend [25000] none (lr := [rowB [d0, d1, ⟨nm, [], xs⟩]]) (by simp [ndB]) (by first | rfl | simp [rowsOf, hget, rdR, rowS, sC, ndC, cmC]) (by simp [idsL, idsA]) (by simp [mvN]) (by simpa [rnA, ixOf] using hS) ?_
    rintro rv lr' rows ⟨L', g1, g2, rfl, rfl, rfl⟩
    have hlen := g1.length_eq
    simp only [List.length_cons, List.length_nil, Nat.reduceAdd] at hlen
    have hLY : L' = Y := by rw [hY]; exact wr_new hv hg g1 g2
    (refine ⟨by simp [shB, mvF, hlen], by simp [frB, baseOf], go_on ?_⟩; simp only [killA, killH, killRow, push_cast, simprocAttr])
    rw [hLY]
    have hYl : Y.length = 3 := by rw [← hLY]; exact hlen
    (try simp only [push_cast, simprocAttr])
    (refine at_call ?_; simp only [hYl, viewN, hget, tk, isC, List.map_cons, List.map_nil, List.length_map, List.length_cons, List.length_nil, Nat.reduceAdd, Nat.reduceEqDiff, if_true, if_false, reduceIte, simprocAttr]; refine rwc_v (hV2) (go_on ?_); (try simp only [push_cast, simprocAttr]))
    (try simp only [hd, Bool.not_true, push_cast, simprocAttr])
    (refine at_callW [25000] (by refine wk_frz ?_ ?_ ?_ ?_ <;> simp [hYl, frwS, frwH, frwRow, frzT, hasN, delL, hdel, leF, leHF, rowF, frzB, idsL, idsA, idsR, inH, hget, sameRow, viewN, tk]) ?_; simp only [hYl, frwS, frwH, frwRow, frzT, hasN, delL, hdel, idsA, idsL, viewN, hget, tk, isC, List.map_cons, List.map_nil, List.all_cons, List.all_nil, List.append_nil, List.drop, List.getElem?_cons_zero, List.getElem?_cons_succ, Bool.not_false, Bool.not_true, Bool.and_true, if_true, if_false, Nat.zero_add, List.length_map, simprocAttr])
    ((try simp only [push_cast, simprocAttr]); refine at_share2 (by simp [isC2, isC]) (by first | rfl | simp [ren]) (hC2) (go_on ?_); (try simp only [push_cast, simprocAttr]))
    refine at_ret ?_; simp only [Try.results24, push_cast, simprocAttr]
    simp [vX]
theorem DiskWrite_new3 (bs : List BD) (nm : Int) (xs : List Int) (hx : xs.length ≤ 2000000) (hv : diskB bs = true) (hxb : bytesB xs = true) (hi : inB nm 1 3 = true) (hg : getB bs nm = none) (hb : ∃ d0 d1 d2, bs = [d0, d1, d2]) : PC Try.prog 24 [blsA bs, iA nm, intsA xs] (vX (.tup [blsA (writeD bs nm xs).1, bA (writeD bs nm xs).2])) := by
  have hs := disk_sm hv
  have hn3 := disk_len hv
  have hV := DiskValid_pc bs hs
  have hB := bytesValid_pc xs (by omega)
  have hI := in_pc nm 1 3
  have hF := file_pc bs hs.n nm
  have hC := cloneDisk_pc bs hs
  have hi' : inR nm 1 3 = true := hi
  have hnm : 0 ≤ nm ∧ nm ≤ 3 := by simp only [inR, Bool.and_eq_true, decide_eq_true_eq] at hi'; omega
  have hwl := withB_len bs (wrB bs nm xs)
  have hnms := disk_names hv
  have hWs : SmD (wrB bs nm xs) := by
    unfold wrB
    cases hg : getB bs nm with
    | none => exact ⟨by simp, by simp only; omega⟩
    | some d =>
      have hm := (getB_name hg).2
      have hok := disk_okF hv hm
      simp only [okF, Bool.and_eq_true, decide_eq_true_eq] at hok
      exact ⟨(hs.d d hm).s, by simp only [List.length_append]; omega⟩
  have hws : SmB (withB bs (wrB bs nm xs)) := withB_sm hs (by omega) hWs
  obtain ⟨Y, hY⟩ : ∃ Y, Y = withB bs (wrB bs nm xs) := ⟨_, rfl⟩
  rw [← hY] at hws hwl
  have hwr : writeD bs nm xs = if diskB Y = true then (Y, true) else ([], false) := by unfold writeD; rw [hv, hxb, hi, ← hY]; rfl
  have hV2 := DiskValid_pc Y hws
  have hC2 := cloneDisk_d Y hws
  have emp : ∀ {q : PC Try.prog 24 [blsA bs, iA nm, intsA xs] (rX (.tup [.o 0 0, bA false]) [rowB []])}, PC Try.prog 24 [blsA bs, iA nm, intsA xs] (vX (.tup [blsA [], bA false])) := fun {q} => by
    have := q.frzX
    simp [viewN, hpOf, hget, isC, tk] at this
    exact this
  have hix : ixB bs nm = -1 := by
    rcases ixB_cases bs nm with ⟨h1, _⟩ | ⟨j, d, _, _, h3⟩
    · exact h1
    · rw [hg] at h3; cases h3
  rw [hix] at hF
  obtain ⟨d0, d1, d2, rfl⟩ := hb
  have hS := sorted_pcl ([d0, d1, d2, ⟨nm, [], xs⟩] : List BD) (by simp) fun d hd => by
    rcases List.mem_append.1 (show d ∈ [d0, d1, d2] ++ [(⟨nm, [], xs⟩ : BD)] from hd) with hd | hd
    · exact hnms d hd
    · simp only [List.mem_singleton] at hd; subst hd; exact hnm
  cases hd : diskB Y with
  | false =>
    have hr : writeD [d0, d1, d2] nm xs = ([], false) := by rw [hwr, hd]; rfl
    rw [hr]
    refine emp (q := ?_)
    refine pc_enter Try.func24 rfl rfl fun w0 fb => go_on ?_; (try simp only [Try.ntmps24, push_cast, simprocAttr])
    refine at_call ?_
    (try simp only [push_cast, simprocAttr])
    refine rwc_v hV ?_
    (try simp only [push_cast, simprocAttr])
    (refine at_dropS [6] (by refine wk_ok ?_ ?_ ?_ ?_ <;> simp [dropS, dropT, hasN, delL, hdel, leL, leH, idsL, idsA, idsR, inH, hget, sameRow]) ?_; simp only [dropS, dropT, hasN, delL, hdel, idsA, idsL, hget, List.map_cons, List.map_nil, List.all_cons, List.all_nil, List.append_nil, Bool.not_false, Bool.not_true, Bool.and_true, if_true, if_false, simprocAttr])
    refine go_on ?_
    (try simp only [hv, Bool.not_true, push_cast, simprocAttr])
    (refine at_call ?_; (try simp only [push_cast, simprocAttr]); refine rwc_v (hB) (go_on ?_); (try simp only [push_cast, simprocAttr]))
    (try simp only [hxb, Bool.not_true, push_cast, simprocAttr])
    (refine at_call ?_; (try simp only [push_cast, simprocAttr]); refine rwc_v (hI) (go_on ?_); (try simp only [push_cast, simprocAttr]))
    (try simp only [hi', Bool.not_true, push_cast, simprocAttr])
    refine call_share (by simp [isC]) hC ?_
    rintro rv rows ⟨rfl, rfl⟩
    refine ⟨by simp [frB, baseOf], go_on ?_⟩
    (try simp only [bC, push_cast, simprocAttr])
    (refine at_call ?_; simp only [bC, viewN, hget, tk, isC, List.map_cons, List.map_nil, List.length_map, List.length_cons, List.length_nil, Nat.reduceAdd, Nat.reduceEqDiff, if_true, if_false, reduceIte, simprocAttr]; refine rwc_v (hF) (go_on ?_); (try simp only [push_cast, simprocAttr]))
    (try simp only [show ltI (-1) 0 = true from rfl, push_cast, simprocAttr])
    refine at_chk (by first | omega | simp) ?_
    (try simp only [bC, show IntKind.i64.wrap 3 = 3 from rfl, show IntKind.i64.wrap (4 - 1) = 3 from rfl, show toIx 3 4 = some 3 from rfl, Nat.zero_add, push_cast, simprocAttr])
    refine at_chk (by first | omega | simp) ?_
    (try simp only [bC, Nat.zero_add, push_cast, simprocAttr])
    (refine at_callN 25000 1 (by refine wk_nil ?_ ?_ ?_ ?_ <;> simp [nilH, nlCell, nlE_refl, leL, leN, rowN2, nlE, nlC, nlv, idsL, idsA, idsR, inH, hget]) ?_; simp only [nilR, nilH, nlCell, Nat.reduceEqDiff, if_true, if_false, List.map_cons, List.map_nil, simprocAttr])
    (refine at_callW [46] (by refine wk_frz ?_ ?_ ?_ ?_ <;> simp [frwS, frwH, frwRow, frzT, hasN, delL, hdel, leF, leHF, rowF, frzB, idsL, idsA, idsR, inH, hget, sameRow, viewN, tk]) ?_; simp only [frwS, frwH, frwRow, frzT, hasN, delL, hdel, idsA, idsL, viewN, hget, tk, isC, List.map_cons, List.map_nil, List.all_cons, List.all_nil, List.append_nil, List.drop, List.getElem?_cons_zero, List.getElem?_cons_succ, Bool.not_false, Bool.not_true, Bool.and_true, if_true, if_false, Nat.zero_add, List.length_map, simprocAttr])
    (try simp only [push_cast, simprocAttr]); refine call_lend [25000] none (lr := [rowB [d0, d1, d2, ⟨nm, [], xs⟩]]) (by simp [ndB]) (by first | rfl | simp [rowsOf, hget, rdR, rowS, sC, ndC, cmC]) (by simp [idsL, idsA]) (by simp [mvN]) (by simpa [rnA, ixOf] using hS) ?_
    rintro rv lr' rows ⟨L', g1, g2, rfl, rfl, rfl⟩
    have hlen := g1.length_eq
    simp only [List.length_cons, List.length_nil, Nat.reduceAdd] at hlen
    have hLY : L' = Y := by rw [hY]; exact wr_new hv hg g1 g2
    (refine ⟨by simp [shB, mvF, hlen], by simp [frB, baseOf], go_on ?_⟩; simp only [killA, killH, killRow, push_cast, simprocAttr])
    rw [hLY]
    have hYl : Y.length = 4 := by rw [← hLY]; exact hlen
    (try simp only [push_cast, simprocAttr])
    (refine at_call ?_; simp only [hYl, viewN, hget, tk, isC, List.map_cons, List.map_nil, List.length_map, List.length_cons, List.length_nil, Nat.reduceAdd, Nat.reduceEqDiff, if_true, if_false, reduceIte, simprocAttr]; refine rwc_v (hV2) (go_on ?_); (try simp only [push_cast, simprocAttr]))
    (try simp only [hd, Bool.not_false, push_cast, simprocAttr])
    refine at_ret ?_; simp only [Try.results24, push_cast, simprocAttr]
    simp [rX, ixOf]
  | true =>
    have hr : writeD [d0, d1, d2] nm xs = (Y, true) := by rw [hwr, hd]; rfl
    rw [hr]
    refine pc_enter Try.func24 rfl rfl fun w0 fb => go_on ?_; (try simp only [Try.ntmps24, push_cast, simprocAttr])
    refine at_call ?_
    (try simp only [push_cast, simprocAttr])
    refine rwc_v hV ?_
    (try simp only [push_cast, simprocAttr])
    (refine at_dropS [6] (by refine wk_ok ?_ ?_ ?_ ?_ <;> simp [dropS, dropT, hasN, delL, hdel, leL, leH, idsL, idsA, idsR, inH, hget, sameRow]) ?_; simp only [dropS, dropT, hasN, delL, hdel, idsA, idsL, hget, List.map_cons, List.map_nil, List.all_cons, List.all_nil, List.append_nil, Bool.not_false, Bool.not_true, Bool.and_true, if_true, if_false, simprocAttr])
    refine go_on ?_
    (try simp only [hv, Bool.not_true, push_cast, simprocAttr])
    (refine at_call ?_; (try simp only [push_cast, simprocAttr]); refine rwc_v (hB) (go_on ?_); (try simp only [push_cast, simprocAttr]))
    (try simp only [hxb, Bool.not_true, push_cast, simprocAttr])
    (refine at_call ?_; (try simp only [push_cast, simprocAttr]); refine rwc_v (hI) (go_on ?_); (try simp only [push_cast, simprocAttr]))
    (try simp only [hi', Bool.not_true, push_cast, simprocAttr])
    refine call_share (by simp [isC]) hC ?_
    rintro rv rows ⟨rfl, rfl⟩
    refine ⟨by simp [frB, baseOf], go_on ?_⟩
    (try simp only [bC, push_cast, simprocAttr])
    (refine at_call ?_; simp only [bC, viewN, hget, tk, isC, List.map_cons, List.map_nil, List.length_map, List.length_cons, List.length_nil, Nat.reduceAdd, Nat.reduceEqDiff, if_true, if_false, reduceIte, simprocAttr]; refine rwc_v (hF) (go_on ?_); (try simp only [push_cast, simprocAttr]))
    (try simp only [show ltI (-1) 0 = true from rfl, push_cast, simprocAttr])
    refine at_chk (by first | omega | simp) ?_
    (try simp only [bC, show IntKind.i64.wrap 3 = 3 from rfl, show IntKind.i64.wrap (4 - 1) = 3 from rfl, show toIx 3 4 = some 3 from rfl, Nat.zero_add, push_cast, simprocAttr])
    refine at_chk (by first | omega | simp) ?_
    (try simp only [bC, Nat.zero_add, push_cast, simprocAttr])
    (refine at_callN 25000 1 (by refine wk_nil ?_ ?_ ?_ ?_ <;> simp [nilH, nlCell, nlE_refl, leL, leN, rowN2, nlE, nlC, nlv, idsL, idsA, idsR, inH, hget]) ?_; simp only [nilR, nilH, nlCell, Nat.reduceEqDiff, if_true, if_false, List.map_cons, List.map_nil, simprocAttr])
    (refine at_callW [46] (by refine wk_frz ?_ ?_ ?_ ?_ <;> simp [frwS, frwH, frwRow, frzT, hasN, delL, hdel, leF, leHF, rowF, frzB, idsL, idsA, idsR, inH, hget, sameRow, viewN, tk]) ?_; simp only [frwS, frwH, frwRow, frzT, hasN, delL, hdel, idsA, idsL, viewN, hget, tk, isC, List.map_cons, List.map_nil, List.all_cons, List.all_nil, List.append_nil, List.drop, List.getElem?_cons_zero, List.getElem?_cons_succ, Bool.not_false, Bool.not_true, Bool.and_true, if_true, if_false, Nat.zero_add, List.length_map, simprocAttr])
    (try simp only [push_cast, simprocAttr]); refine call_lend [25000] none (lr := [rowB [d0, d1, d2, ⟨nm, [], xs⟩]]) (by simp [ndB]) (by first | rfl | simp [rowsOf, hget, rdR, rowS, sC, ndC, cmC]) (by simp [idsL, idsA]) (by simp [mvN]) (by simpa [rnA, ixOf] using hS) ?_
    rintro rv lr' rows ⟨L', g1, g2, rfl, rfl, rfl⟩
    have hlen := g1.length_eq
    simp only [List.length_cons, List.length_nil, Nat.reduceAdd] at hlen
    have hLY : L' = Y := by rw [hY]; exact wr_new hv hg g1 g2
    (refine ⟨by simp [shB, mvF, hlen], by simp [frB, baseOf], go_on ?_⟩; simp only [killA, killH, killRow, push_cast, simprocAttr])
    rw [hLY]
    have hYl : Y.length = 4 := by rw [← hLY]; exact hlen
    (try simp only [push_cast, simprocAttr])
    (refine at_call ?_; simp only [hYl, viewN, hget, tk, isC, List.map_cons, List.map_nil, List.length_map, List.length_cons, List.length_nil, Nat.reduceAdd, Nat.reduceEqDiff, if_true, if_false, reduceIte, simprocAttr]; refine rwc_v (hV2) (go_on ?_); (try simp only [push_cast, simprocAttr]))
    (try simp only [hd, Bool.not_true, push_cast, simprocAttr])
    (refine at_callW [25000] (by refine wk_frz ?_ ?_ ?_ ?_ <;> simp [hYl, frwS, frwH, frwRow, frzT, hasN, delL, hdel, leF, leHF, rowF, frzB, idsL, idsA, idsR, inH, hget, sameRow, viewN, tk]) ?_; simp only [hYl, frwS, frwH, frwRow, frzT, hasN, delL, hdel, idsA, idsL, viewN, hget, tk, isC, List.map_cons, List.map_nil, List.all_cons, List.all_nil, List.append_nil, List.drop, List.getElem?_cons_zero, List.getElem?_cons_succ, Bool.not_false, Bool.not_true, Bool.and_true, if_true, if_false, Nat.zero_add, List.length_map, simprocAttr])
    ((try simp only [push_cast, simprocAttr]); refine at_share2 (by simp [isC2, isC]) (by first | rfl | simp [ren]) (hC2) (go_on ?_); (try simp only [push_cast, simprocAttr]))
    refine at_ret ?_; simp only [Try.results24, push_cast, simprocAttr]
    simp [vX]
end Go.Proofs.Ytepcabenjikhgaa
