/- A part of the proof of FnExactBookSteps: texts M23 M24 M25 M26 M27 M28 M30 M29 K5 K6 W0 W1 W2 W3 X3 X4 X5 X6 X7 X8 X9 W4 W5 W6 W7 W8 W9 W10 W11. -/
import Derived.Test.YtccifbbjbnjcfaaGreatDoorZt2
import Derived.KernelRfl
import Derived.Lib.SlicesS
import Derived.Test.YtccifbbjbnjcfaaGreatDoorZtp
import Derived.Lib.Strings
import Derived.Laws.Strings
import Derived.Test.YtccifbbjbnjcfaaGreatDoorZt1
import Derived.Lib.IndexBytes
import Derived.Lib.SplitLaws
import Derived.Shelf.RegionOpenPlain
import Derived.WalkKit
import Derived.Lib.Hide
import Derived.Lib.Walk
import Derived.Lib.SliceRun
import Derived.Lib.JoinLaws
import Derived.Lib.Overlaps
import Derived.Laws.CopyRow
import Derived.Lib.AppendZerosOnto
import Derived.Laws.NewBlocks
set_option linter.unusedSimpArgs false
set_option linter.unusedVariables false
/-
  The abstract machine: the law of a region that draws its order.
-/
namespace Go.Proofs.YtccifbbjbnjcfaaGreatDoor
open Go Go.RowKit

section
variable {P : Program}
/-- What the guard says. -/
def gV (s : AS) : Option (Option Tmp × Bool) → Option Bool
  | none => some true
  | some (some d, want) => match getA s.t d with
    | .v (.bool b) => some (b == want)
    | .v (.tuple _) => some false
    | _ => none
  | some (none, _) => none
inductive Sp (P : Program) (s : AS) (o : SO) : E → Prop
  | run {e : E} (hg : gV s o.g = some true) (h : Ex P s o e) : Sp P s o e
  | skip (hg : gV s o.g = some false) : Sp P s o ⟨o.dst, .v undef, none, [], rdO o, (rdO o).map (getA s.t)⟩
theorem Sp.rv {s : AS} {o : SO} {e : E} (h : Sp P s o e) : e.rd = rdO o ∧ e.vals = e.rd.map (getA s.t) := by
  cases h with
  | run hg h => cases h <;> exact ⟨rfl, rfl⟩
  | skip hg => exact ⟨rfl, rfl⟩
theorem Sp.frame {s s' : AS} {o : SO} {e : E} (h : Sp P s o e) (hs : Sees e s s') : Sp P s' o e := by
  obtain ⟨hrd, _⟩ := h.rv
  have hgv : gV s' o.g = gV s o.g := by
    cases hg : o.g with
    | none => rfl
    | some x =>
      obtain ⟨d, want⟩ := x
      cases d with
      | none => rfl
      | some d =>
        have : getA s.t d = getA s'.t d := hs.1 d (by rw [hrd]; unfold rdO; rw [hg]; simp)
        simp only [gV, this]
  cases h with
  | run hg h => exact .run (hgv.trans hg) (h.frame hs)
  | skip hg =>
    have : (rdO o).map (getA s'.t) = (rdO o).map (getA s.t) := List.map_congr_left fun q hq => (hs.1 q hq).symm
    rw [← this]
    exact .skip (hgv.trans hg)

/-- The operations, in the order of their text. -/
def DP (P : Program) (K : List E → AS → Prop) : List SO → List E → AS → Prop
  | [], evs, s => K evs s
  | o :: l, evs, s => ∃ e, Sp P s o e ∧ DP P K l (evs ++ [e]) (e.ap s)
def apL : List E → AS → AS
  | [], s => s
  | e :: l, s => apL l (e.ap s)
theorem DP_ex {K : List E → AS → Prop} : ∀ (l : List SO) (evs : List E) (s : AS), DP P K l evs s → ∃ es, es.length = l.length ∧ (∀ (i : Nat) o e, l[i]? = some o → es[i]? = some e → Sp P (apL (es.take i) s) o e) ∧ K (evs ++ es) (apL es s)
  | [], evs, s, h => ⟨[], rfl, fun i o e h => by simp at h, by simpa [apL, DP] using h⟩
  | o :: l, evs, s, ⟨e, h1, h2⟩ => by
    obtain ⟨es, g1, g2, g3⟩ := DP_ex l (evs ++ [e]) (e.ap s) h2
    refine ⟨e :: es, by simp [g1], fun i o' e' ho he => ?_, by simpa [apL] using g3⟩
    cases i with
    | zero => simp at ho he; subst ho; subst he; exact h1
    | succ i => exact g2 i o' e' (by simpa using ho) (by simpa using he)
theorem apL_fo : ∀ (l : List E) (k n : Nat) (s : AS), apL (l.take n) s = fo (fun j => decide (j < k + n)) k l s
  | [], k, n, s => by simp [apL, fo]
  | e :: l, k, 0, s => by
    simp only [List.take_zero, apL, Nat.add_zero]
    have : ∀ (l : List E) (k' : Nat) (s : AS), k ≤ k' → fo (fun j => decide (j < k)) k' l s = s := by
      intro l
      induction l with
      | nil => intro k' s _; rfl
      | cons e l ih => intro k' s h; simp only [fo]; rw [if_neg (by simp; omega)]; exact ih (k' + 1) s (by omega)
    exact (this _ k s (Nat.le_refl _)).symm
  | e :: l, k, n + 1, s => by
    simp only [List.take_succ_cons, apL, fo]
    rw [if_pos (by simp), apL_fo l (k + 1) n, show k + 1 + n = k + (n + 1) from by omega]

theorem wpAny_inv {ops : Array Oper} {Q : Exit → Act → World → Prop} {md : Region.Mode} (J : Array Bool → Act → World → Prop) (hback : ∀ (i : Nat) o, ops[i]? = some o → ∀ e ∈ o.after, Region.binds md e = true → e.on < i)
    (hop : ∀ (listed : Array Bool) a w (i : Nat) o, listed.size = ops.size → J listed a w → ops[i]? = some o → listed.getD i true = false → (∀ e ∈ o.after, Region.binds md e = true → listed.getD e.on false = true) →
      wpOp P ops Q i (fun a' w' => J (listed.setIfInBounds i true) a' w') a w)
    (hend : ∀ (listed : Array Bool) a w, listed.size = ops.size → (∀ i, i < ops.size → listed.getD i false = true) → J listed a w → Q .normal a w) :
    ∀ (fuel : Nat) (listed : Array Bool) (a : Act) (w : World), listed.size = ops.size → (listed.toList.filter (!·)).length ≤ fuel → J listed a w → wpAny P md ops Q fuel listed a w := by
  have hall : ∀ (listed : Array Bool), listed.size = ops.size → Region.ready md ops listed = [] → ∀ i, i < ops.size → listed.getD i false = true := by
    intro listed hsz hr i
    induction i using Nat.strongRecOn with
    | _ i ih =>
      intro hi
      cases hl : listed.getD i false with
      | true => rfl
      | false =>
        have : i ∈ Region.ready md ops listed := by
          rw [mem_ready]
          refine ⟨?_, ops[i], Array.getElem?_eq_getElem hi, fun e he hbe => ?_⟩
          · have h1 : i < listed.size := by omega
            simp only [Array.getD, h1, dif_pos] at hl ⊢
            exact hl
          · have := hback i ops[i] (Array.getElem?_eq_getElem hi) e he hbe
            exact ih e.on this (by omega)
        rw [hr] at this
        cases this
  intro fuel
  induction fuel with
  | zero =>
    intro listed a w hsz hf hJ
    have hl : ∀ i, i < ops.size → listed.getD i false = true := by
      intro i hi
      have h0 : listed.toList.filter (!·) = [] := List.eq_nil_of_length_eq_zero (by omega)
      rw [List.filter_eq_nil_iff] at h0
      have h1 : i < listed.size := by omega
      have := h0 listed[i] (by simp)
      simp only [Array.getD, h1, dif_pos]
      simpa using this
    refine ⟨?_, hend listed a w hsz hl hJ⟩
    rw [List.eq_nil_iff_forall_not_mem]
    intro j hj
    obtain ⟨h1, o, h2, _⟩ := mem_ready.1 hj
    have hjs : j < ops.size := getElem?_lt h2
    have := hl j hjs
    have hjl : j < listed.size := by omega
    simp only [Array.getD, hjl, dif_pos] at h1 this
    rw [this] at h1
    cases h1
  | succ fuel ih =>
    intro listed a w hsz hf hJ
    refine ⟨fun hr => hend listed a w hsz (hall listed hsz hr) hJ, fun i hi => ?_⟩
    obtain ⟨h1, o, ho, hpre⟩ := mem_ready.1 hi
    have his : i < ops.size := getElem?_lt ho
    have hil : i < listed.size := by omega
    have hfalse : listed[i] = false := by simpa [Array.getD, hil] using h1
    refine wpOp_mono ?_ (hop listed a w i o hsz hJ ho h1 hpre)
    intro a' w' hJ'
    refine ih _ _ _ (by simpa using hsz) ?_ hJ'
    have key : ∀ (l : List Bool) (k : Nat), l[k]? = some false → ((l.set k true).filter (!·)).length + 1 = (l.filter (!·)).length := by
      intro l
      induction l with
      | nil => intro k hk; simp at hk
      | cons x l ihl =>
        intro k hk
        cases k with
        | zero => simp at hk; subst hk; simp
        | succ k =>
          have := ihl k (by simpa using hk)
          simp only [List.set_cons_succ, List.filter_cons]
          split <;> (try simp only [List.length_cons]) <;> omega
    have := key listed.toList i (by simp [hil, hfalse])
    simpa only [Array.toList_setIfInBounds] using (by omega : ((listed.toList.set i true).filter (!·)).length ≤ fuel)

theorem yields_guard {all : List Oper} {tmps : Array Value} (j : Nat) : yielded all.toArray tmps j = gBool (((all[j]?).bind (·.dst)).bind (tmps[·]?)) := by
  unfold yielded
  rw [List.getElem?_toArray]
  generalize ((all[j]?).bind (·.dst)).bind (tmps[·]?) = x
  rcases x with _ | v
  · rfl
  · cases v <;> rfl
theorem wanted_gV {w0 : World} {lent : Lent} {s : AS} {loc : Loc} {a : Act} {w : World} (hR : Rel w0 lent s loc a w) (all : List Oper) (o : Oper) (b : Bool) (h : gV s (cmpO all o).g = some b) : Region.wanted o (yielded all.toArray a.tmps) = b := by
  obtain ⟨dst, op, type, pos, after, guard⟩ := o
  cases guard with
  | none => simp only [cmpO, gV, Option.some.injEq] at h; rw [← h]; rfl
  | some jw =>
    obtain ⟨j, want⟩ := jw
    simp only [cmpO, nthO_eq] at h
    simp only [Region.wanted, yields_guard]
    cases hd : ((all[j]?).bind (·.dst)) with
    | none => rw [hd] at h; cases h
    | some d =>
      rw [hd] at h
      simp only [gV] at h
      split at h
      · rename_i c hc
        have := guard_val hR hc
        simp only [Option.bind_some, this, gBool]
        cases h
        cases c <;> cases want <;> rfl
      · rename_i t ht
        have := guard_tup hR ht
        simp only [Option.bind_some, this]
        cases h
        rfl
      · cases h

variable {w0 : World} {lent : Lent} {Q : Exit → Act → World → Prop}
theorem draw_sound (hm : P.follows .mixedOrders = true) {id : Nat} {ops : List Oper} {k : List It} {s : AS} (hbk : bkB ops 0 = true)
    (h : DP P (fun evs s' => prB evs (mks ops []) evs 0 = true ∧ kcB ops s evs = true ∧ AW P w0 lent Q k s') (ops.map (cmpO ops)) [] s) : AW P w0 lent Q (.code (.region id ⟨ops⟩ true) :: k) s := by
  obtain ⟨evs, hlen, hsp, hpr, hkc, hk⟩ := DP_ex _ _ _ h
  rw [List.nil_append] at hpr hkc
  rw [List.length_map] at hlen
  have hback := bkB_spec ops 0 hbk
  obtain ⟨hml, hmk⟩ := mks_spec ops ops [] (fun i o h => by simpa using h) (fun i k h => by simp at h)
  obtain ⟨evs', hsub, hfo, hcov, hkill⟩ := kc_cut hkc
  -- pairs that lie apart
  have hpair : ∀ (i j : Nat) e f, i < j → evs[i]? = some e → evs[j]? = some f → ¬ Anc ops j i → okE e f = true ∧ siB e f = true ∧ siB f e = true := fun i j e f hij hi hj hna => by
    have hjl : j < (mks ops []).length := by
      have := lt_of_some hj
      rw [hml, List.length_nil, Nat.zero_add, ← hlen]; exact this
    rcases prB_spec evs (mks ops []) evs 0 hpr j i _ f e (List.getElem?_eq_getElem hjl) hj (by omega) hi with h1 | h1
    · exact absurd (hmk j i (by rw [List.getD_eq_getElem?_getD, List.getElem?_eq_getElem hjl]; exact h1)) hna
    · exact h1
  have hwait : ∀ (i : Nat) o, ops[i]? = some o → ∀ j, j ∈ waitsFor ops i → ∃ e ∈ o.after, Region.binds .any e = true ∧ e.on = j := fun i o ho j hj => (waits_mem ho j).1 hj
  have hlt : ∀ i j, Anc ops i j → j < i := by
    intro i j hA
    have h1 : ∀ i k, k ∈ waitsFor ops i → k < i := fun i k hk => by
      unfold waitsFor at hk
      cases ho : ops[i]? with
      | none => rw [ho] at hk; cases hk
      | some o =>
        obtain ⟨e, he, hbe, rfl⟩ := hwait i o ho k (by unfold waitsFor; rw [ho]; rw [ho] at hk; exact hk)
        have := hback i o ho e he hbe
        omega
    induction hA with
    | dir h => exact h1 _ _ h
    | tr h _ ih => have := h1 _ _ h; omega
  intro loc a w hR
  refine wp_region_any (ops := ops.toArray) hm (wpAny_inv (fun listed a w => (∀ i j, listed.getD i false = true → Anc ops i j → listed.getD j false = true) ∧ ∃ loc, Rel w0 lent (fo (fun i => listed.getD i false) 0 evs s) loc a w) (fun i o ho e he hbe => ?_)
    (fun listed a w i o hsz hJ ho hli hpre => ?_) (fun listed a w hsz hall hJ => ?_) _ _ _ _ (by simp) (by simp) ⟨fun i j hi _ => ?_, loc, ?_⟩)
  · have := hback i o (by simpa using ho) e he hbe
    omega
  · obtain ⟨hclo, loc, hR⟩ := hJ
    have ho' : ops[i]? = some o := by simpa using ho
    have hil : i < ops.length := lt_of_some ho'
    have hil2 : i < listed.size := by rw [hsz]; simpa using hil
    have hei : evs[i]? = some evs[i] := List.getElem?_eq_getElem (by omega)
    generalize evs[i] = e at hei
    have hli' : listed.getD i false = false := by
      rw [Array.getD_eq_getD_getElem?] at hli ⊢
      rw [Array.getElem?_eq_getElem hil2] at hli ⊢
      exact hli
    have hset : ∀ j, (listed.setIfInBounds i true).getD j false = if j = i then true else listed.getD j false := fun j => by
      rw [Array.getD_eq_getD_getElem?, Array.getElem?_setIfInBounds]
      by_cases hj : i = j
      · subst hj; simp [hil2]
      · rw [if_neg hj, if_neg (fun e => hj e.symm), Array.getD_eq_getD_getElem?]
    have hanc : ∀ j, Anc ops i j → listed.getD j false = true := fun j hA => by
      cases hA with
      | dir h => obtain ⟨e', he', hb, rfl⟩ := hwait i o ho' j h; exact hpre e' he' hb
      | tr h h2 => obtain ⟨e', he', hb, e2⟩ := hwait i o ho' _ h; exact hclo _ j (by rw [← e2]; exact hpre e' he' hb) h2
    have hSp := hsp i (cmpO ops o) e (by rw [List.getElem?_map, ho']; rfl) hei
    rw [apL_fo evs 0 i s, Nat.zero_add] at hSp
    obtain ⟨_, hvals⟩ := hSp.rv
    -- what is read is the same
    classical
    have hsees : Sees e (fo (fun j => decide (j < i)) 0 evs s) (fo (fun j => listed.getD j false) 0 evs s) := by
      let A : Nat → Bool := fun j => decide (Anc ops i j)
      have hsplit : ∀ V : Nat → Bool, (∀ j, A j = true → V j = true) → Eqv (fo V 0 evs s) (fo (fun j => V j && !A j) 0 evs (fo A 0 evs s)) := fun V hV =>
        fo_split evs 0 s hV fun p q ep eq hp hq hpq _ h2 h3 => by
          simp only [Nat.zero_add, A, decide_eq_true_eq, decide_eq_false_iff_not] at h2 h3
          exact (hpair p q ep eq hpq hp hq fun hA => h2 (h3.trans hA)).1
      have hA0 : A (evs.length - 1) = false := by
        have hie : i < evs.length := lt_of_some hei
        refine decide_eq_false fun hA => ?_
        have := hlt i _ hA
        omega
      have hi0 : (fun j => decide (j < i) && !A j) (evs.length - 1) = false := by
        have hie : i < evs.length := lt_of_some hei
        simp only [Bool.and_eq_false_iff, decide_eq_false_iff_not]
        exact .inl (by omega)
      have hl0 : evs' = evs ∨ (fun j => listed.getD j false && !A j) (evs.length - 1) = false := by
        refine hcov.imp (fun h => h) fun hc => ?_
        have hie : i < evs.length := lt_of_some hei
        simp only [Bool.and_eq_false_iff]
        refine .inl ?_
        rcases Nat.lt_or_ge i (evs.length - 1) with h1 | h1
        · rw [← Bool.not_eq_true]
          intro hL
          have := hclo _ i hL (hc i h1)
          rw [hli'] at this
          cases this
        · rw [show evs.length - 1 = i from by omega]; exact hli'
      have hkA : (∀ f ∈ evs', f.kill = none) ∨ (clH (fo A 0 evs' s).h ∧ ∀ f ∈ evs', f.add.all (·.2.cl) = true) := by
        rcases hkill with h | ⟨h1, h2⟩
        · exact .inl h
        · refine .inr ⟨?_, h2⟩
          have : ∀ (l : List E) (k : Nat) (s : AS), clH s.h → (∀ f ∈ l, f.add.all (·.2.cl) = true) → clH (fo A k l s).h := by
            intro l
            induction l with
            | nil => intro k s h _; exact h
            | cons f l ih =>
              intro k s h hf
              simp only [fo]
              refine ih (k + 1) _ ?_ fun g hg => hf g (List.mem_cons_of_mem _ hg)
              split
              · exact clH_ap h (hf f List.mem_cons_self)
              · exact h
          exact this evs' 0 s h1 h2
      have e1 := hsplit (fun j => decide (j < i)) fun j hj => by simp only [A, decide_eq_true_eq] at hj ⊢; exact hlt i j hj
      have e2 := hsplit (fun j => listed.getD j false) fun j hj => by simp only [A, decide_eq_true_eq] at hj; exact hanc j hj
      have s1 : Sees e (fo A 0 evs s) (fo (fun j => decide (j < i) && !A j) 0 evs (fo A 0 evs s)) := by
        rw [hfo (fun j => decide (j < i) && !A j) _ (.inr hi0), hfo A s (.inr hA0)]
        refine sees_bwd evs' 0 _ (by rw [← hfo A s (.inr hA0), ← hfo (fun j => decide (j < i) && !A j) _ (.inr hi0), ← e1.1]; exact hvals) (fun j f hf hj => ?_) hkA
        replace hf := hsub j f hf
        simp only [Nat.zero_add, A, Bool.and_eq_true, decide_eq_true_eq, Bool.not_eq_true', decide_eq_false_iff_not] at hj
        exact (hpair j i f e hj.1 hf hei hj.2).2.1
      have hvA : e.vals = e.rd.map (getA (fo A 0 evs s).t) := by
        rw [hvals, e1.1]
        exact List.map_congr_left fun q hq => (s1.1 q hq).symm
      have s2 : Sees e (fo A 0 evs s) (fo (fun j => listed.getD j false && !A j) 0 evs (fo A 0 evs s)) := by
        rw [hfo (fun j => listed.getD j false && !A j) _ hl0, hfo A s (.inr hA0)]
        refine sees_fwd evs' 0 _ (by rw [← hfo A s (.inr hA0)]; exact hvA) (fun j f hf hj => ?_) hkA
        replace hf := hsub j f hf
        simp only [Nat.zero_add, A, Bool.and_eq_true, Bool.not_eq_true', decide_eq_false_iff_not] at hj
        rcases Nat.lt_trichotomy j i with h1 | h1 | h1
        · exact (hpair j i f e h1 hf hei hj.2).2.1
        · subst h1; rw [hli'] at hj; cases hj.1
        · exact (hpair i j e f h1 hei hf fun hA => by have := hclo j i hj.1 hA; rw [hli'] at this; cases this).2.2
      exact ⟨fun q hq => by rw [e1.1, e2.1]; exact (s1.1 q hq).symm.trans (s2.1 q hq), fun r hr => by rw [e1.2, e2.2]; exact (s1.2 r hr).symm.trans (s2.2 r hr)⟩
    have hSp' := hSp.frame hsees
    have hins : Eqv (fo (fun j => (listed.setIfInBounds i true).getD j false) 0 evs s) (e.ap (fo (fun j => listed.getD j false) 0 evs s)) :=
      fo_ins evs 0 s (Nat.zero_le _) (by simpa using hei) hli' hset fun j f hf hj hsel => by
        simp only [Nat.zero_add] at hj hsel
        exact (hpair i j e f hj hei hf fun hA => by have := hclo j i hsel hA; rw [hli'] at this; cases this).1
    have hclo' : ∀ p q, (listed.setIfInBounds i true).getD p false = true → Anc ops p q → (listed.setIfInBounds i true).getD q false = true := fun p q hp hA => by
      rw [hset] at hp ⊢
      split
      · rfl
      · split at hp
        · rename_i e'; subst e'; exact hanc q hA
        · exact hclo p q hp hA
    unfold wpOp
    rw [ho]
    simp only
    cases hSp' with
    | run hg hex =>
      rw [if_pos (wanted_gV hR ops o true hg)]
      left
      rw [← oper_wp o ops]
      exact hex.sound hR fun loc' a' w' hR' => ⟨hclo', loc', hR'.eqv hins.symm⟩
    | skip hg =>
      rw [if_neg (by rw [wanted_gV hR ops o false hg]; simp)]
      exact ⟨hclo', loc, (hR.put o.dst (u := undef) (.cl .v)).eqv hins.symm⟩
  · obtain ⟨_, loc, hR⟩ := hJ
    have : fo (fun i => listed.getD i false) 0 evs s = apL evs s := by
      have h1 := apL_fo evs 0 evs.length s
      rw [List.take_length] at h1
      rw [h1]
      exact fo_congr evs 0 s fun j _ hj => by
        rw [hall j (by simpa [← hlen] using hj)]
        simpa using hj
    rw [this] at hR
    exact hk loc a w hR
  · simp [Array.getD_eq_getD_getElem?, Array.getElem?_replicate] at hi
    by_cases h : i < ops.length <;> simp [h] at hi
  · have h0 : fo (fun i => (Array.replicate ops.toArray.size false).getD i false) 0 evs s = s := by
      have h1 := apL_fo evs 0 0 s
      rw [List.take_zero] at h1
      refine Eq.trans (fo_congr evs 0 s fun j _ _ => ?_) h1.symm
      simp [Array.getD_eq_getD_getElem?, Array.getElem?_replicate]
      by_cases h : j < ops.length <;> simp [h]
    rw [h0]
    exact hR.grow (Below.refl _ _).drew
end

end Go.Proofs.YtccifbbjbnjcfaaGreatDoor
/-
  The abstract machine: a region that draws its order, run as its text stands.
-/
namespace Go.Proofs.YtccifbbjbnjcfaaGreatDoor
open Go Go.RowKit

inductive RD where
  | done (evs : List E) (s : AS)
  | chk (φ : Prop) (r : RD)
  | call (f : FuncId) (args : List AV) (o : SO) (l : List SO) (evs : List E) (s : AS)
  | stuck (o : SO) (s : AS)

def mkE (o : SO) (s : AS) (x : AV) (kill : Option Nat) (add : List (Nat × Row)) : E := ⟨o.dst, x, kill, add, rdO o, (rdO o).map (getA s.t)⟩
def layD (o : SO) (evs : List E) (s : AS) (go : List E → AS → RD) (row : Row) (x : Nat → AV) : RD :=
  match o.dst with
  | some d => (match hget s.h d with
    | none => if d < 500000 then go (evs ++ [mkE o s (x d) none [(d, row)]]) ⟨setA s.t d (x d), hset s.h d row⟩ else .stuck o s
    | some _ => .stuck o s)
  | none => .stuck o s
def stD (o : SO) (evs : List E) (s : AS) (go : List E → AS → RD) : Option (Nat × Row) → RD
  | some (r, row) => go (evs ++ [mkE o s .any none [(r, row)]]) ⟨s.t, hset s.h r row⟩
  | none => .stuck o s
def apD (o : SO) (evs : List E) (s : AS) (go : List E → AS → RD) : Option (Prop × Nat × Nat × Row × Nat × List (List AV) × Bool) → RD
  | some (φ, r, n, row, m, news, c) => if row.cl && c then (if r < 500000 ∨ 600000 ≤ r then .chk φ (go (evs ++ [mkE o s (.o r m) (some r) [(r, ⟨row.E, row.sz, row.es.take n ++ news, true⟩)]])
      (AS.put ⟨s.t.map (killA r), hset (killH r s.h) r ⟨row.E, row.sz, row.es.take n ++ news, true⟩⟩ o.dst (.o r m))) else .stuck o s) else .stuck o s
  | none => .stuck o s
def effD (P : Program) (o : SO) (l : List SO) (evs : List E) (s : AS) (go : List E → AS → RD) : Op → RD
  | .store t x y => (match o.dst with
    | none => stD o evs s go (stR P s.h t (evA s.t x) (evA s.t y))
    | some _ => .stuck o s)
  | .call ⟨.builtin .append, ⟨[x, y]⟩, ⟨[t, t']⟩⟩ => if t = t' then apD o evs s go (apE P s o.dst t (evA s.t x) (evA s.t y)) else .stuck o s
  | .call ⟨.value f, ⟨xs⟩, _⟩ => (match evA s.t f with
    | .fn g caps => .call g (xs.map (evA s.t) ++ caps) o l evs s
    | _ => .stuck o s)
  | _ => .stuck o s
def kPeD (P : Program) (o : SO) (l : List SO) (evs : List E) (s : AS) (go : List E → AS → RD) : PeR → RD
  | .val x => go (evs ++ [mkE o s x none []]) (s.put o.dst x)
  | .newp row => layD o evs s go row fun d => .p d 0 0
  | .news row => layD o evs s go row fun d => .o d row.es.length
  | .nil row => layD o evs s go row fun d => .o d 0
  | .mks _ _ => .stuck o s
  | .no => effD P o l evs s go o.op
/-- Two ways. -/
def brD (x y : RD) : Bool → RD
  | true => x
  | false => y
def gdD (o : SO) (s : AS) (x y : RD) (want : Bool) : AV → RD
  | .v (.bool b) => (match want with
    | true => brD x y b
    | false => brD y x b)
  | .v (.tuple _) => y
  | _ => .stuck o s
def runD (P : Program) : List SO → List E → AS → RD
  | [], evs, s => .done evs s
  | o :: l, evs, s => (match o.g with
    | none => kPeD P o l evs s (runD P l) (pe P s.h (evA s.t) o.oper)
    | some (some d, want) => gdD o s (kPeD P o l evs s (runD P l) (pe P s.h (evA s.t) o.oper)) (runD P l (evs ++ [mkE o s (.v undef) none []]) (s.put o.dst (.v undef))) want (getA s.t d)
    | some (none, _) => .stuck o s)

section
variable {P : Program} {K : List E → AS → Prop}
/-- A call within: what comes back is known. -/
def CallD (P : Program) (K : List E → AS → Prop) (f : FuncId) (args : List AV) (o : SO) (l : List SO) (evs : List E) (s : AS) : Prop :=
  ∃ x rows, ((clB s.h (idsL args) = true ∧ PC P f (args.map (viewN 3 s.h)) (fun rv rs => rv = x ∧ rs = rows) ∧ flatV x = true ∧ FlatR rows) ∨ (args.all isC2 = true ∧ PC P f args fun rv rs => rv = x ∧ rs = rows)) ∧
    frB s.h (baseOf o.dst) rows.length = true ∧ DP P K l (evs ++ [mkE o s (ren (baseOf o.dst) x) none (hpOf (baseOf o.dst) rows)]) (AS.put ⟨s.t, hsets s.h (hpOf (baseOf o.dst) rows)⟩ o.dst (ren (baseOf o.dst) x))
def RDp (P : Program) (K : List E → AS → Prop) : RD → Prop
  | .done evs s => K evs s
  | .chk φ r => φ ∧ RDp P K r
  | .call f args o l evs s => CallD P K f args o l evs s
  | .stuck _ _ => False

theorem kPeD_sound {o : SO} {l : List SO} {evs : List E} {s : AS} (hgo : ∀ evs s, RDp P K (runD P l evs s) → DP P K l evs s) (hg : gV s o.g = some true)
    (h : RDp P K (kPeD P o l evs s (runD P l) (pe P s.h (evA s.t) o.oper))) : DP P K (o :: l) evs s := by
  unfold kPeD at h
  cases hp : pe P s.h (evA s.t) o.oper with
  | val x =>
    rw [hp] at h
    exact ⟨_, .run hg (.val hp), hgo _ _ h⟩
  | newp row =>
    rw [hp] at h
    simp only [layD] at h
    split at h
    · rename_i d hd
      split at h
      · rename_i hn
        split at h
        case isFalse => exact h.elim
        rename_i h5
        refine ⟨_, .run hg (.newp hd hp hn h5), ?_⟩
        have := hgo _ _ h
        simp only [mkE, hd] at this
        exact this
      · exact h.elim
    · exact h.elim
  | news row =>
    rw [hp] at h
    simp only [layD] at h
    split at h
    · rename_i d hd
      split at h
      · rename_i hn
        split at h
        case isFalse => exact h.elim
        rename_i h5
        refine ⟨_, .run hg (.news hd hp hn h5), ?_⟩
        have := hgo _ _ h
        simp only [mkE, hd] at this
        exact this
      · exact h.elim
    · exact h.elim
  | nil row =>
    rw [hp] at h
    simp only [layD] at h
    split at h
    · rename_i d hd
      split at h
      · rename_i hn
        split at h
        case isFalse => exact h.elim
        rename_i h5
        refine ⟨_, .run hg (.nil hd hp hn h5), ?_⟩
        have := hgo _ _ h
        simp only [mkE, hd] at this
        exact this
      · exact h.elim
    · exact h.elim
  | mks φ row => rw [hp] at h; exact h.elim
  | no =>
    rw [hp] at h
    simp only at h
    unfold effD at h
    split at h
    · rename_i t x y ho
      split at h
      · rename_i hd
        unfold stD at h
        split at h
        · rename_i r row hst
          refine ⟨_, .run hg (.sto hd hp ho hst), ?_⟩
          have := hgo _ _ h
          simp only [mkE, hd] at this
          exact this
        · exact h.elim
      · exact h.elim
    · rename_i x y t t' ho
      split at h
      · rename_i htt
        subst htt
        unfold apD at h
        split at h
        · rename_i φ r n row m news c hap
          split at h
          · rename_i hcl
            split at h
            case isFalse => exact h.elim
            rename_i h5
            obtain ⟨hφ, hk⟩ := h
            exact ⟨_, .run hg (.app hp ho hap hφ hcl h5), hgo _ _ hk⟩
          · exact h.elim
        · exact h.elim
      · exact h.elim
    · rename_i f xs ts _ ho
      split at h
      · rename_i g caps hf
        obtain ⟨x, rows, h1, hfr, hk⟩ := h
        rcases h1 with ⟨h2, h3, h4, h5⟩ | ⟨h2, h3⟩
        · exact ⟨_, .run hg (.call hp ho hf h2 h3 h4 h5 hfr), hk⟩
        · exact ⟨_, .run hg (.callS hp ho hf h2 h3 hfr), hk⟩
      · exact h.elim
    · exact h.elim
theorem brD_inv {x y : RD} {b : Bool} (h : RDp P K (brD x y b)) : (b = true → RDp P K x) ∧ (b = false → RDp P K y) := by
  cases b
  · exact ⟨fun e => (by cases e), fun _ => h⟩
  · exact ⟨fun _ => h, fun e => (by cases e)⟩
theorem runD_sound : ∀ (l : List SO) (evs : List E) (s : AS), RDp P K (runD P l evs s) → DP P K l evs s
  | [], evs, s, h => h
  | o :: l, evs, s, h => by
    simp only [runD] at h
    split at h
    · rename_i hg
      exact kPeD_sound (fun evs s => runD_sound l evs s) (by rw [hg]; rfl) h
    · rename_i d want hg
      unfold gdD at h
      split at h
      · rename_i b hb
        have hgv : gV s o.g = some (b == want) := by rw [hg]; simp only [gV, hb]
        have skip : gV s o.g = some false → RDp P K (runD P l (evs ++ [mkE o s (.v undef) none []]) (s.put o.dst (.v undef))) → DP P K (o :: l) evs s := fun h1 h2 => ⟨_, .skip h1, runD_sound l _ _ h2⟩
        cases want
        · obtain ⟨h1, h2⟩ := brD_inv h
          cases b
          · exact kPeD_sound (fun evs s => runD_sound l evs s) hgv (h2 rfl)
          · exact skip hgv (h1 rfl)
        · obtain ⟨h1, h2⟩ := brD_inv h
          cases b
          · exact skip hgv (h2 rfl)
          · exact kPeD_sound (fun evs s => runD_sound l evs s) hgv (h1 rfl)
      · rename_i t ht
        exact ⟨_, .skip (by rw [hg]; simp only [gV, ht]), runD_sound l _ _ h⟩
      · exact h.elim
    · exact h.elim

variable {w0 : World} {lent : Lent} {Q : Exit → Act → World → Prop}
/-- The end of such a region: what lies apart lies apart, and on. -/
def KD (P : Program) (w0 : World) (lent : Lent) (Q : Exit → Act → World → Prop) (ops : List Oper) (k : List It) (s : AS) (evs : List E) (s' : AS) : Prop :=
  prB evs (mks ops []) evs 0 = true ∧ kcB ops s evs = true ∧ AW P w0 lent Q k s'
theorem at_draw {id : Nat} {ops : List Oper} {k : List It} {s : AS} (hm : P.follows .mixedOrders = true) (hbk : bkB ops 0 = true) (h : RDp P (KD P w0 lent Q ops k s) (runD P (ops.map (cmpO ops)) [] s)) : RWp P w0 lent Q (.draw id ⟨ops⟩ k s) :=
  draw_sound hm hbk (runD_sound _ _ _ h)
/-- A call within, its arguments as the callee reads them. -/
def RCD (P : Program) (K : List E → AS → Prop) (f : FuncId) (vargs : List AV) (o : SO) (l : List SO) (evs : List E) (s : AS) : Prop :=
  ∃ x rows, PC P f vargs (fun rv rs => rv = x ∧ rs = rows) ∧ flatV x = true ∧ FlatR rows ∧ frB s.h (baseOf o.dst) rows.length = true ∧
    RDp P K (runD P l (evs ++ [mkE o s (ren (baseOf o.dst) x) none (hpOf (baseOf o.dst) rows)]) (AS.put ⟨s.t, hsets s.h (hpOf (baseOf o.dst) rows)⟩ o.dst (ren (baseOf o.dst) x)))
theorem at_callD {f : FuncId} {args : List AV} {o : SO} {l : List SO} {evs : List E} {s : AS} (hcl : clB s.h (idsL args) = true) (h : RCD P K f (args.map (viewN 3 s.h)) o l evs s) : RDp P K (.call f args o l evs s) := by
  obtain ⟨x, rows, h1, h2, h3, h4, h5⟩ := h
  exact ⟨x, rows, .inl ⟨hcl, h1, h2, h3⟩, h4, runD_sound _ _ _ h5⟩
theorem rcd_v {f : FuncId} {vargs : List AV} {o : SO} {l : List SO} {evs : List E} {s : AS} {x : Value} (hpc : PC P f vargs (vX (.v x))) (hk : RDp P K (runD P l (evs ++ [mkE o s (.v x) none []]) (s.put o.dst (.v x)))) : RCD P K f vargs o l evs s := by
  refine ⟨.v x, [], hpc, rfl, fun row h => (by cases h), frB_0 _ _, ?_⟩
  simpa only [hpOf, hsets, ren] using hk
theorem rcd_r {f : FuncId} {vargs : List AV} {o : SO} {l : List SO} {evs : List E} {s : AS} {x : AV} {rs : List Row} (hpc : PC P f vargs (rX x rs)) (hx : flatV x = true) (hf : FlatR rs) (hfr : frB s.h (baseOf o.dst) rs.length = true)
    (hk : RDp P K (runD P l (evs ++ [mkE o s (ren (baseOf o.dst) x) none (hpOf (baseOf o.dst) rs)]) (AS.put ⟨s.t, hsets s.h (hpOf (baseOf o.dst) rs)⟩ o.dst (ren (baseOf o.dst) x)))) : RCD P K f vargs o l evs s :=
  ⟨x, rs, hpc, hx, hf, hfr, hk⟩
end

section
variable (P : Program) (o : SO) (l : List SO) (evs : List E) (s : AS) (go : List E → AS → RD) (d : Option Tmp) (ty : TypeId) (g : Option (Option Tmp × Bool))
theorem runD_nil : runD P [] evs s = .done evs s := rfl
theorem runD_op (op : Op) : runD P (⟨d, op, ty, none⟩ :: l) evs s = kPeD P ⟨d, op, ty, none⟩ l evs s (runD P l) (pe P s.h (evA s.t) (SO.oper ⟨d, op, ty, none⟩)) := rfl
theorem runD_og (op : Op) (j : Tmp) (want : Bool) : runD P (⟨d, op, ty, some (some j, want)⟩ :: l) evs s = gdD ⟨d, op, ty, some (some j, want)⟩ s (kPeD P ⟨d, op, ty, some (some j, want)⟩ l evs s (runD P l) (pe P s.h (evA s.t) (SO.oper ⟨d, op, ty, some (some j, want)⟩)))
    (runD P l (evs ++ [mkE ⟨d, op, ty, some (some j, want)⟩ s (.v undef) none []]) (s.put d (.v undef))) want (getA s.t j) := rfl
@[congr] theorem gdD_congr {x y : RD} {w : Bool} {v v' : AV} (h : v = v') : gdD o s x y w v = gdD o s x y w v' := by rw [h]
theorem brD_t (x y : RD) : brD x y true = x := rfl
@[congr] theorem brD_congr {x y : RD} {b b' : Bool} (h : b = b') : brD x y b = brD x y b' := by rw [h]
theorem kPeD_val (x : AV) : kPeD P o l evs s go (.val x) = go (evs ++ [mkE o s x none []]) (s.put o.dst x) := rfl
theorem kPeD_newp (row : Row) : kPeD P o l evs s go (.newp row) = layD o evs s go row fun d => .p d 0 0 := rfl
theorem kPeD_news (row : Row) : kPeD P o l evs s go (.news row) = layD o evs s go row fun d => .o d row.es.length := rfl
theorem kPeD_nil (row : Row) : kPeD P o l evs s go (.nil row) = layD o evs s go row fun d => .o d 0 := rfl
theorem kPeD_no (op : Op) : kPeD P ⟨d, op, ty, g⟩ l evs s go .no = effD P ⟨d, op, ty, g⟩ l evs s go op := rfl
theorem effD_store (t : TypeId) (x y : Operand) : effD P ⟨none, .store t x y, ty, g⟩ l evs s go (.store t x y) = stD ⟨none, .store t x y, ty, g⟩ evs s go (stR P s.h t (evA s.t x) (evA s.t y)) := rfl
theorem stD_some (r : Nat) (row : Row) : stD o evs s go (some (r, row)) = go (evs ++ [mkE o s .any none [(r, row)]]) ⟨s.t, hset s.h r row⟩ := rfl
theorem effD_app (op : Op) (x y : Operand) (t : TypeId) : effD P o l evs s go (.call ⟨.builtin .append, ⟨[x, y]⟩, ⟨[t, t]⟩⟩) = apD o evs s go (apE P s o.dst t (evA s.t x) (evA s.t y)) := by
  simp only [effD, if_true]
theorem apD_some (φ : Prop) (r n m : Nat) (row : Row) (news : List (List AV)) (c : Bool) : apD o evs s go (some (φ, r, n, row, m, news, c)) = if row.cl && c then (if r < 500000 ∨ 600000 ≤ r then .chk φ (go (evs ++ [mkE o s (.o r m) (some r) [(r, ⟨row.E, row.sz, row.es.take n ++ news, true⟩)]])
      (AS.put ⟨s.t.map (killA r), hset (killH r s.h) r ⟨row.E, row.sz, row.es.take n ++ news, true⟩⟩ o.dst (.o r m))) else .stuck o s) else .stuck o s := rfl
def efFD (o : SO) (l : List SO) (evs : List E) (s : AS) (xs : List AV) : AV → RD
  | .fn g caps => .call g (xs ++ caps) o l evs s
  | _ => .stuck o s
theorem effD_call (f : Operand) (xs : List Operand) (ts : Array TypeId) : effD P o l evs s go (.call ⟨.value f, ⟨xs⟩, ts⟩) = efFD o l evs s (xs.map (evA s.t)) (evA s.t f) := by
  simp only [effD, efFD]
theorem efFD_fn (xs caps : List AV) (f : FuncId) : efFD o l evs s xs (.fn f caps) = .call f (xs ++ caps) o l evs s := rfl
theorem mkE_ (op : Op) (t : List AV) (h : Hp) (x : AV) (k : Option Nat) (add : List (Nat × Row)) : mkE ⟨d, op, ty, g⟩ ⟨t, h⟩ x k add = ⟨d, x, k, add, rdO ⟨d, op, ty, g⟩, (rdO ⟨d, op, ty, g⟩).map (getA t)⟩ := rfl
end
def rdG : Option (Option Tmp × Bool) → List Nat
  | some (some d, _) => [d]
  | _ => []
theorem rd_op (d : Option Tmp) (op : Op) (ty : TypeId) (g : Option (Option Tmp × Bool)) : rdO ⟨d, op, ty, g⟩ = slO op.operands.toList ++ rdG g := by
  unfold rdO rdG
  rcases g with _ | ⟨_ | _, _⟩ <;> rfl
theorem rdG_n : rdG none = [] := rfl
theorem rdG_s (d : Tmp) (b : Bool) : rdG (some (some d, b)) = [d] := rfl
theorem slO_n : slO [] = [] := rfl
theorem slO_t (t : Tmp) (l : List Operand) : slO (.tmp t :: l) = t :: slO l := rfl
theorem slO_c (v : Value) (l : List Operand) : slO (.const v :: l) = slO l := rfl
theorem slO_f (f : FuncId) (l : List Operand) : slO (.func f :: l) = slO l := rfl
theorem slO_g (f : Nat) (l : List Operand) : slO (.global f :: l) = slO l := rfl
section
variable (x y z : Operand) (t t' u : TypeId) (n f : Nat)
theorem os_move : (Op.move x).operands.toList = [x] := rfl
theorem os_assign : (Op.assign x).operands.toList = [x] := rfl
theorem os_pick : (Op.pick x y z).operands.toList = [x, y, z] := rfl
theorem os_alloc : (Op.alloc t).operands.toList = [] := rfl
theorem os_box : (Op.box t x).operands.toList = [x] := rfl
theorem os_build (ps : List (Nat × Operand)) : (Op.build t ⟨ps⟩).operands.toList = ps.map (·.2) := rfl
theorem os_buildS (ps : List (Nat × Operand)) : (Op.buildSlice t n ⟨ps⟩).operands.toList = ps.map (·.2) := rfl
theorem os_load : (Op.load t x).operands.toList = [x] := rfl
theorem os_store : (Op.store t x y).operands.toList = [x, y] := rfl
theorem os_bin (b : BinOp) : (Op.binOp b t x y u).operands.toList = [x, y] := rfl
theorem os_un (b : UnOp) : (Op.unOp b t x).operands.toList = [x] := rfl
theorem os_conv : (Op.convert t t' x).operands.toList = [x] := rfl
theorem os_func (g : FuncId) (cs : List Operand) : (Op.makeFunc (.func g) #[] ⟨cs⟩).operands.toList = cs := by simp [Op.operands]
theorem os_nil : (Op.nilCheck x).operands.toList = [x] := rfl
theorem os_fieldAddr : (Op.fieldAddr t x f).operands.toList = [x] := rfl
theorem os_field : (Op.field t x f).operands.toList = [x] := rfl
theorem os_indexAddr : (Op.indexAddr t x y).operands.toList = [x, y] := rfl
theorem os_index : (Op.index t x y).operands.toList = [x, y] := rfl
theorem os_extract : (Op.extract x n).operands.toList = [x] := rfl
theorem os_slice (lo hi : Option Operand) : (Op.slice t x lo hi none).operands.toList = x :: (lo.toList ++ hi.toList) := by
  cases lo <;> cases hi <;> rfl
theorem os_callv (xs : List Operand) (ts : Array TypeId) : (Op.call ⟨.value x, ⟨xs⟩, ts⟩).operands.toList = x :: xs := by simp [Op.operands, Call.operands]
theorem os_callb (b : Builtin) (xs : List Operand) (ts : Array TypeId) : (Op.call ⟨.builtin b, ⟨xs⟩, ts⟩).operands.toList = xs := by simp [Op.operands, Call.operands]
end

end Go.Proofs.YtccifbbjbnjcfaaGreatDoor
/-
  The abstract machine: rows that are written no more are read as data.
-/
namespace Go.Proofs.YtccifbbjbnjcfaaGreatDoor
open Go Go.RowKit

section
variable {w : World} {loc : Loc}
/-- The rows that a value names hold data, and go. -/
def frzB (h h' : Hp) (ids : List Nat) : Bool := ids.all fun r => !inH h' r && (match hget h r with | some row => row.cl | none => true)
theorem view_frz {h h' : Hp} (hrw : ∀ r row, hget h r = some row → RowOk h loc w r row) (hinj : ∀ r r' row row' b c c', hget h r = some row → hget h r' = some row' → loc r = some (b, c) → loc r' = some (b, c') → r = r')
    (hfb : ∀ r row b c, hget h r = some row → loc r = some (b, c) → ¬ loc.fb b) (hsub : ∀ r row', hget h' r = some row' → ∃ row, hget h r = some row) :
    ∀ (d : Nat) (x : AV) (u : Value), G h loc w x u → frzB h h' (idsA x) = true → C (Live h' loc) 0 w (viewN d h x) u := by
  have hC : ∀ {x u}, C (Live h loc) 0 w x u → C (Live h' loc) 0 w x u := fun hx => hx.mono (Nat.le_refl _) (Nat.le_refl _) fun b _ _ hnl => ⟨fun hl => by
    rcases hl with ⟨r, row', c, h1, h2⟩ | hf
    · obtain ⟨row, h3⟩ := hsub r row' h1
      exact hnl (.inl ⟨r, row, c, h3, h2⟩)
    · exact hnl (.inr hf), rfl⟩
  have hnl : ∀ r row b c, hget h r = some row → loc r = some (b, c) → inH h' r = false → ¬ Live h' loc b := fun r row b c h1 h2 h3 hl => by
    rcases hl with ⟨r', row', c', h4, h5⟩ | hf
    · obtain ⟨row2, h6⟩ := hsub r' row' h4
      have := hinj r r' row row2 b c c' h1 h6 h2 h5
      subst this
      simp [inH, h4] at h3
    · exact hfb r row b c h1 h2 hf
  intro d
  induction d with
  | zero =>
    intro x u hx hf
    simp only [viewN]
    split
    · rename_i hc; exact hC (isC_ok hx hc)
    · exact .any
  | succ d ih =>
    intro x u hx hf
    have hmap : ∀ (cs : List AV) (vs : Array Value), frzB h h' (idsL cs) = true → vs.size = cs.length → (∀ (j : Nat) a, cs[j]? = some a → G h loc w a (vs.getD j undef)) →
        vs.size = (cs.map (viewN d h)).length ∧ ∀ (j : Nat) a, (cs.map (viewN d h))[j]? = some a → C (Live h' loc) 0 w a (vs.getD j undef) := fun cs vs hfc hs hg => by
      refine ⟨by simpa using hs, fun j a ha => ?_⟩
      rw [List.getElem?_map, Option.map_eq_some_iff] at ha
      obtain ⟨y, hy, rfl⟩ := ha
      exact ih y _ (hg j y hy) (List.all_eq_true.2 fun r hr => List.all_eq_true.1 hfc r (idsL_mem hy r hr))
    cases x with
    | any => exact .any
    | v y => simp only [viewN]; exact hC (isC_ok hx rfl)
    | sl sz es => simp only [viewN]; exact hC (isC_ok hx rfl)
    | ip cs => simp only [viewN]; exact hC (isC_ok hx rfl)
    | o r n =>
      simp only [viewN]
      simp only [frzB, idsA, List.all_cons, List.all_nil, Bool.and_true, Bool.and_eq_true, Bool.not_eq_true'] at hf
      obtain ⟨hf1, hf2⟩ := hf
      cases hx with
      | cl hc => cases hc
      | @o _ _ row b c hr hl hn =>
        rw [hr] at hf2 ⊢
        simp only at hf2 ⊢
        rw [if_pos hf2, tk_eq]
        obtain ⟨u, hu⟩ := vals_of_row (hrw r row hr) hl
        obtain ⟨hlen, hnc, hm, cur, hh, hs, hcells⟩ := (hrw r row hr).open hl
        have hb := Live.lt hrw ⟨r, row, c, hr, hl⟩
        have hlt : (row.es.take n).length = n := by simp; omega
        have hrd : Rd w 0 row.sz (some ⟨b, 0, none⟩) n (cur.toList.take (n * row.sz)) := by
          refine ⟨?_, fun hn0 => ⟨b, 0, rfl, Nat.zero_le _, hb, fun j v hv => ?_⟩⟩
          · rw [List.length_take, Array.length_toList, hs]
            have := Nat.mul_le_mul_right row.sz (show n ≤ c by omega)
            omega
          · rw [List.getElem?_take] at hv
            split at hv
            · simpa [World.cell?, hh] using hv
            · cases hv
        have := C.sl (lv := Live h' loc) (lo := 0) (w := w) (sz := row.sz) (es := row.es.take n) (A := some ⟨b, 0, none⟩) (c := c) (cur.toList.take (n * row.sz)) u (by rw [hlt]; exact hrd) (fun _ ad had => by cases had; exact hnl r row b c hr hl hf1) (by omega) hm
          (fun k e he => by
            rw [List.getElem?_take] at he
            split at he
            · exact hlen k e he
            · cases he) (fun k e j he hj => by
            rw [List.getElem?_take] at he
            split at he
            · rename_i hk
              obtain ⟨g1, g2, _⟩ := hu k e j _ he (List.getElem?_eq_getElem hj)
              refine ⟨?_, g2⟩
              rw [hlen k e he] at hj
              rw [List.getElem?_take, if_pos (ix_lt hk hj)]
              simpa [World.cell?, hh] using g1
            · cases he) (fun k e j x he hx => by
            rw [List.getElem?_take] at he
            split at he
            · exact hC ((hu k e j x he hx).2.2.2 hf2)
            · cases he)
        rwa [hlt] at this
      | @onil _ row hr hl =>
        rw [hr] at hf2 ⊢
        simp only at hf2 ⊢
        rw [if_pos hf2]
        obtain ⟨hlen, xs, hown, _⟩ := hrw r row hr
        simp only [rowVal, hl] at hown
        have he0 : row.es.length = 0 := by
          rcases hown.2 with ⟨_, e2⟩ | ⟨g, cap, cur, e1, _⟩
          · exact e2
          · cases e1
        have he : row.es = [] := List.eq_nil_of_length_eq_zero he0
        rw [he]
        simp only [tk, List.length_nil, if_true]
        exact .nilsl _
    | q r lo z n => simp only [viewN]; exact .any
    | p r k off =>
      simp only [viewN]
      simp only [frzB, idsA, List.all_cons, List.all_nil, Bool.and_true, Bool.and_eq_true, Bool.not_eq_true'] at hf
      obtain ⟨hf1, hf2⟩ := hf
      cases hx with
      | cl hc => cases hc
      | @p _ _ _ row b c hr hl =>
        rw [hr] at hf2 ⊢
        simp only at hf2 ⊢
        split
        · rename_i e he
          rw [if_pos hf2]
          obtain ⟨u, hu⟩ := vals_of_row (hrw r row hr) hl
          have hb := Live.lt hrw ⟨r, row, c, hr, hl⟩
          exact .ip b _ (fun j => u k (off + j)) (Nat.zero_le _) hb (hnl r row b c hr hl hf1) (fun j hj => by
            rw [List.length_drop] at hj
            obtain ⟨g1, g2, _⟩ := hu k e (off + j) _ he (List.getElem?_eq_getElem (by omega))
            rw [Nat.add_assoc]
            exact ⟨g1, g2⟩) fun j x hj => by
            rw [List.getElem?_drop] at hj
            exact hC ((hu k e _ x he hj).2.2.2 hf2)
        · exact .any
    | fn f caps =>
      simp only [viewN]
      obtain ⟨vs, rfl, hs, hg⟩ := hx.fn_inv
      obtain ⟨h1, h2⟩ := hmap caps vs (by simpa only [idsA] using hf) hs hg
      exact .fn vs h1 h2
    | agg cs =>
      simp only [viewN]
      obtain ⟨vs, rfl, hs, hg⟩ := hx.agg_inv
      obtain ⟨h1, h2⟩ := hmap cs vs (by simpa only [idsA] using hf) hs hg
      exact .agg vs h1 h2
    | tup cs =>
      simp only [viewN]
      obtain ⟨vs, rfl, hs, hg⟩ := hx.tup_inv
      obtain ⟨h1, h2⟩ := hmap cs vs (by simpa only [idsA] using hf) hs hg
      exact .tup vs h1 h2
end

/-- What a call leaves, read as data. -/
theorem Res.frz {fb : Nat → Prop} {base : Nat} {w' : World} {rows : List Row} {rv : AV} {v : Value} (h : Res fb base w' rows rv v) (hfb : ∀ b, fb b → b < base) : Res fb base w' [] (viewN 3 (hpOf 0 rows) rv) v := by
  obtain ⟨loc, h1, h2, h3, h4, h5⟩ := h
  refine ⟨loc, h1, .cl ?_, fun r row hr => by simp [hpOf, hget] at hr, fun r r' row row' b c c' hr => by simp [hpOf, hget] at hr, fun r row b c hr => by simp [hpOf, hget] at hr⟩
  refine view_frz (fun r row hr => (h3 r row hr).2) h4 (fun r row b c hr hl hf => ?_) (fun r row' hr => by simp [hpOf, hget] at hr) 3 rv v h2 ?_
  · have := h5 r row b c hr hl
    rw [h1] at hf
    have := hfb b hf
    omega
  · refine List.all_eq_true.2 fun r hr => ?_
    rw [Bool.and_eq_true]
    refine ⟨rfl, ?_⟩
    cases hg : hget (hpOf 0 rows) r with
    | none => rfl
    | some row => exact (h3 r row hg).1
theorem PC.frz {P : Program} {f : FuncId} {args : List AV} {D D' : AV → List Row → Prop} (h : PC P f args D) (hd : ∀ rv rows, D rv rows → D' (viewN 3 (hpOf 0 rows) rv) []) : PC P f args D' :=
  ⟨h.1, fun w fb vs h1 h2 h3 => (h.2 w fb vs h1 h2 h3).mono fun _ _ ⟨rv, rows, v, h4, h5, h6, h7⟩ => ⟨_, [], v, hd _ _ h4, h5, h6, h7.frz h1⟩⟩

/-! ### Within a frame -/
def leF (h h' : Hp) : List AV → List AV → Prop
  | [], [] => True
  | x :: l, y :: l' => (y = .any ∨ x = y ∨ (y = viewN 3 h x ∧ frzB h h' (idsA x) = true)) ∧ leF h h' l l'
  | _, _ => False
def rowF (h h' : Hp) (row row' : Row) : Prop := row'.E = row.E ∧ row'.sz = row.sz ∧ row'.es = row.es.map (·.map (viewN 3 h)) ∧ (row.es.all fun e => frzB h h' (idsL e)) = true
def leHF (h h0 : Hp) : Hp → Prop
  | [] => True
  | (r, row') :: l => (match hget h r with | some row => sameRow row row' ∨ rowF h h0 row row' | none => False) ∧ leHF h h0 l
theorem leF_get {h h' : Hp} : ∀ {l l' : List AV}, leF h h' l l' → l.length = l'.length ∧ ∀ (i : Nat) y, l'[i]? = some y → y = .any ∨ l[i]? = some y ∨ ∃ x, l[i]? = some x ∧ y = viewN 3 h x ∧ frzB h h' (idsA x) = true
  | [], [], _ => ⟨rfl, fun i y h => by simp at h⟩
  | x :: l, y :: l', hl => by
    obtain ⟨h1, h2⟩ := hl
    obtain ⟨g1, g2⟩ := leF_get h2
    refine ⟨by simp [g1], fun i z hz => ?_⟩
    cases i with
    | zero =>
      simp at hz
      subst hz
      rcases h1 with h1 | h1 | ⟨h1, h3⟩
      · exact .inl h1
      · exact .inr (.inl (by simp [h1]))
      · exact .inr (.inr ⟨x, rfl, h1, h3⟩)
    | succ i => simpa using g2 i z (by simpa using hz)
theorem leHF_get {h h0 : Hp} : ∀ {h' : Hp}, leHF h h0 h' → ∀ r row', hget h' r = some row' → ∃ row, hget h r = some row ∧ (sameRow row row' ∨ rowF h h0 row row')
  | [], _, r, row', hr => by cases hr
  | (k, x) :: l, hl, r, row', hr => by
    simp only [leHF] at hl
    simp only [hget] at hr
    split at hr
    · rename_i hk
      subst hk
      cases hr
      cases hh : hget h k with
      | none => rw [hh] at hl; exact hl.1.elim
      | some row => rw [hh] at hl; exact ⟨row, rfl, hl.1⟩
    · exact leHF_get hl.2 r row' hr
theorem wk_frz {s s' : AS} (ht : leF s.h s'.h s.t s'.t) (hh : leHF s.h s'.h s'.h) (hi : (idsL s'.t).all (inH s'.h) = true) (hr : idsR s'.h s'.h = true) : Wk s s' := by
  intro w0 lent loc a w hR
  obtain ⟨g1, g2⟩ := leF_get ht
  have hsub : ∀ r row', hget s'.h r = some row' → ∃ row, hget s.h r = some row := fun r row' h => by
    obtain ⟨row, h1, _⟩ := leHF_get hh r row' h
    exact ⟨row, h1⟩
  have hlive : ∀ b, Live s'.h loc b → Live s.h loc b := by
    rintro b (⟨r, row', c, h1, h2⟩ | hf)
    · obtain ⟨row, h3⟩ := hsub r row' h1
      exact .inl ⟨r, row, c, h3, h2⟩
    · exact .inr hf
  have hC : ∀ x u, C (Live s.h loc) 0 w x u → C (Live s'.h loc) 0 w x u := fun x u hx => hx.mono (Nat.le_refl _) (Nat.le_refl _) fun b _ _ hnl => ⟨fun h => hnl (hlive b h), rfl⟩
  have hnf : ∀ r row b c, hget s.h r = some row → loc r = some (b, c) → ¬ loc.fb b := fun r row b c h1 h2 hf => by
    rw [hR.fbe] at hf
    obtain ⟨h3, h4⟩ := hR.fbl b hf
    rcases hR.own r row b c h1 h2 with h5 | h5
    · omega
    · exact h4 h5
  have hV : ∀ x u, G s.h loc w x u → frzB s.h s'.h (idsA x) = true → C (Live s'.h loc) 0 w (viewN 3 s.h x) u := view_frz hR.rw hR.inj hnf hsub 3
  -- a value that stays
  have hG : ∀ x u, G s.h loc w x u → (∀ r ∈ idsA x, inH s'.h r = true) → G s'.h loc w x u := by
    intro x u hg
    have hrow : ∀ r row, inH s'.h r = true → hget s.h r = some row → ∃ row', hget s'.h r = some row' ∧ row'.sz = row.sz ∧ row'.es.length = row.es.length := fun r row hi hr => by
      unfold inH at hi
      split at hi
      · rename_i row' hr'
        obtain ⟨row2, h1, h2⟩ := leHF_get hh r row' hr'
        rw [hr] at h1
        cases h1
        rcases h2 with ⟨_, h3, h4, _⟩ | ⟨_, h3, h4, _⟩
        · exact ⟨row', hr', h3, by rw [h4]⟩
        · exact ⟨row', hr', h3, by rw [h4, List.length_map]⟩
      · cases hi
    induction hg with
    | cl hc => exact fun _ => .cl (hC _ _ hc)
    | @o r n row b c hr hl hn =>
      intro hs
      obtain ⟨row', h1, h2, h4⟩ := hrow r row (hs r (by simp [idsA])) hr
      exact .o h1 hl (by rw [h4]; exact hn)
    | @onil r row hr hl =>
      intro hs
      obtain ⟨row', h1, _⟩ := hrow r row (hs r (by simp [idsA])) hr
      exact .onil h1 hl
    | @p r k off row b c hr hl =>
      intro hs
      obtain ⟨row', h1, h2, _⟩ := hrow r row (hs r (by simp [idsA])) hr
      rw [← h2]
      exact .p h1 hl
    | @q r lo z n row b c A c' hr hl hn =>
      intro hs
      obtain ⟨row', h1, _⟩ := hrow r row (hs r (by simp [idsA])) hr
      exact .q h1 hl hn
    | fn vs hvs hg ih => exact fun hs => .fn vs hvs fun j a ha => ih j a ha fun r hr => hs r (by simp only [idsA]; exact idsL_mem ha r hr)
    | agg vs hvs hg ih => exact fun hs => .agg vs hvs fun j a ha => ih j a ha fun r hr => hs r (by simp only [idsA]; exact idsL_mem ha r hr)
    | tup vs hvs hg ih => exact fun hs => .tup vs hvs fun j a ha => ih j a ha fun r hr => hs r (by simp only [idsA]; exact idsL_mem ha r hr)
  refine ⟨loc, hR.tsz.trans g1, fun i y hy => ?_, hR.df, fun r row' h1 => ?_, fun r r' row row' b c c' h1 h2 h3 h4 => ?_, fun r row' b c h1 h2 => ?_, hR.os, hR.tape, hR.output, hR.size, hR.keep, hR.fbe, hR.fbl, hR.pn, hR.pl⟩
  · rcases g2 i y hy with rfl | h | ⟨x, hx, rfl, hf⟩
    · exact .cl .any
    · exact hG _ _ (hR.tm i y h) fun r hr => List.all_eq_true.1 hi r (idsL_mem hy r hr)
    · exact .cl (hV _ _ (hR.tm i x hx) hf)
  · obtain ⟨row, h2, h3⟩ := leHF_get hh r row' h1
    obtain ⟨q1, xs, q2, q3⟩ := hR.rw r row h2
    rcases h3 with ⟨e1, e2, e3, e4⟩ | ⟨e1, e2, e3, e4⟩
    · refine ⟨fun k e he => ?_, xs, ?_, fun k e j x he hx => ?_⟩
      · rw [e3] at he; rw [e2]; exact q1 k e he
      · rw [e1, e2, e3]; exact q2
      · rw [e3] at he
        obtain ⟨u, p1, p2, p3, p4⟩ := q3 k e j x he hx
        refine ⟨u, by rw [e2]; exact p1, p2, ?_, fun hc => ?_⟩
        · rcases idsR_get hr r row' h1 with hc | hc
          · have := e4 hc
            rw [Bool.or_eq_true] at this
            rcases this with h | h
            · exact .cl (hC _ _ (p4 h))
            · exact .cl (hC _ _ (isC_ok p3 (List.all_eq_true.1 (List.all_eq_true.1 h e (List.mem_of_getElem? he)) x (List.mem_of_getElem? hx))))
          · refine hG _ _ p3 fun r' hr' => ?_
            have := hc e (by rw [e3]; exact List.mem_of_getElem? he)
            exact List.all_eq_true.1 this r' (idsL_mem hx r' hr')
        · have := e4 hc
          rw [Bool.or_eq_true] at this
          rcases this with h | h
          · exact hC _ _ (p4 h)
          · exact hC _ _ (isC_ok p3 (List.all_eq_true.1 (List.all_eq_true.1 h e (List.mem_of_getElem? he)) x (List.mem_of_getElem? hx)))
    · refine ⟨fun k e he => ?_, xs, ?_, fun k e j x he hx => ?_⟩
      · rw [e3, List.getElem?_map, Option.map_eq_some_iff] at he
        obtain ⟨e', he', rfl⟩ := he
        rw [e2, List.length_map]; exact q1 k e' he'
      · rw [e1, e2, e3, List.length_map]; exact q2
      · rw [e3, List.getElem?_map, Option.map_eq_some_iff] at he
        obtain ⟨e', he', rfl⟩ := he
        rw [List.getElem?_map, Option.map_eq_some_iff] at hx
        obtain ⟨x', hx', rfl⟩ := hx
        obtain ⟨u, p1, p2, p3, p4⟩ := q3 k e' j x' he' hx'
        have hc := hV x' u p3 (List.all_eq_true.2 fun r' hr' => by
          have := List.all_eq_true.1 e4 e' (List.mem_of_getElem? he')
          exact List.all_eq_true.1 this r' (idsL_mem hx' r' hr'))
        exact ⟨u, by rw [e2]; exact p1, p2, .cl hc, fun _ => hc⟩
  · obtain ⟨row1, g3⟩ := hsub r row h1
    obtain ⟨row2, g4⟩ := hsub r' row' h2
    exact hR.inj r r' row1 row2 b c c' g3 g4 h3 h4
  · obtain ⟨row1, g3⟩ := hsub r row' h1
    exact hR.own r row1 b c g3 h2

section
variable {P : Program} {w0 : World} {lent : Lent} {Q : Exit → Act → World → Prop}
theorem ret_wk {s s' : AS} (h : Wk s s') (h' : RWp P w0 lent Q (.ret s')) : RWp P w0 lent Q (.ret s) := fun loc a w hR => by
  obtain ⟨loc', hR'⟩ := h w0 lent loc a w hR
  exact h' loc' a w hR'
end
section
variable {P : Program} {w0 : World} {fb : Nat → Prop} {fn : Func} {D : AV → List Row → Prop}
end

end Go.Proofs.YtccifbbjbnjcfaaGreatDoor
/-
  The abstract machine: contracts of functions that write rows which are lent to them.
-/
namespace Go.Proofs.YtccifbbjbnjcfaaGreatDoor
open Go Go.RowKit

/-- Lent rows lie apart, hold data. -/
structure LW (lr : List Row) (fb : Nat → Prop) (w : World) (loc : Loc) : Prop where
  fbe : loc.fb = fb
  rw : ∀ r row, hget (hpOf 0 lr) r = some row → row.cl = true ∧ RowOk (hpOf 0 lr) loc w r row
  inj : ∀ r r' row row' b c c', hget (hpOf 0 lr) r = some row → hget (hpOf 0 lr) r' = some row' → loc r = some (b, c) → loc r' = some (b, c') → r = r'
  fbl : ∀ b, fb b → b < w.heap.size ∧ ¬ LiveR (hpOf 0 lr) loc b
/-- What a call leaves that was lent rows: they hold other data; all else stands. -/
structure LP (lr lr' rows : List Row) (mv : Nat → Bool) (fb : Nat → Prop) (loc : Loc) (w w' : World) (rv : AV) (v : Value) (loc' : Loc) : Prop where
  len : lr'.length = lr.length
  os : w'.os = w.os
  tape : w'.tape = w.tape
  output : w'.output = w.output
  size : w.heap.size ≤ w'.heap.size
  keep : ∀ b, b < w.heap.size → ¬ LiveR (hpOf 0 lr) loc b → w'.heap[b]? = w.heap[b]?
  fbe : loc'.fb = fb
  stay : ∀ r, r < lr.length → mv r = false → loc' r = loc r
  val : G (hpOf 0 (lr' ++ rows)) loc' w' rv v
  rw : ∀ r row, hget (hpOf 0 (lr' ++ rows)) r = some row → row.cl = true ∧ RowOk (hpOf 0 (lr' ++ rows)) loc' w' r row
  inj : ∀ r r' row row' b c c', hget (hpOf 0 (lr' ++ rows)) r = some row → hget (hpOf 0 (lr' ++ rows)) r' = some row' → loc' r = some (b, c) → loc' r' = some (b, c') → r = r'
  own : ∀ r row b c, hget (hpOf 0 (lr' ++ rows)) r = some row → loc' r = some (b, c) → w.heap.size ≤ b ∨ LiveR (hpOf 0 lr) loc b
/-- A contract with lent rows (0, 1, ..); 'mv': those that may move. -/
def PCL (P : Program) (f : FuncId) (lr : List Row) (mv : Nat → Bool) (args : List AV) (D : AV → List Row → List Row → Prop) : Prop :=
  (∀ (vs : Array Value) (W : World), (callFunc f vs).run P W = .ok (.enter f vs) W) ∧
  ∀ (w : World) (fb : Nat → Prop) (loc : Loc) (vs : Array Value), LW lr fb w loc → vs.size = args.length → (∀ (j : Nat) x, args[j]? = some x → G (hpOf 0 lr) loc w x (vs.getD j undef)) →
    Calls P f vs w fun e w' => ∃ rv lr' rows v loc', D rv lr' rows ∧ e = .returned v ∧ LP lr lr' rows mv fb loc w w' rv v loc'
theorem PCL.mono {P : Program} {f : FuncId} {lr : List Row} {mv : Nat → Bool} {args : List AV} {D D' : AV → List Row → List Row → Prop} (h : PCL P f lr mv args D) (hd : ∀ rv lr' rows, D rv lr' rows → D' rv lr' rows) : PCL P f lr mv args D' :=
  ⟨h.1, fun w fb loc vs h1 h2 h3 => (h.2 w fb loc vs h1 h2 h3).mono fun _ _ ⟨rv, lr', rows, v, loc', h4, h5⟩ => ⟨rv, lr', rows, v, loc', hd _ _ _ h4, h5⟩⟩

/-! ### Entry and return -/
/-- Lent rows by their names within: the first m stay where they are, the others may move. -/
def nmL (mv : Nat → Bool) (i : Nat) : Nat := if mv i then 600000 + i else 500000 + i
def renL (mv : Nat → Bool) : AV → AV
  | .o r n => .o (nmL mv r) n
  | .p r k off => .p (nmL mv r) k off
  | .q r lo z n => .q (nmL mv r) lo z n
  | .fn f caps => .fn f (caps.map (renL mv))
  | .agg cs => .agg (cs.map (renL mv))
  | .tup cs => .tup (cs.map (renL mv))
  | x => x
def hpL (mv : Nat → Bool) : Nat → List Row → Hp
  | _, [] => []
  | n, r :: l => (nmL mv n, r) :: hpL mv (n + 1) l
theorem nmL_inj {mv : Nat → Bool} {i j : Nat} (hi : i < 100000) (hj : j < 100000) (h : nmL mv i = nmL mv j) : i = j := by
  unfold nmL at h
  split at h <;> split at h <;> omega
theorem hget_hpL {mv : Nat → Bool} : ∀ (l : List Row) (n q : Nat), n + l.length ≤ 100000 → (∀ i, n ≤ i → i < n + l.length → nmL mv i = q → hget (hpL mv n l) q = l[i - n]?)
  | [], n, q, _, i, h1, h2, _ => by simp at h2; omega
  | r :: l, n, q, hl, i, h1, h2, h3 => by
    simp only [List.length_cons] at hl h2
    simp only [hpL, hget]
    by_cases h : i = n
    · subst h; rw [if_pos h3]; simp
    · rw [if_neg (fun e => h (nmL_inj (mv := mv) (by omega) (by omega) (h3.trans e.symm)))]
      rw [hget_hpL l (n + 1) q (by omega) i (by omega) (by omega) h3, show i - n = (i - (n + 1)) + 1 from by omega, List.getElem?_cons_succ]
theorem hget_hpL_inv {mv : Nat → Bool} : ∀ (l : List Row) (n q : Nat) (row : Row), hget (hpL mv n l) q = some row → ∃ i, n ≤ i ∧ i < n + l.length ∧ nmL mv i = q ∧ (n + l.length ≤ 100000 → l[i - n]? = some row)
  | [], n, q, row, h => by cases h
  | r :: l, n, q, row, h => by
    simp only [hpL, hget] at h
    split at h
    · rename_i e
      cases h
      exact ⟨n, Nat.le_refl _, by simp, e, fun _ => by simp⟩
    · obtain ⟨i, h1, h2, h3, h4⟩ := hget_hpL_inv l (n + 1) q row h
      refine ⟨i, by omega, by simp only [List.length_cons]; omega, h3, fun hl => ?_⟩
      simp only [List.length_cons] at hl
      rw [show i - n = (i - (n + 1)) + 1 from by omega, List.getElem?_cons_succ]
      exact h4 (by omega)
/-- Where lent rows lie, by their names within. -/
def locL (mv : Nat → Bool) (loc : Loc) (n : Nat) : Loc := ⟨fun q => if 600000 ≤ q ∧ q < 600000 + n ∧ mv (q - 600000) = true then loc (q - 600000) else if 500000 ≤ q ∧ q < 500000 + n ∧ mv (q - 500000) = false then loc (q - 500000) else none, loc.fb⟩
theorem locL_nm {mv : Nat → Bool} {loc : Loc} {n i : Nat} (hi : i < n) (hn : n ≤ 100000) : locL mv loc n (nmL mv i) = loc i := by
  unfold nmL locL
  simp only
  cases h : mv i with
  | true => simp only [if_true]; rw [if_pos ⟨by omega, by omega, by rw [Nat.add_sub_cancel_left]; exact h⟩, Nat.add_sub_cancel_left]
  | false =>
    simp only [Bool.false_eq_true, if_false]
    rw [if_neg (by omega), if_pos ⟨by omega, by omega, by rw [Nat.add_sub_cancel_left]; exact h⟩, Nat.add_sub_cancel_left]

/-- What a body owes with lent rows. -/
def LPpost (w0 : World) (fb : Nat → Prop) (lr : List Row) (mv : Nat → Bool) (loc : Loc) (D : AV → List Row → List Row → Prop) (e : Ending) (w' : World) : Prop :=
  ∃ rv lr' rows v loc', D rv lr' rows ∧ e = .returned v ∧ LP lr lr' rows mv fb loc w0 w' rv v loc'
def lentL (lr : List Row) (mv : Nat → Bool) (fb : Nat → Prop) (loc : Loc) : Lent := ⟨fun b => LiveR (hpOf 0 lr) loc b, fb, fun q => if 500000 ≤ q ∧ q < 500000 + lr.length ∧ mv (q - 500000) = false then some (loc (q - 500000)) else none⟩
abbrev AWL (P : Program) (w0 : World) (fb : Nat → Prop) (lr : List Row) (mv : Nat → Bool) (loc : Loc) (fn : Func) (D : AV → List Row → List Row → Prop) (k : List It) (s : AS) : Prop :=
  AW P w0 (lentL lr mv fb loc) (bodyPost P fn (LPpost w0 fb lr mv loc D)) k s
abbrev RWL (P : Program) (w0 : World) (fb : Nat → Prop) (lr : List Row) (mv : Nat → Bool) (loc : Loc) (fn : Func) (D : AV → List Row → List Row → Prop) (r : R) : Prop :=
  RWp P w0 (lentL lr mv fb loc) (bodyPost P fn (LPpost w0 fb lr mv loc D)) r

theorem G.renL {h h' : Hp} {loc loc' : Loc} {w : World} {mv : Nat → Bool} {x : AV} {u : Value} (hg : G h loc w x u) (hrow : ∀ q row, hget h q = some row → loc' (nmL mv q) = loc q ∧ hget h' (nmL mv q) = some row)
    (hC : ∀ x u, C (Live h loc) 0 w x u → C (Live h' loc') 0 w x u) : G h' loc' w (Go.Proofs.YtccifbbjbnjcfaaGreatDoor.renL mv x) u := by
  induction hg with
  | cl hc =>
    suffices ∀ x u, C (Live h' loc') 0 w x u → G h' loc' w (Go.Proofs.YtccifbbjbnjcfaaGreatDoor.renL mv x) u from this _ _ (hC _ _ hc)
    intro x u hc
    induction hc with
    | any => simp only [Go.Proofs.YtccifbbjbnjcfaaGreatDoor.renL]; exact .cl .any
    | v => simp only [Go.Proofs.YtccifbbjbnjcfaaGreatDoor.renL]; exact .cl .v
    | sl xs u a1 a2 a3 a4 a5 a6 a7 => simp only [Go.Proofs.YtccifbbjbnjcfaaGreatDoor.renL]; exact .cl (.sl xs u a1 a2 a3 a4 a5 a6 a7)
    | ip b off u a1 a2 a3 a4 a5 => simp only [Go.Proofs.YtccifbbjbnjcfaaGreatDoor.renL]; exact .cl (.ip b off u a1 a2 a3 a4 a5)
    | fn vs hs hg ih =>
      simp only [Go.Proofs.YtccifbbjbnjcfaaGreatDoor.renL]
      refine .fn vs (by simpa using hs) fun j a ha => ?_
      rw [List.getElem?_map, Option.map_eq_some_iff] at ha
      obtain ⟨y, hy, rfl⟩ := ha
      exact ih j y hy
    | agg vs hs hg ih =>
      simp only [Go.Proofs.YtccifbbjbnjcfaaGreatDoor.renL]
      refine .agg vs (by simpa using hs) fun j a ha => ?_
      rw [List.getElem?_map, Option.map_eq_some_iff] at ha
      obtain ⟨y, hy, rfl⟩ := ha
      exact ih j y hy
    | tup vs hs hg ih =>
      simp only [Go.Proofs.YtccifbbjbnjcfaaGreatDoor.renL]
      refine .tup vs (by simpa using hs) fun j a ha => ?_
      rw [List.getElem?_map, Option.map_eq_some_iff] at ha
      obtain ⟨y, hy, rfl⟩ := ha
      exact ih j y hy
  | o hr hl hn => obtain ⟨h1, h2⟩ := hrow _ _ hr; simp only [Go.Proofs.YtccifbbjbnjcfaaGreatDoor.renL]; exact .o h2 (h1.trans hl) hn
  | onil hr hl => obtain ⟨h1, h2⟩ := hrow _ _ hr; simp only [Go.Proofs.YtccifbbjbnjcfaaGreatDoor.renL]; exact .onil h2 (h1.trans hl)
  | p hr hl => obtain ⟨h1, h2⟩ := hrow _ _ hr; simp only [Go.Proofs.YtccifbbjbnjcfaaGreatDoor.renL]; exact .p h2 (h1.trans hl)
  | q hr hl hn => obtain ⟨h1, h2⟩ := hrow _ _ hr; simp only [Go.Proofs.YtccifbbjbnjcfaaGreatDoor.renL]; exact .q h2 (h1.trans hl) hn
  | fn vs hs hg ih =>
    simp only [Go.Proofs.YtccifbbjbnjcfaaGreatDoor.renL]
    refine .fn vs (by simpa using hs) fun j a ha => ?_
    rw [List.getElem?_map, Option.map_eq_some_iff] at ha
    obtain ⟨y, hy, rfl⟩ := ha
    exact ih j y hy
  | agg vs hs hg ih =>
    simp only [Go.Proofs.YtccifbbjbnjcfaaGreatDoor.renL]
    refine .agg vs (by simpa using hs) fun j a ha => ?_
    rw [List.getElem?_map, Option.map_eq_some_iff] at ha
    obtain ⟨y, hy, rfl⟩ := ha
    exact ih j y hy
  | tup vs hs hg ih =>
    simp only [Go.Proofs.YtccifbbjbnjcfaaGreatDoor.renL]
    refine .tup vs (by simpa using hs) fun j a ha => ?_
    rw [List.getElem?_map, Option.map_eq_some_iff] at ha
    obtain ⟨y, hy, rfl⟩ := ha
    exact ih j y hy

section
variable {P : Program}
theorem pcl_enter {f : FuncId} {fn : Func} {c : Code} {lr : List Row} {mv : Nat → Bool} {args : List AV} {D : AV → List Row → List Row → Prop} (hf : P.funcs[f]? = some fn) (hn : (fn.name == "runtime.NumGoroutine") = false) (hb : fn.body = some c) (h100 : lr.length ≤ 100000)
    (h : ∀ w0 fb loc, AWL P w0 fb lr mv loc fn D [.code c] ⟨args.map (renL mv) ++ List.replicate (fn.ntmps - args.length) .any, hpL mv 0 lr⟩) : PCL P f lr mv args D := by
  have hn' : ¬ fn.name = "runtime.NumGoroutine" := by simpa using hn
  refine ⟨fun vs W => by simp [callFunc, hf, hn', hb], fun w fb loc vs hlw hs hg => ?_⟩
  refine calls_of_wp hf hb ?_
  have hrow : ∀ q row, hget (hpOf 0 lr) q = some row → locL mv loc lr.length (nmL mv q) = loc q ∧ hget (hpL mv 0 lr) (nmL mv q) = some row := fun q row hq => by
    rw [hget_hpOf, if_pos (Nat.zero_le _), Nat.sub_zero] at hq
    have hlt := lt_of_some hq
    exact ⟨locL_nm hlt h100, by rw [hget_hpL lr 0 _ (by omega) q (Nat.zero_le _) (by omega) rfl, Nat.sub_zero]; exact hq⟩
  have hinv : ∀ q row, hget (hpL mv 0 lr) q = some row → ∃ i, nmL mv i = q ∧ hget (hpOf 0 lr) i = some row ∧ locL mv loc lr.length q = loc i := fun q row hq => by
    obtain ⟨i, _, h2, h3, h4⟩ := hget_hpL_inv lr 0 q row hq
    have := h4 (by omega)
    rw [Nat.sub_zero] at this
    refine ⟨i, h3, by rw [hget_hpOf, if_pos (Nat.zero_le _), Nat.sub_zero]; exact this, ?_⟩
    rw [← h3]; exact locL_nm (by omega) h100
  have hlive : ∀ b, Live (hpL mv 0 lr) (locL mv loc lr.length) b → Live (hpOf 0 lr) loc b := by
    rintro b (⟨q, row, c', h1, h2⟩ | hfb)
    · obtain ⟨i, rfl, h4, h5⟩ := hinv q row h1
      rw [h5] at h2
      exact .inl ⟨i, row, c', h4, h2⟩
    · exact .inr hfb
  have hC : ∀ x u, C (Live (hpOf 0 lr) loc) 0 w x u → C (Live (hpL mv 0 lr) (locL mv loc lr.length)) 0 w x u := fun x u hx => hx.mono (Nat.le_refl _) (Nat.le_refl _) fun b _ _ hnl => ⟨fun hl => hnl (hlive b hl), rfl⟩
  have hG : ∀ x u, G (hpOf 0 lr) loc w x u → G (hpL mv 0 lr) (locL mv loc lr.length) w (renL mv x) u := fun x u hx => hx.renL hrow hC
  refine h w fb loc (locL mv loc lr.length) _ w ⟨?_, fun i x hx => ?_, rfl, fun r row hr => ?_, fun r r' row row' b c c' h1 h2 h3 h4 => ?_, fun r row b c h1 h2 => ?_, rfl, rfl, rfl, Nat.le_refl _, fun _ _ _ => rfl, hlw.fbe, hlw.fbl, fun r p hp => ?_, fun r p hp => ?_⟩
  · simp [hs]
  · by_cases hi : i < args.length
    · simp only at hx
      rw [List.getElem?_append_left (by simpa using hi), List.getElem?_map, Option.map_eq_some_iff] at hx
      obtain ⟨y, hy, rfl⟩ := hx
      have := hG _ _ (hg i y hy)
      have e : (vs ++ Array.replicate (fn.ntmps - vs.size) undef).getD i undef = vs.getD i undef := by
        rw [Array.getD_eq_getD_getElem?, Array.getElem?_append, if_pos (by omega), ← Array.getD_eq_getD_getElem?]
      rw [e]
      exact this
    · simp only at hx
      rw [List.getElem?_append_right (by simp; omega), List.getElem?_replicate] at hx
      split at hx
      · cases hx; exact .cl .any
      · cases hx
  · obtain ⟨i, rfl, h4, h5⟩ := hinv r row hr
    obtain ⟨hcl, q1, xs, q2, q3⟩ := hlw.rw i row h4
    refine ⟨q1, xs, ?_, fun k e j x he hx => ?_⟩
    · have : rowVal (locL mv loc lr.length) (nmL mv i) row.es.length = rowVal loc i row.es.length := by simp only [rowVal, h5]
      rw [this]; exact q2
    · obtain ⟨u, p1, p2, p3, p4⟩ := q3 k e j x he hx
      exact ⟨u, p1, p2, .cl (hC _ _ (p4 hcl)), fun _ => hC _ _ (p4 hcl)⟩
  · obtain ⟨i, rfl, g1, g2⟩ := hinv r row h1
    obtain ⟨j, rfl, g3, g4⟩ := hinv r' row' h2
    rw [g2] at h3
    rw [g4] at h4
    rw [hlw.inj i j row row' b c c' g1 g3 h3 h4]
  · obtain ⟨i, rfl, g1, g2⟩ := hinv r row h1
    rw [g2] at h2
    exact .inr ⟨i, row, c, g1, h2⟩
  · simp only [lentL] at hp
    split at hp
    · rename_i hh
      cases hp
      have := locL_nm (mv := mv) (loc := loc) (n := lr.length) (i := r - 500000) (by omega) h100
      unfold nmL at this
      rw [hh.2.2] at this
      simp only [Bool.false_eq_true, if_false] at this
      rwa [show 500000 + (r - 500000) = r from by omega] at this
    · cases hp
  · simp only [lentL] at hp
    split at hp
    · rename_i hh; cases hp; omega
    · cases hp

/-- What the function returns, and the lent rows. -/
def retL (P : Program) (mv : Nat → Bool) (m : Nat) (rs : List ResultVar) (s : AS) : Option (AV × List Row × List Row) :=
  match resL P s rs with
  | some l =>
    if ndB ((List.range m).map (nmL mv) ++ (idsA (retV l)).filter fun r => decide (r < 500000)) && (idsA (retV l)).all (fun r => decide (r < 500000) || ((List.range m).map (nmL mv)).contains r) then
      (match rowsOf s.h ((List.range m).map (nmL mv)), rowsOf s.h ((idsA (retV l)).filter fun r => decide (r < 500000)) with
      | some lr', some rows => some (rnA ((List.range m).map (nmL mv) ++ (idsA (retV l)).filter fun r => decide (r < 500000)) (retV l), lr', rows)
      | _, _ => none) else none
  | none => none
end

end Go.Proofs.YtccifbbjbnjcfaaGreatDoor
/-
  The abstract machine: the return of lent rows; a call that lends rows.
-/
namespace Go.Proofs.YtccifbbjbnjcfaaGreatDoor
open Go Go.RowKit

theorem rowsOf_append {h : Hp} : ∀ {σ τ : List Nat} {a b : List Row}, rowsOf h σ = some a → rowsOf h τ = some b → rowsOf h (σ ++ τ) = some (a ++ b)
  | [], τ, a, b, h1, h2 => by simp only [rowsOf, Option.some.injEq] at h1; subst h1; simpa using h2
  | q :: l, τ, a, b, h1, h2 => by
    simp only [rowsOf] at h1
    split at h1
    · rename_i row rs g1 g2
      split at h1
      · rename_i hc
        cases h1
        have := rowsOf_append g2 h2
        simp only [List.cons_append, rowsOf, g1, this]
        rw [if_pos hc]
      · cases h1
    · cases h1

section
variable {w0 : World} {lent : Lent} {s : AS} {loc : Loc} {a : Act} {w : World}
/-- Some rows of a frame, by their places in a list of names. -/
theorem pick_ok {σ : List Nat} {rows : List Row} (hR : Rel w0 lent s loc a w) (hn : ndB σ = true) (hr : rowsOf s.h σ = some rows) {loc' : Loc} (hloc : ∀ i, loc' i = (σ[i]?).bind loc)
    (hfb : ∀ b, loc'.fb b → Live s.h loc b) :
    (∀ x u, C (Live s.h loc) 0 w x u → C (Live (hpOf 0 rows) loc') 0 w x u) ∧ (∀ i row', hget (hpOf 0 rows) i = some row' → row'.cl = true ∧ RowOk (hpOf 0 rows) loc' w i row' ∧ ∃ r row, σ[i]? = some r ∧ hget s.h r = some row ∧ row'.sz = row.sz ∧ row'.es = row.es ∧ row'.E = row.E) ∧
    (∀ i j row1 row2 b c c', hget (hpOf 0 rows) i = some row1 → hget (hpOf 0 rows) j = some row2 → loc' i = some (b, c) → loc' j = some (b, c') → i = j) ∧
    (∀ x u, G s.h loc w x u → (∀ r ∈ idsA x, r ∈ σ) → G (hpOf 0 rows) loc' w (rnA σ x) u) := by
  obtain ⟨hlen, hget'⟩ := rowsOf_get hr
  have hnd := ndB_ok hn
  have hinv : ∀ i row', hget (hpOf 0 rows) i = some row' → ∃ r row, σ[i]? = some r ∧ hget s.h r = some row ∧ (row.cl || row.es.all (·.all isC)) = true ∧ row' = ⟨row.E, row.sz, row.es, true⟩ := fun i row' h => by
    rw [hget_hpOf, if_pos (Nat.zero_le _), Nat.sub_zero] at h
    have hi := lt_of_some h
    have hi' : i < σ.length := by omega
    obtain ⟨row, h2, h3, h4⟩ := hget' i _ (List.getElem?_eq_getElem hi')
    rw [h] at h4
    cases h4
    exact ⟨_, row, List.getElem?_eq_getElem hi', h2, h3, rfl⟩
  have hrow : ∀ r row, r ∈ σ → hget s.h r = some row → loc' (ixOf σ r) = loc r ∧ ∃ row', hget (hpOf 0 rows) (ixOf σ r) = some row' ∧ row'.sz = row.sz ∧ row.es.length = row'.es.length := fun r row hm h => by
    have h1 := ixOf_get hm
    obtain ⟨row', h2, h3, h4⟩ := hget' _ r h1
    rw [h] at h2
    cases h2
    refine ⟨by rw [hloc, h1]; rfl, ⟨row.E, row.sz, row.es, true⟩, by rw [hget_hpOf, if_pos (Nat.zero_le _), Nat.sub_zero]; exact h4, rfl, rfl⟩
  have hlive : ∀ b, Live (hpOf 0 rows) loc' b → Live s.h loc b := by
    rintro b (⟨i, row', c, h1, h2⟩ | hf)
    · obtain ⟨r, row, g1, g2, _, _⟩ := hinv i row' h1
      rw [hloc, g1, Option.bind_some] at h2
      exact .inl ⟨r, row, c, g2, h2⟩
    · exact hfb b hf
  have hC : ∀ x u, C (Live s.h loc) 0 w x u → C (Live (hpOf 0 rows) loc') 0 w x u := fun x u hx => hx.mono (Nat.le_refl _) (Nat.le_refl _) fun b _ _ hnl => ⟨fun h => hnl (hlive b h), rfl⟩
  refine ⟨hC, fun i row' h => ?_, fun i j row1 row2 b c c' h1 h2 h3 h4 => ?_, fun x u hg hs => hg.rn hs hrow hC⟩
  · obtain ⟨r, row, g1, g2, g3, rfl⟩ := hinv i row' h
    refine ⟨rfl, ?_, r, row, g1, g2, rfl, rfl, rfl⟩
    obtain ⟨h1, xs, h2, h3⟩ := hR.rw r row g2
    refine ⟨h1, xs, ?_, fun k e j x he hx => ?_⟩
    · have : rowVal loc' i row.es.length = rowVal loc r row.es.length := by simp only [rowVal, hloc, g1, Option.bind_some]
      rw [this]
      exact h2
    · obtain ⟨u, q1, q2, q3, q4⟩ := h3 k e j x he hx
      have hcx : C (Live s.h loc) 0 w x u := by
        rw [Bool.or_eq_true] at g3
        rcases g3 with g3 | g3
        · exact q4 g3
        · exact isC_ok q3 (List.all_eq_true.1 (List.all_eq_true.1 g3 e (List.mem_of_getElem? he)) x (List.mem_of_getElem? hx))
      exact ⟨u, q1, q2, .cl (hC _ _ hcx), fun _ => hC _ _ hcx⟩
  · obtain ⟨r1, rw1, g1, g2, _, _⟩ := hinv i row1 h1
    obtain ⟨r2, rw2, g3, g4, _, _⟩ := hinv j row2 h2
    rw [hloc, g1, Option.bind_some] at h3
    rw [hloc, g3, Option.bind_some] at h4
    have := hR.inj r1 r2 rw1 rw2 b c c' g2 g4 h3 h4
    subst this
    exact hnd i j r1 g1 g3

variable {P : Program}
theorem at_retL {fb : Nat → Prop} {lr : List Row} {mv : Nat → Bool} {loc0 : Loc} {fn : Func} {D : AV → List Row → List Row → Prop} {s : AS} (h : match retL P mv lr.length fn.results.toList s with | some (rv, lr', rows) => D rv lr' rows | none => False) :
    RWL P w0 fb lr mv loc0 fn D (.ret s) := by
  split at h
  · rename_i rv lr' rows hret
    unfold retL at hret
    split at hret
    · rename_i l hl
      split at hret
      · rename_i hn
        split at hret
        · rename_i lr1 rows1 h1 h2
          cases hret
          intro loc a w hR
          obtain ⟨v, g1, g2⟩ := retV_ok hR hl
          rw [Bool.and_eq_true] at hn
          have hrows := rowsOf_append h1 h2
          let loc' : Loc := ⟨fun i => (((List.range lr.length).map (nmL mv) ++ (idsA (retV l)).filter fun r => decide (r < 500000))[i]?).bind loc, fb⟩
          obtain ⟨_, k2, k3, k4⟩ := pick_ok hR hn.1 hrows (loc' := loc') (fun i => rfl) (fun b hb => .inr (by rw [hR.fbe]; exact hb))
          have hm : lr'.length = lr.length := by have := (rowsOf_get h1).1; simpa using this
          refine ⟨hR.df, v, g1, _, lr', rows, v, loc', h, rfl, hm, hR.os, hR.tape, hR.output, hR.size, fun b hb hnl => hR.keep b hb hnl, rfl, fun r hr hmv => ?_, k4 _ _ g2 fun r hr => ?_, fun r row hr => ?_, k3, fun r row b c hr hl' => ?_⟩
          · have e1 : ((List.range lr.length).map (nmL mv) ++ (idsA (retV l)).filter fun r => decide (r < 500000))[r]? = some (nmL mv r) := by
              rw [List.getElem?_append_left (by simpa using hr), List.getElem?_map, List.getElem?_range hr]; rfl
            show ((((List.range lr.length).map (nmL mv) ++ (idsA (retV l)).filter fun r => decide (r < 500000))[r]?).bind loc) = loc0 r
            rw [e1, Option.bind_some]
            have e2 : nmL mv r = 500000 + r := by unfold nmL; rw [hmv]; rfl
            rw [e2]
            refine hR.pn _ _ ?_
            show (if 500000 ≤ 500000 + r ∧ 500000 + r < 500000 + lr.length ∧ mv (500000 + r - 500000) = false then some (loc0 (500000 + r - 500000)) else none) = some (loc0 r)
            rw [Nat.add_sub_cancel_left, if_pos ⟨by omega, by omega, hmv⟩]
          · have := List.all_eq_true.1 hn.2 r hr
            rw [Bool.or_eq_true, decide_eq_true_eq, List.contains_iff_mem] at this
            rw [List.mem_append]
            rcases this with h3 | h3
            · exact .inr (List.mem_filter.2 ⟨hr, by simpa using h3⟩)
            · exact .inl h3
          · obtain ⟨q1, q2, _⟩ := k2 r row hr
            exact ⟨q1, q2⟩
          · obtain ⟨_, _, r', row', q1, q2, _⟩ := k2 r row hr
            have e1 : loc' r = loc r' := by show (((List.range lr.length).map (nmL mv) ++ (idsA (retV l)).filter fun r => decide (r < 500000))[r]?).bind loc = loc r'; rw [q1]; rfl
            rw [e1] at hl'
            exact hR.own r' row' b c q2 hl'
        · cases hret
      · cases hret
    · cases hret
  · exact h.elim
end

end Go.Proofs.YtccifbbjbnjcfaaGreatDoor
/-
  The abstract machine: a call that lends rows.
-/
namespace Go.Proofs.YtccifbbjbnjcfaaGreatDoor
open Go Go.RowKit

/-- The rows that were lent, as they are now. -/
def hsL : Hp → List Nat → List Row → Hp
  | h, q :: l, r :: rs => hsL (hset h q r) l rs
  | h, _, _ => h
/-- A name within, as the caller has it. -/
def nmB (σ : List Nat) (b : Nat) (i : Nat) : Nat := match σ[i]? with | some q => q | none => b + (i - σ.length)
def renB (σ : List Nat) (b : Nat) : AV → AV
  | .o r n => .o (nmB σ b r) n
  | .p r k off => .p (nmB σ b r) k off
  | .q r lo z n => .q (nmB σ b r) lo z n
  | .fn f caps => .fn f (caps.map (renB σ b))
  | .agg cs => .agg (cs.map (renB σ b))
  | .tup cs => .tup (cs.map (renB σ b))
  | x => x
/-- The name of the row that may have moved. -/
def mvN (σ : List Nat) : Option Nat → Option Nat
  | some i => σ[i]?
  | none => none
def mvF (m : Option Nat) (i : Nat) : Bool := match m with | some j => decide (j = i) | none => false
def backL (s : AS) (dst : Option Tmp) (σ : List Nat) (m : Option Nat) (rv : AV) (lr' rows : List Row) : AS :=
  AS.put ⟨kT (mvN σ m) s.t, hsL (kH (mvN σ m) s.h) σ lr' ++ hpOf (baseOf dst) rows⟩ dst (renB σ (baseOf dst) rv)
/-- What stays where it is keeps its shape. -/
def shB (m : Option Nat) : Nat → List Row → List Row → Bool
  | _, [], [] => true
  | i, r :: l, r' :: l' => (mvF m i || (decide (r'.sz = r.sz) && decide (r.es.length ≤ r'.es.length))) && shB m (i + 1) l l'
  | _, _, _ => false

theorem hget_hsL : ∀ (σ : List Nat) (lr : List Row) (h : Hp) (q : Nat), ndB σ = true → σ.length = lr.length → hget (hsL h σ lr) q = (if q ∈ σ then lr[ixOf σ q]? else hget h q)
  | [], [], h, q, _, _ => by simp [hsL]
  | [], _ :: _, h, q, _, hl => by simp at hl
  | _ :: _, [], h, q, _, hl => by simp at hl
  | a :: l, r :: rs, h, q, hn, hl => by
    have hn0 := hn
    simp only [ndB, Bool.and_eq_true, List.all_eq_true, decide_eq_true_eq] at hn
    simp only [hsL, hget_hsL l rs _ q hn.2 (by simpa using hl), hget_hset, List.mem_cons, ixOf]
    by_cases h1 : q = a
    · subst h1
      have : q ∉ l := fun hm => hn.1 q hm rfl
      simp [this]
    · have h2 : ¬ a = q := fun e => h1 e.symm
      by_cases h3 : q ∈ l
      · simp [h3, h2]
      · simp [h3, h1, h2]
theorem shB_spec {m : Option Nat} : ∀ (l l' : List Row) (k : Nat), shB m k l l' = true → l'.length = l.length ∧ ∀ (i : Nat) r r', l[i]? = some r → l'[i]? = some r' → mvF m (k + i) = true ∨ (r'.sz = r.sz ∧ r.es.length ≤ r'.es.length)
  | [], [], k, _ => ⟨rfl, fun i r r' h => by simp at h⟩
  | [], _ :: _, k, h => by cases h
  | _ :: _, [], k, h => by cases h
  | a :: l, b :: l', k, h => by
    simp only [shB, Bool.and_eq_true, Bool.or_eq_true, decide_eq_true_eq] at h
    obtain ⟨h1, h2⟩ := shB_spec l l' (k + 1) h.2
    refine ⟨by simp [h1], fun i r r' hr hr' => ?_⟩
    cases i with
    | zero => simp at hr hr'; subst hr; subst hr'; exact h.1
    | succ i =>
      have := h2 i r r' (by simpa using hr) (by simpa using hr')
      rwa [show k + 1 + i = k + (i + 1) from by omega] at this

section
variable {P : Program} {w0 : World} {lent : Lent} {Q : Exit → Act → World → Prop}
theorem call_lend {f : FuncId} {args : List AV} {dst : Option Tmp} {k : List It} {s : AS} (σ : List Nat) (m : Option Nat) {lr : List Row} {D : AV → List Row → List Row → Prop} (hn : ndB σ = true) (hr : rowsOf s.h σ = some lr)
    (hids : (idsL args).all (fun r => σ.contains r) = true) (hm : (match mvN σ m with | some q => decide (q < 500000) || decide (600000 ≤ q) | none => true) = true) (hpc : PCL P f lr (mvF m) (args.map (rnA σ)) D)
    (hk : ∀ rv lr' rows, D rv lr' rows → shB m 0 lr lr' = true ∧ frB s.h (baseOf dst) rows.length = true ∧ AW P w0 lent Q k (backL s dst σ m rv lr' rows)) : RWp P w0 lent Q (.call f args dst k s) := by
  intro loc a w hR vs hs hg
  obtain ⟨hlen, hget'⟩ := rowsOf_get hr
  have hnd := ndB_ok hn
  -- the caller's other rows are not to be touched
  let isσ : Nat → Prop := fun b => ∃ r row c, r ∈ σ ∧ hget s.h r = some row ∧ loc r = some (b, c)
  let loc1 : Loc := ⟨fun i => (σ[i]?).bind loc, fun b => Live s.h loc b ∧ ¬ isσ b⟩
  obtain ⟨kC, kR, kI, kG⟩ := pick_ok hR hn hr (loc' := loc1) (fun i => rfl) (fun b hb => hb.1)
  have hlent : ∀ b, LiveR (hpOf 0 lr) loc1 b → isσ b := fun b ⟨i, row', c, h1, h2⟩ => by
    obtain ⟨_, _, r, row, g1, g2, _⟩ := kR i row' h1
    have : loc1 i = loc r := by show (σ[i]?).bind loc = loc r; rw [g1]; rfl
    rw [this] at h2
    exact ⟨r, row, c, List.mem_of_getElem? g1, g2, h2⟩
  have hlivelt : ∀ b, Live s.h loc b → b < w.heap.size := fun b hb => by
    rcases hb with hb | hb
    · exact Live.lt hR.rw hb
    · rw [hR.fbe] at hb
      exact Nat.lt_of_lt_of_le (hR.fbl b hb).1 hR.size
  have hnf : ∀ r row b c, hget s.h r = some row → loc r = some (b, c) → ¬ loc.fb b := fun r row b c h1 h2 hf => by
    rw [hR.fbe] at hf
    obtain ⟨h3, h4⟩ := hR.fbl b hf
    rcases hR.own r row b c h1 h2 with h5 | h5
    · omega
    · exact h4 h5
  refine ⟨hpc.1 vs w, (hpc.2 w _ loc1 vs ⟨rfl, fun r row h => ⟨(kR r row h).1, (kR r row h).2.1⟩, kI, fun b hb => ⟨hlivelt b hb.1, fun hl => hb.2 (hlent b hl)⟩⟩ (by simpa using hs) fun j x hx => ?_).mono ?_⟩
  · rw [List.getElem?_map, Option.map_eq_some_iff] at hx
    obtain ⟨y, hy, rfl⟩ := hx
    refine kG _ _ (hg j y hy) fun r hr' => ?_
    have := List.all_eq_true.1 hids r (idsL_mem hy r hr')
    simpa using this
  · rintro e w' ⟨rv, lr', rows, v, loc2, hD, rfl, hL⟩
    obtain ⟨hsh, hfr, hk⟩ := hk rv lr' rows hD
    refine ⟨v, rfl, ?_⟩
    obtain ⟨hll, hshape⟩ := shB_spec lr lr' 0 hsh
    have hσl : σ.length = lr'.length := by rw [hll]; exact hlen.symm
    have hfree := frB_ok hfr
    have hfle := frB_le hfr
    -- where the rows lie now
    let loc3 : Loc := ⟨fun q => if q ∈ σ then loc2 (ixOf σ q) else if baseOf dst ≤ q ∧ q < baseOf dst + rows.length then loc2 (σ.length + (q - baseOf dst)) else loc q, loc.fb⟩
    have hσ_in : ∀ q, q ∈ σ → ∃ row, hget s.h q = some row := fun q hq => by
      obtain ⟨row, h1, _⟩ := hget' _ q (ixOf_get hq)
      exact ⟨row, h1⟩
    have hnotσ : ∀ q, baseOf dst ≤ q → q < baseOf dst + rows.length → q ∉ σ := fun q h1 h2 hq => by
      obtain ⟨row, h3⟩ := hσ_in q hq
      rw [hfree q h1 h2] at h3; cases h3
    let H : Hp := hsL (kH (mvN σ m) s.h) σ lr' ++ hpOf (baseOf dst) rows
    have hH : ∀ q, hget H q = if q ∈ σ then lr'[ixOf σ q]? else if baseOf dst ≤ q ∧ q < baseOf dst + rows.length then rows[q - baseOf dst]? else (hget s.h q).map (killO (mvN σ m)) := fun q => by
      show hget (hsL (kH (mvN σ m) s.h) σ lr' ++ hpOf (baseOf dst) rows) q = _
      rw [hget_append, hget_hsL _ _ _ _ hn hσl, hget_kH]
      by_cases hq : q ∈ σ
      · rw [if_pos hq, if_pos hq]
        have := lt_of_some (ixOf_get hq)
        rw [List.getElem?_eq_getElem (by omega)]
      · rw [if_neg hq, if_neg hq]
        by_cases hb : baseOf dst ≤ q ∧ q < baseOf dst + rows.length
        · rw [if_pos hb, hfree q hb.1 hb.2, Option.map_none]
          simp only
          rw [hget_hpOf, if_pos hb.1]
        · rw [if_neg hb]
          cases hg : hget s.h q with
          | some row => rfl
          | none =>
            simp only [Option.map_none]
            rw [hget_hpOf]
            split
            · rename_i h1
              exact List.getElem?_eq_none (by omega)
            · rfl
    -- a row of H: lent, new, or other
    have hcase : ∀ q row, hget H q = some row → (∃ i, σ[i]? = some q ∧ q ∈ σ ∧ hget (hpOf 0 (lr' ++ rows)) i = some row ∧ loc3 q = loc2 i) ∨
        (∃ i, q = baseOf dst + i ∧ q ∉ σ ∧ hget (hpOf 0 (lr' ++ rows)) (σ.length + i) = some row ∧ loc3 q = loc2 (σ.length + i)) ∨
        (q ∉ σ ∧ (∃ row0, hget s.h q = some row0 ∧ row = killO (mvN σ m) row0) ∧ loc3 q = loc q) := fun q row hq => by
      rw [hH] at hq
      by_cases h1 : q ∈ σ
      · rw [if_pos h1] at hq
        refine .inl ⟨ixOf σ q, ixOf_get h1, h1, ?_, by show (if q ∈ σ then _ else _) = _; rw [if_pos h1]⟩
        rw [hget_hpOf, if_pos (Nat.zero_le _), Nat.sub_zero, List.getElem?_append_left (lt_of_some hq)]
        exact hq
      · rw [if_neg h1] at hq
        by_cases h2 : baseOf dst ≤ q ∧ q < baseOf dst + rows.length
        · rw [if_pos h2] at hq
          refine .inr (.inl ⟨q - baseOf dst, by omega, h1, ?_, ?_⟩)
          · rw [hget_hpOf, if_pos (Nat.zero_le _), Nat.sub_zero, List.getElem?_append_right (by omega), hσl, Nat.add_sub_cancel_left]
            exact hq
          · show (if q ∈ σ then _ else _) = _
            rw [if_neg h1, if_pos h2]
        · rw [if_neg h2, Option.map_eq_some_iff] at hq
          obtain ⟨row0, h3, h4⟩ := hq
          refine .inr (.inr ⟨h1, ⟨row0, h3, h4.symm⟩, ?_⟩)
          show (if q ∈ σ then _ else _) = _
          rw [if_neg h1, if_neg h2]
    have hnmσ : ∀ i q, σ[i]? = some q → nmB σ (baseOf dst) i = q := fun i q h => by unfold nmB; rw [h]
    have hnmb : ∀ i, nmB σ (baseOf dst) (σ.length + i) = baseOf dst + i := fun i => by
      unfold nmB
      rw [List.getElem?_eq_none (by omega)]
      simp
    have hixσ : ∀ i q, σ[i]? = some q → ixOf σ q = i := fun i q h => hnd _ _ q (ixOf_get (List.mem_of_getElem? h)) h
    -- a name within leads to the same row
    have hup : ∀ i row, hget (hpOf 0 (lr' ++ rows)) i = some row → loc3 (nmB σ (baseOf dst) i) = loc2 i ∧ hget H (nmB σ (baseOf dst) i) = some row := fun i row h => by
      rw [hget_hpOf, if_pos (Nat.zero_le _), Nat.sub_zero] at h
      by_cases hi : i < σ.length
      · have h1 : σ[i]? = some σ[i] := List.getElem?_eq_getElem hi
        have h2 := List.mem_of_getElem? h1
        rw [hnmσ i _ h1]
        refine ⟨by show (if σ[i] ∈ σ then _ else _) = _; rw [if_pos h2, hixσ i _ h1], ?_⟩
        rw [hH, if_pos h2, hixσ i _ h1]
        rw [List.getElem?_append_left (by omega)] at h
        exact h
      · rw [List.getElem?_append_right (by omega)] at h
        have hlt := lt_of_some h
        have e : i = σ.length + (i - σ.length) := by omega
        have h3 : nmB σ (baseOf dst) i = baseOf dst + (i - σ.length) := by rw [e, hnmb]; omega
        rw [h3]
        have h4 : baseOf dst + (i - σ.length) ∉ σ := hnotσ _ (by omega) (by rw [hσl]; omega)
        have h5 : baseOf dst ≤ baseOf dst + (i - σ.length) ∧ baseOf dst + (i - σ.length) < baseOf dst + rows.length := ⟨by omega, by rw [hσl]; omega⟩
        refine ⟨?_, ?_⟩
        · show (if _ ∈ σ then _ else _) = _
          rw [if_neg h4, if_pos h5, Nat.add_sub_cancel_left]
          congr 1
          omega
        · rw [hH, if_neg h4, if_pos h5, Nat.add_sub_cancel_left]
          rw [hσl]; exact h
    have hlive : ∀ b, Live H loc3 b → LiveR (hpOf 0 (lr' ++ rows)) loc2 b ∨ (Live s.h loc b ∧ ¬ isσ b) := by
      rintro b (⟨q, row, c, h1, h2⟩ | hf)
      · rcases hcase q row h1 with ⟨i, _, _, h3, h4⟩ | ⟨i, _, _, h3, h4⟩ | ⟨h3, ⟨row0, h5, _⟩, h4⟩
        · rw [h4] at h2; exact .inl ⟨_, row, c, h3, h2⟩
        · rw [h4] at h2; exact .inl ⟨_, row, c, h3, h2⟩
        · rw [h4] at h2
          refine .inr ⟨.inl ⟨q, row0, c, h5, h2⟩, fun ⟨r, rw1, c', g1, g2, g3⟩ => ?_⟩
          have := hR.inj q r row0 rw1 b c c' h5 g2 h2 g3
          subst this
          exact h3 g1
      · exact .inr ⟨.inr hf, fun ⟨r, rw1, c', g1, g2, g3⟩ => hnf r rw1 b c' g2 g3 hf⟩
    have hkeep : ∀ b, b < w.heap.size → ¬ isσ b → w'.heap[b]? = w.heap[b]? := fun b hb hnb => hL.keep b hb fun hl => hnb (hlent b hl)
    have hnl : ∀ b, b < w.heap.size → ¬ Live s.h loc b → ¬ Live H loc3 b ∧ w'.heap[b]? = w.heap[b]? := fun b hb hn' => by
      have hnσ : ¬ isσ b := fun ⟨r, row, c, g1, g2, g3⟩ => hn' (.inl ⟨r, row, c, g2, g3⟩)
      refine ⟨fun hl => ?_, hkeep b hb hnσ⟩
      rcases hlive b hl with ⟨i, row, c, h1, h2⟩ | h1
      · rcases hL.own i row b c h1 h2 with h3 | h3
        · omega
        · exact hnσ (hlent b h3)
      · exact hn' h1.1
    -- a value that the frame held
    have hG : ∀ x u, G s.h loc w x u → G H loc3 w' (match mvN σ m with | some r => killA r x | none => x) u := fun x u hx => by
      have hrow : ∀ q row, (∀ r, mvN σ m = some r → q ≠ r) → hget s.h q = some row → loc3 q = loc q ∧ ∃ row', hget H q = some row' ∧ row'.sz = row.sz ∧ row.es.length ≤ row'.es.length := fun q row hq hg => by
        by_cases h1 : q ∈ σ
        · obtain ⟨row1, g1, _, g3⟩ := hget' _ q (ixOf_get h1)
          rw [hg] at g1; cases g1
          have hix := lt_of_some (ixOf_get h1)
          have g4 : lr'[ixOf σ q]? = some lr'[ixOf σ q] := List.getElem?_eq_getElem (by omega)
          have hmv : mvF m (ixOf σ q) = false := by
            unfold mvF
            cases m with
            | none => rfl
            | some j =>
              simp only [decide_eq_false_iff_not]
              rintro rfl
              exact hq q (by simp only [mvN]; exact ixOf_get h1) rfl
          rcases hshape _ _ _ g3 g4 with h2 | h2
          · rw [Nat.zero_add, hmv] at h2; cases h2
          · refine ⟨?_, _, by rw [hH, if_pos h1]; exact g4, h2.1, h2.2⟩
            show (if q ∈ σ then _ else _) = _
            rw [if_pos h1, hL.stay _ (by omega) hmv]
            show (σ[ixOf σ q]?).bind loc = loc q
            rw [ixOf_get h1]; rfl
        · have h2 : ¬ (baseOf dst ≤ q ∧ q < baseOf dst + rows.length) := fun h => by rw [hfree q h.1 h.2] at hg; cases hg
          refine ⟨by show (if q ∈ σ then _ else _) = _; rw [if_neg h1, if_neg h2], killO (mvN σ m) row, by rw [hH, if_neg h1, if_neg h2, hg]; rfl, ?_, ?_⟩
          · cases mvN σ m with
            | none => rfl
            | some r => exact killRow_sz r row
          · cases mvN σ m with
            | none => exact Nat.le_refl _
            | some r => exact Nat.le_of_eq (killRow_len r row).symm
      cases hmv : mvN σ m with
      | none => exact hx.mono hL.size (fun q row hq => hrow q row (fun r h => by rw [hmv] at h; cases h) hq) hnl
      | some r => exact hx.kill r hL.size (fun q row hne hq => hrow q row (fun r' h => by rw [hmv] at h; cases h; exact hne) hq) hnl
    have hC : ∀ x u, C (Live s.h loc) 0 w x u → C (Live H loc3) 0 w' x u := fun x u hx => hx.mono (Nat.le_refl _) hL.size fun b _ hb hn' => hnl b hb hn'
    have hC2 : ∀ x u, C (Live (hpOf 0 (lr' ++ rows)) loc2) 0 w' x u → C (Live H loc3) 0 w' x u := fun x u hx => hx.mono (Nat.le_refl _) (Nat.le_refl _) fun b _ _ hn' => ⟨fun hl => by
      rcases hlive b hl with h1 | h1
      · exact hn' (.inl h1)
      · refine hn' (.inr ?_)
        rw [hL.fbe]; exact h1, rfl⟩
    have hval : G H loc3 w' (renB σ (baseOf dst) rv) v := ren_val hL.val hup hC2
    have hRel : Rel w0 lent ⟨kT (mvN σ m) s.t, H⟩ loc3 a w' := by
      refine ⟨by rw [hR.tsz]; cases mvN σ m <;> simp [kT], fun i x hx => ?_, hR.df, fun q row hq => ?_, fun q q' row1 row2 b c c' h1 h2 h3 h4 => ?_, fun q row b c h1 h2 => ?_, hL.os.trans hR.os, hL.tape.trans hR.tape, hL.output.trans hR.output, Nat.le_trans hR.size hL.size,
        fun b hb hnb => ?_, hR.fbe, hR.fbl, fun r p hp => ?_, hR.pl⟩
      · cases hmv : mvN σ m with
        | none =>
          rw [hmv] at hx
          have := hG x _ (hR.tm i x hx)
          rw [hmv] at this; exact this
        | some r =>
          rw [hmv] at hx
          simp only [kT, List.getElem?_map, Option.map_eq_some_iff] at hx
          obtain ⟨y, hy, rfl⟩ := hx
          have := hG y _ (hR.tm i y hy)
          rw [hmv] at this; exact this
      · rcases hcase q row hq with ⟨i, _, _, h3, h4⟩ | ⟨i, _, _, h3, h4⟩ | ⟨h3, ⟨row0, h5, rfl⟩, h4⟩
        · exact row_up (hL.rw _ row h3) h4 hC2
        · exact row_up (hL.rw _ row h3) h4 hC2
        · -- another row of the caller
          obtain ⟨q1, xs, q2, q3⟩ := hR.rw q row0 h5
          have hsz : (killO (mvN σ m) row0).sz = row0.sz := by cases mvN σ m <;> simp [killO, killRow_sz]
          have hE : (killO (mvN σ m) row0).E = row0.E := by cases mvN σ m <;> simp [killO, killRow_E]
          have hln : (killO (mvN σ m) row0).es.length = row0.es.length := by cases mvN σ m <;> simp [killO, killRow_len]
          have hblk : ∀ b c, loc q = some (b, c) → w'.heap[b]? = w.heap[b]? := fun b c hl => hkeep b (Live.lt hR.rw ⟨q, row0, c, h5, hl⟩) fun ⟨r, rw1, c', g1, g2, g3⟩ => by
            have := hR.inj q r row0 rw1 b c c' h5 g2 hl g3
            subst this; exact h3 g1
          have hown : w'.ownsRow 0 row0.E row0.sz (rowVal loc3 q row0.es.length) row0.es.length xs := by
            have e1 : rowVal loc3 q row0.es.length = rowVal loc q row0.es.length := by simp only [rowVal, h4]
            rw [e1]
            refine ⟨q2.1, ?_⟩
            rcases q2.2 with h6 | ⟨g, cap, cur, e2, e3, e4, e5⟩
            · exact .inl h6
            · refine .inr ⟨g, cap, cur, e2, e3, ?_, e5⟩
              cases hl : loc q with
              | none => rw [show rowVal loc q row0.es.length = .slice none 0 0 from by simp only [rowVal, hl]] at e2; cases e2
              | some bc =>
                obtain ⟨b, c⟩ := bc
                rw [show rowVal loc q row0.es.length = .slice (some ⟨b, 0, none⟩) row0.es.length c from by simp only [rowVal, hl]] at e2
                cases e2
                rw [hblk _ _ hl]; exact e4
          rcases kill_es (mvN σ m) row0 with ⟨e1, e2⟩ | ⟨r, e1, e2, e3⟩
          · refine ⟨fun k e he => by rw [hsz]; rw [e1] at he; exact q1 k e he, xs, by rw [hE, hsz, hln]; exact hown, fun k e j x he hx => ?_⟩
            rw [e1] at he
            obtain ⟨u, p1, p2, p3, p4⟩ := q3 k e j x he hx
            refine ⟨u, by rw [hsz]; exact p1, p2, ?_, fun hc => hC _ _ (p4 (e2.2 hc))⟩
            rcases e2.1 with hcl | hnone
            · exact .cl (hC _ _ (p4 hcl))
            · have := hG x u p3
              rw [hnone] at this; exact this
          · refine ⟨fun k e he => ?_, xs, by rw [hE, hsz, hln]; exact hown, fun k e j x he hx => ?_⟩
            · rw [hsz]
              rw [e2, List.getElem?_map, Option.map_eq_some_iff] at he
              obtain ⟨e', he', rfl⟩ := he
              rw [List.length_map]; exact q1 k e' he'
            · rw [e2, List.getElem?_map, Option.map_eq_some_iff] at he
              obtain ⟨e', he', rfl⟩ := he
              rw [List.getElem?_map, Option.map_eq_some_iff] at hx
              obtain ⟨x', hx', rfl⟩ := hx
              obtain ⟨u, p1, p2, p3, p4⟩ := q3 k e' j x' he' hx'
              have := hG x' u p3
              rw [e1] at this
              exact ⟨u, by rw [hsz]; exact p1, p2, this, fun hc => by rw [e3] at hc; cases hc⟩
      · have hdis : ∀ q1 q2 i rw1 rw2 b c c', hget (hpOf 0 (lr' ++ rows)) i = some rw1 → loc2 i = some (b, c) → q2 ∉ σ → hget s.h q2 = some rw2 → loc q2 = some (b, c') → q1 = q2 := fun q1 q2 i rw1 rw2 b c c' g1 g2 g3 g4 g5 => by
          exfalso
          have hb := Live.lt hR.rw ⟨q2, rw2, c', g4, g5⟩
          rcases hL.own i rw1 b c g1 g2 with h | h
          · omega
          · obtain ⟨r, rw3, c2, e1, e2, e3⟩ := hlent b h
            have := hR.inj q2 r rw2 rw3 b c' c2 g4 e2 g5 e3
            subst this; exact g3 e1
        rcases hcase q row1 h1 with ⟨i, a1, _, a3, a4⟩ | ⟨i, a1, _, a3, a4⟩ | ⟨a3, ⟨row0, a5, _⟩, a4⟩ <;>
        rcases hcase q' row2 h2 with ⟨j, b1, _, b3, b4⟩ | ⟨j, b1, _, b3, b4⟩ | ⟨b3, ⟨row0', b5, _⟩, b4⟩
        · rw [a4] at h3; rw [b4] at h4
          have := hL.inj _ _ _ _ b c c' a3 b3 h3 h4
          subst this; rw [a1] at b1; cases b1; rfl
        · rw [a4] at h3; rw [b4] at h4
          have := hL.inj _ _ _ _ b c c' a3 b3 h3 h4
          have := lt_of_some a1
          omega
        · rw [a4] at h3; rw [b4] at h4; exact hdis q q' i row1 row0' b c c' a3 h3 b3 b5 h4
        · rw [a4] at h3; rw [b4] at h4
          have := hL.inj _ _ _ _ b c c' a3 b3 h3 h4
          have := lt_of_some b1
          omega
        · rw [a4] at h3; rw [b4] at h4
          have := hL.inj _ _ _ _ b c c' a3 b3 h3 h4
          omega
        · rw [a4] at h3; rw [b4] at h4; exact hdis q q' _ row1 row0' b c c' a3 h3 b3 b5 h4
        · rw [a4] at h3; rw [b4] at h4; exact (hdis q' q j row2 row0 b c' c b3 h4 a3 a5 h3).symm
        · rw [a4] at h3; rw [b4] at h4; exact (hdis q' q _ row2 row0 b c' c b3 h4 a3 a5 h3).symm
        · rw [a4] at h3; rw [b4] at h4; exact hR.inj q q' row0 row0' b c c' a5 b5 h3 h4
      · have hfromσ : ∀ i row b c, hget (hpOf 0 (lr' ++ rows)) i = some row → loc2 i = some (b, c) → w0.heap.size ≤ b ∨ lent.bk b := fun i row b c g1 g2 => by
          rcases hL.own i row b c g1 g2 with h | h
          · exact .inl (Nat.le_trans hR.size h)
          · obtain ⟨r, rw3, c2, e1, e2, e3⟩ := hlent b h
            exact hR.own r rw3 b c2 e2 e3
        rcases hcase q row h1 with ⟨i, _, _, a3, a4⟩ | ⟨i, _, _, a3, a4⟩ | ⟨a3, ⟨row0, a5, _⟩, a4⟩
        · rw [a4] at h2; exact hfromσ _ row b c a3 h2
        · rw [a4] at h2; exact hfromσ _ row b c a3 h2
        · rw [a4] at h2; exact hR.own q row0 b c a5 h2
      · rw [hkeep b (Nat.lt_of_lt_of_le hb hR.size) fun ⟨r, row, c, g1, g2, g3⟩ => ?_]
        · exact hR.keep b hb hnb
        · rcases hR.own r row b c g2 g3 with h | h
          · omega
          · exact hnb h
      · have hpl := hR.pl r p hp
        have h0 := hR.pn r p hp
        show (if r ∈ σ then _ else _) = p
        by_cases h1 : r ∈ σ
        · rw [if_pos h1]
          have hmv : mvF m (ixOf σ r) = false := by
            unfold mvF
            cases m with
            | none => rfl
            | some j =>
              simp only [decide_eq_false_iff_not]
              rintro rfl
              simp only [mvN, ixOf_get h1, Bool.or_eq_true, decide_eq_true_eq] at hm
              omega
          have hix := lt_of_some (ixOf_get h1)
          rw [hL.stay _ (by omega) hmv]
          show (σ[ixOf σ r]?).bind loc = p
          rw [ixOf_get h1]; exact h0
        · rw [if_neg h1, if_neg (by rcases hfle with h | h <;> omega)]
          exact h0
    exact hk loc3 _ w' (hRel.put dst hval)
where
  ren_val {h h' : Hp} {locr loc' : Loc} {w : World} {σ : List Nat} {b : Nat} {x : AV} {u : Value} (hg : G h locr w x u) (hrow : ∀ q row, hget h q = some row → loc' (nmB σ b q) = locr q ∧ hget h' (nmB σ b q) = some row)
      (hC : ∀ x u, C (Live h locr) 0 w x u → C (Live h' loc') 0 w x u) : G h' loc' w (renB σ b x) u := by
    induction hg with
    | cl hc =>
      suffices ∀ x u, C (Live h' loc') 0 w x u → G h' loc' w (renB σ b x) u from this _ _ (hC _ _ hc)
      intro x u hc
      induction hc with
      | any => simp only [renB]; exact .cl .any
      | v => simp only [renB]; exact .cl .v
      | sl xs u a1 a2 a3 a4 a5 a6 a7 => simp only [renB]; exact .cl (.sl xs u a1 a2 a3 a4 a5 a6 a7)
      | ip b off u a1 a2 a3 a4 a5 => simp only [renB]; exact .cl (.ip b off u a1 a2 a3 a4 a5)
      | fn vs hs hg ih =>
        simp only [renB]
        refine .fn vs (by simpa using hs) fun j a ha => ?_
        rw [List.getElem?_map, Option.map_eq_some_iff] at ha
        obtain ⟨y, hy, rfl⟩ := ha
        exact ih j y hy
      | agg vs hs hg ih =>
        simp only [renB]
        refine .agg vs (by simpa using hs) fun j a ha => ?_
        rw [List.getElem?_map, Option.map_eq_some_iff] at ha
        obtain ⟨y, hy, rfl⟩ := ha
        exact ih j y hy
      | tup vs hs hg ih =>
        simp only [renB]
        refine .tup vs (by simpa using hs) fun j a ha => ?_
        rw [List.getElem?_map, Option.map_eq_some_iff] at ha
        obtain ⟨y, hy, rfl⟩ := ha
        exact ih j y hy
    | o hr hl hn => obtain ⟨h1, h2⟩ := hrow _ _ hr; simp only [renB]; exact .o h2 (h1.trans hl) hn
    | onil hr hl => obtain ⟨h1, h2⟩ := hrow _ _ hr; simp only [renB]; exact .onil h2 (h1.trans hl)
    | p hr hl => obtain ⟨h1, h2⟩ := hrow _ _ hr; simp only [renB]; exact .p h2 (h1.trans hl)
    | q hr hl hn => obtain ⟨h1, h2⟩ := hrow _ _ hr; simp only [renB]; exact .q h2 (h1.trans hl) hn
    | fn vs hs hg ih =>
      simp only [renB]
      refine .fn vs (by simpa using hs) fun j a ha => ?_
      rw [List.getElem?_map, Option.map_eq_some_iff] at ha
      obtain ⟨y, hy, rfl⟩ := ha
      exact ih j y hy
    | agg vs hs hg ih =>
      simp only [renB]
      refine .agg vs (by simpa using hs) fun j a ha => ?_
      rw [List.getElem?_map, Option.map_eq_some_iff] at ha
      obtain ⟨y, hy, rfl⟩ := ha
      exact ih j y hy
    | tup vs hs hg ih =>
      simp only [renB]
      refine .tup vs (by simpa using hs) fun j a ha => ?_
      rw [List.getElem?_map, Option.map_eq_some_iff] at ha
      obtain ⟨y, hy, rfl⟩ := ha
      exact ih j y hy
  row_up {h h' : Hp} {locr loc' : Loc} {w : World} {i q : Nat} {row : Row} (hr : row.cl = true ∧ RowOk h locr w i row) (hl : loc' q = locr i) (hC : ∀ x u, C (Live h locr) 0 w x u → C (Live h' loc') 0 w x u) : RowOk h' loc' w q row := by
    obtain ⟨hcl, q1, xs, q2, q3⟩ := hr
    refine ⟨q1, xs, ?_, fun k e j x he hx => ?_⟩
    · have : rowVal loc' q row.es.length = rowVal locr i row.es.length := by simp only [rowVal, hl]
      rw [this]; exact q2
    · obtain ⟨u, p1, p2, p3, p4⟩ := q3 k e j x he hx
      exact ⟨u, p1, p2, .cl (hC _ _ (p4 hcl)), fun _ => hC _ _ (p4 hcl)⟩
  kill_es (k : Option Nat) (row : Row) : ((killO k row).es = row.es ∧ ((row.cl = true ∨ k = none) ∧ ((killO k row).cl = true → row.cl = true))) ∨ ∃ r, k = some r ∧ (killO k row).es = row.es.map (·.map (killA r)) ∧ (killO k row).cl = false := by
    cases k with
    | none => exact .inl ⟨rfl, .inr rfl, id⟩
    | some r =>
      by_cases hc : row.cl = true
      · exact .inl ⟨by simp [killO, killRow, hc], .inl hc, fun _ => hc⟩
      · exact .inr ⟨r, rfl, by simp [killO, killRow, hc], by simp [killO, killRow, hc]⟩
end

end Go.Proofs.YtccifbbjbnjcfaaGreatDoor
/-
  The abstract machine: guards within a region that draws its order, kept shut till the guard is told.
-/
namespace Go.Proofs.YtccifbbjbnjcfaaGreatDoor
open Go Go.RowKit

def brW (P : Program) (o : SO) (l : List SO) (evs : List E) (s : AS) : Bool → RD
  | true => kPeD P o l evs s (runD P l) (pe P s.h (evA s.t) o.oper)
  | false => runD P l (evs ++ [mkE o s (.v undef) none []]) (s.put o.dst (.v undef))
def gW (P : Program) (o : SO) (l : List SO) (evs : List E) (s : AS) (want : Bool) : AV → RD
  | .v (.bool b) => brW P o l evs s (match want with | true => b | false => !b)
  | .v (.tuple _) => runD P l (evs ++ [mkE o s (.v undef) none []]) (s.put o.dst (.v undef))
  | _ => .stuck o s
section
variable (P : Program) (o : SO) (l : List SO) (evs : List E) (s : AS) (d : Option Tmp) (ty : TypeId) (g : Option (Option Tmp × Bool))
theorem runD_gW (op : Op) (j : Tmp) (want : Bool) : runD P (⟨d, op, ty, some (some j, want)⟩ :: l) evs s = gW P ⟨d, op, ty, some (some j, want)⟩ l evs s want (getA s.t j) := by
  rw [runD_og]
  generalize getA s.t j = v
  unfold gW gdD
  split
  · cases want
    · rename_i b; cases b <;> rfl
    · rename_i b; cases b <;> rfl
  · rfl
  · rename_i h1 h2
    first
      | rfl
      | (split
         · rename_i b; exact absurd rfl (h1 b)
         · rename_i t; exact absurd rfl (h2 t)
         · rfl)
theorem gW_t (b : Bool) : gW P o l evs s true (.v (.bool b)) = brW P o l evs s b := rfl
theorem gW_f (b : Bool) : gW P o l evs s false (.v (.bool b)) = brW P o l evs s (!b) := rfl
theorem gW_u (w : Bool) : gW P o l evs s w (.v undef) = runD P l (evs ++ [mkE o s (.v undef) none []]) (s.put o.dst (.v undef)) := rfl
theorem brW_t (op : Op) : brW P ⟨d, op, ty, g⟩ l evs s true = kPeD P ⟨d, op, ty, g⟩ l evs s (runD P l) (pe P s.h (evA s.t) (SO.oper ⟨d, op, ty, none⟩)) := rfl
theorem brW_f (op : Op) : brW P ⟨d, op, ty, g⟩ l evs s false = runD P l (evs ++ [mkE ⟨d, op, ty, g⟩ s (.v undef) none []]) (s.put d (.v undef)) := rfl
end
theorem at_bW {P : Program} {K : List E → AS → Prop} {o : SO} {l : List SO} {evs : List E} {s : AS} {b : Bool} (h1 : b = true → RDp P K (brW P o l evs s true)) (h2 : b = false → RDp P K (brW P o l evs s false)) : RDp P K (brW P o l evs s b) := by
  cases b
  · exact h2 rfl
  · exact h1 rfl
theorem at_bWn {P : Program} {K : List E → AS → Prop} {o : SO} {l : List SO} {evs : List E} {s : AS} {b : Bool} (h1 : b = true → RDp P K (brW P o l evs s false)) (h2 : b = false → RDp P K (brW P o l evs s true)) : RDp P K (brW P o l evs s (!b)) := by
  cases b
  · exact h2 rfl
  · exact h1 rfl
end Go.Proofs.YtccifbbjbnjcfaaGreatDoor
/-
  The abstract machine: the rules that a walk uses, as one set.
-/
namespace Go.Proofs.YtccifbbjbnjcfaaGreatDoor
open Go Go.RowKit

attribute [push_cast] Int.le_refl Bool.not_not Option.isSome_some Option.isSome_none Bool.true_or Bool.or_true Bool.and_self Bool.false_or Bool.or_false Bool.false_and Bool.and_false Int.natCast_nonneg Int.toNat_natCast List.length_cons List.length_nil run_nil run_skip run_seq run_regf run_regt run_cond run_block run_loop run_exit run_ret run_inBlock run_fin run_ops run_op run_opt run_opf gd_b kPe_val kPe_newp kPe_news kPe_nil kPe_no pe_move pe_assign pe_pick pkA_b sel_t sel_f pe_alloc pe_box pe_build pe_buildSlice pe_load pe_bin pe_un unA_not unA_neg pe_conv pe_func pe_slice pe_fieldAddr pe_field pe_indexAddr pe_index pe_extract exA_tup pe_len pe_append pe_min pe_call pe_store eff_store efS_some eff_call efF_fn efF_v pe_bm bmA valA valL valFs eff_append efP_some ev_tmp ev_const ev_func getA_0 getA_1 getA_8 setA_0 setA_1 setA_8 br_t br_f mvA bnA scBin PeR.ofV PeR.ofP PeR.ofS hget hset AS.put cmpO nthO exitTo' List.map List.append List.cons_append List.nil_append List.replicate Option.bind Option.map Bool.not_true Bool.not_false if_true if_false Nat.le_refl Nat.lt_irrefl and_true true_and and_self layA ldA cellsAt ixA faA fdA lnA alA bxA clA one stA nilFix spl isA cvA mnA TD.isAgg Value.oneCell' List.all List.take List.drop List.set List.getElem?_cons_zero List.getElem?_cons_succ List.getElem?_nil Bool.and_true Bool.true_and Bool.false_eq_true retR resL resA retV idsA idsL ndB rowsOf rnA List.all_nil List.append_nil List.map_nil List.map_cons viewN isC tk List.length_map kPe_mks pe_nilCheck pe_makeSlice mkA ncA cvS rowsA bytesA runD_nil runD_op runD_gW gW_t gW_f gW_u brW_t brW_f gu_b gu_u kPeD_val kPeD_newp kPeD_news kPeD_nil kPeD_no effD_store stD_some effD_app apD_some effD_call efFD_fn mkE_ layD stR apE newsA rd_op rdG_n rdG_s slO_n slO_t slO_c slO_f slO_g os_move os_assign os_pick os_alloc os_box os_build os_buildS os_load os_store os_bin os_un os_conv os_func os_nil os_fieldAddr os_field os_indexAddr os_index os_extract os_slice os_callv os_callb apR apH killA killH killRow bsA bldA bslA belA eqT eqFs ptA slA bdA true_or or_true Option.map_some Option.bind_some Option.toList upA hvA dsts dstO backTo baseOf hpOf ren hsets backL hsL renB nmB mvN kT kH List.foldl cond_true cond_false

end Go.Proofs.YtccifbbjbnjcfaaGreatDoor
/-
  The data: contents, nodes, commands; slices of them.
-/
namespace Go.Proofs.YtccifbbjbnjcfaaGreatDoor
open Go Go.RowKit

structure CN where
  kind : Int
  val : Int
deriving DecidableEq
structure ND where
  path : ByteArray
  c : CN
deriving DecidableEq
structure CD where
  path : ByteArray
  fr : CN
  to : CN
deriving DecidableEq

def CN.cells (c : CN) : List Value := [.int .i64 c.kind, .int .i64 c.val]
def ND.cells (n : ND) : List Value := [.string n.path, .int .i64 n.c.kind, .int .i64 n.c.val]
def CD.cells (c : CD) : List Value := [.string c.path, .int .i64 c.fr.kind, .int .i64 c.fr.val, .int .i64 c.to.kind, .int .i64 c.to.val]

theorem flatMap_get {α : Type} (f : α → List Value) (E : Nat) (hf : ∀ x, (f x).length = E) : ∀ (l : List α) (k j : Nat) (x : α), l[k]? = some x → j < E → (l.flatMap f)[k * E + j]? = (f x)[j]?
  | [], k, j, x, h, _ => by simp at h
  | y :: l, 0, j, x, h, hj => by
    simp at h
    subst h
    rw [List.flatMap_cons, Nat.zero_mul, Nat.zero_add, List.getElem?_append_left (by rw [hf]; exact hj)]
  | y :: l, k + 1, j, x, h, hj => by
    rw [List.flatMap_cons, List.getElem?_append_right (by rw [hf, Nat.succ_mul]; omega), hf]
    rw [show (k + 1) * E + j - E = k * E + j from by rw [Nat.succ_mul]; omega]
    exact flatMap_get f E hf l k j x (by simpa using h) hj
theorem flatMap_len {α : Type} (f : α → List Value) (E : Nat) (hf : ∀ x, (f x).length = E) : ∀ (l : List α), (l.flatMap f).length = l.length * E
  | [] => by simp
  | y :: l => by rw [List.flatMap_cons, List.length_append, hf, flatMap_len f E hf l, List.length_cons, Nat.succ_mul]; omega

def Ints (w : World) (L : Nat) (v : Value) (xs : List Int) : Prop := Sl w L 1 v xs.length (ints xs)
section
variable {w w' : World} {L L' : Nat} {A : Option Addr}
theorem Rd.int {xs : List Int} {n k : Nat} {x : Int} (h : Rd w L 1 A n (ints xs)) (hx : xs[k]? = some x) :
    ∃ b off, A = some ⟨b, off, none⟩ ∧ L ≤ b ∧ b < w.heap.size ∧ w.cell? ⟨b, off + k, none⟩ = some (.int .i64 x) := by
  have hk : k < xs.length := by
    rcases Nat.lt_or_ge k xs.length with h1 | h1
    · exact h1
    · rw [List.getElem?_eq_none h1] at hx; cases hx
  obtain ⟨b, off, e, h1, h2, h3⟩ := h.2 (by have := h.1; simp [ints] at this; omega)
  exact ⟨b, off, e, h1, h2, h3 k _ (ints_get hx)⟩
theorem lt_of_get {α : Type} {l : List α} {k : Nat} {x : α} (hx : l[k]? = some x) : k < l.length := by
  rcases Nat.lt_or_ge k l.length with h1 | h1
  · exact h1
  · rw [List.getElem?_eq_none h1] at hx; cases hx
theorem Rd.node {ns : List ND} {n k : Nat} {x : ND} (h : Rd w L 3 A n (ns.flatMap ND.cells)) (hx : ns[k]? = some x) :
    ∃ b off, A = some ⟨b, off, none⟩ ∧ L ≤ b ∧ b < w.heap.size ∧ w.cell? ⟨b, off + k * 3, none⟩ = some (.string x.path) ∧ w.cell? ⟨b, off + k * 3 + 1, none⟩ = some (.int .i64 x.c.kind) ∧
      w.cell? ⟨b, off + k * 3 + 2, none⟩ = some (.int .i64 x.c.val) := by
  have hk := lt_of_get hx
  have hg := fun j hj => flatMap_get ND.cells 3 (fun _ => rfl) ns k j x hx hj
  obtain ⟨b, off, e, h1, h2, h3⟩ := h.2 (by have := h.1; rw [flatMap_len ND.cells 3 (fun _ => rfl)] at this; omega)
  refine ⟨b, off, e, h1, h2, ?_, ?_, ?_⟩
  · exact h3 (k * 3) _ (by simpa [ND.cells] using hg 0 (by omega))
  · rw [Nat.add_assoc]; exact h3 (k * 3 + 1) _ (by simpa [ND.cells] using hg 1 (by omega))
  · rw [Nat.add_assoc]; exact h3 (k * 3 + 2) _ (by simpa [ND.cells] using hg 2 (by omega))
end

theorem str_eq (a b : ByteArray) : (a.toList == b.toList) = decide (a = b) := by
  by_cases h : a = b
  · subst h; simp
  · rw [(Lib.bytes_beq_false_iff a b).2 h]; simp [h]
theorem get_of_lt {α : Type} {l : List α} {k : Nat} (h : k < l.length) : ∃ x, l[k]? = some x := ⟨l[k], List.getElem?_eq_getElem h⟩
theorem Below.drewN {B : Nat} {a w : World} (h : Below B a w) (n : Nat) : Below B a (w.drewN n) := ⟨h.os, h.tape, h.output, h.size, h.block⟩

end Go.Proofs.YtccifbbjbnjcfaaGreatDoor
/-
  Blobs: a slice of structs whose fields are slices of integers.
-/
namespace Go.Proofs.YtccifbbjbnjcfaaGreatDoor
open Go Go.RowKit

structure BD where
  name : Int
  safe : List Int
  fresh : List Int
deriving DecidableEq

def bcells (p : BD × Value × Value) : List Value := [.int .i64 p.1.name, p.2.1, p.2.2]

/-- A slice value that reads as these blobs. -/
def Blobs (w : World) (L : Nat) (v : Value) (bs : List BD) : Prop :=
  ∃ ivs : List (Value × Value), ivs.length = bs.length ∧ Sl w L 3 v bs.length ((bs.zip ivs).flatMap bcells) ∧
    ∀ (k : Nat) (d : BD) (iv : Value × Value), bs[k]? = some d → ivs[k]? = some iv → Ints w L iv.1 d.safe ∧ Ints w L iv.2 d.fresh

theorem Ints.below {w w' : World} {L : Nat} {v : Value} {xs : List Int} (h : Ints w L v xs) (hb : Below w.heap.size w w') : Ints w' L v xs := Sl.below h hb
theorem Blobs.below {w w' : World} {L : Nat} {v : Value} {bs : List BD} (h : Blobs w L v bs) (hb : Below w.heap.size w w') : Blobs w' L v bs := by
  obtain ⟨ivs, h1, h2, h3⟩ := h
  exact ⟨ivs, h1, h2.below hb, fun k d iv hd hiv => ⟨(h3 k d iv hd hiv).1.below hb, (h3 k d iv hd hiv).2.below hb⟩⟩
theorem Blobs.at_ {w : World} {L : Nat} {A : Option Addr} {n c k : Nat} {bs : List BD} {d : BD} (h : Blobs w L (.slice A n c) bs) (hd : bs[k]? = some d) :
    ∃ b off u1 u2, A = some ⟨b, off, none⟩ ∧ L ≤ b ∧ b < w.heap.size ∧ w.cell? ⟨b, off + k * 3, none⟩ = some (.int .i64 d.name) ∧ w.cell? ⟨b, off + k * 3 + 1, none⟩ = some u1 ∧
      w.cell? ⟨b, off + k * 3 + 2, none⟩ = some u2 ∧ Ints w L u1 d.safe ∧ Ints w L u2 d.fresh := by
  obtain ⟨ivs, h1, ⟨A', c', he, h2, h3, hr⟩, hiv⟩ := h
  injection he with he1 he2 he3
  subst he1
  have hk := lt_of_get hd
  obtain ⟨iv, hv⟩ := get_of_lt (show k < ivs.length by omega)
  have hz : (bs.zip ivs)[k]? = some (d, iv) := by simp [List.getElem?_zip_eq_some, hd, hv]
  have hg := fun j hj => flatMap_get bcells 3 (fun _ => rfl) _ k j _ hz hj
  obtain ⟨b, off, e, g1, g2, g3⟩ := hr.2 (by omega)
  refine ⟨b, off, iv.1, iv.2, e, g1, g2, ?_, ?_, ?_, (hiv k d iv hd hv).1, (hiv k d iv hd hv).2⟩
  · exact g3 (k * 3) _ (by simpa [bcells] using hg 0 (by omega))
  · rw [Nat.add_assoc]; exact g3 (k * 3 + 1) _ (by simpa [bcells] using hg 1 (by omega))
  · rw [Nat.add_assoc]; exact g3 (k * 3 + 2) _ (by simpa [bcells] using hg 2 (by omega))

def inB (n l h : Int) : Bool := decide (l ≤ n) && decide (n ≤ h)
def byteB (n : Int) : Bool := inB n 0 255
def bytesB (xs : List Int) : Bool := xs.all byteB
/-- What DiskValid asks of one file, behind the number 'last'. -/
def blobB (last : Int) (d : BD) : Bool := inB d.name (last + 1) 3 && bytesB d.safe && bytesB d.fresh && decide (d.safe.length + d.fresh.length ≤ 400)
def diskFrom (last : Int) : List BD → Bool
  | [] => true
  | d :: r => blobB last d && diskFrom d.name r
def diskB (bs : List BD) : Bool := diskFrom 0 bs
theorem drop_of_get {α : Type} {l : List α} {k : Nat} {x : α} (h : l[k]? = some x) : l.drop k = x :: l.drop (k + 1) := by
  have hk := lt_of_get h
  rw [List.drop_eq_getElem_cons hk]
  rw [List.getElem?_eq_getElem hk] at h
  injection h with h
  rw [h]

theorem Sl.drewN {w : World} {L size n : Nat} {v : Value} {xs : List Value} (h : Sl w L size v n xs) (k : Nat) : Sl (w.drewN k) L size v n xs := h
end Go.Proofs.YtccifbbjbnjcfaaGreatDoor
/-
  Walks: how plain data lies in slots and rows; texts as lists of bytes.
-/
namespace Go.Proofs.YtccifbbjbnjcfaaGreatDoor
open Go Go.RowKit Go.Proofs

abbrev sV (s : Str) : Value := .string ⟨s.toArray⟩
abbrev sA (s : Str) : AV := .v (sV s)
abbrev iA (n : Int) : AV := .v (.int .i64 n)
abbrev bA (b : Bool) : AV := .v (.bool b)
def ctC (c : Ct) : List AV := [iA c.k, iA c.v]
def ndC (n : Nd) : List AV := [sA n.p, iA n.c.k, iA n.c.v]
def cmC (c : Cm) : List AV := [sA c.p, iA c.a.k, iA c.a.v, iA c.b.k, iA c.b.v]
def sC (s : Str) : List AV := [sA s]
def inC (n : Int) : List AV := [iA n]
abbrev ctA (c : Ct) : AV := .agg (ctC c)
abbrev cmdA (c : Cm) : AV := .agg (cmC c)
abbrev cmA (l : List Cm) : AV := .sl 5 (l.map cmC)
abbrev strsA (l : List Str) : AV := .sl 1 (l.map sC)
abbrev intsA (l : List Int) : AV := .sl 1 (l.map inC)
abbrev vB (b : Bool) : AV → List Row → Prop := vX (.v (.bool b))
abbrev vI (n : Int) : AV → List Row → Prop := vX (.v (.int .i64 n))
abbrev vS (s : Str) : AV → List Row → Prop := vX (.v (sV s))

theorem ba_list (a : Str) : (⟨a.toArray⟩ : ByteArray).toList = a := by
  rw [ByteArray.toList_eq]
theorem ba_inj {a b : Str} : ((⟨a.toArray⟩ : ByteArray) = ⟨b.toArray⟩) ↔ a = b := by
  constructor
  · intro h
    have := congrArg (fun x => x.data.toList) h
    simpa using this
  · rintro rfl; rfl
theorem eqS_l (a b : Str) : eqS ⟨a.toArray⟩ ⟨b.toArray⟩ = decide (a = b) := by
  unfold eqS
  rw [str_eq]
  simp only [ba_inj]
theorem ltS_l (a b : Str) : ltS ⟨a.toArray⟩ ⟨b.toArray⟩ = slt a b := by
  unfold ltS slt
  rw [ba_list, ba_list]
theorem size_l (a : Str) : (⟨a.toArray⟩ : ByteArray).size = a.length := by
  simp [ByteArray.size]
theorem app_l (a b : Str) : (⟨a.toArray⟩ : ByteArray) ++ ⟨b.toArray⟩ = ⟨(a ++ b).toArray⟩ := by
  apply ByteArray.ext
  simp
theorem ba_eq {x : ByteArray} {a : Str} (h : x.data.toList = a) : x = ⟨a.toArray⟩ := by
  subst h
  cases x
  simp
theorem ext_l (a : Str) (i j : Nat) : (⟨a.toArray⟩ : ByteArray).extract i j = ⟨((a.take j).drop i).toArray⟩ := by
  refine ba_eq ?_
  rw [Lib.extract_data, List.drop_take]
theorem get_l (a : Str) (i : Nat) : (⟨a.toArray⟩ : ByteArray)[i]? = a[i]? := by
  by_cases h : i < a.length
  · rw [getElem?_pos _ i (by rw [size_l]; exact h), List.getElem?_eq_getElem h]
    simp [ByteArray.getElem_eq_getElem_data]
  · rw [getElem?_neg _ i (by rw [size_l]; exact h), List.getElem?_eq_none (by omega)]
theorem take_map {α β : Type} (l : List α) (f : α → β) : (l.map f).take l.length = l.map f := by
  rw [← List.map_take, List.take_length]
theorem at_done {P : Program} {w0 : World} {lent : Lent} {Q : Exit → Act → World → Prop} {ops : List Oper} {k : List It} {s s' : AS} {evs : List E} (h1 : prB evs (mks ops []) evs 0 = true) (h2 : kcB ops s evs = true) (h3 : AW P w0 lent Q k s') :
    RDp P (KD P w0 lent Q ops k s) (.done evs s') := ⟨h1, h2, h3⟩
theorem rcd_d {P : Program} {K : List E → AS → Prop} {f : FuncId} {vargs : List AV} {o : SO} {l : List SO} {evs : List E} {s : AS} {x : AV} (hpc : PC P f vargs (vX x)) (hf : flatV x = true) (hx : ren (baseOf o.dst) x = x)
    (hk : RDp P K (runD P l (evs ++ [mkE o s x none []]) (s.put o.dst x))) : RCD P K f vargs o l evs s := by
  refine ⟨x, [], hpc, hf, fun row h => (by cases h), frB_0 _ _, ?_⟩
  rw [hx]
  exact hk
theorem closed_ids : ∀ {l : List AV}, l.all isC = true → idsL l = []
  | [], _ => by simp only [idsL]
  | x :: l, h => by
    simp only [List.all_cons, Bool.and_eq_true] at h
    simp only [idsL, closed_ids h.2, List.append_nil]
    cases x <;> simp only [isC] at h <;> first | exact absurd h.1 Bool.false_ne_true | simp only [idsA]
theorem view_fn (d : Nat) (h : Hp) (f : FuncId) (caps : List AV) : viewN (d + 1) h (.fn f caps) = .fn f (caps.map (viewN d h)) := by simp only [viewN]
theorem closed_view {d : Nat} {h : Hp} : ∀ {l : List AV}, l.all isC = true → l.map (viewN d h) = l
  | [], _ => rfl
  | x :: l, hl => by
    simp only [List.all_cons, Bool.and_eq_true] at hl
    rw [List.map_cons, closed_view hl.2]
    congr 1
    cases d <;> cases x <;> simp only [isC] at hl <;> first | exact absurd hl.1 Bool.false_ne_true | simp [viewN, isC]
/-- Plain data comes back. -/
theorem rwc_d {P : Program} {w0 : World} {lent : Lent} {Q : Exit → Act → World → Prop} {f : FuncId} {vargs : List AV} {dst : Option Tmp} {k : List It} {s : AS} {x : AV} (hpc : PC P f vargs (vX x)) (hf : flatV x = true) (hx : ren (baseOf dst) x = x) (hk : AW P w0 lent Q k (s.put dst x)) : RWC P w0 lent Q f vargs dst k s := by
  refine ⟨_, hpc, ?_⟩
  rintro rv rows ⟨rfl, rfl⟩
  refine ⟨hf, fun row h => (by cases h), frB_0 _ _, ?_⟩
  unfold backTo
  rw [hx]
  simpa only [hpOf, List.append_nil] using hk
/-- A call whose arguments name no row: what comes back is data. -/
theorem at_share {P : Program} {w0 : World} {lent : Lent} {Q : Exit → Act → World → Prop} {f : FuncId} {args : List AV} {dst : Option Tmp} {k : List It} {s : AS} {x : AV} (hc : args.all isC = true) (hx : ren (baseOf dst) x = x)
    (hpc : PC P f args (vX x)) (hk : AW P w0 lent Q k (s.put dst x)) : RWp P w0 lent Q (.call f args dst k s) := by
  refine call_share hc hpc ?_
  rintro rv rows ⟨rfl, rfl⟩
  refine ⟨frB_0 _ _, ?_⟩
  unfold backTo
  rw [hx]
  simpa only [hpOf, List.append_nil] using hk
/-- Rows of plain data. -/
theorem flat1 {α : Type} {E : TypeId} {sz : Nat} {cl : Bool} (l : List α) (f : α → List AV) (hf : ∀ x, flatL (f x) = true) : FlatR [⟨E, sz, l.map f, cl⟩] := by
  intro row hr e he x hx
  simp at hr
  subst hr
  simp at he
  obtain ⟨y, _, rfl⟩ := he
  exact flatL_mem (hf y) x hx
theorem flat_s {E : TypeId} {sz : Nat} {cl : Bool} (l : List Str) : FlatR [⟨E, sz, l.map sC, cl⟩] := flat1 l sC fun _ => rfl
theorem flat_i {E : TypeId} {sz : Nat} {cl : Bool} (l : List Int) : FlatR [⟨E, sz, l.map inC, cl⟩] := flat1 l inC fun _ => rfl
theorem flat_c {E : TypeId} {sz : Nat} {cl : Bool} (l : List Cm) : FlatR [⟨E, sz, l.map cmC, cl⟩] := flat1 l cmC fun _ => rfl
theorem ix_n {α : Type} {l : List α} {k : Nat} {d : α} (h : l[k]? = some d) : toIx (k : Int) l.length = some k := by
  have hk := lt_of_some h
  unfold toIx
  rw [if_pos ⟨by omega, by omega⟩]
  simp
theorem map_get {α β : Type} {l : List α} {k : Nat} {d : α} (f : α → β) (h : l[k]? = some d) : (l.map f)[k]? = some (f d) := by
  rw [List.getElem?_map, h]; rfl
theorem lt_tt {k n : Nat} (h : ltI (k : Int) (n : Int) = true) : k < n := by simp [ltI] at h; omega
theorem lt_ff {k n : Nat} (h : ltI (k : Int) (n : Int) = false) : n ≤ k := by simp [ltI] at h; omega
theorem eqI_d (a b : Int) : eqI a b = decide (a = b) := by
  by_cases h : a = b <;> simp [eqI, h]
theorem eqI_f {a b : Int} (h : a ≠ b) : eqI a b = false := by simpa [eqI] using h
theorem eqI_t {a b : Int} (h : a = b) : eqI a b = true := by simpa [eqI] using h
theorem of_eqI_t {a b : Int} (h : eqI a b = true) : a = b := by simpa [eqI] using h
theorem of_eqI_f {a b : Int} (h : eqI a b = false) : a ≠ b := by simpa [eqI] using h
theorem leI_t {a b : Int} (h : a ≤ b) : leI a b = true := by simpa [leI] using h
theorem leI_f {a b : Int} (h : b < a) : leI a b = false := by simpa [leI] using h
theorem of_leI_t {a b : Int} (h : leI a b = true) : a ≤ b := by simpa [leI] using h
theorem of_leI_f {a b : Int} (h : leI a b = false) : b < a := by simpa [leI] using h
theorem ltI_t {a b : Int} (h : a < b) : ltI a b = true := by simpa [ltI] using h
theorem ltI_f {a b : Int} (h : b ≤ a) : ltI a b = false := by simpa [ltI] using h
theorem of_ltI_t {a b : Int} (h : ltI a b = true) : a < b := by simpa [ltI] using h
theorem of_ltI_f {a b : Int} (h : ltI a b = false) : b ≤ a := by simpa [ltI] using h
theorem not_t {b : Bool} (h : (!b) = true) : b = false := by simpa using h
theorem not_f {b : Bool} (h : (!b) = false) : b = true := by simpa using h
theorem u8_tt {a : UInt8} {z : Int} (c : UInt8) (hz : z = c.toNat) (h : eqI a.toNat z = true) : a = c := by
  unfold eqI at h
  have := eq_of_beq h
  exact UInt8.toNat_inj.1 (by omega)
theorem u8_ff {a : UInt8} {z : Int} (c : UInt8) (hz : z = c.toNat) (h : eqI a.toNat z = false) : a ≠ c := by
  rintro rfl
  rw [hz] at h
  simp [eqI] at h
theorem take_drop_succ {s : Str} {f i : Nat} {a : UInt8} (h : f ≤ i) (hx : s[i]? = some a) : (s.take (i + 1)).drop f = (s.take i).drop f ++ [a] := by
  have hl := lt_of_some hx
  rw [List.take_add_one, hx, List.drop_append_of_le_length (by rw [List.length_take]; omega)]
  rfl
theorem eqI_self (a : Int) : eqI a a = true := eqI_t rfl
theorem toIx_0 (n : Nat) : toIx 0 (n + 1) = some 0 := by
  unfold toIx
  rw [if_pos ⟨by omega, by omega⟩]
  rfl
theorem ltI_self (a : Int) : ltI a a = false := ltI_f (by omega)
attribute [push_cast] ltI_self toIx_0 eqI_self ixOf sC inC ndC cmC ctC take_map eqS_l ltS_l size_l app_l ext_l get_l
end Go.Proofs.YtccifbbjbnjcfaaGreatDoor
/-
  Walks: paths.
-/
namespace Go.Proofs.YtccifbbjbnjcfaaGreatDoor
open Go Go.RowKit Go.Proofs
attribute [local irreducible] RWp AW run kPe pe Kt effA gd gu br retR RDp runD kPeD brW gW effD
set_option maxRecDepth 100000

theorem in_pc (n l h : Int) : PC Tryz.prog 74 [iA n, iA l, iA h] (vB (inR n l h)) := by
  refine pc_enter Tryz.func74 rfl rfl fun w0 fb => go_on ?_; (try simp only [Tryz.ntmps74, push_cast, simprocAttr])
  repeat' first | (refine at_b (fun hb => ?_) (fun hb => ?_) <;> simp only [hb, push_cast, simprocAttr]) | (refine at_ret ?_; simp only [Tryz.results74, push_cast, simprocAttr]) | (show RWp _ _ _ _ _; simp only [push_cast, simprocAttr])
  all_goals simp [inR, leI, vX] at *
  all_goals omega
theorem l6In_pc (n l h : Int) : PC Tryz.prog 84 [iA n, iA l, iA h] (vB (inR n l h)) := by
  refine pc_enter Tryz.func84 rfl rfl fun w0 fb => go_on ?_; (try simp only [Tryz.ntmps84, push_cast, simprocAttr])
  repeat' first | (refine at_b (fun hb => ?_) (fun hb => ?_) <;> simp only [hb, push_cast, simprocAttr]) | (refine at_ret ?_; simp only [Tryz.results84, push_cast, simprocAttr]) | (show RWp _ _ _ _ _; simp only [push_cast, simprocAttr])
  all_goals simp [inR, leI, vX] at *
  all_goals omega
theorem letB_le (a : UInt8) : letB a = (leI 97 a.toNat && leI a.toNat 100) := by
  unfold letB leI
  rw [Bool.eq_iff_iff]
  simp [UInt8.le_iff_toNat_le]
  omega
theorem isName_pc (s : Str) : PC Tryz.prog 122 [sA s] (vB (nameB s)) := by
  rcases s with _ | ⟨a, _ | ⟨b, r⟩⟩
  all_goals
    refine pc_enter Tryz.func122 rfl rfl fun w0 fb => go_on ?_; (try simp only [Tryz.ntmps122, push_cast, simprocAttr])
    repeat' first | (refine at_b (fun hb => ?_) (fun hb => ?_) <;> simp only [hb, push_cast, simprocAttr]) | (refine at_ret ?_; simp only [Tryz.results122, push_cast, simprocAttr]) | (show RWp _ _ _ _ _; simp only [push_cast, simprocAttr])
  all_goals first
    | (exfalso; simp [eqI] at *; done)
    | (exfalso; simp [eqI] at *; omega)
    | (simp [vX, nameB, letB_le, *]; done)
theorem l1Name_pc (s : Str) : PC Tryz.prog 138 [sA s] (vB (nameB s)) := by
  rcases s with _ | ⟨a, _ | ⟨b, r⟩⟩
  all_goals
    refine pc_enter Tryz.func138 rfl rfl fun w0 fb => go_on ?_; (try simp only [Tryz.ntmps138, push_cast, simprocAttr])
    repeat' first | (refine at_b (fun hb => ?_) (fun hb => ?_) <;> simp only [hb, push_cast, simprocAttr]) | (refine at_ret ?_; simp only [Tryz.results138, push_cast, simprocAttr]) | (show RWp _ _ _ _ _; simp only [push_cast, simprocAttr])
  all_goals first
    | (exfalso; simp [eqI] at *; done)
    | (exfalso; simp [eqI] at *; omega)
    | (simp [vX, nameB, letB_le, *]; done)
theorem l1Names_pc (s : Str) (h : 1 ≤ s.length) (hs : s.length < 4294967281) : PC Tryz.prog 137 [sA s] (rX (.o 0 (cutP (s.drop 1)).length) [⟨9, 1, (cutP (s.drop 1)).map sC, true⟩]) := by
  refine pc_enter Tryz.func137 rfl rfl fun w0 fb => go_on ?_; (try simp only [Tryz.ntmps137, push_cast, simprocAttr])
  refine at_loop (X := List Str × Nat × Nat) (fun x => [(3, .o 6 x.1.length), (4, iA x.2.1), (5, iA x.2.2), (6, .any)]) (fun x => [(2, ⟨9, 1, [], true⟩), (6, ⟨9, 1, x.1.map sC, true⟩)])
    (fun x => 1 ≤ x.2.1 ∧ x.2.1 ≤ x.2.2 ∧ x.2.2 ≤ s.length ∧ x.1.length < x.2.2 ∧ x.1 ++ cutA ((s.take x.2.2).drop x.2.1) (s.drop x.2.2) = cutP (s.drop 1)) (fun x => s.length - x.2.2) ([], 1, 1) ⟨by simp, by simp, h, by simp, ?_⟩ ?_ ?_
  · simp [cutA_nil]
  · (refine wk_ok ?_ ?_ ?_ ?_ <;> simp [leL, leH, idsL, idsA, idsR, inH, hget, sameRow, upA, hvA, dsts, dstO, setA_0, setA_1, setA_8, List.append, List.cons_append, List.nil_append])
  · rintro ⟨out, from_, i⟩ ⟨h1, h2, h3, h4, h5⟩
    simp only at h1 h2 h3 h4 h5
    simp only [upA, hvA, dsts, dstO, setA_0, setA_1, setA_8, List.append, List.cons_append, List.nil_append]
    refine go_on ?_
    (try simp only [push_cast, simprocAttr])
    refine at_b (fun hb => ?_) (fun hb => ?_)
    · have hlt : i < s.length := by simp [ltI] at hb; omega
      obtain ⟨a, hx⟩ := get_of_lt hlt
      have hd : s.drop i = a :: s.drop (i + 1) := drop_of_get hx
      (try simp only [hb, hx, push_cast, simprocAttr])
      refine at_b (fun hc => ?_) (fun hc => ?_)
      · have hfi : (from_ : Int) ≤ i := by omega
        have hil : (i : Int) ≤ s.length := by omega
        (try simp only [hc, hfi, hil, push_cast, simprocAttr])
        refine at_chk (by omega) ?_
        have w1 := wr ((i : Int) + 1) (by omega)
        (try simp only [w1, push_cast, simprocAttr])
        have ha := u8_tt 47 rfl hc
        refine at_fin ⟨(out ++ [(s.take i).drop from_], i + 1, i + 1), ⟨by dsimp only; omega, by dsimp only; omega, by dsimp only; omega, by simp; omega, ?_⟩, by dsimp only; omega, ?_⟩
        · dsimp only
          rw [← h5, hd, ha]
          simp [cutA]
        · (refine wk_ok ?_ ?_ ?_ ?_ <;> simp [sC, leL, leH, idsL, idsA, idsR, inH, hget, sameRow, upA, hvA, dsts, dstO, setA_0, setA_1, setA_8, List.append, List.cons_append, List.nil_append])
      · have w1 := wr ((i : Int) + 1) (by omega)
        (try simp only [hc, w1, push_cast, simprocAttr])
        have ha := u8_ff 47 rfl hc
        refine at_fin ⟨(out, from_, i + 1), ⟨by dsimp only; omega, by dsimp only; omega, by dsimp only; omega, by simp; omega, ?_⟩, by dsimp only; omega, ?_⟩
        · dsimp only
          rw [← h5, hd]
          simp only [cutA, ha, if_false]
          rw [take_drop_succ h2 hx]
        · (refine wk_ok ?_ ?_ ?_ ?_ <;> simp [leL, leH, idsL, idsA, idsR, inH, hget, sameRow, upA, hvA, dsts, dstO, setA_0, setA_1, setA_8, List.append, List.cons_append, List.nil_append])
    · have hi : i = s.length := by simp [ltI] at hb; omega
      subst hi
      have hfi : (from_ : Int) ≤ s.length := by omega
      (try simp only [hb, hfi, push_cast, simprocAttr])
      refine at_chk (by omega) ?_
      (try simp only [push_cast, simprocAttr])
      refine at_ret ?_; simp only [Tryz.results137, push_cast, simprocAttr]
      rw [← h5]
      simp [cutA, rX, sC, ixOf]
theorem specPathValid_pc (s : Str) (hs : s.length < 4294967281) : PC Tryz.prog 119 [sA s] (vB (pV s)) := by
  refine pc_enter Tryz.func119 rfl rfl fun w0 fb => go_on ?_; (try simp only [Tryz.ntmps119, push_cast, simprocAttr])
  refine at_b (fun hb => ?_) (fun hb => ?_)
  · (try simp only [hb, push_cast, simprocAttr])
    refine at_ret ?_; simp only [Tryz.results119, push_cast, simprocAttr]
    simp at hb
    simp [vX, pV, root, hb]
  · have hr : s ≠ root := by simpa [root] using hb
    have hp := pV_names s hr
    rcases Nat.eq_zero_or_pos s.length with h0 | h0
    · have hn : s = [] := List.eq_nil_of_length_eq_zero h0
      (try simp only [hb, h0, push_cast, simprocAttr])
      refine at_ret ?_; simp only [Tryz.results119, push_cast, simprocAttr]
      simp [vX, hn, pV, root]
    · obtain ⟨a, hx⟩ := get_of_lt h0
      have e0 : eqI (s.length : Int) 0 = false := eqI_f (by omega)
      have hd : s = a :: s.drop 1 := by simpa using drop_of_get hx
      (try simp only [hb, e0, hx, push_cast, simprocAttr])
      refine at_b (fun hc => ?_) (fun hc => ?_)
      · (try simp only [hc, push_cast, simprocAttr])
        refine at_ret ?_; simp only [Tryz.results119, push_cast, simprocAttr]
        have ha := u8_ff 47 rfl (not_t hc)
        obtain ⟨x, xs, hxs⟩ : ∃ x xs, cutP (s.drop 1) = x :: xs := by
          cases hs : cutP (s.drop 1) with
          | nil => exact absurd hs (cut_ne _)
          | cons x xs => exact ⟨x, xs, rfl⟩
        have hcut := cut_cons ha hxs
        rw [← hd] at hcut
        simp [vX, hp, hcut]
      · have ha := u8_tt 47 rfl (not_f hc)
        have hcut : cutP s = [] :: cutP (s.drop 1) := by rw [ha] at hd; rw [hd, cut_47]; rfl
        have hp2 : pV s = (decide ((cutP (s.drop 1)).length ≤ 4) && (cutP (s.drop 1)).all nameB) := by
          have : 1 ≤ (cutP (s.drop 1)).length := by
            cases hs : cutP (s.drop 1) with
            | nil => exact absurd hs (cut_ne _)
            | cons x xs => simp
          rw [hp, hcut]
          show (decide (some ([] : Str) = some []) && decide (1 ≤ (cutP (s.drop 1)).length) && decide ((cutP (s.drop 1)).length ≤ 4) && (cutP (s.drop 1)).all nameB) = _
          simp only [decide_true, Bool.true_and, this]
        obtain ⟨xs, hxs⟩ : ∃ xs, cutP (s.drop 1) = xs := ⟨_, rfl⟩
        have hN := l1Names_pc s h0 hs
        rw [hxs] at hN hp2
        (try simp only [hc, push_cast, simprocAttr])
        (refine at_call ?_; (try simp only [push_cast, simprocAttr]); refine rwc_r (hN) rfl (flat_s _) (by simp [frB, baseOf]) (go_on ?_); (try simp only [push_cast, simprocAttr]))
        refine at_loop (X := Nat) (fun k => [(4, iA k)]) (fun _ => [(17000, ⟨9, 1, xs.map sC, true⟩)]) (fun k => k ≤ xs.length ∧ xs.all nameB = (xs.drop k).all nameB) (fun k => xs.length - k) 0 ⟨Nat.zero_le _, rfl⟩ ?_ ?_
        · (refine wk_ok ?_ ?_ ?_ ?_ <;> simp [leL, leH, idsL, idsA, idsR, inH, hget, sameRow, upA, hvA, dsts, dstO, setA_0, setA_1, setA_8, List.append, List.cons_append, List.nil_append])
        · rintro k ⟨h1, h2⟩
          simp only [upA, hvA, dsts, dstO, setA_0, setA_1, setA_8, List.append, List.cons_append, List.nil_append]
          refine go_on ?_
          (try simp only [push_cast, simprocAttr])
          refine at_b (fun hg => ?_) (fun hg => ?_)
          · have hlt := lt_tt hg
            obtain ⟨x, hk⟩ := get_of_lt hlt
            have i1 := ix_n hk
            have i2 := map_get sC hk
            rw [drop_of_get hk] at h2
            (try simp only [hg, i1, i2, push_cast, simprocAttr])
            (refine at_call ?_; (try simp only [push_cast, simprocAttr]); refine rwc_v (l1Name_pc x) (go_on ?_); (try simp only [push_cast, simprocAttr]))
            refine at_b (fun hn => ?_) (fun hn => ?_)
            · (try simp only [hn, push_cast, simprocAttr])
              refine at_ret ?_; simp only [Tryz.results119, push_cast, simprocAttr]
              simp [vX, hp2, h2, not_t hn]
            · have w1 := wr ((k : Int) + 1) (by have := cut_len (s.drop 1); rw [hxs, List.length_drop] at this; omega)
              (try simp only [hn, w1, push_cast, simprocAttr])
              refine at_fin ⟨k + 1, ⟨by omega, ?_⟩, by omega, ?_⟩
              · rw [h2]; simp [not_f hn]
              · (refine wk_ok ?_ ?_ ?_ ?_ <;> simp [leL, leH, idsL, idsA, idsR, inH, hget, sameRow, upA, hvA, dsts, dstO, setA_0, setA_1, setA_8, List.append, List.cons_append, List.nil_append])
          · have h3 := lt_ff hg
            (try simp only [hg, push_cast, simprocAttr])
            refine at_ret ?_; simp only [Tryz.results119, push_cast, simprocAttr]
            rw [List.drop_of_length_le h3] at h2
            simp [vX, hp2, h2, leI]
            omega
theorem PathDepth_pc (s : Str) (hs : s.length < 4294967281) : PC Tryz.prog 79 [sA s] (vI (depth s)) := by
  have e : (s.length : Int).tdiv 2 = ((s.length / 2 : Nat) : Int) := by rw [Int.tdiv_eq_ediv_of_nonneg (by omega)]; rfl
  have w1 := wr ((s.length / 2 : Nat) : Int) (by omega)
  obtain ⟨m, hm⟩ : ∃ m, s.length / 2 = m := ⟨_, rfl⟩
  unfold depth
  rw [hm] at e w1 ⊢
  refine pc_enter Tryz.func79 rfl rfl fun w0 fb => go_on ?_; (try simp only [Tryz.ntmps79, push_cast, simprocAttr])
  repeat' first | (refine at_b (fun hb => ?_) (fun hb => ?_) <;> simp only [e, w1, hb, push_cast, simprocAttr]) | (refine at_ret ?_; simp only [e, w1, Tryz.results79, push_cast, simprocAttr]) | (refine at_call ?_; (try simp only [push_cast, simprocAttr]); refine rwc_v (by first | exact specPathValid_pc s hs) (go_on ?_); simp only [e, w1, push_cast, simprocAttr]) | (show RWp _ _ _ _ _; simp only [e, w1, push_cast, simprocAttr])
  · simp [vX, not_t hb]
  · simp [vX, not_f hb]
end Go.Proofs.YtccifbbjbnjcfaaGreatDoor
/-
  Walks: strings.Split at a slash; impl.PathValid.
-/
namespace Go.Proofs.YtccifbbjbnjcfaaGreatDoor
open Go Go.RowKit Go.Proofs
attribute [local irreducible] RWp AW run kPe pe Kt effA gd gu br retR RDp runD kPeD brW gW effD
set_option maxRecDepth 100000

/-- A function that answers a new row of one-cell elements. -/
theorem pc_new {P : Program} {f : FuncId} {argv vals : List Value} {E : TypeId} {c : Nat} {cs : Array Value} (hen : ∀ (vs : Array Value) (W : World), (callFunc f vs).run P W = .ok (.enter f vs) W)
    (h : ∀ w, Calls P f argv.toArray w fun e w' => e = .returned (.slice (some ⟨w.heap.size, 0, none⟩) vals.length c) ∧ w' = w.alloc (.cells cs E))
    (hc : vals.length ≤ c) (hm : c ≤ maxLen) (hs : cs.size = c) (hv : ∀ (k : Nat) v, vals[k]? = some v → cs[k]? = some v ∧ v.oneCell' = true) :
    PC P f (argv.map .v) (rX (.o 0 vals.length) [⟨E, 1, vals.map fun v => [.v v], true⟩]) := by
  refine ⟨hen, fun w fb vs hfb hvs hg => ?_⟩
  have e : vs = argv.toArray := by
    apply Array.ext
    · simp [hvs]
    · intro i h1 h2
      have h3 : i < argv.length := by simpa using h2
      have := hg i (.v argv[i]) (by rw [List.getElem?_map, List.getElem?_eq_getElem h3]; rfl)
      have h5 : vs.getD i undef = argv[i] := by
        generalize vs.getD i undef = u at this
        cases this
        rfl
      simpa [Array.getD, h1] using h5
  subst e
  refine (h w).mono ?_
  rintro e w' ⟨rfl, rfl⟩
  have hb : Below w.heap.size w (w.alloc (.cells cs E)) := (Below.refl _ _).alloc (Nat.le_refl _) _
  refine ⟨_, _, _, ⟨rfl, rfl⟩, rfl, hb, ⟨fun r => if r = 0 then some (w.heap.size, c) else none, fb⟩, rfl, ?_, ?_, ?_, ?_⟩
  · exact .o (row := ⟨E, 1, vals.map fun v => [.v v], true⟩) (by simp [hpOf, hget]) (by rfl) (by simp)
  · intro r row hr
    simp only [hpOf, hget] at hr
    split at hr
    · rename_i h0
      subst h0
      cases hr
      refine ⟨rfl, RowOk.mk' (b := w.heap.size) (c := c) (cur := cs) rfl ?_ (by simpa using hc) hm (heap_alloc_new w _) (by simpa using hs) ?_⟩
      · intro k e he
        rw [List.getElem?_map] at he
        obtain ⟨v, _, rfl⟩ := Option.map_eq_some_iff.1 he
        rfl
      · intro k e j x he hx
        rw [List.getElem?_map] at he
        obtain ⟨v, hv1, rfl⟩ := Option.map_eq_some_iff.1 he
        have hj : j = 0 := by have := lt_of_some hx; simp at this; omega
        subst hj
        simp at hx
        subst hx
        obtain ⟨h1, h2⟩ := hv k v hv1
        exact ⟨v, by simpa using h1, h2, .cl .v, fun _ => .v⟩
    · cases hr
  · intro r r' row row' b c1 c2 hr hr' _ _
    simp only [hpOf, hget] at hr hr'
    split at hr
    · split at hr'
      · omega
      · cases hr'
    · cases hr
  · intro r row b c1 hr hl
    simp only [Loc.at_] at hl
    split at hl
    · cases hl; exact Nat.le_refl _
    · cases hl
theorem genSplit_pc (s : Str) (hs : s.length < 4294967281) : PC Tryz.prog 139 [sA s, sA [47], iA 0, iA (-1)] (rX (.o 0 (cutP s).length) [⟨9, 1, (cutP s).map sC, true⟩]) := by
  have hsz : (⟨s.toArray⟩ : ByteArray).size = s.length := size_l s
  have hC : ∀ w, Calls Tryz.prog 146 #[.string ⟨s.toArray⟩, .string ⟨#[47]⟩] w fun e w' => e = .returned (.int .i64 (Lib.countB ⟨s.toArray⟩ ⟨#[47]⟩)) ∧ w' = w := by
    intro w
    refine (Any.strings_Count_one Tryz.lays138 ⟨s.toArray⟩ 47 w).mono fun e w' h => ⟨?_, h.2⟩
    rw [h.1]
    show _ = Ending.returned (Value.int .i64 ((Lib.count s [47] : Nat) : Int))
    rw [Lib.count_one]
    rfl
  have hI : ∀ (x : ByteArray) w, Calls Tryz.prog 147 #[.string x, .string ⟨#[47]⟩] w fun e w' => e = .returned (.int .i64 (Lib.indexB x ⟨#[47]⟩)) ∧ w' = w := by
    intro x w
    refine (Any.strings_Index_one Tryz.lays143 x 47 w).mono fun e w' h => ⟨?_, h.2⟩
    rw [h.1]
    show _ = Ending.returned (Value.int .i64 (Lib.index x.data.toList [47]))
    rw [Lib.index_one]
  have hcnt : Lib.countB ⟨s.toArray⟩ ⟨#[47]⟩ = s.count 47 := Lib.count_one 47 s
  have hle : s.count 47 ≤ s.length := List.count_le_length
  have hcut := cut_len s
  have hG := fun w => Any.strings_genSplit_core Tryz.lays221 (by kernel_rfl) ⟨s.toArray⟩ ⟨#[47]⟩ 0 (-1) (s.count 47 + 1) w (by rw [hsz]; exact hs) (by decide) (Nat.zero_le _) (fun x c _ => hI x _) (hC w) (by decide) (by decide) (by rw [if_pos (by decide), hcnt, hsz]; omega)
  rw [Nat.add_sub_cancel] at hG
  obtain ⟨L, hL⟩ : ∃ L, Lib.splitB ⟨#[47]⟩ 0 (s.count 47) ⟨s.toArray⟩ = L := ⟨_, rfl⟩
  have hd : L.map (·.data.toList) = cutP s := by rw [← hL, Lib.splitB_data]; exact splitK_cut s
  have hlen : L.length = (cutP s).length := by rw [← hd, List.length_map]
  rw [hL] at hG
  have hle2 : L.length ≤ s.count 47 + 1 := by rw [← hL]; exact Lib.splitB_length_le _ _ _ _
  have := pc_new (P := Tryz.prog) (f := 139) (argv := [.string ⟨s.toArray⟩, .string ⟨#[47]⟩, .int .i64 0, .int .i64 (-1)]) (vals := L.map Value.string) (E := 9) (c := s.count 47 + 1) (cs := Lib.cellsOf L (s.count 47 + 1)) (enters_of Tryz.func139 (by kernel_rfl) rfl)
    (fun w => by rw [List.length_map]; exact hG w) (by simpa using hle2) (by unfold maxLen; omega) (Lib.cellsOf_size hle2) ?_
  · have e : (L.map Value.string).map (fun v => [AV.v v]) = (cutP s).map sC := by rw [← hd]; simp [sC]
    rw [e, List.length_map, hlen] at this
    exact this
  · intro k v hv
    have hk := lt_of_some hv
    refine ⟨?_, ?_⟩
    · unfold Lib.cellsOf
      rw [List.getElem?_toArray, List.getElem?_append_left hk]
      exact hv
    · rw [List.getElem?_map] at hv
      obtain ⟨x, _, rfl⟩ := Option.map_eq_some_iff.1 hv
      rfl
theorem split_pc (s : Str) (hs : s.length < 4294967281) : PC Tryz.prog 121 [sA s, sA [47]] (rX (.o 0 (cutP s).length) [⟨9, 1, (cutP s).map sC, true⟩]) := by
  refine pc_enter Tryz.func121 rfl rfl fun w0 fb => go_on ?_; (try simp only [Tryz.ntmps121, push_cast, simprocAttr])
  (refine at_call ?_; (try simp only [push_cast, simprocAttr]); refine rwc_r (genSplit_pc s hs) rfl (flat_s _) (by simp [frB, baseOf]) (go_on ?_); (try simp only [push_cast, simprocAttr]))
  refine at_ret ?_; simp only [Tryz.results121, push_cast, simprocAttr]
  simp [rX]
/-- The pieces, as data. -/
theorem splitF_pc (s : Str) (hs : s.length < 4294967281) : PC Tryz.prog 121 [sA s, sA [47]] (vX (strsA (cutP s))) := by
  refine (split_pc s hs).frz ?_
  rintro rv rows ⟨rfl, rfl⟩
  refine ⟨?_, rfl⟩
  simp [viewN, hpOf, hget, tk]
theorem PathValid_pc (s : Str) (hs : s.length < 4294967281) : PC Tryz.prog 91 [sA s] (vB (pV s)) := by
  obtain ⟨y, ys, hxs⟩ : ∃ y ys, cutP s = y :: ys := by
    cases h : cutP s with
    | nil => exact absurd h (cut_ne _)
    | cons x xs => exact ⟨x, xs, rfl⟩
  have hS := splitF_pc s hs
  have hl : ys.length ≤ s.length := by have := cut_len s; rw [hxs] at this; simp at this; omega
  rw [hxs] at hS
  refine pc_enter Tryz.func91 rfl rfl fun w0 fb => go_on ?_; (try simp only [Tryz.ntmps91, push_cast, simprocAttr])
  refine at_b (fun hb => ?_) (fun hb => ?_)
  · (try simp only [hb, push_cast, simprocAttr])
    refine at_ret ?_; simp only [Tryz.results91, push_cast, simprocAttr]
    simp at hb
    simp [vX, pV, root, hb]
  · have hr : s ≠ root := by simpa [root] using hb
    have hp := pV_cut hr hxs
    have w1 := wr (ys.length : Int) (by omega)
    have w2 : ((ys.length : Int) + 1 - 1) = ys.length := by omega
    (try simp only [hb, push_cast, simprocAttr])
    ((try simp only [push_cast, simprocAttr]); refine at_share (by first | rfl | simp [isC]) (by first | rfl | simp only [ren]) (hS) (go_on ?_); (try simp only [push_cast, simprocAttr]))
    refine at_b (fun hc => ?_) (fun hc => ?_)
    · (try simp only [hc, push_cast, simprocAttr])
      refine at_ret ?_; simp only [Tryz.results91, push_cast, simprocAttr]
      have : decide (y = []) = false := not_t hc
      simp [vX, hp, this]
    · have hy : decide (y = []) = true := not_f hc
      (try simp only [hc, w2, w1, push_cast, simprocAttr])
      (refine at_call ?_; (try simp only [push_cast, simprocAttr]); refine rwc_v (in_pc _ _ _) (go_on ?_); (try simp only [push_cast, simprocAttr]))
      refine at_b (fun hd => ?_) (fun hd => ?_)
      · (try simp only [hd, push_cast, simprocAttr])
        refine at_ret ?_; simp only [Tryz.results91, push_cast, simprocAttr]
        simp [vX, hp, not_t hd]
      · have h1 : inR ys.length 1 4 = true := not_f hd
        have hp2 : pV s = ys.all nameB := by rw [hp, hy, h1]; simp
        have h4 : 1 ≤ ys.length := by simp [inR] at h1; omega
        have w3 : (1 : Int) ≤ (ys.length : Int) + 1 := by omega
        (try simp only [hd, w3, push_cast, simprocAttr])
        refine at_loop (X := Nat) (fun k => [(24, iA k)]) (fun _ => []) (fun k => k ≤ ys.length ∧ ys.all nameB = (ys.drop k).all nameB) (fun k => ys.length - k) 0 ⟨Nat.zero_le _, rfl⟩ ?_ ?_
        · (refine wk_ok ?_ ?_ ?_ ?_ <;> simp [leL, leH, idsL, idsA, idsR, inH, hget, sameRow, upA, hvA, dsts, dstO, setA_0, setA_1, setA_8, List.append, List.cons_append, List.nil_append])
        · rintro k ⟨h1, h2⟩
          simp only [upA, hvA, dsts, dstO, setA_0, setA_1, setA_8, List.append, List.cons_append, List.nil_append]
          refine go_on ?_
          (try simp only [push_cast, simprocAttr])
          refine at_b (fun hg => ?_) (fun hg => ?_)
          · have hlt := lt_tt hg
            obtain ⟨x, hk⟩ := get_of_lt hlt
            have i1 := ix_n hk
            have i2 := map_get sC hk
            rw [drop_of_get hk] at h2
            (try simp only [hg, i1, i2, push_cast, simprocAttr])
            (refine at_call ?_; (try simp only [push_cast, simprocAttr]); refine rwc_v (isName_pc x) (go_on ?_); (try simp only [push_cast, simprocAttr]))
            refine at_b (fun hn => ?_) (fun hn => ?_)
            · (try simp only [hn, push_cast, simprocAttr])
              refine at_ret ?_; simp only [Tryz.results91, push_cast, simprocAttr]
              simp [vX, hp2, h2, not_t hn]
            · have w1 := wr ((k : Int) + 1) (by omega)
              (try simp only [hn, w1, push_cast, simprocAttr])
              refine at_fin ⟨k + 1, ⟨by omega, ?_⟩, by omega, ?_⟩
              · rw [h2]; simp [not_f hn]
              · (refine wk_ok ?_ ?_ ?_ ?_ <;> simp [leL, leH, idsL, idsA, idsR, inH, hget, sameRow, upA, hvA, dsts, dstO, setA_0, setA_1, setA_8, List.append, List.cons_append, List.nil_append])
          · have h3 := lt_ff hg
            (try simp only [hg, push_cast, simprocAttr])
            refine at_ret ?_; simp only [Tryz.results91, push_cast, simprocAttr]
            rw [List.drop_of_length_le h3] at h2
            simp [vX, hp2, h2]
end Go.Proofs.YtccifbbjbnjcfaaGreatDoor
/-
  Walks: contents; what a tree holds.
-/
namespace Go.Proofs.YtccifbbjbnjcfaaGreatDoor
open Go Go.RowKit Go.Proofs
attribute [local irreducible] RWp AW run kPe pe Kt effA gd gu br retR RDp runD kPeD brW gW effD
set_option maxRecDepth 100000

theorem ContentValid_pc (c : Ct) : PC Tryz.prog 92 [ctA c] (vB (ctV c)) := by
  unfold ctA ctC
  refine pc_enter Tryz.func92 rfl rfl fun w0 fb => go_on ?_; (try simp only [Tryz.ntmps92, push_cast, simprocAttr])
  repeat' first | (refine at_b (fun hb => ?_) (fun hb => ?_) <;> simp only [hb, push_cast, simprocAttr]) | (refine at_ret ?_; simp only [Tryz.results92, push_cast, simprocAttr]) | (refine at_call ?_; (try simp only [push_cast, simprocAttr]); refine rwc_v (by first | exact in_pc _ _ _) (go_on ?_); simp only [push_cast, simprocAttr]) | (show RWp _ _ _ _ _; simp only [push_cast, simprocAttr])
  all_goals simp [vX, ctV, eqI_d, *] at *
  all_goals simp [*]
theorem specContentValid_pc (c : Ct) : PC Tryz.prog 80 [ctA c] (vB (ctV c)) := by
  unfold ctA ctC
  refine pc_enter Tryz.func80 rfl rfl fun w0 fb => go_on ?_; (try simp only [Tryz.ntmps80, push_cast, simprocAttr])
  repeat' first | (refine at_b (fun hb => ?_) (fun hb => ?_) <;> simp only [hb, push_cast, simprocAttr]) | (refine at_ret ?_; simp only [Tryz.results80, push_cast, simprocAttr]) | (refine at_call ?_; (try simp only [push_cast, simprocAttr]); refine rwc_v (by first | exact l6In_pc _ _ _) (go_on ?_); simp only [push_cast, simprocAttr]) | (show RWp _ _ _ _ _; simp only [push_cast, simprocAttr])
  all_goals simp [vX, ctV, eqI_d, *] at *
  all_goals simp [*]
/-- The place of the first that holds. -/
def idxF {α : Type} (p : α → Bool) : Nat → List α → Int
  | _, [] => -1
  | k, a :: l => if p a then k else idxF p (k + 1) l
theorem idxF_spec {α : Type} (p : α → Bool) : ∀ (l : List α) (k : Nat), (idxF p k l = -1 ∧ l.find? p = none) ∨ ∃ (j : Nat) (n : α), idxF p k l = ((k + j : Nat) : Int) ∧ l[j]? = some n ∧ l.find? p = some n
  | [], k => .inl ⟨rfl, rfl⟩
  | a :: l, k => by
    by_cases h : p a = true
    · exact .inr ⟨0, a, by simp [idxF, h], rfl, by simp [h]⟩
    · rcases idxF_spec p l (k + 1) with ⟨h1, h2⟩ | ⟨j, n, h1, h2, h3⟩
      · exact .inl ⟨by simp [idxF, h, h1], by simp [h, h2]⟩
      · exact .inr ⟨j + 1, n, by rw [show idxF p k (a :: l) = idxF p (k + 1) l by simp [idxF, h], h1]; omega, by simpa using h2, by simp [h, h3]⟩
theorem idxF_any {α : Type} (p : α → Bool) (l : List α) : leI 0 (idxF p 0 l) = l.any p := by
  have e : l.any p = (l.find? p).isSome := by
    rw [Bool.eq_iff_iff]; simp [List.any_eq_true, List.find?_isSome]
  rw [e]
  rcases idxF_spec p l 0 with ⟨h1, h2⟩ | ⟨j, n, h1, h2, h3⟩
  · rw [h1, h2]; rfl
  · rw [h1, h3]; simp [leI]
theorem mem_of_get {α : Type} {l : List α} {k : Nat} {x : α} (h : l[k]? = some x) : x ∈ l := List.mem_of_getElem? h
abbrev rowN (l : List Nd) : Row := ⟨146, 3, l.map ndC, true⟩
abbrev rowC (l : List Cm) : Row := ⟨35, 5, l.map cmC, true⟩
end Go.Proofs.YtccifbbjbnjcfaaGreatDoor
/-
  slices.Insert at nodes: a place within a row that has room, and one that has none.
-/
namespace Go.Proofs.YtccifbbjbnjcfaaGreatDoor
open Go Go.RowKit Go.Proofs

section
variable {P : Program}
end
set_option maxRecDepth 100000
end Go.Proofs.YtccifbbjbnjcfaaGreatDoor
/-
  slices.Insert at nodes, as a contract with lent rows.
-/
namespace Go.Proofs.YtccifbbjbnjcfaaGreatDoor
open Go Go.RowKit Go.Proofs
attribute [local irreducible] RWp AW run kPe pe Kt effA gd gu br retR RDp runD kPeD brW gW effD
set_option maxRecDepth 100000

section
variable {h : Hp} {loc : Loc} {w : World} {r b c : Nat} {l : List Nd}
end
end Go.Proofs.YtccifbbjbnjcfaaGreatDoor
/-
  slices.Insert at nodes: the contract.
-/
namespace Go.Proofs.YtccifbbjbnjcfaaGreatDoor
open Go Go.RowKit Go.Proofs
attribute [local irreducible] RWp AW run kPe pe Kt effA gd gu br retR RDp runD kPeD brW gW effD
set_option maxRecDepth 100000

end Go.Proofs.YtccifbbjbnjcfaaGreatDoor
/-
  slices.Insert at nodes: the contract, whole.
-/
namespace Go.Proofs.YtccifbbjbnjcfaaGreatDoor
open Go Go.RowKit Go.Proofs
attribute [local irreducible] RWp AW run kPe pe Kt effA gd gu br retR RDp runD kPeD brW gW effD
set_option maxRecDepth 100000

theorem G.o_inv {h : Hp} {loc : Loc} {w : World} {r n : Nat} {u : Value} (hx : G h loc w (.o r n) u) (hn : 0 < n) : ∃ row b c, hget h r = some row ∧ loc r = some (b, c) ∧ u = .slice (some ⟨b, 0, none⟩) n c := by
  cases hx with
  | cl hc => cases hc
  | o hr hl _ => exact ⟨_, _, _, hr, hl, rfl⟩
  | onil => omega
end Go.Proofs.YtccifbbjbnjcfaaGreatDoor
/-
  The abstract machine: a row is written anew; a row is cut; a slice's tail is cleared.
-/
namespace Go.Proofs.YtccifbbjbnjcfaaGreatDoor
open Go Go.RowKit Go.Proofs

section
variable {w0 : World} {lent : Lent} {s : AS} {loc : Loc} {a : Act} {w : World}
theorem Rel.setRow (hR : Rel w0 lent s loc a w) {r : Nat} {row : Row} {b c : Nat} {cur cur' : Array Value} {es' : List (List AV)} {cl' : Bool} (hrow : hget s.h r = some row) (hl : loc r = some (b, c)) (hh : w.heap[b]? = some (.cells cur row.E (0, 0)))
    (hs' : cur'.size = c * row.sz) (hlen' : ∀ (k : Nat) e, es'[k]? = some e → e.length = row.sz) (hge : row.es.length ≤ es'.length) (hle : es'.length ≤ c) (hm : c ≤ maxLen)
    (hcs : ∀ (k : Nat) e (j : Nat) x, es'[k]? = some e → e[j]? = some x → ∃ u, cur'[k * row.sz + j]? = some u ∧ u.oneCell' = true ∧ G s.h loc w x u ∧ (cl' = true → C (Live s.h loc) 0 w x u)) :
    Rel w0 lent ⟨s.t, hset s.h r ⟨row.E, row.sz, es', cl'⟩⟩ loc a (w.setRow b cur') := by
  have hset' : ∀ q row1, hget s.h q = some row1 → ∃ row2, hget (hset s.h r ⟨row.E, row.sz, es', cl'⟩) q = some row2 ∧ row2.sz = row1.sz ∧ row1.es.length ≤ row2.es.length := by
    intro q row1 hq
    rw [hget_hset]
    by_cases hrq : r = q
    · subst hrq
      rw [hrow] at hq
      cases hq
      rw [if_pos rfl]
      exact ⟨_, rfl, rfl, hge⟩
    · rw [if_neg hrq]
      exact ⟨row1, hq, rfl, Nat.le_refl _⟩
  have hlive : ∀ b', Live (hset s.h r ⟨row.E, row.sz, es', cl'⟩) loc b' ↔ Live s.h loc b' := by
    intro b'
    constructor
    · rintro (⟨q, row1, c1, h1, h2⟩ | hfb)
      · rw [hget_hset] at h1
        by_cases hrq : r = q
        · subst hrq; exact .inl ⟨r, row, c1, hrow, h2⟩
        · rw [if_neg hrq] at h1; exact .inl ⟨q, row1, c1, h1, h2⟩
      · exact .inr hfb
    · rintro (⟨q, row1, c1, h1, h2⟩ | hfb)
      · obtain ⟨row2, h3, _⟩ := hset' q row1 h1
        exact .inl ⟨q, row2, c1, h3, h2⟩
      · exact .inr hfb
  have hbl : Live s.h loc b := .inl ⟨r, row, c, hrow, hl⟩
  have hold : ∀ b', b' < w.heap.size → ¬ Live s.h loc b' → (w.setRow b cur').heap[b']? = w.heap[b']? := fun b' _ hnl => setRow_other (fun e => hnl (e ▸ hbl))
  have hC : ∀ x u, C (Live s.h loc) 0 w x u → C (Live (hset s.h r ⟨row.E, row.sz, es', cl'⟩) loc) 0 (w.setRow b cur') x u := fun x u hx =>
    hx.mono (Nat.le_refl _) (by simp) fun b' _ hlt hnl => ⟨fun h => hnl ((hlive b').1 h), hold b' hlt hnl⟩
  have hG : ∀ x u, G s.h loc w x u → G (hset s.h r ⟨row.E, row.sz, es', cl'⟩) loc (w.setRow b cur') x u := fun x u hx =>
    hx.mono (by simp) (fun q row1 hq => ⟨rfl, hset' q row1 hq⟩) fun b' hlt hnl => ⟨fun h => hnl ((hlive b').1 h), hold b' hlt hnl⟩
  refine ⟨hR.tsz, fun i x hx => hG _ _ (hR.tm i x hx), hR.df, fun q row1 hq => ?_, fun q q' row1 row2 b1 c1 c2 h1 h2 h3 h4 => ?_, fun q row1 b1 c1 h1 h2 => ?_, hR.os, hR.tape, hR.output, by simp; exact hR.size, fun b1 hlt hlb => ?_, hR.fbe, hR.fbl, hR.pn, hR.pl⟩
  · simp only at hq
    rw [hget_hset] at hq
    by_cases hrq : r = q
    · subst hrq
      rw [if_pos rfl] at hq
      cases hq
      refine RowOk.mk' hl hlen' hle hm (setRow_heap w b cur _ row.E (0, 0) hh) hs' fun k e j x he hx => ?_
      obtain ⟨u, q1, q2, q3, q4⟩ := hcs k e j x he hx
      exact ⟨u, q1, q2, hG _ _ q3, fun hc => hC _ _ (q4 hc)⟩
    · rw [if_neg hrq] at hq
      refine (hR.rw q row1 hq).mono rfl (fun b1 c1 hl1 => setRow_other (fun e => hrq ?_)) hG hC
      subst e
      exact hR.inj r q row row1 b1 c c1 hrow hq hl hl1
  · simp only at h1 h2
    rw [hget_hset] at h1 h2
    by_cases e1 : r = q <;> by_cases e2 : r = q'
    · rw [← e1, ← e2]
    · rw [if_neg e2] at h2
      subst e1
      exact hR.inj r q' row row2 b1 c1 c2 hrow h2 h3 h4
    · rw [if_neg e1] at h1
      subst e2
      exact hR.inj q r row1 row b1 c1 c2 h1 hrow h3 h4
    · rw [if_neg e1] at h1
      rw [if_neg e2] at h2
      exact hR.inj q q' row1 row2 b1 c1 c2 h1 h2 h3 h4
  · simp only at h1
    rw [hget_hset] at h1
    by_cases e1 : r = q
    · subst e1; exact hR.own r row b1 c1 hrow h2
    · rw [if_neg e1] at h1; exact hR.own q row1 b1 c1 h1 h2
  · rw [setRow_other (fun e => ?_)]
    · exact hR.keep b1 hlt hlb
    · subst e
      rcases hR.own r row b1 c hrow hl with h5 | h5
      · omega
      · exact hlb h5
end
mutual
/-- No name of the row beyond this length. -/
def okT (r k : Nat) : AV → Bool
  | .o q n => decide (q ≠ r) || decide (n ≤ k)
  | .fn _ l => okTL r k l
  | .agg l => okTL r k l
  | .tup l => okTL r k l
  | _ => true
def okTL (r k : Nat) : List AV → Bool
  | [] => true
  | x :: l => okT r k x && okTL r k l
end
theorem okTL_mem {r k : Nat} : ∀ {l : List AV}, okTL r k l = true → ∀ x ∈ l, okT r k x = true
  | [], _, x, hx => by cases hx
  | y :: l, h, x, hx => by
    simp only [okTL, Bool.and_eq_true] at h
    rcases List.mem_cons.1 hx with rfl | hx
    · exact h.1
    · exact okTL_mem h.2 x hx
theorem G.trunc {h : Hp} {loc : Loc} {w : World} {r k : Nat} {row row' : Row} {x : AV} {u : Value} (hg : G h loc w x u) (hr : hget h r = some row) (hz : row'.sz = row.sz) (hk : row'.es.length = k) (hok : okT r k x = true)
    (hC : ∀ x u, C (Live h loc) 0 w x u → C (Live (hset h r row') loc) 0 w x u) : G (hset h r row') loc w x u := by
  induction hg with
  | cl hc => exact .cl (hC _ _ hc)
  | @o q n row1 b c hr1 hl1 hn =>
    by_cases hq : q = r
    · subst hq
      simp only [okT, ne_eq, not_true_eq_false, decide_false, Bool.false_or, decide_eq_true_eq] at hok
      exact .o (row := row') (by rw [hget_hset, if_pos rfl]) hl1 (by omega)
    · exact .o (by rw [hget_hset, if_neg (fun e => hq e.symm)]; exact hr1) hl1 hn
  | @onil q row1 hr1 hl1 =>
    by_cases hq : q = r
    · subst hq
      exact .onil (row := row') (by rw [hget_hset, if_pos rfl]) hl1
    · exact .onil (by rw [hget_hset, if_neg (fun e => hq e.symm)]; exact hr1) hl1
  | @p q k1 off row1 b c hr1 hl1 =>
    by_cases hq : q = r
    · subst hq
      rw [hr] at hr1
      cases hr1
      rw [← hz]
      exact .p (row := row') (by rw [hget_hset, if_pos rfl]) hl1
    · exact .p (by rw [hget_hset, if_neg (fun e => hq e.symm)]; exact hr1) hl1
  | @q q lo z n row1 b c A c' hr1 hl1 hn =>
    by_cases hq : q = r
    · subst hq
      exact .q (row := row') (by rw [hget_hset, if_pos rfl]) hl1 hn
    · exact .q (by rw [hget_hset, if_neg (fun e => hq e.symm)]; exact hr1) hl1 hn
  | fn vs hs hg ih => exact .fn vs hs fun j a ha => ih j a ha (okTL_mem (by simpa [okT] using hok) a (List.mem_of_getElem? ha))
  | agg vs hs hg ih => exact .agg vs hs fun j a ha => ih j a ha (okTL_mem (by simpa [okT] using hok) a (List.mem_of_getElem? ha))
  | tup vs hs hg ih => exact .tup vs hs fun j a ha => ih j a ha (okTL_mem (by simpa [okT] using hok) a (List.mem_of_getElem? ha))
/-- A row cut to its beginning. -/
theorem wk_trunc {s : AS} (r k : Nat) {row : Row} (hr : hget s.h r = some row) (hk : k ≤ row.es.length) (hcl : (s.h.all fun x => x.2.cl) = true) : Wk s ⟨s.t.map (fun x => if okT r k x then x else .any), hset s.h r ⟨row.E, row.sz, row.es.take k, true⟩⟩ := by
  intro w0 lent loc a w hR
  have hclq : ∀ q row1, hget s.h q = some row1 → row1.cl = true := by
    intro q row1 hq
    have : ∀ (h : Hp), (h.all fun x => x.2.cl) = true → hget h q = some row1 → row1.cl = true := by
      intro h
      induction h with
      | nil => intro _ h2; cases h2
      | cons y l ih =>
        obtain ⟨k1, r1⟩ := y
        intro h1 h2
        simp only [List.all_cons, Bool.and_eq_true] at h1
        simp only [hget] at h2
        split at h2
        · cases h2; exact h1.1
        · exact ih h1.2 h2
    exact this s.h hcl hq
  have hlive : ∀ b', Live (hset s.h r ⟨row.E, row.sz, row.es.take k, true⟩) loc b' → Live s.h loc b' := by
    rintro b' (⟨q, row1, c1, h1, h2⟩ | hfb)
    · rw [hget_hset] at h1
      by_cases hrq : r = q
      · subst hrq; exact .inl ⟨r, row, c1, hr, h2⟩
      · rw [if_neg hrq] at h1; exact .inl ⟨q, row1, c1, h1, h2⟩
    · exact .inr hfb
  have hC : ∀ x u, C (Live s.h loc) 0 w x u → C (Live (hset s.h r ⟨row.E, row.sz, row.es.take k, true⟩) loc) 0 w x u := fun x u hx =>
    hx.mono (Nat.le_refl _) (Nat.le_refl _) fun b' _ _ hnl => ⟨fun h => hnl (hlive b' h), rfl⟩
  refine ⟨loc, by simpa using hR.tsz, fun i x hx => ?_, hR.df, fun q row1 hq => ?_, fun q q' row1 row2 b1 c1 c2 h1 h2 h3 h4 => ?_, fun q row1 b1 c1 h1 h2 => ?_, hR.os, hR.tape, hR.output, hR.size, hR.keep, hR.fbe, hR.fbl, hR.pn, hR.pl⟩
  · simp only [List.getElem?_map] at hx
    obtain ⟨y, hy, rfl⟩ := Option.map_eq_some_iff.1 hx
    by_cases ho : okT r k y = true
    · rw [if_pos ho]
      exact (hR.tm i y hy).trunc hr rfl (by simp; omega) ho hC
    · rw [if_neg ho]
      exact .cl .any
  · simp only at hq
    rw [hget_hset] at hq
    have key : ∀ q row1, hget s.h q = some row1 → ∀ m, m ≤ row1.es.length → RowOk (hset s.h r ⟨row.E, row.sz, row.es.take k, true⟩) loc w q ⟨row1.E, row1.sz, row1.es.take m, true⟩ := by
      intro q row1 hq m hm
      have hok := hR.rw q row1 hq
      have hc1 := hclq q row1 hq
      cases hl : loc q with
      | some p =>
        obtain ⟨b, c⟩ := p
        obtain ⟨h1, hn, hcm, cur, hh, hs, hcs⟩ := hok.open hl
        refine RowOk.mk' (b := b) (c := c) (cur := cur) hl (fun k' e he => ?_) (by simp; omega) hcm hh hs fun k' e j x he hx => ?_
        · simp only [List.getElem?_take] at he
          split at he
          · exact h1 k' e he
          · cases he
        · simp only [List.getElem?_take] at he
          split at he
          · obtain ⟨u, g1, g2, g3, g4⟩ := hcs k' e j x he hx
            exact ⟨u, g1, g2, .cl (hC _ _ (g4 hc1)), fun _ => hC _ _ (g4 hc1)⟩
          · cases he
      | none =>
        obtain ⟨h1, xs, hown, hcs⟩ := hok
        have h0 : row1.es.length = 0 := by
          simp only [rowVal, hl] at hown
          rcases hown.2 with h9 | ⟨g, cap, cur, e1, _⟩
          · exact h9.2
          · injection e1 with e2 _ _; cases e2
        have he : row1.es = [] := List.eq_nil_of_length_eq_zero h0
        refine ⟨by simp [he], xs, ?_, by simp [he]⟩
        simp only [rowVal, hl, he, List.take_nil, List.length_nil] at hown ⊢
        exact hown
    by_cases hrq : r = q
    · subst hrq
      rw [if_pos rfl] at hq
      cases hq
      exact key r row hr k hk
    · rw [if_neg hrq] at hq
      have := key q row1 hq row1.es.length (Nat.le_refl _)
      rw [List.take_length] at this
      have hc1 := hclq q row1 hq
      obtain ⟨E1, sz1, es1, cl1⟩ := row1
      simp only at hc1 this
      subst hc1
      exact this
  · simp only at h1 h2
    rw [hget_hset] at h1 h2
    by_cases e1 : r = q <;> by_cases e2 : r = q'
    · rw [← e1, ← e2]
    · rw [if_neg e2] at h2
      subst e1
      exact hR.inj r q' row row2 b1 c1 c2 hr h2 h3 h4
    · rw [if_neg e1] at h1
      subst e2
      exact hR.inj q r row1 row b1 c1 c2 h1 hr h3 h4
    · rw [if_neg e1] at h1
      rw [if_neg e2] at h2
      exact hR.inj q q' row1 row2 b1 c1 c2 h1 h2 h3 h4
  · simp only at h1
    rw [hget_hset] at h1
    by_cases e1 : r = q
    · subst e1; exact hR.own r row b1 c1 hr h2
    · rw [if_neg e1] at h1; exact hR.own q row1 b1 c1 h1 h2
end Go.Proofs.YtccifbbjbnjcfaaGreatDoor
/-
  The abstract machine: a slice's tail is cleared; slices.DeleteFunc at nodes.
-/
namespace Go.Proofs.YtccifbbjbnjcfaaGreatDoor
open Go Go.RowKit Go.Proofs

theorem run_clear_k {P : Program} (w : World) (t e ty : TypeId) (z : Value) (k : Nat) (ht : P.underlying t = some (.slice e)) (hv : (zeroValue e).run P w = .ok z w) (hz : z.cells.size = k) (h1 : ∀ v ∈ z.cells, v.oneCell' = true) (b o n c : Nat) (cur : Array Value) (E : TypeId)
    (hh : w.heap[b]? = some (.cells cur E (0, 0))) (hfit : o + n * k ≤ cur.size) :
    ∃ vs : List Value, vs.length = n * k ∧ (∀ v ∈ vs, v.oneCell' = true) ∧ (Builtin.clear_ #[t] ty #[.slice (some ⟨b, o, none⟩) n c]).run P w = .ok (.tuple #[]) (w.setRow b (cur.toList.take o ++ vs ++ cur.toList.drop (o + vs.length)).toArray) := by
  have hl : (Builtin.zeroCells z.cells n).toList.length = n * k := by simp [Builtin.zeroCells, hz]
  have h1' : ∀ v ∈ (Builtin.zeroCells z.cells n).toList, v.oneCell' = true := by
    intro v hv'
    simp only [Builtin.zeroCells, Array.toList_map, List.mem_map, Array.mem_toList_iff, Array.mem_range] at hv'
    obtain ⟨i, hi, rfl⟩ := hv'
    have hpos : 0 < z.cells.size := by
      rcases Nat.eq_zero_or_pos z.cells.size with h | h
      · rw [h] at hi; omega
      · exact h
    have hlt := Nat.mod_lt i hpos
    rw [getElem!_pos z.cells (i % z.cells.size) hlt]
    exact h1 _ (Array.getElem_mem hlt)
  refine ⟨(Builtin.zeroCells z.cells n).toList, hl, h1', ?_⟩
  have hst := run_storeCells_at P b o E (Builtin.zeroCells z.cells n).toList 0 cur w hh (by rw [hl]; omega) h1'
  simp only [Nat.add_zero] at hst
  cases n with
  | zero =>
    have h0 : (Builtin.zeroCells z.cells 0).toList = [] := List.eq_nil_of_length_eq_zero (by rw [hl]; omega)
    rw [h0]
    simp only [List.append_nil, List.length_nil, Nat.add_zero, List.take_append_drop, Array.toArray_toList]
    rw [setRow_self w b cur E (0, 0) hh]
    simp [Builtin.clear_, run_underlying ht]
  | succ n => simp [Builtin.clear_, run_underlying ht, hv, hst]
section
variable {P : Program} {w0 : World} {lent : Lent} {Q : Exit → Act → World → Prop}
theorem wp_clear_k (w : World) {o : Oper} {a : Act} {K : Act → World → Prop} {Q : Exit → Act → World → Prop} (d : Operand) (t : TypeId)
    (ho : o.op = .call { callee := .builtin .clear, args := #[d], argTypes := #[t] }) (v : Value) (hd : a.eval d = v) {v' : Value} {w' : World}
    (hr : (Builtin.clear_ #[t] o.type #[v]).run P w = .ok v' w') (h : K (a.put o.dst v') w') : o.wp P a w K Q := by
  unfold Oper.wp execOp
  simp only [ho, resolve, invoke, builtin, Sem.run_bind, Sem.run_pure, Result.andThen_ok, List.map_toArray, List.map_cons, List.map_nil, hd, hr]
  exact h
/-- The tail of a row is cleared. -/
theorem aw_slclear {k : List It} {s : AS} {d tS : Tmp} {t e ty ty2 : TypeId} {lo : Operand} {l : List SO} {r n i : Nat} {row : Row} {te tt : Ty} (hx : getA s.t tS = .o r n) (hlo : evA s.t lo = .v (.int .i64 i)) (hd : d < s.t.length) (hrow : hget s.h r = some row) (hn : n = row.es.length) (hi : i < n)
    (ht : tyOf P t = some tt) (htt : tt.desc = .slice e) (hte : tyOf P e = some te) (hz : te.zero.length = te.size) (hz1 : te.zero.all (·.oneCell') = true) (hsz : row.sz = te.size) (hcl : row.cl = true) (hzv : ∀ w, ∃ z, (zeroValue e).run P w = .ok z w ∧ z.cells.toList = te.zero)
    (h : AW P w0 lent Q (.ops l :: k) ⟨setA s.t d .any, hset s.h r ⟨row.E, row.sz, row.es.take i ++ List.replicate (n - i) (List.replicate row.sz .any), true⟩⟩) :
    AW P w0 lent Q (.ops (⟨some d, .slice t (.tmp tS) (some lo) none none, ty, none⟩ :: ⟨none, .call ⟨.builtin .clear, #[.tmp d], #[t]⟩, ty2, none⟩ :: l) :: k) s := by
  intro loc a w hR
  have gx := evA_ok hR (.tmp tS)
  rw [show evA s.t (.tmp tS) = .o r n from hx] at gx
  have gl := evA_ok hR lo
  rw [hlo] at gl
  have gl := gl.v_inv
  obtain ⟨_, dd, _, _, hud, _, _, _, hdd, _⟩ := tyOf_spec ht
  have hud := tdOf_slice (hdd.trans htt) ▸ hud
  obtain ⟨i2, d2, z2, hi2, _, _, hs2, _⟩ := tyOf_spec hte
  obtain ⟨row', b, c, hr', hl, hv⟩ := gx.o_inv (by omega)
  rw [hrow] at hr'
  cases hr'
  obtain ⟨hlen, hnc, hcm, cur, hh, hs, hcs⟩ := (hR.rw r row hrow).open hl
  have hci : ¬ (c = i) := by omega
  have hsv : (Instr.sliceAt t (.slice (some ⟨b, 0, none⟩) n c) (some (.int .i64 i)) none none).run P w = .ok (.slice (some ⟨b, i * i2.size, none⟩) (n - i) (c - i)) w := by
    have := bdA_ok (P := P) (h := s.h) (loc := loc) (w := w) (lo := some (.v (.int .i64 i))) (hi := none) (lo' := some (.int .i64 i)) (hi' := none) (len := n) (l := i) (r := n) (isS := true) (cap := c) (fun x hx => by cases hx; exact ⟨_, rfl, .cl .v⟩) (fun h => by cases h) (fun x hx => by cases hx) (fun _ => rfl) (by omega) (by
      show (if 0 ≤ (i : Int) ∧ (i : Int) ≤ n then some ((i : Int).toNat, n) else none) = some (i, n)
      rw [if_pos ⟨by omega, by omega⟩]
      simp)
    simp [Instr.sliceAt, Instr.slice, run_underlying hud, this, sizeOf, typeInfo, hi2, hci, Addr.add]
    intro h9
    exact h9.symm
  obtain ⟨z, hz0, hz2⟩ := hzv w
  have hzs : z.cells.size = row.sz := by rw [hsz, ← hz, ← hz2, Array.length_toList]
  have hz3 : ∀ v ∈ z.cells, v.oneCell' = true := fun v hv => by
    have : v ∈ te.zero := by rw [← hz2]; simpa using hv
    exact List.all_eq_true.1 hz1 v this
  have hmul : i * row.sz + (n - i) * row.sz ≤ c * row.sz := by
    rw [← Nat.add_mul]
    exact Nat.mul_le_mul_right _ (by omega)
  obtain ⟨vs, hvl, hv1, hclr⟩ := run_clear_k (P := P) w t e ty2 z row.sz hud hz0 hzs hz3 b (i * row.sz) (n - i) (c - i) cur row.E hh (by rw [hs]; exact hmul)
  have hR1 := hR.put (some d) (u := .slice (some ⟨b, i * i2.size, none⟩) (n - i) (c - i)) (x := .any) (.cl .any)
  have htd : d < a.tmps.size := by rw [hR.tsz]; exact hd
  show wpSO P (Kt P w0 lent Q k) _ a w
  unfold wpSO
  simp only
  unfold Oper.wp
  have hex : (execOp a.eval (SO.oper ⟨some d, .slice t (.tmp tS) (some lo) none none, ty, none⟩)).run P w = .ok (.value (.slice (some ⟨b, i * i2.size, none⟩) (n - i) (c - i))) w := by
    show ((do pure (.value (← Instr.sliceAt t (a.eval (.tmp tS)) (some (a.eval lo)) none none)) : Sem Next)).run P w = _
    rw [hv, gl]
    simp [hsv, Result.andThen]
  rw [hex]
  show wpSO P (Kt P w0 lent Q k) _ (a.put (some d) _) w
  unfold wpSO
  simp only
  refine wp_clear_k w (.tmp d) t rfl (.slice (some ⟨b, i * row.sz, none⟩) (n - i) (c - i)) (by rw [hsz, ← hs2]; simp [Act.eval, Act.put, htd]) hclr ?_
  refine h loc _ _ ?_
  show Rel w0 lent _ loc (a.put (some d) _) _
  refine (hR1.setRow (es' := row.es.take i ++ List.replicate (n - i) (List.replicate row.sz .any)) (cl' := true) hrow hl hh ?_ ?_ ?_ ?_ hcm ?_)
  · simp only [List.size_toArray, List.length_append, List.length_take, List.length_drop, Array.length_toList, hvl, hs]
    omega
  · intro k' e' he'
    rw [List.getElem?_append] at he'
    split at he'
    · rw [List.getElem?_take] at he'
      split at he'
      · exact hlen k' e' he'
      · cases he'
    · rw [List.getElem?_replicate] at he'
      split at he'
      · cases he'; simp
      · cases he'
  · simp; omega
  · simp; omega
  · intro k' e' j x he' hx'
    have hsp := spl_val cur (i * row.sz) vs (k' * row.sz + j) (by rw [hvl, hs]; exact hmul)
    simp only [hsp]
    rw [List.getElem?_append] at he'
    split at he'
    · rename_i hk'
      rw [List.length_take] at hk'
      rw [List.getElem?_take, if_pos (by omega)] at he'
      obtain ⟨u, q1, q2, q3, q4⟩ := hcs k' e' j x he' hx'
      have hj := lt_of_some hx'
      rw [hlen k' e' he'] at hj
      refine ⟨u, ?_, q2, q3, fun _ => q4 hcl⟩
      have := ix_lt (sz := row.sz) (show k' < i by omega) hj
      rw [if_neg (by omega)]
      exact q1
    · rename_i hk'
      rw [List.length_take] at hk'
      rw [List.getElem?_replicate] at he'
      split at he'
      · rename_i hk2
        rw [List.length_take] at hk2
        cases he'
        rw [List.getElem?_replicate] at hx'
        split at hx'
        · rename_i hj
          cases hx'
          have e1 : i * row.sz ≤ k' * row.sz := Nat.mul_le_mul_right _ (by omega)
          have e2 := ix_lt (sz := row.sz) (show k' < n by omega) hj
          have e3 : n * row.sz = i * row.sz + (n - i) * row.sz := by rw [← Nat.add_mul]; congr 1; omega
          have hlt : k' * row.sz + j - i * row.sz < vs.length := by rw [hvl]; omega
          refine ⟨vs[k' * row.sz + j - i * row.sz], ?_, hv1 _ (List.getElem_mem hlt), .cl .any, fun _ => .any⟩
          rw [if_pos ⟨by omega, by omega⟩, List.getElem?_eq_getElem hlt]
        · cases hx'
      · cases he'
end
end Go.Proofs.YtccifbbjbnjcfaaGreatDoor
/-
  Walks: slices.DeleteFunc at nodes.
-/
namespace Go.Proofs.YtccifbbjbnjcfaaGreatDoor
open Go Go.RowKit Go.Proofs
theorem run_0 {P : Program} {k : List It} {s : AS} : run P 0 k s = .more k s := rfl
attribute [local irreducible] RWp AW run kPe pe Kt effA gd gu br retR RDp runD kPeD brW gW effD
set_option maxRecDepth 100000

/-- Some rows, read as data from here on. -/
def hasN : List Nat → Nat → Bool
  | [], _ => false
  | a :: l, r => if a = r then true else hasN l r
def delL : Hp → List Nat → Hp
  | h, [] => h
  | h, r :: l => delL (hdel h r) l
def frzT (ids : List Nat) (h : Hp) (x : AV) : AV := if (idsA x).all (fun r => !hasN ids r) = true then x else viewN 3 h x
theorem go_on_n {P : Program} {w0 : World} {lent : Lent} {Q : Exit → Act → World → Prop} {k : List It} {s : AS} (m : Nat) (h : RWp P w0 lent Q (run P m k s)) : AW P w0 lent Q k s := run_sound m k s h
theorem closed_renL {mv : Nat → Bool} : ∀ {l : List AV}, l.all isC = true → l.map (renL mv) = l
  | [], _ => rfl
  | x :: l, hl => by
    simp only [List.all_cons, Bool.and_eq_true] at hl
    rw [List.map_cons, closed_renL hl.2]
    congr 1
    cases x <;> simp only [isC] at hl <;> first | exact absurd hl.1 Bool.false_ne_true | simp only [renL]
theorem idxF_take {α : Type} (p : α → Bool) : ∀ (l : List α) (k j : Nat), idxF p k l = ((k + j : Nat) : Int) → (l.take j).filter (fun n => !p n) = l.take j
  | [], k, j, h => by simp
  | a :: l, k, 0, h => by simp
  | a :: l, k, j + 1, h => by
    by_cases hp : p a = true
    · simp only [idxF, hp, if_true] at h
      omega
    · have hp : p a = false := by simpa using hp
      have h' : idxF p (k + 1) l = ((k + 1 + j : Nat) : Int) := by
        rw [show idxF p k (a :: l) = idxF p (k + 1) l by simp [idxF, hp]] at h
        rw [h]; congr 1; omega
      simp [hp, idxF_take p l (k + 1) j h']
end Go.Proofs.YtccifbbjbnjcfaaGreatDoor
/-
  Walks: impl.TreeValid.
-/
namespace Go.Proofs.YtccifbbjbnjcfaaGreatDoor
open Go Go.RowKit Go.Proofs
attribute [local irreducible] RWp AW run kPe pe Kt effA gd gu br retR RDp runD kPeD brW gW effD
set_option maxRecDepth 100000

/-- Short enough for any machine. -/
structure SmT (l : List Nd) : Prop where
  n : l.length < 4294967281
  p : ∀ n ∈ l, n.p.length < 4294967281
end Go.Proofs.YtccifbbjbnjcfaaGreatDoor
/-
  Walks: impl.put, impl.TreePut.
-/
namespace Go.Proofs.YtccifbbjbnjcfaaGreatDoor
open Go Go.RowKit Go.Proofs
attribute [local irreducible] RWp AW run kPe pe Kt effA gd gu br retR RDp runD kPeD brW gW effD
set_option maxRecDepth 100000

end Go.Proofs.YtccifbbjbnjcfaaGreatDoor
/-
  Walks: impl.TreePut, commands.
-/
namespace Go.Proofs.YtccifbbjbnjcfaaGreatDoor
open Go Go.RowKit Go.Proofs
def dropT (ids : List Nat) (x : AV) : AV := if (idsA x).all (fun r => !hasN ids r) = true then x else .any
def dropS (ids : List Nat) (s : AS) : AS := ⟨s.t.map (dropT ids), delL s.h ids⟩
theorem at_dropS {P : Program} {w0 : World} {lent : Lent} {Q : Exit → Act → World → Prop} {k : List It} {s : AS} (ids : List Nat) (h : Wk s (dropS ids s)) (h' : AW P w0 lent Q k (dropS ids s)) : AW P w0 lent Q k s := AW.wk h h'
attribute [local irreducible] RWp AW run kPe pe Kt effA gd gu br retR RDp runD kPeD brW gW effD
set_option maxRecDepth 100000

theorem ctg : Tryz.prog.eqGuardType Tryz.prog.depth 33 = false := by kernel_rfl
theorem cth : Tryz.prog.stoodInHeld 33 = false := by kernel_rfl
theorem ct_eq (a b : Ct) : (eqI a.k b.k && eqI a.v b.v) = decide (a = b) := by
  obtain ⟨a1, a2⟩ := a
  obtain ⟨b1, b2⟩ := b
  simp [eqI_d]
theorem CommandValid_pc (c : Cm) (hp : c.p.length < 4294967281) : PC Tryz.prog 44 [cmdA c] (vB (cmV c)) := by
  unfold cmdA cmC
  have hc : cmV c = (pV c.p && !decide (c.p = [47]) && ctV c.a && ctV c.b && !decide (c.a = c.b)) := by unfold cmV root; simp
  refine pc_enter Tryz.func44 rfl rfl fun w0 fb => go_on ?_; (try simp only [Tryz.ntmps44, push_cast, simprocAttr])
  repeat' first | (refine at_b (fun hb => ?_) (fun hb => ?_) <;> simp only [ctg, cth, hb, push_cast, simprocAttr]) | (refine at_ret ?_; simp only [ctg, cth, Tryz.results44, push_cast, simprocAttr]) | (refine at_call ?_; (try simp only [push_cast, simprocAttr]); refine rwc_v (by first | exact PathValid_pc c.p hp | exact ContentValid_pc c.a | exact ContentValid_pc c.b) (go_on ?_); simp only [ctg, cth, push_cast, simprocAttr]) | (show RWp _ _ _ _ _; simp only [ctg, cth, push_cast, simprocAttr])
  all_goals simp [vX, hc, ct_eq, *]
  all_goals simp [*] at *
def apB2 (l : List Nd) (c : Cm) : List Nd × Bool := match apC l c with | some t => (t, true) | none => (l, false)
end Go.Proofs.YtccifbbjbnjcfaaGreatDoor
/-
  Walks: logs; impl.SiteValid.
-/
namespace Go.Proofs.YtccifbbjbnjcfaaGreatDoor
open Go Go.RowKit Go.Proofs
theorem at_share2 {P : Program} {w0 : World} {lent : Lent} {Q : Exit → Act → World → Prop} {f : FuncId} {args : List AV} {dst : Option Tmp} {k : List It} {s : AS} {x : AV} (hc : args.all isC2 = true) (hx : ren (baseOf dst) x = x)
    (hpc : PC P f args (vX x)) (hk : AW P w0 lent Q k (s.put dst x)) : RWp P w0 lent Q (.call f args dst k s) := by
  intro loc a w hR vs hs hg
  refine ⟨hpc.1 vs w, (hpc.2 w (Live s.h loc) vs (fun b hb => ?_) hs fun j y hy => ?_).mono ?_⟩
  · rcases hb with hb | hb
    · exact Live.lt hR.rw hb
    · rw [hR.fbe] at hb
      exact Nat.lt_of_lt_of_le (hR.fbl b hb).1 hR.size
  · exact isC2_ok (hg j y hy) (List.all_eq_true.1 hc y (List.mem_of_getElem? hy))
  · rintro e w' ⟨rv, rows, v, ⟨rfl, rfl⟩, rfl, hb, hres⟩
    obtain ⟨loc', hR', hv⟩ := Rel.join true (baseOf dst) hR hb hres (frB_0 _ _) (fun _ q hq => hq) (.inl rfl)
    rw [hx] at hv
    simp only [hpOf, List.append_nil] at hR' hv
    exact ⟨v, rfl, hk loc' _ w' (hR'.put dst hv)⟩
attribute [local irreducible] RWp AW run kPe pe Kt effA gd gu br retR RDp runD kPeD brW gW effD
set_option maxRecDepth 100000

/-- Short enough for any machine. -/
structure SmL (l : List Cm) : Prop where
  n : l.length < 4294967280
  p : ∀ c ∈ l, c.p.length < 4294967281
structure SmT2 (l : List Nd) : Prop where
  s : SmT l
  n : l.length < 4294967280
theorem sm_tv {l : List Nd} (h : TV l) : SmT2 l := by
  have hl := h.le
  refine ⟨⟨by omega, fun n hn => ?_⟩, by omega⟩
  obtain ⟨h1, h2, _⟩ := h.nd n hn
  have := (pV_len h1 h2).2
  omega
theorem IndexFuncC_pc (l : List Cm) (hl : l.length < 4294967281) (g : FuncId) (caps : List AV) (hc : caps.all isC = true) (p : Cm → Bool) (hp : ∀ n ∈ l, PC Tryz.prog g (cmdA n :: caps) (vB (p n))) :
    PC Tryz.prog 166 [cmA l, .fn g caps] (vI (idxF p 0 l)) := by
  refine pc_enter Tryz.func166 rfl rfl fun w0 fb => go_on ?_; (try simp only [Tryz.ntmps166, push_cast, simprocAttr])
  refine at_loop (X := Nat) (fun k => [(8, iA k)]) (fun _ => []) (fun k => k ≤ l.length ∧ idxF p 0 l = idxF p k (l.drop k)) (fun k => l.length - k) 0 ⟨Nat.zero_le _, rfl⟩ ?_ ?_
  · (refine wk_ok ?_ ?_ ?_ ?_ <;> simp [closed_ids hc, leL, leH, idsL, idsA, idsR, inH, hget, sameRow, upA, hvA, dsts, dstO, setA_0, setA_1, setA_8, List.append, List.cons_append, List.nil_append])
  · rintro k ⟨h1, h2⟩
    simp only [upA, hvA, dsts, dstO, setA_0, setA_1, setA_8, List.append, List.cons_append, List.nil_append]
    refine go_on ?_
    (try simp only [push_cast, simprocAttr])
    refine at_b (fun hg => ?_) (fun hg => ?_)
    · have hlt := lt_tt hg
      obtain ⟨x, hk⟩ := get_of_lt hlt
      have i1 := ix_n hk
      have i2 := map_get cmC hk
      simp only [cmC] at i2
      rw [drop_of_get hk] at h2
      (try simp only [hg, i1, i2, push_cast, simprocAttr])
      have hx := hp x (mem_of_get hk)
      refine at_call ?_
      simp only [List.map_cons, closed_view hc]
      (try simp only [push_cast, simprocAttr])
      refine rwc_v hx (go_on ?_)
      (try simp only [push_cast, simprocAttr])
      refine at_b (fun hn => ?_) (fun hn => ?_)
      · (try simp only [hn, push_cast, simprocAttr])
        refine at_ret ?_; simp only [Tryz.results166, push_cast, simprocAttr]
        simp [vX, h2, idxF, hn]
      · have w1 := wr ((k : Int) + 1) (by omega)
        (try simp only [hn, w1, push_cast, simprocAttr])
        refine at_fin ⟨k + 1, ⟨by omega, ?_⟩, by omega, ?_⟩
        · rw [h2]; simp [idxF, hn]
        · (refine wk_ok ?_ ?_ ?_ ?_ <;> simp [closed_ids hc, leL, leH, idsL, idsA, idsR, inH, hget, sameRow, upA, hvA, dsts, dstO, setA_0, setA_1, setA_8, List.append, List.cons_append, List.nil_append])
    · have h3 := lt_ff hg
      (try simp only [hg, push_cast, simprocAttr])
      refine at_ret ?_; simp only [Tryz.results166, push_cast, simprocAttr]
      rw [List.drop_of_length_le h3] at h2
      simp [vX, h2, idxF]
theorem ContainsFuncC_pc (l : List Cm) (hl : l.length < 4294967281) (g : FuncId) (caps : List AV) (hc : caps.all isC = true) (p : Cm → Bool) (hp : ∀ n ∈ l, PC Tryz.prog g (cmdA n :: caps) (vB (p n))) :
    PC Tryz.prog 148 [cmA l, .fn g caps] (vB (l.any p)) := by
  refine pc_enter Tryz.func148 rfl rfl fun w0 fb => go_on ?_; (try simp only [Tryz.ntmps148, push_cast, simprocAttr])
  refine at_call ?_
  simp only [List.map_cons, List.map_nil, view_fn 2, closed_view hc]
  (try simp only [push_cast, simprocAttr])
  refine rwc_v (IndexFuncC_pc l hl g caps hc p hp) (go_on ?_)
  (try simp only [push_cast, simprocAttr])
  refine at_ret ?_; simp only [Tryz.results148, push_cast, simprocAttr]
  simp [vX, idxF_any]
theorem allValid1_pc (c : Cm) (hp : c.p.length < 4294967281) : PC Tryz.prog 149 [cmdA c] (vB (!cmV c)) := by
  have h := CommandValid_pc c hp
  unfold cmdA cmC at *
  refine pc_enter Tryz.func149 rfl rfl fun w0 fb => go_on ?_; (try simp only [Tryz.ntmps149, push_cast, simprocAttr])
  (refine at_call ?_; (try simp only [push_cast, simprocAttr]); refine rwc_v (h) (go_on ?_); (try simp only [push_cast, simprocAttr]))
  refine at_ret ?_; simp only [Tryz.results149, push_cast, simprocAttr]
  simp [vX]
theorem allValid_pc (l : List Cm) (hs : SmL l) : PC Tryz.prog 140 [cmA l] (vB (l.all cmV)) := by
  have hC := ContainsFuncC_pc l (by have := hs.n; omega) 149 [] rfl (fun c => !cmV c) (fun c hc => allValid1_pc c (hs.p c hc))
  refine pc_enter Tryz.func140 rfl rfl fun w0 fb => go_on ?_; (try simp only [Tryz.ntmps140, push_cast, simprocAttr])
  (refine at_call ?_; (try simp only [push_cast, simprocAttr]); refine rwc_v (hC) (go_on ?_); (try simp only [push_cast, simprocAttr]))
  refine at_ret ?_; simp only [Tryz.results140, push_cast, simprocAttr]
  have : (!l.any fun c => !cmV c) = l.all cmV := by rw [← List.all_eq_not_any_not]
  simp [vX, this]
theorem LogValid_pc (l : List Cm) (hs : SmL l) : PC Tryz.prog 124 [cmA l] (vB (lV l)) := by
  refine pc_enter Tryz.func124 rfl rfl fun w0 fb => go_on ?_; (try simp only [Tryz.ntmps124, push_cast, simprocAttr])
  repeat' first | (refine at_b (fun hb => ?_) (fun hb => ?_) <;> simp only [hb, push_cast, simprocAttr]) | (refine at_ret ?_; simp only [Tryz.results124, push_cast, simprocAttr]) | (refine at_call ?_; (try simp only [push_cast, simprocAttr]); refine rwc_v (by first | exact allValid_pc l hs) (go_on ?_); simp only [push_cast, simprocAttr]) | (show RWp _ _ _ _ _; simp only [push_cast, simprocAttr])
  · have h6 : decide (l.length ≤ 20) = true := by have := of_leI_t hb; simp; omega
    simp [vX, lV, h6]
  · have h6 : decide (l.length ≤ 20) = false := by have := of_leI_f hb; simp; omega
    simp [vX, lV, h6]
structure SmS (s : St) : Prop where
  t : SmT2 s.base
  l : SmL s.log
theorem isEpoch_pc (n : Int) : PC Tryz.prog 95 [iA n] (vB (inR n 0 99)) := by
  refine pc_enter Tryz.func95 rfl rfl fun w0 fb => go_on ?_; (try simp only [Tryz.ntmps95, push_cast, simprocAttr])
  (refine at_call ?_; (try simp only [push_cast, simprocAttr]); refine rwc_v (in_pc _ _ _) (go_on ?_); (try simp only [push_cast, simprocAttr]))
  refine at_ret ?_; simp only [Tryz.results95, push_cast, simprocAttr]
  simp [vX]
end Go.Proofs.YtccifbbjbnjcfaaGreatDoor
/-
  Walks: the reference's trees.
-/
namespace Go.Proofs.YtccifbbjbnjcfaaGreatDoor
open Go Go.RowKit Go.Proofs
attribute [local irreducible] RWp AW run kPe pe Kt effA gd gu br retR RDp runD kPeD brW gW effD
set_option maxRecDepth 100000

end Go.Proofs.YtccifbbjbnjcfaaGreatDoor
/-
  Walks: the reference's TreeValid.
-/
namespace Go.Proofs.YtccifbbjbnjcfaaGreatDoor
open Go Go.RowKit Go.Proofs
attribute [local irreducible] RWp AW run kPe pe Kt effA gd gu br retR RDp runD kPeD brW gW effD
set_option maxRecDepth 100000
end Go.Proofs.YtccifbbjbnjcfaaGreatDoor
/-
  Walks: the reference's commands and logs.
-/
namespace Go.Proofs.YtccifbbjbnjcfaaGreatDoor
open Go Go.RowKit Go.Proofs
attribute [local irreducible] RWp AW run kPe pe Kt effA gd gu br retR RDp runD kPeD brW gW effD
set_option maxRecDepth 100000

theorem depth_gt (s : Str) : ltI 0 (depth s) = (pV s && !decide (s = [47])) := by
  have h := depth_pos s
  unfold ltI
  rw [h]
  by_cases hr : s = [47] <;> simp [hr, root]
theorem specCommandValid_pc (c : Cm) (hp : c.p.length < 4294967281) : PC Tryz.prog 35 [cmdA c] (vB (cmV c)) := by
  unfold cmdA cmC
  have hc : cmV c = ((pV c.p && !decide (c.p = [47])) && ctV c.a && ctV c.b && !decide (c.a = c.b)) := by unfold cmV root; simp
  refine pc_enter Tryz.func35 rfl rfl fun w0 fb => go_on ?_; (try simp only [Tryz.ntmps35, push_cast, simprocAttr])
  repeat' first | (refine at_b (fun hb => ?_) (fun hb => ?_) <;> simp only [ctg, cth, depth_gt, hb, push_cast, simprocAttr]) | (refine at_ret ?_; simp only [ctg, cth, depth_gt, Tryz.results35, push_cast, simprocAttr]) | (refine at_call ?_; (try simp only [push_cast, simprocAttr]); refine rwc_v (by first | exact PathDepth_pc c.p hp | exact specContentValid_pc c.a | exact specContentValid_pc c.b) (go_on ?_); simp only [ctg, cth, depth_gt, push_cast, simprocAttr]) | (show RWp _ _ _ _ _; simp only [ctg, cth, depth_gt, push_cast, simprocAttr])
  all_goals simp [vX, hc, ct_eq, *]
  all_goals simp [*] at *
end Go.Proofs.YtccifbbjbnjcfaaGreatDoor
/-
  Walks: the reference's logs and sides.
-/
namespace Go.Proofs.YtccifbbjbnjcfaaGreatDoor
open Go Go.RowKit Go.Proofs
attribute [local irreducible] RWp AW run kPe pe Kt effA gd gu br retR RDp runD kPeD brW gW effD
set_option maxRecDepth 100000

def cap2 (t : List Nd) (c : Cm) : List Nd × Bool := if (tV t && cmV c) = true then apB2 t c else ([], false)
theorem specLogValid_pc (l : List Cm) (hs : SmL l) : PC Tryz.prog 120 [cmA l] (vB (lV l)) := by
  refine pc_enter Tryz.func120 rfl rfl fun w0 fb => go_on ?_; (try simp only [Tryz.ntmps120, push_cast, simprocAttr])
  refine at_loop (X := Nat) (fun k => [(3, iA k)]) (fun _ => []) (fun k => k ≤ l.length ∧ l.all cmV = (l.drop k).all cmV) (fun k => l.length - k) 0 ⟨Nat.zero_le _, rfl⟩ ?_ ?_
  · (refine wk_ok ?_ ?_ ?_ ?_ <;> simp [leL, leH, idsL, idsA, idsR, inH, hget, sameRow, upA, hvA, dsts, dstO, setA_0, setA_1, setA_8, List.append, List.cons_append, List.nil_append])
  · rintro k ⟨h1, h2⟩
    simp only [upA, hvA, dsts, dstO, setA_0, setA_1, setA_8, List.append, List.cons_append, List.nil_append]
    refine go_on ?_
    (try simp only [push_cast, simprocAttr])
    refine at_b (fun hg => ?_) (fun hg => ?_)
    · have hlt := lt_tt hg
      obtain ⟨x, hk⟩ := get_of_lt hlt
      have i1 := ix_n hk
      have i2 := map_get cmC hk
      have hcv := specCommandValid_pc x (hs.p x (mem_of_get hk))
      simp only [cmC] at i2
      unfold cmdA cmC at hcv
      rw [drop_of_get hk] at h2
      (try simp only [hg, i1, i2, push_cast, simprocAttr])
      (refine at_call ?_; (try simp only [push_cast, simprocAttr]); refine rwc_v (hcv) (go_on ?_); (try simp only [push_cast, simprocAttr]))
      refine at_b (fun hn => ?_) (fun hn => ?_)
      · (try simp only [hn, push_cast, simprocAttr])
        refine at_ret ?_; simp only [Tryz.results120, push_cast, simprocAttr]
        simp [vX, lV, h2, not_t hn]
      · have w1 := wr ((k : Int) + 1) (by have := hs.n; omega)
        (try simp only [hn, w1, push_cast, simprocAttr])
        refine at_fin ⟨k + 1, ⟨by omega, ?_⟩, by omega, ?_⟩
        · rw [h2]; simp [not_f hn]
        · (refine wk_ok ?_ ?_ ?_ ?_ <;> simp [leL, leH, idsL, idsA, idsR, inH, hget, sameRow, upA, hvA, dsts, dstO, setA_0, setA_1, setA_8, List.append, List.cons_append, List.nil_append])
    · have h3 := lt_ff hg
      rw [List.drop_of_length_le h3] at h2
      (try simp only [hg, push_cast, simprocAttr])
      refine at_ret ?_; simp only [Tryz.results120, push_cast, simprocAttr]
      simp [vX, lV, h2, leI]
      omega
end Go.Proofs.YtccifbbjbnjcfaaGreatDoor
