/- A part of the proof of the session laws: texts W70 M31 M32 M34 M41 W71 W12 W13 D1 D2 D3 D4 D5 D6 D7 W14 W15 W16 W17 W18 D7d W19 W20 W21 W22 W23 W24 W25 W26 W27. -/
import Derived.Test.YtjhbihooobingaaGreatDoorZs4
import Derived.Test.YtjhbihooobingaaGreatDoorZs3
import Derived.Test.YtjhbihooobingaaGreatDoorZsp
import Derived.Test.YtjhbihooobingaaGreatDoorZs1
set_option linter.unusedSimpArgs false
set_option linter.unusedVariables false
/-
  Walks: commands read from texts.
-/
namespace Go.Proofs.YtjhbihooobingaaGreatDoor
open Go Go.RowKit Go.Proofs
def mpR (s : Str) : AV := .tup [.agg (cmC ((parM s).getD cm0)), bA (parM s).isSome]
theorem cutB_mem (b : UInt8) : ∀ (s : Str) (x : Str), x ∈ cutB b s → x.length ≤ s.length
  | [], x, h => by simp [cutB] at h; simp [h]
  | a :: r, x, h => by
    by_cases ha : a = b
    · rw [ha, cutB_eq] at h
      rcases List.mem_cons.1 h with rfl | h
      · simp
      · have := cutB_mem b r x h; simp; omega
    · cases hs : cutB b r with
      | nil => exact absurd hs (cutB_ne b r)
      | cons y ys =>
        rw [cutB_cons ha hs] at h
        have ih := cutB_mem b r
        rw [hs] at ih
        rcases List.mem_cons.1 h with rfl | h
        · have := ih y List.mem_cons_self; simp; omega
        · have := ih x (List.mem_cons_of_mem _ h); simp; omega
theorem parM_3 {s p f t : Str} (h : cutB 32 s = [p, f, t]) : parM s = match parC f, parC t with | some a, some b => if cmV ⟨p, a, b⟩ then some ⟨p, a, b⟩ else none | _, _ => none := by
  unfold parM; rw [h]; rfl
theorem parM_n {s : Str} (h : (cutB 32 s).length ≠ 3) : parM s = none := by
  unfold parM
  split
  · rename_i e; rw [e] at h; simp at h
  · rfl
theorem parM_p {s : Str} {c : Cm} (h : parM s = some c) : c.p.length ≤ s.length ∧ cmV c = true := by
  unfold parM at h
  split at h
  · rename_i p f t e
    split at h
    · split at h
      · rename_i hv
        cases h
        exact ⟨cutB_mem 32 s p (by rw [e]; simp), hv⟩
      · cases h
    · cases h
  · cases h
theorem len3 {α : Type} {l : List α} (h : l.length = 3) : ∃ a b c, l = [a, b, c] := by
  match l, h with
  | [a, b, c], _ => exact ⟨a, b, c, rfl⟩
attribute [local irreducible] RWp AW run kPe pe Kt effA gd gu br retR RDp runD kPeD brW gW effD
set_option maxRecDepth 100000
theorem CommandParse_pc (s : Str) (hs : s.length < 4294967281) : PC Tryz.prog 67 [sA s] (vX (mpR s)) := by
  have hS := splitBF_pc 32 s hs
  refine pc_enter Tryz.func67 rfl rfl fun w0 fb => go_on ?_; (try simp only [Tryz.ntmps67, push_cast, simprocAttr])
  ((try simp only [push_cast, simprocAttr]); refine at_share2 (by simp [isC2, isC]) (by first | rfl | simp [ren]) (hS) (go_on ?_); (try simp only [push_cast, simprocAttr]))
  by_cases h3 : (cutB 32 s).length = 3
  · obtain ⟨p, f, t, hc⟩ := len3 h3
    have hF := ContentParse_pc f
    have hT := ContentParse_pc t
    have hpl : p.length < 4294967281 := by have := cutB_mem 32 s p (by rw [hc]; simp); omega
    have hm := parM_3 hc
    unfold cpR at hF hT
    unfold mpR
    obtain ⟨a, ha⟩ : ∃ a, (parC f).getD ct0 = a := ⟨_, rfl⟩
    obtain ⟨b, hb⟩ : ∃ b, (parC t).getD ct0 = b := ⟨_, rfl⟩
    rw [ha] at hF
    rw [hb] at hT
    have hV := CommandValid_pc ⟨p, a, b⟩ hpl
    unfold cmdA cmC at hV
    unfold ctC at hF hT
    have k0 : toIx 0 3 = some 0 := rfl
    have k1 : toIx 1 3 = some 1 := rfl
    have k2 : toIx 2 3 = some 2 := rfl
    have g0 : ([[sA p], [sA f], [sA t]] : List (List AV))[0]? = some [sA p] := rfl
    have g1 : ([[sA p], [sA f], [sA t]] : List (List AV))[1]? = some [sA f] := rfl
    have g2 : ([[sA p], [sA f], [sA t]] : List (List AV))[2]? = some [sA t] := rfl
    (try simp only [hc, sC, show eqI ((3 : Nat) : Int) 3 = true from rfl, show eqI 3 3 = true from rfl, Bool.not_true, k1, g1, push_cast, simprocAttr])
    (refine at_call ?_; (try simp only [push_cast, simprocAttr]); refine rwc_d (hF) (by simp [flatV, flatL]) (by simp [ren]) (go_on ?_); (try simp only [push_cast, simprocAttr]))
    (try simp only [k2, g2, push_cast, simprocAttr])
    (refine at_call ?_; (try simp only [push_cast, simprocAttr]); refine rwc_d (hT) (by simp [flatV, flatL]) (by simp [ren]) (go_on ?_); (try simp only [push_cast, simprocAttr]))
    refine at_draw rfl (by kernel_rfl) ?_; simp only [push_cast, simprocAttr]
    (try simp only [k0, g0, push_cast, simprocAttr])
    refine at_done (by kernel_rfl) (by kernel_rfl) (go_on ?_)
    (try simp only [push_cast, simprocAttr])
    cases hf : parC f with
    | none =>
      (try simp only [hf, Option.isSome_none, Bool.not_false, push_cast, simprocAttr])
      refine at_ret ?_; simp only [Tryz.results67, push_cast, simprocAttr]
      rw [hm, hf]
      simp [vX, cmC, cm0, ct0]
    | some a' =>
      rw [hf] at ha
      simp only [Option.getD_some] at ha
      subst ha
      cases ht : parC t with
      | none =>
        (try simp only [hf, ht, Option.isSome_none, Option.isSome_some, Bool.not_false, Bool.not_true, push_cast, simprocAttr])
        refine at_ret ?_; simp only [Tryz.results67, push_cast, simprocAttr]
        rw [hm, hf, ht]
        simp [vX, cmC, cm0, ct0]
      | some b' =>
        rw [ht] at hb
        simp only [Option.getD_some] at hb
        subst hb
        (try simp only [hf, ht, Option.isSome_none, Option.isSome_some, Bool.not_false, Bool.not_true, push_cast, simprocAttr])
        (refine at_call ?_; (try simp only [push_cast, simprocAttr]); refine rwc_v (hV) (go_on ?_); (try simp only [push_cast, simprocAttr]))
        rw [hf, ht] at hm
        simp only at hm
        cases hv : cmV ⟨p, a', b'⟩ with
        | false =>
          (try simp only [hv, Bool.not_false, push_cast, simprocAttr])
          refine at_ret ?_; simp only [Tryz.results67, push_cast, simprocAttr]
          rw [hm, hv]
          simp [vX, cmC, cm0, ct0]
        | true =>
          (try simp only [hv, Bool.not_true, push_cast, simprocAttr])
          refine at_ret ?_; simp only [Tryz.results67, push_cast, simprocAttr]
          rw [hm, hv]
          simp [vX, cmC]
  · have e3 : eqI ((cutB 32 s).length : Int) 3 = false := eqI_f (by omega)
    (try simp only [e3, List.length_map, Bool.not_false, push_cast, simprocAttr])
    refine at_ret ?_; simp only [Tryz.results67, push_cast, simprocAttr]
    rw [mpR, parM_n h3]
    simp [vX, cmC, cm0, ct0]
theorem specCommandParse_pc (s : Str) (hs : s.length < 4294967281) : PC Tryz.prog 89 [sA s] (vX (mpR s)) := by
  have hS := l11Words_d s hs
  refine pc_enter Tryz.func89 rfl rfl fun w0 fb => go_on ?_; (try simp only [Tryz.ntmps89, push_cast, simprocAttr])
  ((try simp only [push_cast, simprocAttr]); refine at_share2 (by simp [isC2, isC]) (by first | rfl | simp [ren]) (hS) (go_on ?_); (try simp only [push_cast, simprocAttr]))
  by_cases h3 : (cutB 32 s).length = 3
  · obtain ⟨p, f, t, hc⟩ := len3 h3
    have hF := specContentParse_pc f
    have hT := specContentParse_pc t
    have hpl : p.length < 4294967281 := by have := cutB_mem 32 s p (by rw [hc]; simp); omega
    have hm := parM_3 hc
    unfold cpR at hF hT
    unfold mpR
    obtain ⟨a, ha⟩ : ∃ a, (parC f).getD ct0 = a := ⟨_, rfl⟩
    obtain ⟨b, hb⟩ : ∃ b, (parC t).getD ct0 = b := ⟨_, rfl⟩
    rw [ha] at hF
    rw [hb] at hT
    have hV := specCommandValid_pc ⟨p, a, b⟩ hpl
    unfold cmdA cmC at hV
    unfold ctC at hF hT
    have k0 : toIx 0 3 = some 0 := rfl
    have k1 : toIx 1 3 = some 1 := rfl
    have k2 : toIx 2 3 = some 2 := rfl
    have g0 : ([[sA p], [sA f], [sA t]] : List (List AV))[0]? = some [sA p] := rfl
    have g1 : ([[sA p], [sA f], [sA t]] : List (List AV))[1]? = some [sA f] := rfl
    have g2 : ([[sA p], [sA f], [sA t]] : List (List AV))[2]? = some [sA t] := rfl
    (try simp only [hc, sC, show eqI ((3 : Nat) : Int) 3 = true from rfl, show eqI 3 3 = true from rfl, Bool.not_true, k1, g1, push_cast, simprocAttr])
    (refine at_call ?_; (try simp only [push_cast, simprocAttr]); refine rwc_d (hF) (by simp [flatV, flatL]) (by simp [ren]) (go_on ?_); (try simp only [push_cast, simprocAttr]))
    (try simp only [k2, g2, push_cast, simprocAttr])
    (refine at_call ?_; (try simp only [push_cast, simprocAttr]); refine rwc_d (hT) (by simp [flatV, flatL]) (by simp [ren]) (go_on ?_); (try simp only [push_cast, simprocAttr]))
    refine at_draw rfl (by kernel_rfl) ?_; simp only [push_cast, simprocAttr]
    (try simp only [k0, g0, push_cast, simprocAttr])
    refine at_done (by kernel_rfl) (by kernel_rfl) (go_on ?_)
    (try simp only [push_cast, simprocAttr])
    cases hf : parC f with
    | none =>
      (try simp only [hf, Option.isSome_none, Bool.not_false, push_cast, simprocAttr])
      refine at_ret ?_; simp only [Tryz.results89, push_cast, simprocAttr]
      rw [hm, hf]
      simp [vX, cmC, cm0, ct0]
    | some a' =>
      rw [hf] at ha
      simp only [Option.getD_some] at ha
      subst ha
      cases ht : parC t with
      | none =>
        (try simp only [hf, ht, Option.isSome_none, Option.isSome_some, Bool.not_false, Bool.not_true, push_cast, simprocAttr])
        refine at_ret ?_; simp only [Tryz.results89, push_cast, simprocAttr]
        rw [hm, hf, ht]
        simp [vX, cmC, cm0, ct0]
      | some b' =>
        rw [ht] at hb
        simp only [Option.getD_some] at hb
        subst hb
        (try simp only [hf, ht, Option.isSome_none, Option.isSome_some, Bool.not_false, Bool.not_true, push_cast, simprocAttr])
        (refine at_call ?_; (try simp only [push_cast, simprocAttr]); refine rwc_v (hV) (go_on ?_); (try simp only [push_cast, simprocAttr]))
        rw [hf, ht] at hm
        simp only at hm
        cases hv : cmV ⟨p, a', b'⟩ with
        | false =>
          (try simp only [hv, Bool.not_false, push_cast, simprocAttr])
          refine at_ret ?_; simp only [Tryz.results89, push_cast, simprocAttr]
          rw [hm, hv]
          simp [vX, cmC, cm0, ct0]
        | true =>
          (try simp only [hv, Bool.not_true, push_cast, simprocAttr])
          refine at_ret ?_; simp only [Tryz.results89, push_cast, simprocAttr]
          rw [hm, hv]
          simp [vX, cmC]
  · have e3 : eqI ((cutB 32 s).length : Int) 3 = false := eqI_f (by omega)
    (try simp only [e3, List.length_map, Bool.not_false, push_cast, simprocAttr])
    refine at_ret ?_; simp only [Tryz.results89, push_cast, simprocAttr]
    rw [mpR, parM_n h3]
    simp [vX, cmC, cm0, ct0]
end Go.Proofs.YtjhbihooobingaaGreatDoor
/-
  The abstract machine: a region that draws its order, one call within that borrows rows.
-/
namespace Go.Proofs.YtjhbihooobingaaGreatDoor
open Go Go.RowKit

section
variable {P : Program}
theorem fo_none {V : Nat → Bool} : ∀ (l : List E) (k : Nat) (s : AS), (∀ j, k ≤ j → j < k + l.length → V j = false) → fo V k l s = s
  | [], _, _, _ => rfl
  | e :: l, k, s, h => by
    simp only [fo]
    rw [if_neg (by rw [h k (Nat.le_refl _) (by simp)]; simp)]
    exact fo_none l (k + 1) s fun j h1 h2 => h j (by omega) (by simp only [List.length_cons]; omega)
theorem anc_facts {ops : List Oper} (hbk : bkB ops 0 = true) : (∀ i j, Anc ops i j → j < i) ∧ (∀ (i : Nat) o, ops[i]? = some o → ∀ j, j ∈ waitsFor ops i → ∃ e ∈ o.after, Region.binds .any e = true ∧ e.on = j) := by
  have hback := bkB_spec ops 0 hbk
  have hwait : ∀ (i : Nat) o, ops[i]? = some o → ∀ j, j ∈ waitsFor ops i → ∃ e ∈ o.after, Region.binds .any e = true ∧ e.on = j := fun i o ho j hj => (waits_mem ho j).1 hj
  refine ⟨fun i j hA => ?_, hwait⟩
  have h1 : ∀ i k, k ∈ waitsFor ops i → k < i := fun i k hk => by
    unfold waitsFor at hk
    cases ho : ops[i]? with
    | none => rw [ho] at hk; cases hk
    | some o =>
      obtain ⟨e, he, hbe, rfl⟩ := hwait i o ho k (by unfold waitsFor; rw [ho]; rw [ho] at hk; exact hk)
      have := hback i o ho e he hbe
      omega
  induction hA with
  | dir h => exact h1 _ _ h
  | tr h _ ih => have := h1 _ _ h; omega
/-- An event that is to come: what it reads is as the text says, and it may stand in its place. -/
theorem hop_law {ops : List Oper} {s : AS} {evs : List E} (hlen : evs.length ≤ ops.length) (hbk : bkB ops 0 = true) (hpr : prB evs (mks ops []) evs 0 = true) (hkc : kcB ops s evs = true)
    (listed : Nat → Bool) (hclo : ∀ i j, listed i = true → Anc ops i j → listed j = true) {i : Nat} {e : E} (hei : evs[i]? = some e) (hli' : listed i = false) (hanc : ∀ j, Anc ops i j → listed j = true)
    (hvals : e.vals = e.rd.map (getA (fo (fun j => decide (j < i)) 0 evs s).t)) {V' : Nat → Bool} (hset : ∀ j, V' j = if j = i then true else listed j) :
    Sees e (fo (fun j => decide (j < i)) 0 evs s) (fo listed 0 evs s) ∧ Eqv (fo V' 0 evs s) (e.ap (fo listed 0 evs s)) := by
  obtain ⟨hlt, hwait⟩ := anc_facts hbk
  obtain ⟨hml, hmk⟩ := mks_spec ops ops [] (fun i o h => by simpa using h) (fun i k h => by simp at h)
  obtain ⟨evs', hsub, hfo, hcov, hkill⟩ := kc_cut hkc
  -- pairs that lie apart
  have hpair : ∀ (i j : Nat) e f, i < j → evs[i]? = some e → evs[j]? = some f → ¬ Anc ops j i → okE e f = true ∧ siB e f = true ∧ siB f e = true := fun i j e f hij hi hj hna => by
    have hjl : j < (mks ops []).length := by
      have := lt_of_some hj
      rw [hml, List.length_nil, Nat.zero_add]; omega
    rcases prB_spec evs (mks ops []) evs 0 hpr j i _ f e (List.getElem?_eq_getElem hjl) hj (by omega) hi with h1 | h1
    · exact absurd (hmk j i (by rw [List.getD_eq_getElem?_getD, List.getElem?_eq_getElem hjl]; exact h1)) hna
    · exact h1
  classical
  have hsees : Sees e (fo (fun j => decide (j < i)) 0 evs s) (fo listed 0 evs s) := by
    let A : Nat → Bool := fun j => decide (Anc ops i j)
    have hsplit : ∀ V : Nat → Bool, (∀ j, A j = true → V j = true) → Eqv (fo V 0 evs s) (fo (fun j => V j && !A j) 0 evs (fo A 0 evs s)) := fun V hV =>
      fo_split evs 0 s hV fun p q ep eq hp hq hpq _ h2 h3 => by
        simp only [Nat.zero_add, A, decide_eq_true_eq, decide_eq_false_iff_not] at h2 h3
        exact (hpair p q ep eq hpq hp hq fun hA => h2 (h3.trans hA)).1
    have hA0 : A (evs.length - 1) = false := by
      have hie : i < evs.length := lt_of_some hei
      refine decide_eq_false fun hA => ?_
      have := hlt i _ hA
      omega
    have hi0 : (fun j => decide (j < i) && !A j) (evs.length - 1) = false := by
      have hie : i < evs.length := lt_of_some hei
      simp only [Bool.and_eq_false_iff, decide_eq_false_iff_not]
      exact .inl (by omega)
    have hl0 : evs' = evs ∨ (fun j => listed j && !A j) (evs.length - 1) = false := by
      refine hcov.imp (fun h => h) fun hc => ?_
      have hie : i < evs.length := lt_of_some hei
      simp only [Bool.and_eq_false_iff]
      refine .inl ?_
      rcases Nat.lt_or_ge i (evs.length - 1) with h1 | h1
      · rw [← Bool.not_eq_true]
        intro hL
        have := hclo _ i hL (hc i h1)
        rw [hli'] at this
        cases this
      · rw [show evs.length - 1 = i from by omega]; exact hli'
    have hkA : (∀ f ∈ evs', f.kill = none) ∨ (clH (fo A 0 evs' s).h ∧ ∀ f ∈ evs', f.add.all (·.2.cl) = true) := by
      rcases hkill with h | ⟨h1, h2⟩
      · exact .inl h
      · refine .inr ⟨?_, h2⟩
        have : ∀ (l : List E) (k : Nat) (s : AS), clH s.h → (∀ f ∈ l, f.add.all (·.2.cl) = true) → clH (fo A k l s).h := by
          intro l
          induction l with
          | nil => intro k s h _; exact h
          | cons f l ih =>
            intro k s h hf
            simp only [fo]
            refine ih (k + 1) _ ?_ fun g hg => hf g (List.mem_cons_of_mem _ hg)
            split
            · exact clH_ap h (hf f List.mem_cons_self)
            · exact h
        exact this evs' 0 s h1 h2
    have e1 := hsplit (fun j => decide (j < i)) fun j hj => by simp only [A, decide_eq_true_eq] at hj ⊢; exact hlt i j hj
    have e2 := hsplit listed fun j hj => by simp only [A, decide_eq_true_eq] at hj; exact hanc j hj
    have s1 : Sees e (fo A 0 evs s) (fo (fun j => decide (j < i) && !A j) 0 evs (fo A 0 evs s)) := by
      rw [hfo (fun j => decide (j < i) && !A j) _ (.inr hi0), hfo A s (.inr hA0)]
      refine sees_bwd evs' 0 _ (by rw [← hfo A s (.inr hA0), ← hfo (fun j => decide (j < i) && !A j) _ (.inr hi0), ← e1.1]; exact hvals) (fun j f hf hj => ?_) hkA
      replace hf := hsub j f hf
      simp only [Nat.zero_add, A, Bool.and_eq_true, decide_eq_true_eq, Bool.not_eq_true', decide_eq_false_iff_not] at hj
      exact (hpair j i f e hj.1 hf hei hj.2).2.1
    have hvA : e.vals = e.rd.map (getA (fo A 0 evs s).t) := by
      rw [hvals, e1.1]
      exact List.map_congr_left fun q hq => (s1.1 q hq).symm
    have s2 : Sees e (fo A 0 evs s) (fo (fun j => listed j && !A j) 0 evs (fo A 0 evs s)) := by
      rw [hfo (fun j => listed j && !A j) _ hl0, hfo A s (.inr hA0)]
      refine sees_fwd evs' 0 _ (by rw [← hfo A s (.inr hA0)]; exact hvA) (fun j f hf hj => ?_) hkA
      replace hf := hsub j f hf
      simp only [Nat.zero_add, A, Bool.and_eq_true, Bool.not_eq_true', decide_eq_false_iff_not] at hj
      rcases Nat.lt_trichotomy j i with h1 | h1 | h1
      · exact (hpair j i f e h1 hf hei hj.2).2.1
      · subst h1; rw [hli'] at hj; cases hj.1
      · exact (hpair i j e f h1 hei hf fun hA => by have := hclo j i hj.1 hA; rw [hli'] at this; cases this).2.2
    exact ⟨fun q hq => by rw [e1.1, e2.1]; exact (s1.1 q hq).symm.trans (s2.1 q hq), fun r hr => by rw [e1.2, e2.2]; exact (s1.2 r hr).symm.trans (s2.2 r hr)⟩
  refine ⟨hsees, fo_ins evs 0 s (Nat.zero_le _) (by simpa using hei) hli' hset fun j f hf hj hsel => ?_⟩
  simp only [Nat.zero_add] at hj hsel
  exact (hpair i j e f hj hei hf fun hA => by have := hclo j i hsel hA; rw [hli'] at this; cases this).1

variable {w0 : World} {lent : Lent} {Q : Exit → Act → World → Prop}
/-- What such a call asks, and what it gives back. -/
structure LendC (P : Program) (w0 : World) (lent : Lent) (o : SO) (s1 : AS) {X : Type} (ok : X → Prop) (ec : X → E) (e0 : E) : Prop where
  g : o.g = none
  rd : e0.vals = e0.rd.map (getA s1.t)
  same : ∀ x, ok x → (ec x).rd = e0.rd ∧ (ec x).vals = e0.vals
  wp : ∀ s', Sees e0 s1 s' → ∀ loc a w, Rel w0 lent s' loc a w → ∀ (N : Act → World → Prop) (Qx : Exit → Act → World → Prop), (∀ x, ok x → ∀ loc' a' w', Rel w0 lent ((ec x).ap s') loc' a' w' → N a' w') → o.oper.wp P a w N Qx

end

end Go.Proofs.YtjhbihooobingaaGreatDoor
/-
  The abstract machine: a drawn region with one call that borrows a row, run as its text stands.
-/
namespace Go.Proofs.YtjhbihooobingaaGreatDoor
open Go Go.RowKit

section
variable {P : Program} {w0 : World} {lent : Lent} {Q : Exit → Act → World → Prop}
theorem DP_mono {K K' : List E → AS → Prop} (hK : ∀ evs s, K evs s → K' evs s) : ∀ (l : List SO) (evs : List E) (s : AS), DP P K l evs s → DP P K' l evs s
  | [], evs, s, h => hK evs s h
  | o :: l, evs, s, ⟨e, h1, h2⟩ => ⟨e, h1, DP_mono hK l _ _ h2⟩
end

end Go.Proofs.YtjhbihooobingaaGreatDoor
/-
  The abstract machine: a region that draws its order, several calls within that borrow a row, and operations that wait for none of them.
-/
namespace Go.Proofs.YtjhbihooobingaaGreatDoor
open Go Go.RowKit

def noSO : SO := ⟨none, .move (.const (.bool false)), 0, none⟩
/-- What stands behind a call, without what waits for it. -/
def mskB (all : List Oper) : List Bool → List Oper → List SO
  | [], [] => []
  | [], _ :: l => noSO :: mskB all [] l
  | _ :: _, [] => []
  | true :: bs, o :: l => cmpO all o :: mskB all bs l
  | false :: bs, _ :: l => noSO :: mskB all bs l
theorem mskB_len (all : List Oper) : ∀ (bs : List Bool) (l : List Oper), (mskB all bs l).length = l.length
  | [], [] => rfl
  | [], _ :: l => by simp only [mskB, List.length_cons]; rw [mskB_len all [] l]
  | _ :: _, [] => by simp only [mskB]; rfl
  | true :: bs, o :: l => by simp only [mskB, List.length_cons]; rw [mskB_len all bs l]
  | false :: bs, _ :: l => by simp only [mskB, List.length_cons]; rw [mskB_len all bs l]
theorem mskB_get (all : List Oper) : ∀ (bs : List Bool) (l : List Oper) (i : Nat), bs.getD i false = true → (mskB all bs l)[i]? = (l.map (cmpO all))[i]?
  | [], l, i, h => by simp at h
  | _ :: _, [], i, h => by simp only [mskB, List.map_nil]
  | true :: bs, o :: l, 0, h => by simp only [mskB, List.map_cons, List.getElem?_cons_zero]
  | false :: bs, o :: l, 0, h => by simp at h
  | true :: bs, o :: l, i + 1, h => by simp only [mskB, List.map_cons, List.getElem?_cons_succ]; exact mskB_get all bs l i (by simpa using h)
  | false :: bs, o :: l, i + 1, h => by simp only [mskB, List.map_cons, List.getElem?_cons_succ]; exact mskB_get all bs l i (by simpa using h)

/-- What need not wait for the call at c. -/
def fre (c : Nat) (bs : List Bool) (j : Nat) : Bool := decide (j < c) || (decide (c < j) && bs.getD (j - (c + 1)) false)
def afM (c : Nat) (bs : List Bool) : List Nat → Nat → Bool
  | [], _ => true
  | m :: l, j => (decide (j = c) || fre c bs j || m.testBit c) && afM c bs l (j + 1)
theorem afM_spec (c : Nat) (bs : List Bool) : ∀ (l : List Nat) (j : Nat), afM c bs l j = true → ∀ (q : Nat) m, l[q]? = some m → j + q ≠ c → fre c bs (j + q) = false → m.testBit c = true
  | [], j, _, q, m, h, _, _ => by simp at h
  | m0 :: l, j, hb, q, m, h, h1, h2 => by
    simp only [afM, Bool.and_eq_true, Bool.or_eq_true, decide_eq_true_eq] at hb
    cases q with
    | zero =>
      simp at h; subst h
      rcases hb.1 with (h3 | h3) | h3
      · exact absurd h3 h1
      · rw [Nat.add_zero, h3] at h2; cases h2
      · exact h3
    | succ q => exact afM_spec c bs l (j + 1) hb.2 q m (by simpa using h) (by omega) (by rw [show j + 1 + q = j + (q + 1) from by omega]; exact h2)
def chM : List (Nat × List Bool) → Bool
  | (c, bs) :: (c', bs') :: l => decide (c < c') && !fre c bs c' && chM ((c', bs') :: l)
  | _ => true
def okM (ops : List Oper) (pu : List Nat) (cs : List (Nat × List Bool)) : Bool := chM cs && cs.all fun x => afM x.1 x.2 (mks ops []) 0 && !pu.contains x.1
theorem fo_congrL {V : Nat → Bool} : ∀ (l l' : List E) (k : Nat) (s : AS), l.length = l'.length → (∀ j, V (k + j) = true → l[j]? = l'[j]?) → fo V k l s = fo V k l' s
  | [], [], _, _, _, _ => rfl
  | [], _ :: _, _, _, h, _ => by simp at h
  | _ :: _, [], _, _, h, _ => by simp at h
  | e :: l, e' :: l', k, s, h, hj => by
    simp only [fo]
    have hs : (if V k = true then e.ap s else s) = if V k = true then e'.ap s else s := by
      by_cases hv : V k = true
      · have := hj 0 hv
        simp at this
        rw [this]
      · rw [if_neg hv, if_neg hv]
    rw [hs]
    exact fo_congrL l l' (k + 1) _ (by simpa using h) fun j h1 => by
      have := hj (j + 1) (by rwa [show k + (j + 1) = k + 1 + j from by omega])
      simpa using this
theorem apL_app : ∀ (l l' : List E) (s : AS), apL (l ++ l') s = apL l' (apL l s)
  | [], _, _ => rfl
  | e :: l, l', s => by simp only [List.cons_append, apL]; exact apL_app l l' _

/-! ### Moves of slots that nothing writes: they see no row -/
def stE (e : E) : E := ⟨e.d, e.x, e.kill, e.add, [], []⟩
def stp (pu : List Nat) : Nat → List E → List E
  | _, [] => []
  | k, e :: l => (if pu.contains k = true then stE e else e) :: stp pu (k + 1) l
theorem stp_len (pu : List Nat) : ∀ (l : List E) (k : Nat), (stp pu k l).length = l.length
  | [], _ => rfl
  | e :: l, k => by simp only [stp, List.length_cons, stp_len pu l]
theorem stp_get (pu : List Nat) : ∀ (l : List E) (k i : Nat) (e : E), l[i]? = some e → (stp pu k l)[i]? = some (if pu.contains (k + i) = true then stE e else e)
  | [], _, _, _, h => by simp at h
  | e' :: l, k, 0, e, h => by simp at h; subst h; rfl
  | e' :: l, k, i + 1, e, h => by
    simp only [stp, List.getElem?_cons_succ]
    rw [stp_get pu l (k + 1) i e (by simpa using h), show k + 1 + i = k + (i + 1) from by omega]
theorem fo_stp (pu : List Nat) (V : Nat → Bool) : ∀ (l : List E) (k k' : Nat) (s : AS), fo V k (stp pu k' l) s = fo V k l s
  | [], _, _, _ => rfl
  | e :: l, k, k', s => by
    simp only [stp, fo]
    have : (if pu.contains k' = true then stE e else e).ap s = e.ap s := by split <;> rfl
    rw [this]
    exact fo_stp pu V l _ _ _
/-- Slot q keeps what it holds. -/
def nqB (q : Nat) (x : AV) (f : E) : Bool := (match f.d with | some d => decide (d ≠ q) | none => true) && (match f.kill with | some r => !(idsA x).contains r | none => true)
theorem fo_nq {V : Nat → Bool} {q : Nat} : ∀ (l : List E) (k : Nat) (s : AS), l.all (nqB q (getA s.t q)) = true → getA (fo V k l s).t q = getA s.t q
  | [], _, _, _ => rfl
  | e :: l, k, s, h => by
    simp only [List.all_cons, Bool.and_eq_true] at h
    simp only [fo]
    have h1 : getA (e.ap s).t q = getA s.t q := by
      have h0 := h.1
      unfold nqB at h0
      simp only [Bool.and_eq_true] at h0
      have hk : getA (kT e.kill s.t) q = getA s.t q := by
        rw [getA_kT]
        cases hk : e.kill with
        | none => rfl
        | some r =>
          have := h0.2
          rw [hk] at this
          simp only [Bool.not_eq_true', List.contains_eq_mem, decide_eq_false_iff_not] at this
          exact killA_id r _ this
      rw [ap_t]
      cases hd : e.d with
      | none => exact hk
      | some d =>
        have := h0.1
        rw [hd] at this
        simp only [ne_eq, decide_not, Bool.not_eq_true', decide_eq_false_iff_not] at this
        simp only
        rw [getA_setA _ _ _ _ this]
        exact hk
    split
    · rw [fo_nq l _ _ (by rw [h1]; exact h.2), h1]
    · exact fo_nq l _ _ h.2
def PU1 (P : Program) (ops : List Oper) (s : AS) (L : List E) (i : Nat) : Prop := ∃ (o : Oper) (d q : Nat) (ty : TypeId) (rd : List Nat) (vals : List AV), ops[i]? = some o ∧ cmpO ops o = ⟨some d, .move (.tmp q), ty, none⟩ ∧
  L[i]? = some ⟨some d, getA s.t q, none, [], rd, vals⟩ ∧ mvA P ty (getA s.t q) = .val (getA s.t q) ∧ L.all (nqB q (getA s.t q)) = true
def PU (P : Program) (ops : List Oper) (s : AS) (L : List E) : List Nat → Prop
  | [] => True
  | i :: l => PU1 P ops s L i ∧ PU P ops s L l
theorem PU.get {P : Program} {ops : List Oper} {s : AS} {L : List E} : ∀ {pu : List Nat}, PU P ops s L pu → ∀ i ∈ pu, PU1 P ops s L i
  | [], _, i, h => by simp at h
  | j :: pu, hp, i, h => by
    rcases List.mem_cons.1 h with rfl | h
    · exact hp.1
    · exact PU.get hp.2 i h
/-- A table in which what must lie apart lies apart. -/
structure CK (P : Program) (ops : List Oper) (s : AS) (pu : List Nat) (L : List E) : Prop where
  pr : prB (stp pu 0 L) (mks ops []) (stp pu 0 L) 0 = true
  kc : kcB ops s (stp pu 0 L) = true
  pu : PU P ops s L pu

section
variable {P : Program} {w0 : World} {lent : Lent} {Q : Exit → Act → World → Prop}
def agO (ag : Option (Nat × List Bool × List E)) (L : List E) : Prop := match ag with
  | none => True
  | some (c, bs, L0) => ∀ j, c < j → bs.getD (j - (c + 1)) false = true → L[j]? = L0[j]?
def ST (P : Program) (w0 : World) (lent : Lent) (Q : Exit → Act → World → Prop) (ops : List Oper) (pu : List Nat) (k : List It) (s : AS) : List (Nat × List Bool) → Nat → Option (Nat × List Bool × List E) → List E → AS → Prop
  | [], p, ag, evs, s1 => DP P (fun L s' => agO ag L ∧ CK P ops s pu L ∧ AW P w0 lent Q k s') ((ops.drop p).map (cmpO ops)) evs s1
  | (c, bs) :: cs, p, ag, evs, s1 => DP P (fun evs1 s2 => ∃ oc, ops[c]? = some oc ∧ ∃ (X : Type) (ok : X → Prop) (ec : X → E) (e0 : E), LendC P w0 lent (cmpO ops oc) s2 ok ec e0 ∧
      DP P (fun L _ => agO ag L ∧ CK P ops s pu L ∧ ∀ x, ok x → ST P w0 lent Q ops pu k s cs (c + 1) (some (c, bs, L)) (evs1 ++ [ec x]) ((ec x).ap s2)) (mskB ops bs (ops.drop (c + 1))) (evs1 ++ [e0]) (e0.ap s2))
      (((ops.drop p).take (c - p)).map (cmpO ops)) evs s1
def TabOK (P : Program) (w0 : World) (lent : Lent) (Q : Exit → Act → World → Prop) (ops : List Oper) (pu : List Nat) (k : List It) (s : AS) : List (Nat × List Bool) → List Nat → List E → Prop
  | [], ds, L => L.length = ops.length ∧ CK P ops s pu L ∧ (∀ (i : Nat) o e, i ∉ ds → ops[i]? = some o → L[i]? = some e → Sp P (apL (L.take i) s) (cmpO ops o) e) ∧ AW P w0 lent Q k (apL L s)
  | (c, bs) :: cs, ds, L => L.length = ops.length ∧ CK P ops s pu L ∧ (∀ (i : Nat) o e, i ∉ ds → fre c bs i = true → ops[i]? = some o → L[i]? = some e → Sp P (apL (L.take i) s) (cmpO ops o) e) ∧
      ∃ oc, ops[c]? = some oc ∧ ∃ (X : Type) (ok : X → Prop) (ec : X → E) (e0 : E), L[c]? = some e0 ∧ LendC P w0 lent (cmpO ops oc) (apL (L.take c) s) ok ec e0 ∧
      ∀ x, ok x → ∃ L', L'.length = ops.length ∧ L'[c]? = some (ec x) ∧ (∀ j, fre c bs j = true → L'[j]? = L[j]?) ∧ TabOK P w0 lent Q ops pu k s cs (c :: ds) L'

theorem st_tab {ops : List Oper} {pu : List Nat} {k : List It} {s : AS} : ∀ (cs : List (Nat × List Bool)) (ds : List Nat) (p : Nat) (ag : Option (Nat × List Bool × List E)) (evs : List E), evs.length = p → p ≤ ops.length → (∀ x ∈ cs.head?, p ≤ x.1) → chM cs = true →
    (∀ (i : Nat) o e, i < p → i ∉ ds → ops[i]? = some o → evs[i]? = some e → Sp P (apL (evs.take i) s) (cmpO ops o) e) → ST P w0 lent Q ops pu k s cs p ag evs (apL evs s) →
    ∃ post, agO ag (evs ++ post) ∧ (evs ++ post).length = ops.length ∧ TabOK P w0 lent Q ops pu k s cs ds (evs ++ post)
  | [], ds, p, ag, evs, hl, hp, _, _, hsp, h => by
    simp only [ST] at h
    obtain ⟨post, g1, g2, g3, g4, g6⟩ := DP_ex _ _ _ h
    rw [List.length_map, List.length_drop] at g1
    have hlen : (evs ++ post).length = ops.length := by rw [List.length_append]; omega
    rw [← apL_app] at g6
    refine ⟨post, g3, hlen, hlen, g4, fun i o e hi ho he => ?_, g6⟩
    rcases Nat.lt_or_ge i p with h1 | h1
    · rw [List.take_append_of_le_length (by omega)]
      rw [List.getElem?_append_left (by omega)] at he
      exact hsp i o e h1 hi ho he
    · rw [List.take_append, List.take_of_length_le (by omega), apL_app]
      rw [List.getElem?_append_right (by omega)] at he
      rw [hl] at he ⊢
      exact g2 (i - p) _ e (by rw [List.getElem?_map, List.getElem?_drop, show p + (i - p) = i from by omega, ho]; rfl) he
  | (c, bs) :: cs, ds, p, ag, evs, hl, hp, hhd, hch, hsp, h => by
    simp only [ST] at h
    have hpc : p ≤ c := hhd (c, bs) (by simp)
    obtain ⟨mid, g1, g2, oc, hoc, X, ok, ec, e0, hL, h2⟩ := DP_ex _ _ _ h
    have hcl : c < ops.length := lt_of_some hoc
    rw [List.length_map, List.length_take, List.length_drop, Nat.min_eq_left (by omega)] at g1
    obtain ⟨post, g3, g4, g5, g6, g8⟩ := DP_ex _ _ _ h2
    rw [mskB_len, List.length_drop] at g3
    have e1 : evs ++ mid ++ [e0] ++ post = evs ++ (mid ++ e0 :: post) := by simp
    rw [e1] at g5 g6 g8
    rw [← apL_app] at hL g8
    have hlm : (evs ++ mid).length = c := by rw [List.length_append]; omega
    have e2 : evs ++ (mid ++ e0 :: post) = (evs ++ mid) ++ e0 :: post := by simp
    have hlen : (evs ++ (mid ++ e0 :: post)).length = ops.length := by rw [e2, List.length_append, List.length_cons]; omega
    have hlaw : ∀ (i : Nat) o e, i < c → i ∉ ds → ops[i]? = some o → (evs ++ mid)[i]? = some e → Sp P (apL ((evs ++ mid).take i) s) (cmpO ops o) e := fun i o e hic hi ho he => by
      rcases Nat.lt_or_ge i p with h1 | h1
      · rw [List.take_append_of_le_length (by omega)]
        rw [List.getElem?_append_left (by omega)] at he
        exact hsp i o e h1 hi ho he
      · rw [List.take_append, List.take_of_length_le (by omega), apL_app]
        rw [List.getElem?_append_right (by omega)] at he
        rw [hl] at he ⊢
        exact g2 (i - p) _ e (by rw [List.getElem?_map, List.getElem?_take, if_pos (by omega), List.getElem?_drop, show p + (i - p) = i from by omega, ho]; rfl) he
    refine ⟨mid ++ e0 :: post, g5, hlen, hlen, g6, fun i o e hi hf ho he => ?_, oc, hoc, X, ok, ec, e0, ?_, ?_, fun x hx => ?_⟩
    · rw [e2] at he ⊢
      rcases Nat.lt_or_ge i c with h1 | h1
      · rw [List.take_append_of_le_length (by omega)]
        rw [List.getElem?_append_left (by omega)] at he
        exact hlaw i o e h1 hi ho he
      · have hne : i ≠ c := by
          rintro rfl
          simp [fre] at hf
        obtain ⟨q, rfl⟩ : ∃ q, i = c + 1 + q := ⟨i - (c + 1), by omega⟩
        have hbs : bs.getD q false = true := by
          simp only [fre, Bool.or_eq_true, Bool.and_eq_true, decide_eq_true_eq] at hf
          have := (hf.resolve_left (by omega)).2
          rwa [show c + 1 + q - (c + 1) = q from by omega] at this
        have e3 : ((evs ++ mid) ++ e0 :: post).take (c + 1 + q) = (evs ++ mid) ++ e0 :: post.take q := by
          rw [List.take_append, List.take_of_length_le (by omega), show c + 1 + q - (evs ++ mid).length = q + 1 from by omega, List.take_succ_cons]
        rw [e3, apL_app]
        rw [List.getElem?_append_right (by omega), show c + 1 + q - (evs ++ mid).length = q + 1 from by omega, List.getElem?_cons_succ] at he
        have := g4 q (cmpO ops o) e (by rw [mskB_get _ _ _ _ hbs, List.getElem?_map, List.getElem?_drop, ho]; rfl) he
        rw [← apL_app] at this
        exact this
    · rw [e2, List.getElem?_append_right (by omega), hlm, Nat.sub_self]; rfl
    · rw [e2, List.take_append_of_le_length (by omega), List.take_of_length_le (by omega)]
      exact hL
    · have hST := g8 x hx
      have e4 : (ec x).ap (apL (evs ++ mid) s) = apL (evs ++ mid ++ [ec x]) s := (apL_app (evs ++ mid) [ec x] s).symm
      rw [e4] at hST
      obtain ⟨post2, k1, k2, k3⟩ := st_tab cs (c :: ds) (c + 1) (some (c, bs, evs ++ (mid ++ e0 :: post))) (evs ++ mid ++ [ec x]) (by rw [List.length_append, hlm]; rfl) (by omega) (fun y hy => by
        cases cs with
        | nil => simp at hy
        | cons z cs =>
          simp at hy; subst hy
          simp only [chM, Bool.and_eq_true, decide_eq_true_eq] at hch
          omega) (by
        cases cs with
        | nil => rfl
        | cons z cs => simp only [chM, Bool.and_eq_true] at hch; exact hch.2) (fun i o e hi hds ho he => by
        have hic : i < c := by
          have : i ≠ c := fun e => hds (by rw [e]; exact List.mem_cons_self)
          omega
        rw [List.take_append_of_le_length (by omega)]
        rw [List.getElem?_append_left (by omega)] at he
        exact hlaw i o e hic (fun hh => hds (List.mem_cons_of_mem _ hh)) ho he) hST
      refine ⟨_, k2, ?_, fun j hj => ?_, k3⟩
      · rw [List.append_assoc, List.getElem?_append_right (by omega), hlm, Nat.sub_self]; rfl
      · rcases Nat.lt_or_ge j c with h1 | h1
        · rw [List.append_assoc, List.getElem?_append_left (by omega), e2]
          exact (List.getElem?_append_left (by omega)).symm
        · simp only [fre, Bool.or_eq_true, Bool.and_eq_true, decide_eq_true_eq] at hj
          obtain ⟨h3, h4⟩ := hj.resolve_left (by omega)
          exact k1 j h3 h4

theorem drawM_sound (hm : P.follows .mixedOrders = true) {id : Nat} {ops : List Oper} {k : List It} {s : AS} (pu : List Nat) (cs : List (Nat × List Bool)) (hbk : bkB ops 0 = true) (hok : okM ops pu cs = true) (h : ST P w0 lent Q ops pu k s cs 0 none [] s) :
    AW P w0 lent Q (.code (.region id ⟨ops⟩ true) :: k) s := by
  simp only [okM, Bool.and_eq_true, List.all_eq_true, Bool.not_eq_true'] at hok
  obtain ⟨hch, hafs⟩ := hok
  obtain ⟨hlt, hwait⟩ := anc_facts hbk
  obtain ⟨hml, hmk⟩ := mks_spec ops ops [] (fun i o h => by simpa using h) (fun i k h => by simp at h)
  have hback := bkB_spec ops 0 hbk
  have hA : ∀ x ∈ cs, ∀ j, j < ops.length → j ≠ x.1 → fre x.1 x.2 j = false → Anc ops j x.1 := fun x hx j h1 h2 h3 => by
    have hj : j < (mks ops []).length := by rw [hml]; simpa using h1
    have := afM_spec x.1 x.2 _ 0 (hafs x hx).1 j _ (List.getElem?_eq_getElem hj) (by omega) (by rw [Nat.zero_add]; exact h3)
    exact hmk j x.1 (by rw [List.getD_eq_getElem?_getD, List.getElem?_eq_getElem hj]; exact this)
  obtain ⟨L0, _, _, hT⟩ := st_tab cs [] 0 none [] rfl (Nat.zero_le _) (fun _ _ => Nat.zero_le _) hch (fun i o e h => by omega) h
  rw [List.nil_append] at hT
  intro loc a w hR
  refine wp_region_any (ops := ops.toArray) hm (wpAny_inv (fun listed a w => (∀ i j, listed.getD i false = true → Anc ops i j → listed.getD j false = true) ∧
      ∃ cs' ds L loc, (∀ x ∈ cs', x ∈ cs) ∧ chM cs' = true ∧ TabOK P w0 lent Q ops pu k s cs' ds L ∧ (∀ d ∈ ds, listed.getD d false = true) ∧ (∀ x ∈ cs'.head?, listed.getD x.1 false = false) ∧ Rel w0 lent (fo (fun i => listed.getD i false) 0 L s) loc a w) (fun i o ho e he hbe => ?_)
    (fun listed a w i o hsz hJ ho hli hpre => ?_) (fun listed a w hsz hall hJ => ?_) _ _ _ _ (by simp) (by simp) ⟨fun i j hi _ => ?_, cs, [], L0, loc, fun _ h => h, hch, hT, fun d hd => by simp at hd, fun x hx => ?_, ?_⟩)
  · have := hback i o (by simpa using ho) e he hbe
    omega
  · obtain ⟨hclo, cs', ds, L, loc, hin, hch', hT, hds, hhd, hR⟩ := hJ
    have ho' : ops[i]? = some o := by simpa using ho
    have hil : i < ops.length := lt_of_some ho'
    have hil2 : i < listed.size := by rw [hsz]; simpa using hil
    have hli' : listed.getD i false = false := by
      rw [Array.getD_eq_getD_getElem?] at hli ⊢
      rw [Array.getElem?_eq_getElem hil2] at hli ⊢
      exact hli
    have hset : ∀ j, (listed.setIfInBounds i true).getD j false = if j = i then true else listed.getD j false := fun j => by
      rw [Array.getD_eq_getD_getElem?, Array.getElem?_setIfInBounds]
      by_cases hj : i = j
      · subst hj; simp [hil2]
      · rw [if_neg hj, if_neg (fun e => hj e.symm), Array.getD_eq_getD_getElem?]
    have hanc : ∀ j, Anc ops i j → listed.getD j false = true := fun j hA => by
      cases hA with
      | dir h => obtain ⟨e', he', hb, rfl⟩ := hwait i o ho' j h; exact hpre e' he' hb
      | tr h h2 => obtain ⟨e', he', hb, e2⟩ := hwait i o ho' _ h; exact hclo _ j (by rw [← e2]; exact hpre e' he' hb) h2
    have hclo' : ∀ p q, (listed.setIfInBounds i true).getD p false = true → Anc ops p q → (listed.setIfInBounds i true).getD q false = true := fun p q hp hA => by
      rw [hset] at hp ⊢
      split
      · rfl
      · split at hp
        · rename_i e'; subst e'; exact hanc q hA
        · exact hclo p q hp hA
    have hds' : ∀ d ∈ ds, (listed.setIfInBounds i true).getD d false = true := fun d hd => by
      rw [hset]
      split
      · rfl
      · exact hds d hd
    have hids : i ∉ ds := fun h => by rw [hds i h] at hli'; cases hli'
    -- one operation that the text knows
    have step : ∀ {s' : AS} {e : E} {loc : Loc} {R : Act → World → Prop}, Rel w0 lent s' loc a w → Sp P s' (cmpO ops o) e → (∀ loc' a' w', Rel w0 lent (e.ap s') loc' a' w' → R a' w') → wpOp P ops.toArray (fun e a w => Kt P w0 lent Q k e a w) i R a w := fun {s' e loc R} hR hSp hN => by
      unfold wpOp
      rw [ho]
      simp only
      cases hSp with
      | run hg hex =>
        rw [if_pos (wanted_gV hR ops o true hg)]
        left
        rw [← oper_wp o ops]
        exact hex.sound hR fun loc' a' w' hR' => hN loc' a' w' hR'
      | skip hg =>
        rw [if_neg (by rw [wanted_gV hR ops o false hg]; simp)]
        exact hN loc _ _ (hR.put o.dst (u := undef) (.cl .v))
    have plain : ∀ e, L.length = ops.length → CK P ops s pu L → L[i]? = some e → Sp P (apL (L.take i) s) (cmpO ops o) e → (∀ x ∈ cs'.head?, x.1 ≠ i) →
        wpOp P ops.toArray (fun e a w => Kt P w0 lent Q k e a w) i (fun a w => (∀ p q, (listed.setIfInBounds i true).getD p false = true → Anc ops p q → (listed.setIfInBounds i true).getD q false = true) ∧
          ∃ cs' ds L loc, (∀ x ∈ cs', x ∈ cs) ∧ chM cs' = true ∧ TabOK P w0 lent Q ops pu k s cs' ds L ∧ (∀ d ∈ ds, (listed.setIfInBounds i true).getD d false = true) ∧ (∀ x ∈ cs'.head?, (listed.setIfInBounds i true).getD x.1 false = false) ∧ Rel w0 lent (fo (fun j => (listed.setIfInBounds i true).getD j false) 0 L s) loc a w) a w := fun e hl hck hei hSp hne => by
      have hei' := stp_get pu L 0 i e hei
      rw [Nat.zero_add] at hei'
      have hls : (stp pu 0 L).length ≤ ops.length := by rw [stp_len]; omega
      by_cases hpu : pu.contains i = true
      · rw [if_pos hpu] at hei'
        obtain ⟨_, hi⟩ := hop_law hls hbk hck.pr hck.kc (fun j => listed.getD j false) hclo hei' hli' hanc rfl hset
        rw [fo_stp, fo_stp] at hi
        obtain ⟨o', d, q, ty, rd, vals, h1, h2, h3, h4, h5⟩ := hck.pu.get i (by simpa using hpu)
        have hoo : o' = o := by rw [ho'] at h1; exact (Option.some.inj h1).symm
        subst hoo
        have hee : e = ⟨some d, getA s.t q, none, [], rd, vals⟩ := by rw [hei] at h3; exact Option.some.inj h3
        subst hee
        have hg := fo_nq (V := fun j => listed.getD j false) L 0 s h5
        have hpe : pe P (fo (fun j => listed.getD j false) 0 L s).h (evA (fo (fun j => listed.getD j false) 0 L s).t) (cmpO ops o').oper = .val (getA s.t q) := by
          rw [h2, pe_move, ev_tmp, hg]
          exact h4
        have hSp2 : Sp P (fo (fun j => listed.getD j false) 0 L s) (cmpO ops o') _ := .run (by rw [h2]; rfl) (.val hpe)
        refine step hR hSp2 fun loc' a' w' hR' => ⟨hclo', cs', ds, L, loc', hin, hch', hT, hds', fun x hx => by rw [hset, if_neg (hne x hx)]; exact hhd x hx, Rel.eqv hi.symm ?_⟩
        have : (cmpO ops o').dst = some d := by rw [h2]
        rw [this] at hR'
        exact hR'
      · rw [if_neg hpu] at hei'
        rw [apL_fo L 0 i s, Nat.zero_add] at hSp
        obtain ⟨hs, hi⟩ := hop_law hls hbk hck.pr hck.kc (fun j => listed.getD j false) hclo hei' hli' hanc (by rw [fo_stp]; exact hSp.rv.2) hset
        rw [fo_stp, fo_stp] at hs
        rw [fo_stp, fo_stp] at hi
        exact step hR (hSp.frame hs) fun loc' a' w' hR' => ⟨hclo', cs', ds, L, loc', hin, hch', hT, hds', fun x hx => by rw [hset, if_neg (hne x hx)]; exact hhd x hx, hR'.eqv hi.symm⟩
    cases cs' with
    | nil =>
      have hT' := hT
      simp only [TabOK] at hT'
      obtain ⟨hl, hck, hsp, _⟩ := hT'
      have hei : L[i]? = some (L[i]'(by omega)) := List.getElem?_eq_getElem (by omega)
      exact plain _ hl hck hei (hsp i o _ hids ho' hei) fun x hx => by simp at hx
    | cons z cs' =>
      obtain ⟨c, bs⟩ := z
      have hT' := hT
      simp only [TabOK] at hT'
      obtain ⟨hl, hck, hsp, oc, hoc, X, ok, ec, e0, he0, hL, hnext⟩ := hT'
      have hcpu : pu.contains c = false := (hafs (c, bs) (hin _ List.mem_cons_self)).2
      have hls : (stp pu 0 L).length ≤ ops.length := by rw [stp_len]; omega
      have hcf : listed.getD c false = false := hhd (c, bs) (by simp)
      have hfree : ∀ j, j < ops.length → j ≠ c → listed.getD j false = true → fre c bs j = true := fun j h1 h2 h3 => by
        cases hf : fre c bs j with
        | true => rfl
        | false =>
          have := hclo j c h3 (hA (c, bs) (hin _ List.mem_cons_self) j h1 h2 hf)
          rw [hcf] at this; cases this
      by_cases hic : i = c
      · subst hic
        have hoc' : o = oc := by rw [ho'] at hoc; exact Option.some.inj hoc
        subst hoc'
        have hv0 : e0.vals = e0.rd.map (getA (fo (fun j => decide (j < i)) 0 L s).t) := by
          have := hL.rd
          rw [apL_fo L 0 i s, Nat.zero_add] at this
          exact this
        have he0' := stp_get pu L 0 i e0 he0
        rw [Nat.zero_add, if_neg (by rw [hcpu]; simp)] at he0'
        obtain ⟨hs, _⟩ := hop_law hls hbk hck.pr hck.kc (fun j => listed.getD j false) hclo he0' hli' hanc (by rw [fo_stp]; exact hv0) hset
        rw [fo_stp, fo_stp] at hs
        have hap : fo (fun j => decide (j < i)) 0 L s = apL (L.take i) s := by rw [apL_fo L 0 i s, Nat.zero_add]
        rw [hap] at hs
        unfold wpOp
        rw [ho]
        simp only
        rw [if_pos (wanted_gV hR ops o true (by rw [hL.g]; rfl))]
        left
        rw [← oper_wp o ops]
        refine hL.wp _ hs loc a w hR _ _ fun x hx loc' a' w' hR' => ?_
        obtain ⟨L', hl', hei', hag, hT2⟩ := hnext x hx
        have htk : L'.take i = L.take i := by
          apply List.ext_getElem?
          intro j
          rw [List.getElem?_take, List.getElem?_take]
          split
          · rename_i hj; exact hag j (by simp [fre, hj])
          · rfl
        have hck2 : CK P ops s pu L' := by
          cases cs' with
          | nil => simp only [TabOK] at hT2; exact hT2.2.1
          | cons z cs' => obtain ⟨c', bs'⟩ := z; simp only [TabOK] at hT2; exact hT2.2.1
        have hv : (ec x).vals = (ec x).rd.map (getA (fo (fun j => decide (j < i)) 0 L' s).t) := by
          have h1 := hL.rd
          rw [(hL.same x hx).1, (hL.same x hx).2, h1]
          have h2 := apL_fo L' 0 i s
          rw [Nat.zero_add, htk] at h2
          rw [← h2]
        have hei2 := stp_get pu L' 0 i (ec x) hei'
        rw [Nat.zero_add, if_neg (by rw [hcpu]; simp)] at hei2
        obtain ⟨_, hi⟩ := hop_law (by rw [stp_len]; omega) hbk hck2.pr hck2.kc (fun j => listed.getD j false) hclo hei2 hli' hanc (by rw [fo_stp]; exact hv) hset
        rw [fo_stp, fo_stp] at hi
        have hfo : fo (fun j => listed.getD j false) 0 L' s = fo (fun j => listed.getD j false) 0 L s := fo_congrL L' L 0 s (by omega) fun j hj => by
          rw [Nat.zero_add] at hj
          by_cases hjl : j < ops.length
          · exact hag j (hfree j hjl (fun e => by rw [e] at hj; rw [hcf] at hj; cases hj) hj)
          · rw [List.getElem?_eq_none (by omega), List.getElem?_eq_none (by omega)]
        rw [hfo] at hi
        refine ⟨hclo', cs', i :: ds, L', loc', fun y hy => hin y (List.mem_cons_of_mem _ hy), ?_, hT2, fun d hd => ?_, fun y hy => ?_, hR'.eqv hi.symm⟩
        · cases cs' with
          | nil => rfl
          | cons z cs' => simp only [chM, Bool.and_eq_true] at hch'; exact hch'.2
        · rcases List.mem_cons.1 hd with rfl | hd
          · rw [hset, if_pos rfl]
          · exact hds' d hd
        · cases cs' with
          | nil => simp at hy
          | cons z cs' =>
            simp at hy; subst hy
            simp only [chM, Bool.and_eq_true, decide_eq_true_eq, Bool.not_eq_true'] at hch'
            rw [hset, if_neg (by omega)]
            cases hj : listed.getD z.1 false with
            | false => rfl
            | true =>
              by_cases hzl : z.1 < ops.length
              · have := hfree z.1 hzl (by omega) hj
                rw [hch'.1.2] at this; cases this
              · rw [Array.getD_eq_getD_getElem?, Array.getElem?_eq_none (by rw [hsz]; simpa using hzl)] at hj
                simp at hj
      · have hf : fre c bs i = true := by
          cases hf : fre c bs i with
          | true => rfl
          | false =>
            have := hanc c (hA (c, bs) (hin _ List.mem_cons_self) i hil hic hf)
            rw [hcf] at this; cases this
        have hei : L[i]? = some (L[i]'(by omega)) := List.getElem?_eq_getElem (by omega)
        exact plain _ hl hck hei (hsp i o _ hids hf ho' hei) fun x hx => by
          simp at hx; subst hx; exact fun e => hic e.symm
  · obtain ⟨_, cs', ds, L, loc, hin, _, hT, hds, hhd, hR⟩ := hJ
    cases cs' with
    | cons z cs' =>
      obtain ⟨c, bs⟩ := z
      simp only [TabOK] at hT
      obtain ⟨_, _, _, oc, hoc, _⟩ := hT
      have := hall c (by simpa using lt_of_some hoc)
      rw [hhd (c, bs) (by simp)] at this; cases this
    | nil =>
      simp only [TabOK] at hT
      obtain ⟨hl, _, _, hAW⟩ := hT
      have : fo (fun i => listed.getD i false) 0 L s = apL L s := by
        have h1 := apL_fo L 0 L.length s
        rw [List.take_length] at h1
        rw [h1]
        exact fo_congr _ 0 s fun j _ hj => by
          rw [hall j (by simpa [← hl] using hj)]
          simpa using hj
      rw [this] at hR
      exact hAW loc a w hR
  · simp [Array.getD_eq_getD_getElem?, Array.getElem?_replicate] at hi
    by_cases h : i < ops.length <;> simp [h] at hi
  · simp [Array.getD_eq_getD_getElem?, Array.getElem?_replicate]
    by_cases h : x.1 < ops.length <;> simp [h]
  · have h0 : fo (fun i => (Array.replicate ops.toArray.size false).getD i false) 0 L0 s = s := by
      refine fo_none _ _ _ fun j _ _ => ?_
      simp [Array.getD_eq_getD_getElem?, Array.getElem?_replicate]
      by_cases h : j < ops.length <;> simp [h]
    rw [h0]
    exact hR.grow (Below.refl _ _).drew

/-- As the walk runs it. -/
def RST (P : Program) (w0 : World) (lent : Lent) (Q : Exit → Act → World → Prop) (ops : List Oper) (pu : List Nat) (k : List It) (s : AS) : List (Nat × List Bool) → Nat → Option (Nat × List Bool × List E) → List E → AS → Prop
  | [], p, ag, evs, s1 => RDp P (fun L s' => agO ag L ∧ CK P ops s pu L ∧ AW P w0 lent Q k s') (runD P ((ops.drop p).map (cmpO ops)) evs s1)
  | (c, bs) :: cs, p, ag, evs, s1 => RDp P (fun evs1 s2 => ∃ oc, ops[c]? = some oc ∧ ∃ (X : Type) (ok : X → Prop) (ec : X → E) (e0 : E), LendC P w0 lent (cmpO ops oc) s2 ok ec e0 ∧
      RDp P (fun L _ => agO ag L ∧ CK P ops s pu L ∧ ∀ x, ok x → RST P w0 lent Q ops pu k s cs (c + 1) (some (c, bs, L)) (evs1 ++ [ec x]) ((ec x).ap s2)) (runD P (mskB ops bs (ops.drop (c + 1))) (evs1 ++ [e0]) (e0.ap s2)))
      (runD P (((ops.drop p).take (c - p)).map (cmpO ops)) evs s1)
theorem rst_st {ops : List Oper} {pu : List Nat} {k : List It} {s : AS} : ∀ (cs : List (Nat × List Bool)) (p : Nat) (ag : Option (Nat × List Bool × List E)) (evs : List E) (s1 : AS), RST P w0 lent Q ops pu k s cs p ag evs s1 → ST P w0 lent Q ops pu k s cs p ag evs s1
  | [], p, ag, evs, s1, h => by
    simp only [RST] at h
    simp only [ST]
    exact runD_sound _ _ _ h
  | (c, bs) :: cs, p, ag, evs, s1, h => by
    simp only [RST] at h
    simp only [ST]
    refine DP_mono ?_ _ _ _ (runD_sound _ _ _ h)
    rintro evs1 s2 ⟨oc, hoc, X, ok, ec, e0, hL, h2⟩
    refine ⟨oc, hoc, X, ok, ec, e0, hL, DP_mono ?_ _ _ _ (runD_sound _ _ _ h2)⟩
    rintro L _ ⟨h3, h4, h6⟩
    exact ⟨h3, h4, fun x hx => rst_st cs _ _ _ _ (h6 x hx)⟩
theorem at_drawM {id : Nat} {ops : List Oper} {k : List It} {s : AS} (hm : P.follows .mixedOrders = true) (pu : List Nat) (cs : List (Nat × List Bool)) (hbk : bkB ops 0 = true) (hok : okM ops pu cs = true) (h : RST P w0 lent Q ops pu k s cs 0 none [] s) : RWp P w0 lent Q (.draw id ⟨ops⟩ k s) :=
  drawM_sound hm pu cs hbk hok (rst_st _ _ _ _ _ h)
/-- At the region's end. -/
def KE (P : Program) (w0 : World) (lent : Lent) (Q : Exit → Act → World → Prop) (ops : List Oper) (pu : List Nat) (k : List It) (s : AS) (ag : Option (Nat × List Bool × List E)) (L : List E) (s' : AS) : Prop :=
  agO ag L ∧ CK P ops s pu L ∧ AW P w0 lent Q k s'
theorem rst_nil {ops : List Oper} {pu : List Nat} {k : List It} {s : AS} {p : Nat} {ag : Option (Nat × List Bool × List E)} {evs : List E} {s1 : AS}
    (h : RDp P (KE P w0 lent Q ops pu k s ag) (runD P ((ops.drop p).map (cmpO ops)) evs s1)) : RST P w0 lent Q ops pu k s [] p ag evs s1 := h
end

end Go.Proofs.YtjhbihooobingaaGreatDoor
/-
  The abstract machine: a drawn region whose last operation waits for all others: the others in any order, then the last.
-/
namespace Go.Proofs.YtjhbihooobingaaGreatDoor
open Go Go.RowKit
section
variable {P : Program} {w0 : World} {lent : Lent} {Q : Exit → Act → World → Prop}
def lstB (c : Nat) (ms : List Nat) : Bool := match ms[c]? with | some m => (List.range c).all fun j => m.testBit j | none => false
theorem drawZ_sound (hm : P.follows .mixedOrders = true) {id : Nat} {ops : List Oper} {k : List It} {s : AS} (c : Nat) (hcl1 : ops.length = c + 1) {oc : Oper} (hc : ops[c]? = some oc) (hg : (cmpO ops oc).g = none) (hbk : bkB ops 0 = true) (hlst : lstB c (mks ops []) = true)
    (h : DP P (fun evs s1 => prB evs (mks ops []) evs 0 = true ∧ kcB ops s evs = true ∧ AW P w0 lent Q (.ops [cmpO ops oc] :: k) s1) ((ops.take c).map (cmpO ops)) [] s) :
    AW P w0 lent Q (.code (.region id ⟨ops⟩ true) :: k) s := by
  obtain ⟨pre, hlp, hsp, hpr0, hkc0, hpost⟩ := DP_ex _ _ _ h
  rw [List.nil_append] at hpr0 hkc0
  have hcl : c < ops.length := by omega
  rw [List.length_map, List.length_take, Nat.min_eq_left (by omega)] at hlp
  obtain ⟨hlt, hwait⟩ := anc_facts hbk
  obtain ⟨hml, hmk⟩ := mks_spec ops ops [] (fun i o h => by simpa using h) (fun i k h => by simp at h)
  have hback := bkB_spec ops 0 hbk
  have hAc : ∀ j, j < c → Anc ops c j := fun j hj => by
    unfold lstB at hlst
    split at hlst
    · rename_i m hm'
      have := List.all_eq_true.1 hlst j (List.mem_range.2 hj)
      exact hmk c j (by rw [List.getD_eq_getElem?_getD, hm']; exact this)
    · cases hlst
  have hapc : fo (fun j => decide (j < c)) 0 pre s = apL pre s := by
    have := apL_fo pre 0 c s
    rw [List.take_of_length_le (by omega), Nat.zero_add] at this
    exact this.symm
  intro loc a w hR
  refine wp_region_any (ops := ops.toArray) hm (wpAny_inv (fun listed a w => (∀ i j, listed.getD i false = true → Anc ops i j → listed.getD j false = true) ∧
      ((listed.getD c false = false ∧ ∃ loc, Rel w0 lent (fo (fun i => listed.getD i false) 0 pre s) loc a w) ∨
       (listed.getD c false = true ∧ Kt P w0 lent Q k .normal a w))) (fun i o ho e he hbe => ?_)
    (fun listed a w i o hsz hJ ho hli hpre => ?_) (fun listed a w hsz hall hJ => ?_) _ _ _ _ (by simp) (by simp) ⟨fun i j hi _ => ?_, .inl ⟨?_, loc, ?_⟩⟩)
  · have := hback i o (by simpa using ho) e he hbe
    omega
  · obtain ⟨hclo, hJ⟩ := hJ
    have ho' : ops[i]? = some o := by simpa using ho
    have hil : i < ops.length := lt_of_some ho'
    have hil2 : i < listed.size := by rw [hsz]; simpa using hil
    have hli' : listed.getD i false = false := by
      rw [Array.getD_eq_getD_getElem?] at hli ⊢
      rw [Array.getElem?_eq_getElem hil2] at hli ⊢
      exact hli
    have hset : ∀ j, (listed.setIfInBounds i true).getD j false = if j = i then true else listed.getD j false := fun j => by
      rw [Array.getD_eq_getD_getElem?, Array.getElem?_setIfInBounds]
      by_cases hj : i = j
      · subst hj; simp [hil2]
      · rw [if_neg hj, if_neg (fun e => hj e.symm), Array.getD_eq_getD_getElem?]
    have hanc : ∀ j, Anc ops i j → listed.getD j false = true := fun j hA => by
      cases hA with
      | dir h => obtain ⟨e', he', hb, rfl⟩ := hwait i o ho' j h; exact hpre e' he' hb
      | tr h h2 => obtain ⟨e', he', hb, e2⟩ := hwait i o ho' _ h; exact hclo _ j (by rw [← e2]; exact hpre e' he' hb) h2
    have hclo' : ∀ p q, (listed.setIfInBounds i true).getD p false = true → Anc ops p q → (listed.setIfInBounds i true).getD q false = true := fun p q hp hA => by
      rw [hset] at hp ⊢
      split
      · rfl
      · split at hp
        · rename_i e'; subst e'; exact hanc q hA
        · exact hclo p q hp hA
    rcases hJ with ⟨hcf, loc, hR⟩ | ⟨hct, _⟩
    · rcases Nat.lt_or_ge i c with hic | hic
      · have hei : pre[i]? = some (pre[i]'(by omega)) := List.getElem?_eq_getElem (by omega)
        generalize pre[i]'(by omega) = e at hei
        have hSp : Sp P (apL (pre.take i) s) (cmpO ops o) e := hsp i _ e (by rw [List.getElem?_map, List.getElem?_take, if_pos hic, ho']; rfl) hei
        rw [apL_fo pre 0 i s, Nat.zero_add] at hSp
        obtain ⟨hs, hi⟩ := hop_law (by omega) hbk hpr0 hkc0 (fun j => listed.getD j false) hclo hei hli' hanc hSp.rv.2 hset
        have hN : ∀ loc' a' w', Rel w0 lent (e.ap (fo (fun j => listed.getD j false) 0 pre s)) loc' a' w' → _ := fun loc' a' w' hR' => (⟨hclo', .inl ⟨by rw [hset, if_neg (by omega)]; exact hcf, loc', hR'.eqv hi.symm⟩⟩ : (∀ i_1 j, (listed.setIfInBounds i true).getD i_1 false = true → Anc ops i_1 j → (listed.setIfInBounds i true).getD j false = true) ∧
          (((listed.setIfInBounds i true).getD c false = false ∧ ∃ loc, Rel w0 lent (fo (fun j => (listed.setIfInBounds i true).getD j false) 0 pre s) loc a' w') ∨ ((listed.setIfInBounds i true).getD c false = true ∧ Kt P w0 lent Q k .normal a' w')))
        have hSp := hSp.frame hs
        unfold wpOp
        rw [ho]
        simp only
        cases hSp with
        | run hg hex =>
          rw [if_pos (wanted_gV hR ops o true hg)]
          left
          rw [← oper_wp o ops]
          exact hex.sound hR fun loc' a' w' hR' => hN loc' a' w' hR'
        | skip hg =>
          rw [if_neg (by rw [wanted_gV hR ops o false hg]; simp)]
          exact hN loc _ _ (hR.put o.dst (u := undef) (.cl .v))
      · obtain rfl : i = c := by omega
        have hoc : o = oc := by rw [ho'] at hc; exact Option.some.inj hc
        subst hoc
        have hst : fo (fun j => listed.getD j false) 0 pre s = apL pre s := by
          rw [← hapc]
          refine fo_congr _ 0 s fun j _ hj => ?_
          rw [hanc j (hAc j (by omega))]
          simp; omega
        rw [hst] at hR
        have hw := hpost loc a w hR
        simp only [Kt, wpSO, hg] at hw
        unfold wpOp
        rw [ho]
        simp only
        rw [if_pos (wanted_gV hR ops o true (by rw [hg]; rfl))]
        left
        rw [← oper_wp o ops]
        exact Oper.wp_mono (fun a' w' hk => ⟨hclo', .inr ⟨by rw [hset, if_pos rfl], hk⟩⟩) hw
    · exfalso
      have hne : i ≠ c := by rintro rfl; rw [hct] at hli'; cases hli'
      have := hclo c i hct (hAc i (by omega))
      rw [hli'] at this; cases this
  · obtain ⟨_, hJ⟩ := hJ
    rcases hJ with ⟨hcf, _⟩ | ⟨_, hk⟩
    · have := hall c (by simpa using hcl)
      rw [hcf] at this; cases this
    · exact hk
  · simp [Array.getD_eq_getD_getElem?, Array.getElem?_replicate] at hi
    by_cases h : i < ops.length <;> simp [h] at hi
  · simp [Array.getD_eq_getD_getElem?, Array.getElem?_replicate, hcl]
  · have h0 : fo (fun i => (Array.replicate ops.toArray.size false).getD i false) 0 pre s = s := by
      refine fo_none _ _ _ fun j _ _ => ?_
      simp [Array.getD_eq_getD_getElem?, Array.getElem?_replicate]
      by_cases h : j < ops.length <;> simp [h]
    rw [h0]
    exact hR.grow (Below.refl _ _).drew
def KZ (P : Program) (w0 : World) (lent : Lent) (Q : Exit → Act → World → Prop) (ops : List Oper) (oc : Oper) (k : List It) (s : AS) (evs : List E) (s1 : AS) : Prop :=
  prB evs (mks ops []) evs 0 = true ∧ kcB ops s evs = true ∧ AW P w0 lent Q (.ops [cmpO ops oc] :: k) s1
theorem at_drawZ {id : Nat} {ops : List Oper} {k : List It} {s : AS} (hm : P.follows .mixedOrders = true) (c : Nat) (hl : ops.length = c + 1) {oc : Oper} (hc : ops[c]? = some oc) (hg : (cmpO ops oc).g = none) (hbk : bkB ops 0 = true) (hlst : lstB c (mks ops []) = true)
    (h : RDp P (KZ P w0 lent Q ops oc k s) (runD P ((ops.take c).map (cmpO ops)) [] s)) : RWp P w0 lent Q (.draw id ⟨ops⟩ k s) :=
  drawZ_sound hm c hl hc hg hbk hlst (runD_sound _ _ _ h)
theorem at_doneZ {ops : List Oper} {oc : Oper} {k : List It} {s s' : AS} {evs : List E} (h1 : prB evs (mks ops []) evs 0 = true) (h2 : kcB ops s evs = true) (h3 : AW P w0 lent Q (.ops [cmpO ops oc] :: k) s') :
    RDp P (KZ P w0 lent Q ops oc k s) (.done evs s') := ⟨h1, h2, h3⟩
end
end Go.Proofs.YtjhbihooobingaaGreatDoor
/-
  Walks: texts of trees.
-/
namespace Go.Proofs.YtjhbihooobingaaGreatDoor
open Go Go.RowKit Go.Proofs
structure SmW (l : List Nd) : Prop where
  n : l.length ≤ 10
  p : ∀ n ∈ l, n.p.length ≤ 8
theorem smW_tv {l : List Nd} (h : TV l) : SmW l := by
  refine ⟨h.le, fun n hn => ?_⟩
  obtain ⟨h1, h2, _⟩ := h.nd n hn
  exact (pV_len h1 h2).2
theorem nodT_len {n : Nd} (h : n.p.length ≤ 8) : (nodT n).length ≤ 13 := by
  have := txtC_len n.c
  simp [nodT]; omega
theorem nodTs_len : ∀ {l : List Nd} (k : Nat), (∀ n ∈ l, n.p.length ≤ 8) → ((l.take k).flatMap nodT).length ≤ 13 * k
  | [], k, _ => by simp
  | n :: l, 0, _ => by simp
  | n :: l, k + 1, h => by
    have h1 := nodT_len (h n List.mem_cons_self)
    have h2 := nodTs_len (l := l) k fun m hm => h m (List.mem_cons_of_mem _ hm)
    simp only [List.take_succ_cons, List.flatMap_cons, List.length_append]
    omega
theorem take_nodT {l : List Nd} {k : Nat} {x : Nd} (h : l[k]? = some x) : (l.take (k + 1)).flatMap nodT = (l.take k).flatMap nodT ++ nodT x := by
  rw [List.take_add_one, h]; simp
theorem txtT_len {w : Str} {l : List Nd} (h : SmW l) : (txtT w l).length ≤ w.length + 131 := by
  have := nodTs_len (l := l) l.length h.p
  rw [List.take_length] at this
  have := h.n
  simp only [txtT, List.length_append, List.length_cons, List.length_nil]
  omega
attribute [local irreducible] RWp AW run kPe pe Kt effA gd gu br retR RDp runD kPeD brW gW effD
set_option maxRecDepth 100000
theorem treeText_pc (w : Str) (hw : w.length ≤ 1000) (l : List Nd) (h : SmW l) : PC Tryz.prog 27 [sA w, ndA l] (vS (txtT w l)) := by
  have hn := h.n
  refine pc_enter Tryz.func27 rfl rfl fun w0 fb => go_on ?_; (try simp only [Tryz.ntmps27, push_cast, simprocAttr])
  refine at_loop (X := Nat) (fun k => [(0, sA (w ++ (l.take k).flatMap nodT)), (9, iA k)]) (fun _ => []) (fun k => k ≤ l.length) (fun k => l.length - k) 0 (Nat.zero_le _) ?_ ?_
  · (refine wk_ok ?_ ?_ ?_ ?_ <;> simp [leL, leH, idsL, idsA, idsR, inH, hget, sameRow, upA, hvA, dsts, dstO, setA_0, setA_1, setA_8, List.append, List.cons_append, List.nil_append])
  · rintro k hk
    simp only [upA, hvA, dsts, dstO, setA_0, setA_1, setA_8, List.append, List.cons_append, List.nil_append]
    refine go_on ?_
    (try simp only [push_cast, simprocAttr])
    have hlk := nodTs_len k h.p
    refine at_b (fun hg => ?_) (fun hg => ?_)
    · have hlt := lt_tt hg
      obtain ⟨x, hx⟩ := get_of_lt hlt
      have i1 := ix_n hx
      have i2 := map_get ndC hx
      have hT := ContentText_pc x.c
      have hxp := h.p x (List.mem_of_getElem? hx)
      have hc := txtC_len x.c
      simp only [ndC] at i2
      unfold ctA ctC at hT
      have w1 := wr ((k : Int) + 1) (by omega)
      obtain ⟨u, hu⟩ : ∃ u, u = w ++ (l.take k).flatMap nodT := ⟨_, rfl⟩
      have hul : u.length ≤ 1130 := by rw [hu, List.length_append]; omega
      have hfin : u ++ ((([32] ++ x.p) ++ [61]) ++ txtC x.c) = w ++ (l.take (k + 1)).flatMap nodT := by rw [take_nodT hx, hu]; simp [nodT]
      simp only [List.cons_append, List.nil_append] at hfin
      rw [← hu]
      (try simp only [hg, i1, i2, push_cast, simprocAttr])
      refine at_draw rfl (by kernel_rfl) ?_; simp only [push_cast, simprocAttr]
      have f1 : 1 + x.p.length ≤ 9223372036854775807 := by omega
      have f2 : x.p.length ≤ 9223372036854775805 := by omega
      have f3 : (x.p ++ [61]).length + 1 + (txtC x.c).length ≤ 9223372036854775807 := by simp; omega
      have f4 : u.length + ((x.p ++ [61] ++ txtC x.c).length + 1) ≤ 9223372036854775807 := by simp; omega
      (try simp only [f1, f2, push_cast, simprocAttr])
      repeat' first | (refine at_bWn (fun hb => ?_) (fun hb => ?_) <;> simp only [f1, f2, f3, f4, hb, push_cast, simprocAttr]) | (refine at_bW (fun hb => ?_) (fun hb => ?_) <;> simp only [f1, f2, f3, f4, hb, push_cast, simprocAttr]) | (refine at_callD (by simp [clB, idsL, idsA, hget]) ?_; (try simp only [push_cast, simprocAttr]); first | (refine rcd_v (hT) ?_; simp only [f1, f2, f3, f4, push_cast, simprocAttr]) | (refine rcd_d (hT) (by simp [flatV, flatL, ctC, ndC, cmC]) (by simp [ren, ctC, ndC, cmC]) ?_; simp only [f1, f2, f3, f4, push_cast, simprocAttr])) | (refine at_done (by kernel_rfl) (by kernel_rfl) (go_on ?_); (try simp only [f1, f2, f3, f4, push_cast, simprocAttr]))
      (try simp only [f1, f2, f3, f4, w1, hfin, push_cast, simprocAttr])
      refine at_fin ⟨k + 1, by omega, by omega, ?_⟩
      (refine wk_ok ?_ ?_ ?_ ?_ <;> simp [leL, leH, idsL, idsA, idsR, inH, hget, sameRow, upA, hvA, dsts, dstO, setA_0, setA_1, setA_8, List.append, List.cons_append, List.nil_append])
    · have h3 := lt_ff hg
      have hk' : k = l.length := by omega
      subst hk'
      have f1 : (w ++ (l.take l.length).flatMap nodT).length ≤ 9223372036854775806 := by rw [List.length_append]; omega
      (try simp only [hg, f1, push_cast, simprocAttr])
      refine at_ret ?_; simp only [Tryz.results27, push_cast, simprocAttr]
      simp [vX, txtT]
theorem l51Tree_pc (w : Str) (hw : w.length ≤ 1000) (l : List Nd) (h : SmW l) : PC Tryz.prog 31 [sA w, ndA l] (vS (txtT w l)) := by
  have hn := h.n
  refine pc_enter Tryz.func31 rfl rfl fun w0 fb => go_on ?_; (try simp only [Tryz.ntmps31, push_cast, simprocAttr])
  refine at_loop (X := Nat) (fun k => [(5, sA (w ++ (l.take k).flatMap nodT)), (6, iA k)]) (fun _ => []) (fun k => k ≤ l.length) (fun k => l.length - k) 0 (Nat.zero_le _) ?_ ?_
  · (refine wk_ok ?_ ?_ ?_ ?_ <;> simp [leL, leH, idsL, idsA, idsR, inH, hget, sameRow, upA, hvA, dsts, dstO, setA_0, setA_1, setA_8, List.append, List.cons_append, List.nil_append])
  · rintro k hk
    simp only [upA, hvA, dsts, dstO, setA_0, setA_1, setA_8, List.append, List.cons_append, List.nil_append]
    refine go_on ?_
    (try simp only [push_cast, simprocAttr])
    have hlk := nodTs_len k h.p
    refine at_b (fun hg => ?_) (fun hg => ?_)
    · have hlt := lt_tt hg
      obtain ⟨x, hx⟩ := get_of_lt hlt
      have i1 := ix_n hx
      have i2 := map_get ndC hx
      have hT := specContentText_pc x.c
      have hxp := h.p x (List.mem_of_getElem? hx)
      have hc := txtC_len x.c
      simp only [ndC] at i2
      unfold ctA ctC at hT
      have w1 := wr ((k : Int) + 1) (by omega)
      obtain ⟨u, hu⟩ : ∃ u, u = w ++ (l.take k).flatMap nodT := ⟨_, rfl⟩
      have hul : u.length ≤ 1130 := by rw [hu, List.length_append]; omega
      have hfin : (((u ++ [32]) ++ x.p) ++ [61]) ++ txtC x.c = w ++ (l.take (k + 1)).flatMap nodT := by rw [take_nodT hx, hu]; simp [nodT]
      rw [← hu]
      have f1 : u.length ≤ 9223372036854775806 := by omega
      have f2 : (u ++ [32]).length + x.p.length ≤ 9223372036854775807 := by simp; omega
      have f3 : ((u ++ [32]) ++ x.p).length ≤ 9223372036854775806 := by simp; omega
      have f4 : (((u ++ [32]) ++ x.p) ++ [61]).length + (txtC x.c).length ≤ 9223372036854775807 := by simp; omega
      (try simp only [hg, push_cast, simprocAttr])
      refine at_draw rfl (by kernel_rfl) ?_; simp only [push_cast, simprocAttr]
      (try simp only [f1, f2, f3, i1, i2, push_cast, simprocAttr])
      repeat' first | (refine at_bWn (fun hb => ?_) (fun hb => ?_) <;> simp only [f1, f2, f3, f4, i1, i2, hb, push_cast, simprocAttr]) | (refine at_bW (fun hb => ?_) (fun hb => ?_) <;> simp only [f1, f2, f3, f4, i1, i2, hb, push_cast, simprocAttr]) | (refine at_callD (by simp [clB, idsL, idsA, hget]) ?_; (try simp only [push_cast, simprocAttr]); first | (refine rcd_v (hT) ?_; simp only [f1, f2, f3, f4, i1, i2, push_cast, simprocAttr]) | (refine rcd_d (hT) (by simp [flatV, flatL, ctC, ndC, cmC]) (by simp [ren, ctC, ndC, cmC]) ?_; simp only [f1, f2, f3, f4, i1, i2, push_cast, simprocAttr])) | (refine at_done (by kernel_rfl) (by kernel_rfl) (go_on ?_); (try simp only [f1, f2, f3, f4, i1, i2, push_cast, simprocAttr]))
      (try simp only [f1, f2, f3, f4, w1, hfin, push_cast, simprocAttr])
      refine at_fin ⟨k + 1, by omega, by omega, ?_⟩
      (refine wk_ok ?_ ?_ ?_ ?_ <;> simp [leL, leH, idsL, idsA, idsR, inH, hget, sameRow, upA, hvA, dsts, dstO, setA_0, setA_1, setA_8, List.append, List.cons_append, List.nil_append])
    · have h3 := lt_ff hg
      have hk' : k = l.length := by omega
      subst hk'
      have f1 : (w ++ (l.take l.length).flatMap nodT).length ≤ 9223372036854775806 := by rw [List.length_append]; omega
      (try simp only [hg, f1, push_cast, simprocAttr])
      refine at_ret ?_; simp only [Tryz.results31, push_cast, simprocAttr]
      simp [vX, txtT]
end Go.Proofs.YtjhbihooobingaaGreatDoor
/-
  Walks: the laws' own helpers: copies, equalities, sizes.
-/
namespace Go.Proofs.YtjhbihooobingaaGreatDoor
open Go Go.RowKit Go.Proofs
attribute [local irreducible] RWp AW run kPe pe Kt effA gd gu br retR RDp runD kPeD brW gW effD
set_option maxRecDepth 100000
theorem nd_ext (a b : Nd) : a = b ↔ a.p = b.p ∧ a.c = b.c := by
  obtain ⟨a1, a2⟩ := a
  obtain ⟨b1, b2⟩ := b
  simp
theorem cm_ext (a b : Cm) : a = b ↔ a.p = b.p ∧ a.a = b.a ∧ a.b = b.b := by
  obtain ⟨a1, a2, a3⟩ := a
  obtain ⟨b1, b2, b3⟩ := b
  simp
end Go.Proofs.YtjhbihooobingaaGreatDoor
/-
  Walks: a side of the laws: its size, its copy, its equality.
-/
namespace Go.Proofs.YtjhbihooobingaaGreatDoor
open Go Go.RowKit Go.Proofs
theorem flat_app {a b : List Row} (ha : FlatR a) (hb : FlatR b) : FlatR (a ++ b) := fun row h => by
  rcases List.mem_append.1 h with h | h
  · exact ha row h
  · exact hb row h
theorem flat_nc {E E' : TypeId} {sz sz' : Nat} {cl cl' : Bool} (l : List Nd) (m : List Cm) : FlatR [⟨E, sz, l.map ndC, cl⟩, ⟨E', sz', m.map cmC, cl'⟩] := flat_app (flat_n l) (flat_c m)
def stO (s : St) : AV := .agg [iA s.ep, .o 0 s.base.length, .o 1 s.log.length]
attribute [local irreducible] RWp AW run kPe pe Kt effA gd gu br retR RDp runD kPeD brW gW effD
set_option maxRecDepth 100000
end Go.Proofs.YtjhbihooobingaaGreatDoor
/-
  Walks: the draws' reader: a number, a text out of a list.
-/
namespace Go.Proofs.YtjhbihooobingaaGreatDoor
open Go Go.RowKit Go.Proofs
def byC (n : Int) : List AV := [.v (.int .u8 n)]
abbrev byA (z : List Int) : AV := .sl 1 (z.map byC)
structure BytesOk (z : List Int) : Prop where
  len : z.length ≤ maxLen
  by_ : ∀ n ∈ z, 0 ≤ n ∧ n ≤ 255
def rdR (z : List Int) (p : Nat) : Row := ⟨62, 2, [[byA z, iA p]], true⟩
/-- What a draw leaves: the reader has gone on by at most c. -/
def RdD (z : List Int) (p c : Nat) (lr' : List Row) : Prop := ∃ p', lr' = [rdR z p'] ∧ p ≤ p' ∧ p' ≤ p + c
structure RdOk (z : List Int) (p : Nat) : Prop where
  by_ : BytesOk z
  l : z.length ≤ 2000
  p : p ≤ 1000000
def rowS (l : List Str) : Row := ⟨9, 1, l.map sC, true⟩
theorem RdOk.le {z : List Int} {p q : Nat} (h : RdOk z q) (hp : p ≤ q) : RdOk z p := ⟨h.by_, h.l, Nat.le_trans hp h.p⟩
theorem wrap_nn {x : Int} (h0 : 0 ≤ x) (h1 : x < 9223372036854775808) : IntKind.i64.wrap x = x := wr x (by omega)
theorem xor_nn {a b : Int} (ha : 0 ≤ a) (ha2 : a < 4611686018427387904) (hb : 0 ≤ b) (hb2 : b < 4611686018427387904) : 0 ≤ bits .xor .i64 a b := by
  obtain ⟨n, rfl⟩ : ∃ n : Nat, a = n := ⟨a.toNat, by omega⟩
  obtain ⟨m, rfl⟩ : ∃ m : Nat, b = m := ⟨b.toNat, by omega⟩
  have hx : n ^^^ m < 2 ^ 62 := Nat.xor_lt_two_pow (by omega) (by omega)
  have e0 : (BitVec.ofInt 64 (n : Int) ^^^ BitVec.ofInt 64 (m : Int)).toNat = n ^^^ m := by
    rw [BitVec.toNat_xor]
    congr 1
    · simp; omega
    · simp; omega
  have e : bits .xor .i64 (n : Int) (m : Int) = IntKind.i64.wrap ((n ^^^ m : Nat) : Int) := by
    rw [← e0]; rfl
  rw [e, wrap_nn (by omega) (by omega)]
  omega
def pdB (e f : Option Tmp × List Nat) : Bool := (match f.1, e.1 with | some a, some b => decide (a ≠ b) | _, _ => true) && (match f.1 with | some d => !e.2.contains d | none => true) && (match e.1 with | some d => !f.2.contains d | none => true)
def pjB (m : Nat) (e : Option Tmp × List Nat) : Nat → List (Option Tmp × List Nat) → Bool
  | _, [] => true
  | i, f :: l => (m.testBit i || pdB e f) && pjB m e (i + 1) l
def prP (all : List (Option Tmp × List Nat)) : List Nat → List (Option Tmp × List Nat) → Nat → Bool
  | m :: ms, e :: es, j => pjB m e 0 (all.take j) && prP all ms es (j + 1)
  | _, _, _ => true
def plB (e : E) : Bool := e.kill.isNone && e.add.isEmpty
theorem pjB_ok (m : Nat) (e : E) (he : plB e = true) : ∀ (l : List E) (i : Nat), (∀ f ∈ l, plB f = true) → pjB m (e.d, e.rd) i (l.map fun e => (e.d, e.rd)) = true → prJ m e i l = true
  | [], i, _, _ => rfl
  | f :: l, i, hl, h => by
    simp only [List.map_cons, pjB, Bool.and_eq_true, Bool.or_eq_true] at h
    simp only [prJ, Bool.and_eq_true, Bool.or_eq_true]
    refine ⟨h.1.imp id fun hp => ?_, pjB_ok m e he l (i + 1) (fun f hf => hl f (List.mem_cons_of_mem _ hf)) h.2⟩
    have hf := hl f List.mem_cons_self
    simp only [plB, Bool.and_eq_true, Option.isNone_iff_eq_none, List.isEmpty_iff] at he hf
    simp only [pdB, Bool.and_eq_true] at hp
    simp only [okE, siB, apB, E.names, he.1, he.2, hf.1, hf.2, List.map_nil, List.all_nil, Bool.and_true, Bool.and_eq_true, Bool.true_and]
    exact ⟨⟨hp.1.1, hp.1.2⟩, hp.2⟩
theorem prP_ok (all : List E) (ha : ∀ f ∈ all, plB f = true) : ∀ (ms : List Nat) (es : List E) (j : Nat), (∀ f ∈ es, plB f = true) → prP (all.map fun e => (e.d, e.rd)) ms (es.map fun e => (e.d, e.rd)) j = true → prB all ms es j = true
  | [], _, _, _, _ => rfl
  | _ :: _, [], _, _, _ => rfl
  | m :: ms, e :: es, j, he, h => by
    simp only [List.map_cons, prP, Bool.and_eq_true] at h
    simp only [prB, Bool.and_eq_true]
    rw [← List.map_take] at h
    exact ⟨pjB_ok m e (he e List.mem_cons_self) _ 0 (fun f hf => ha f (List.mem_of_mem_take hf)) h.1, prP_ok all ha ms es (j + 1) (fun f hf => he f (List.mem_cons_of_mem _ hf)) h.2⟩
/-- The end of a drawn region whose operations write nothing. -/
theorem at_done_p {P : Program} {w0 : World} {lent : Lent} {Q : Exit → Act → World → Prop} {ops : List Oper} {k : List It} {s s' : AS} {evs : List E} (h1 : evs.all plB = true)
    (h2 : prP (evs.map fun e => (e.d, e.rd)) (mks ops []) (evs.map fun e => (e.d, e.rd)) 0 = true) (h : AW P w0 lent Q k s') : RDp P (KD P w0 lent Q ops k s) (.done evs s') := by
  have h0 := List.all_eq_true.1 h1
  refine ⟨prP_ok evs h0 _ _ 0 h0 h2, ?_, h⟩
  simp only [kcB, Bool.or_eq_true]
  refine .inl (List.all_eq_true.2 fun e he => ?_)
  have := h0 e he
  simp only [plB, Bool.and_eq_true] at this
  exact this.1
attribute [local irreducible] RWp AW run kPe pe Kt effA gd gu br retR RDp runD kPeD brW gW effD
set_option maxRecDepth 100000
theorem l6Open_pc (z : List Int) (hz : BytesOk z) : PC Tryz.prog 17 [byA z] (rX (.p 0 0 0) [rdR (z.take 2000) 0]) := by
  refine pc_enter Tryz.func17 rfl rfl fun w0 fb => go_on ?_; (try simp only [Tryz.ntmps17, push_cast, simprocAttr])
  refine at_b (fun hb => ?_) (fun hb => ?_)
  · have h1 := of_ltI_t hb
    have h2 : (2000 : Int) ≤ z.length := by omega
    (try simp only [hb, h2, push_cast, simprocAttr])
    refine at_ret ?_; simp only [Tryz.results17, push_cast, simprocAttr]
    simp [rX, ixOf, rdR]
  · have h1 := of_ltI_f hb
    (try simp only [hb, push_cast, simprocAttr])
    refine at_ret ?_; simp only [Tryz.results17, push_cast, simprocAttr]
    rw [List.take_of_length_le (by omega)]
    simp [rX, ixOf, rdR]
def pickD (z : List Int) (p n : Nat) (rv : AV) (lr' rows : List Row) : Prop := ∃ k : Nat, rv = iA k ∧ (0 < n → k < n) ∧ lr' = [rdR z (p + 1)] ∧ rows = []
theorem pick_pcl (z : List Int) (p n : Nat) (hr : RdOk z p) (hn : n ≤ 1000000) : PCL Tryz.prog 18 [rdR z p] (mvF none) [.p 0 0 0, iA n] (pickD z p n) := by
  have hp := hr.p
  have w1 : IntKind.i64.wrap ((p : Int) + 1) = (p : Int) + 1 := wrap_nn (by omega) (by omega)
  refine pcl_enter Tryz.func18 rfl rfl (by simp) fun w0 fb loc => go_on ?_
  unfold rdR
  (try simp only [Tryz.ntmps18, hpL, nmL, mvF, renL, decide_true, decide_false, w1, push_cast, simprocAttr])
  have hfin : ∀ k : Nat, (0 < n → k < n) → pickD z p n (iA k) [rdR z (p + 1)] [] := fun k h => ⟨k, rfl, h, rfl, rfl⟩
  rcases Nat.eq_zero_or_pos n with hn0 | hn0
  · have i1 : ltI (n : Int) 1 = true := ltI_t (by omega)
    (try simp only [i1, push_cast, simprocAttr])
    refine at_retL ?_
    simp only [Tryz.results18, retL, push_cast, simprocAttr]
    simpa [show List.range 1 = [0] from rfl, nmL, mvF, ndB, ixOf, rowsOf, hget, rdR] using hfin 0 (by omega)
  · have i1 : ltI (n : Int) 1 = false := ltI_f (by omega)
    rcases Nat.eq_zero_or_pos z.length with hz | hz
    · have i2 : eqI (z.length : Int) 0 = true := eqI_t (by omega)
      (try simp only [i1, i2, push_cast, simprocAttr])
      refine at_retL ?_
      simp only [Tryz.results18, retL, push_cast, simprocAttr]
      simpa [show List.range 1 = [0] from rfl, nmL, mvF, ndB, ixOf, rowsOf, hget, rdR] using hfin 0 (fun _ => hn0)
    · have i2 : eqI (z.length : Int) 0 = false := eqI_f (by omega)
      have w2 : IntKind.i64.wrap ((p : Int) + 1 - 1) = (p : Int) := by rw [wrap_nn (by omega) (by omega)]; omega
      have n0 : ((n : Int) = 0) = False := eq_false (by omega)
      have z0 : ((z.length : Int) = 0) = False := eq_false (by omega)
      have tm : ∀ a b : Nat, Int.tmod (a : Int) (b : Int) = ((a % b : Nat) : Int) := fun a b => (Int.ofNat_tmod a b).symm
      have hbyte : ∀ i, i < z.length → ∃ b : Nat, z[i]? = some (b : Int) ∧ b ≤ 255 := fun i hi => by
        obtain ⟨x, hx⟩ := get_of_lt hi
        obtain ⟨h1, h2⟩ := hr.by_.by_ x (mem_of_get hx)
        exact ⟨x.toNat, by rw [hx]; congr 1; omega, by omega⟩
      (try simp only [i1, i2, w2, push_cast, simprocAttr])
      by_cases hlt : p < z.length
      · have i3 : ltI (p : Int) z.length = true := ltI_t (by omega)
        obtain ⟨b, hb, hb2⟩ := hbyte p hlt
        have i4 := ix_n hb
        have i5 := map_get byC hb
        have w3 : IntKind.i64.wrap (b : Int) = b := wrap_nn (by omega) (by omega)
        obtain ⟨u, hu⟩ : ∃ u, u = b % n := ⟨_, rfl⟩
        have t1 : Int.tmod (b : Int) n = (u : Int) := by rw [hu]; exact tm b n
        simp only [byC] at i5
        (try simp only [i3, i4, i5, w3, n0, t1, push_cast, simprocAttr])
        refine at_retL ?_
        simp only [Tryz.results18, retL, push_cast, simprocAttr]
        simpa [show List.range 1 = [0] from rfl, nmL, mvF, ndB, ixOf, rowsOf, hget, rdR] using hfin u (fun h => by rw [hu]; exact Nat.mod_lt _ h)
      · have i3 : ltI (p : Int) z.length = false := ltI_f (by omega)
        have hl := hr.l
        obtain ⟨d, hd0⟩ : ∃ d, d = p / z.length := ⟨_, rfl⟩
        have hd : d ≤ p := by rw [hd0]; exact Nat.div_le_self _ _
        obtain ⟨u1, hu1⟩ : ∃ u, u = p % z.length := ⟨_, rfl⟩
        obtain ⟨u2, hu2⟩ : ∃ u, u = (p * 7 + 3) % z.length := ⟨_, rfl⟩
        obtain ⟨b, hb, hb2⟩ := hbyte u1 (by rw [hu1]; exact Nat.mod_lt _ hz)
        obtain ⟨c, hc, hc2⟩ := hbyte u2 (by rw [hu2]; exact Nat.mod_lt _ hz)
        have i4 := ix_n hb
        have i5 := map_get byC hb
        have i6 := ix_n hc
        have i7 := map_get byC hc
        simp only [byC] at i5 i7
        have t2 : Int.tmod (p : Int) z.length = (u1 : Int) := by rw [hu1]; exact tm p z.length
        have t3 : Int.tmod ((p : Int) * 7 + 3) z.length = (u2 : Int) := by rw [hu2, ← tm]; congr 1
        have t4 : Int.tdiv (p : Int) z.length = (d : Int) := by rw [hd0]; exact (Int.ofNat_tdiv p z.length).symm
        have v1 : IntKind.i64.wrap (b : Int) = b := wrap_nn (by omega) (by omega)
        have v2 : IntKind.i64.wrap (c : Int) = c := wrap_nn (by omega) (by omega)
        have v3 : IntKind.i64.wrap ((b : Int) * 131) = b * 131 := wrap_nn (by omega) (by omega)
        have v4 : IntKind.i64.wrap ((p : Int) * 7) = p * 7 := wrap_nn (by omega) (by omega)
        have v5 : IntKind.i64.wrap ((p : Int) * 7 + 3) = p * 7 + 3 := wrap_nn (by omega) (by omega)
        have v6 : IntKind.i64.wrap ((c : Int) * 1117) = c * 1117 := wrap_nn (by omega) (by omega)
        have v7 : IntKind.i64.wrap ((b : Int) * 131 + c * 1117) = b * 131 + c * 1117 := wrap_nn (by omega) (by omega)
        have v8 : IntKind.i64.wrap ((p : Int) * 29) = p * 29 := wrap_nn (by omega) (by omega)
        have v9 : IntKind.i64.wrap ((b : Int) * 131 + c * 1117 + p * 29) = b * 131 + c * 1117 + p * 29 := wrap_nn (by omega) (by omega)
        have v10 : IntKind.i64.wrap (d : Int) = (d : Int) := wrap_nn (by omega) (by omega)
        have v11 : IntKind.i64.wrap ((d : Int) * 53) = (d : Int) * 53 := wrap_nn (by omega) (by omega)
        obtain ⟨X, hX⟩ : ∃ X : Nat, X = b * 131 + c * 1117 + p * 29 + d * 53 := ⟨_, rfl⟩
        have v12 : IntKind.i64.wrap ((b : Int) * 131 + c * 1117 + p * 29 + (d : Int) * 53) = (X : Int) := by
          rw [wrap_nn (by omega) (by omega), hX]; omega
        have hXb : X < 4611686018427387904 := by omega
        obtain ⟨X2, hX2⟩ : ∃ X2, X2 = X / 64 := ⟨_, rfl⟩
        have v13 : IntKind.i64.wrap (Int.tdiv (X : Int) 64) = (X2 : Int) := by
          rw [show Int.tdiv (X : Int) 64 = ((X / 64 : Nat) : Int) from (Int.ofNat_tdiv X 64).symm, wrap_nn (by omega) (by omega), hX2]
        obtain ⟨Y, hY⟩ : ∃ Y : Nat, bits .xor .i64 (X : Int) (X2 : Int) = (Y : Int) := by
          have := xor_nn (a := (X : Int)) (b := (X2 : Int)) (by omega) (by omega) (by omega) (by omega)
          exact ⟨(bits .xor .i64 (X : Int) (X2 : Int)).toNat, by omega⟩
        obtain ⟨u3, hu3⟩ : ∃ u, u = Y % n := ⟨_, rfl⟩
        have t5 : Int.tmod (Y : Int) n = (u3 : Int) := by rw [hu3]; exact tm Y n
        (try simp only [i3, push_cast, simprocAttr])
        refine at_draw rfl (by kernel_rfl) ?_
        (try simp only [push_cast, simprocAttr])
        (try simp only [z0, t2, push_cast, simprocAttr])
        (try simp only [i4, i5, v1, v3, push_cast, simprocAttr])
        (try simp only [z0, v4, v5, t3, push_cast, simprocAttr])
        (try simp only [i6, i7, v2, v6, v7, v8, v9, push_cast, simprocAttr])
        (try simp only [z0, t4, v10, v11, v12, push_cast, simprocAttr])
        refine at_done_p (by kernel_rfl) (by simp only [List.map_cons, List.map_nil]; kernel_rfl) (go_on_n 4 ?_)
        (try simp only [run_0, show ((64 : Int) = 0) = False from by simp, push_cast, simprocAttr])
        refine at_more (go_on_n 2 ?_)
        (try simp only [run_0, v13, show ((64 : Int) = 0) = False from by simp, push_cast, simprocAttr])
        refine at_more (go_on_n 3 ?_)
        (try simp only [run_0, v13, hY, push_cast, simprocAttr])
        refine at_more (go_on_n 3 ?_)
        (try simp only [run_0, n0, t5, push_cast, simprocAttr])
        refine at_more (go_on_n 3 ?_)
        (try simp only [run_0, n0, t5, push_cast, simprocAttr])
        refine at_more (go_on ?_)
        (try simp only [push_cast, simprocAttr])
        refine at_retL ?_
        simp only [Tryz.results18, retL, push_cast, simprocAttr]
        simpa [show List.range 1 = [0] from rfl, nmL, mvF, ndB, ixOf, rowsOf, hget, rdR] using hfin u3 (fun h => by rw [hu3]; exact Nat.mod_lt _ h)
end Go.Proofs.YtjhbihooobingaaGreatDoor
/-
  Walks: the draws: a text, a content.
-/
namespace Go.Proofs.YtjhbihooobingaaGreatDoor
open Go Go.RowKit Go.Proofs
def ofD (z : List Int) (p : Nat) (l : List Str) (rv : AV) (lr' rows : List Row) : Prop := ∃ s, s ∈ l ∧ rv = sA s ∧ lr' = [rdR z (p + 1), rowS l] ∧ rows = []
def strD (z : List Int) (p c B : Nat) (rv : AV) (lr' rows : List Row) : Prop := ∃ s : Str, s.length ≤ B ∧ rv = sA s ∧ RdD z p c lr' ∧ rows = []
def ctD (z : List Int) (p c : Nat) (rv : AV) (lr' rows : List Row) : Prop := ∃ x : Ct, rv = ctA x ∧ RdD z p c lr' ∧ rows = []
attribute [local irreducible] RWp AW run kPe pe Kt effA gd gu br retR RDp runD kPeD brW gW effD
set_option maxRecDepth 100000
theorem of_pcl (z : List Int) (p : Nat) (l : List Str) (hr : RdOk z p) (h0 : 0 < l.length) (h1 : l.length ≤ 1000) : PCL Tryz.prog 19 [rdR z p, rowS l] (mvF none) [.p 0 0 0, .o 1 l.length] (ofD z p l) := by
  refine pcl_enter Tryz.func19 rfl rfl (by simp) fun w0 fb loc => go_on ?_; simp only [Tryz.ntmps19, hpL, nmL, mvF, renL, decide_true, decide_false, push_cast, simprocAttr]
  (try simp only [push_cast, simprocAttr]); refine call_lend [500000] none (lr := [rdR z p]) (by simp [ndB]) (by first | rfl | simp [rowsOf, hget, rdR, rowS, rowN, rowC, sC, ndC, cmC]) (by simp [idsL, idsA]) (by simp [mvN]) (by simpa [rnA, ixOf] using pick_pcl z p l.length hr (by omega)) ?_
  rintro rv lr' rows ⟨k, rfl, hk, rfl, rfl⟩
  have hk := hk h0
  obtain ⟨s, hs⟩ := get_of_lt hk
  have i1 := ix_n hs
  have i2 := map_get sC hs
  simp only [sC] at i2
  have hfin : ofD z p l (sA s) [rdR z (p + 1), rowS l] [] := ⟨s, mem_of_get hs, rfl, rfl, rfl⟩
  (refine ⟨by simp [shB, mvF, rdR, rowS, rowN, rowC], by simp [frB, baseOf], go_on ?_⟩; simp only [i1, i2, rowS, killA, killH, killRow, push_cast, simprocAttr])
  (refine at_retL ?_; simp only [Tryz.results19, retL, push_cast, simprocAttr]; simpa [show List.range 1 = [0] from rfl, show List.range 2 = [0, 1] from rfl, show List.range 3 = [0, 1, 2] from rfl, nmL, mvF, ndB, ixOf, rowsOf, hget, rdR, rowS, rowN, rowC] using  hfin)
theorem l91Path_pcl (z : List Int) (p : Nat) (hr : RdOk z (p + 8)) : PCL Tryz.prog 57 [rdR z p] (mvF none) [.p 0 0 0] (strD z p 8 10) := by
  refine pcl_enter Tryz.func57 rfl rfl (by simp) fun w0 fb loc => go_on ?_; simp only [Tryz.ntmps57, hpL, nmL, mvF, renL, decide_true, decide_false, push_cast, simprocAttr]
  (try simp only [push_cast, simprocAttr]); refine call_lend [500000] none (lr := [rdR z p]) (by simp [ndB]) (by first | rfl | simp [rowsOf, hget, rdR, rowS, rowN, rowC, sC, ndC, cmC]) (by simp [idsL, idsA]) (by simp [mvN]) (by simpa [rnA, ixOf] using pick_pcl z p 24 (hr.le (by omega)) (by omega)) ?_
  rintro rv lr' rows ⟨k, rfl, hk, rfl, rfl⟩
  (refine ⟨by simp [shB, mvF, rdR, rowS, rowN, rowC], by simp [frB, baseOf], go_on ?_⟩; simp only [killA, killH, killRow, push_cast, simprocAttr])
  refine at_b (fun hb => ?_) (fun hb => ?_)
  · (try simp only [hb, push_cast, simprocAttr])
    (try simp only [push_cast, simprocAttr]); refine call_lend [500000, 10] none (lr := [rdR z (p + 1), rowS [[], [47], [97], [47, 101], [47, 97, 47], [47, 47, 97], [47, 97, 47, 98, 47, 99, 47, 100, 47, 97], [47, 97, 98]]]) (by simp [ndB]) (by first | rfl | simp [rowsOf, hget, rdR, rowS, rowN, rowC, sC, ndC, cmC]) (by simp [idsL, idsA]) (by simp [mvN]) (by simpa [rnA, ixOf] using of_pcl z (p + 1) [[], [47], [97], [47, 101], [47, 97, 47], [47, 47, 97], [47, 97, 47, 98, 47, 99, 47, 100, 47, 97], [47, 97, 98]] (hr.le (by omega)) (by simp) (by simp)) ?_
    rintro rv lr' rows ⟨s, hs, rfl, rfl, rfl⟩
    have hl : s.length ≤ 10 := by
      simp only [List.mem_cons, List.not_mem_nil, or_false] at hs
      rcases hs with rfl | rfl | rfl | rfl | rfl | rfl | rfl | rfl <;> simp
    have hfin : strD z p 8 10 (sA s) [rdR z (p + 1 + 1)] [] := ⟨s, hl, rfl, ⟨_, rfl, by omega, by omega⟩, rfl⟩
    (refine ⟨by simp [shB, mvF, rdR, rowS, rowN, rowC], by simp [frB, baseOf], go_on ?_⟩; simp only [killA, killH, killRow, push_cast, simprocAttr])
    (refine at_retL ?_; simp only [Tryz.results57, retL, push_cast, simprocAttr]; simpa [show List.range 1 = [0] from rfl, show List.range 2 = [0, 1] from rfl, show List.range 3 = [0, 1, 2] from rfl, nmL, mvF, ndB, ixOf, rowsOf, hget, rdR, rowS, rowN, rowC] using  hfin)
  · (try simp only [hb, push_cast, simprocAttr])
    (try simp only [push_cast, simprocAttr]); refine call_lend [500000] none (lr := [rdR z (p + 1)]) (by simp [ndB]) (by first | rfl | simp [rowsOf, hget, rdR, rowS, rowN, rowC, sC, ndC, cmC]) (by simp [idsL, idsA]) (by simp [mvN]) (by simpa [rnA, ixOf] using pick_pcl z (p + 1) 4 (hr.le (by omega)) (by omega)) ?_
    rintro rv lr' rows ⟨a, rfl, ha, rfl, rfl⟩
    have ha := ha (by omega)
    (refine ⟨by simp [shB, mvF, rdR, rowS, rowN, rowC], by simp [frB, baseOf], go_on ?_⟩; simp only [killA, killH, killRow, push_cast, simprocAttr])
    (try simp only [push_cast, simprocAttr]); refine call_lend [500000] none (lr := [rdR z (p + 1 + 1)]) (by simp [ndB]) (by first | rfl | simp [rowsOf, hget, rdR, rowS, rowN, rowC, sC, ndC, cmC]) (by simp [idsL, idsA]) (by simp [mvN]) (by simpa [rnA, ixOf] using pick_pcl z (p + 1 + 1) 2 (hr.le (by omega)) (by omega)) ?_
    rintro rv lr' rows ⟨b, rfl, hb2, rfl, rfl⟩
    have hb2 := hb2 (by omega)
    obtain ⟨m, hm⟩ : ∃ m, m = a * b := ⟨_, rfl⟩
    have hm3 : m ≤ 3 := by
      have : b = 0 ∨ b = 1 := by omega
      rcases this with rfl | rfl <;> omega
    have v1 : IntKind.i64.wrap ((a : Int) * b) = (m : Int) := by
      have e : (a : Int) * b = (m : Int) := by rw [hm, Int.natCast_mul]
      rw [e, wrap_nn (by omega) (by omega)]
    have v2 : IntKind.i64.wrap (1 + (m : Int)) = ((1 + m : Nat) : Int) := by rw [wrap_nn (by omega) (by omega)]; omega
    obtain ⟨n, hn⟩ : ∃ n, n = 1 + m := ⟨_, rfl⟩
    rw [← hn] at v2
    (refine ⟨by simp [shB, mvF, rdR, rowS, rowN, rowC], by simp [frB, baseOf], go_on ?_⟩; simp only [v1, v2, killA, killH, killRow, push_cast, simprocAttr])
    refine at_loop (X := Nat × Str × Nat) (fun x => [(4, sA x.2.1), (5, iA x.1)]) (fun x => [(500000, rdR z x.2.2)]) (fun x => x.1 ≤ n ∧ x.2.1.length = 2 * x.1 ∧ p ≤ x.2.2 ∧ x.2.2 ≤ p + 3 + x.1) (fun x => n - x.1) (0, [], p + 1 + 1 + 1) ⟨by omega, by simp, by dsimp only; omega, by dsimp only; omega⟩ ?_ ?_
    · (refine wk_ok ?_ ?_ ?_ ?_ <;> simp [rdR, leL, leH, idsL, idsA, idsR, inH, hget, sameRow, upA, hvA, dsts, dstO, setA_0, setA_1, setA_8, List.append, List.cons_append, List.nil_append])
    · rintro ⟨i, out, q⟩ ⟨q1, q2, q3, q4⟩
      simp only at q1 q2 q3 q4
      simp only [upA, hvA, dsts, dstO, setA_0, setA_1, setA_8, List.append, List.cons_append, List.nil_append]
      refine go_on ?_
      (try simp only [push_cast, simprocAttr])
      refine at_b (fun hg => ?_) (fun hg => ?_)
      · have hlt := lt_tt hg
        have c1 : out.length ≤ 9223372036854775806 := by omega
        have c2 := app_l out [47]
        (try simp only [hg, c1, c2, push_cast, simprocAttr])
        (try simp only [push_cast, simprocAttr]); refine call_lend [500000, 26] none (lr := [rdR z q, rowS [[97], [98], [97], [98], [99], [100]]]) (by simp [ndB]) (by first | rfl | simp [rowsOf, hget, rdR, rowS, rowN, rowC, sC, ndC, cmC]) (by simp [idsL, idsA]) (by simp [mvN]) (by simpa [rnA, ixOf] using of_pcl z q [[97], [98], [97], [98], [99], [100]] (hr.le (by omega)) (by simp) (by simp)) ?_
        rintro rv lr' rows ⟨s, hs, rfl, rfl, rfl⟩
        have hl : s.length = 1 := by
          simp only [List.mem_cons, List.not_mem_nil, or_false] at hs
          rcases hs with rfl | rfl | rfl | rfl | rfl | rfl <;> rfl
        have c3 : (out ++ [47]).length + s.length ≤ 9223372036854775807 := by simp; omega
        have c4 := app_l (out ++ [47]) s
        have w1 := wr ((i : Int) + 1) (by omega)
        (refine ⟨by simp [shB, mvF, rdR, rowS, rowN, rowC], by simp [frB, baseOf], go_on ?_⟩; simp only [c3, c4, w1, killA, killH, killRow, push_cast, simprocAttr])
        refine at_fin ⟨(i + 1, out ++ [47] ++ s, q + 1), ⟨by dsimp only; omega, by simp; omega, by dsimp only; omega, by dsimp only; omega⟩, by dsimp only; omega, ?_⟩
        (refine wk_ok ?_ ?_ ?_ ?_ <;> simp [rdR, leL, leH, idsL, idsA, idsR, inH, hget, sameRow, upA, hvA, dsts, dstO, setA_0, setA_1, setA_8, List.append, List.cons_append, List.nil_append])
      · have h3 := lt_ff hg
        have hfin : strD z p 8 10 (sA out) [rdR z q] [] := ⟨out, by omega, rfl, ⟨_, rfl, by omega, by omega⟩, rfl⟩
        (try simp only [hg, push_cast, simprocAttr])
        (refine at_retL ?_; simp only [Tryz.results57, retL, push_cast, simprocAttr]; simpa [show List.range 1 = [0] from rfl, show List.range 2 = [0, 1] from rfl, show List.range 3 = [0, 1, 2] from rfl, nmL, mvF, ndB, ixOf, rowsOf, hget, rdR, rowS, rowN, rowC] using  hfin)
theorem l91Content_pcl (z : List Int) (p : Nat) (hr : RdOk z (p + 4)) : PCL Tryz.prog 33 [rdR z p] (mvF none) [.p 0 0 0] (ctD z p 4) := by
  refine pcl_enter Tryz.func33 rfl rfl (by simp) fun w0 fb loc => go_on ?_; simp only [Tryz.ntmps33, hpL, nmL, mvF, renL, decide_true, decide_false, push_cast, simprocAttr]
  (try simp only [push_cast, simprocAttr]); refine call_lend [500000] none (lr := [rdR z p]) (by simp [ndB]) (by first | rfl | simp [rowsOf, hget, rdR, rowS, rowN, rowC, sC, ndC, cmC]) (by simp [idsL, idsA]) (by simp [mvN]) (by simpa [rnA, ixOf] using pick_pcl z p 6 (hr.le (by omega)) (by omega)) ?_
  rintro rv lr' rows ⟨k, rfl, hk, rfl, rfl⟩
  have hfin : ∀ (x : Ct) (q : Nat), p ≤ q → q ≤ p + 4 → ctD z p 4 (.agg [iA x.k, iA x.v]) [rdR z q] [] := fun x q h1 h2 => ⟨x, rfl, ⟨q, rfl, h1, h2⟩, rfl⟩
  (refine ⟨by simp [shB, mvF, rdR, rowS, rowN, rowC], by simp [frB, baseOf], go_on ?_⟩; simp only [killA, killH, killRow, push_cast, simprocAttr])
  refine at_b (fun hb => ?_) (fun hb => ?_)
  · (try simp only [hb, push_cast, simprocAttr])
    (refine at_retL ?_; simp only [Tryz.results33, retL, push_cast, simprocAttr]; simpa [show List.range 1 = [0] from rfl, show List.range 2 = [0, 1] from rfl, show List.range 3 = [0, 1, 2] from rfl, nmL, mvF, ndB, ixOf, rowsOf, hget, rdR, rowS, rowN, rowC] using  hfin ⟨0, 0⟩ (p + 1) (by omega) (by omega))
  · (try simp only [hb, push_cast, simprocAttr])
    refine at_b (fun h1 => ?_) (fun h1 => ?_)
    · (try simp only [h1, push_cast, simprocAttr])
      (refine at_retL ?_; simp only [Tryz.results33, retL, push_cast, simprocAttr]; simpa [show List.range 1 = [0] from rfl, show List.range 2 = [0, 1] from rfl, show List.range 3 = [0, 1, 2] from rfl, nmL, mvF, ndB, ixOf, rowsOf, hget, rdR, rowS, rowN, rowC] using  hfin ⟨1, 0⟩ (p + 1) (by omega) (by omega))
    · (try simp only [h1, push_cast, simprocAttr])
      refine at_b (fun h2 => ?_) (fun h2 => ?_)
      · (try simp only [h2, push_cast, simprocAttr])
        (refine at_retL ?_; simp only [Tryz.results33, retL, push_cast, simprocAttr]; simpa [show List.range 1 = [0] from rfl, show List.range 2 = [0, 1] from rfl, show List.range 3 = [0, 1, 2] from rfl, nmL, mvF, ndB, ixOf, rowsOf, hget, rdR, rowS, rowN, rowC] using  hfin ⟨1, 0⟩ (p + 1) (by omega) (by omega))
      · (try simp only [h2, push_cast, simprocAttr])
        (try simp only [push_cast, simprocAttr]); refine call_lend [500000] none (lr := [rdR z (p + 1)]) (by simp [ndB]) (by first | rfl | simp [rowsOf, hget, rdR, rowS, rowN, rowC, sC, ndC, cmC]) (by simp [idsL, idsA]) (by simp [mvN]) (by simpa [rnA, ixOf] using pick_pcl z (p + 1) 5 (hr.le (by omega)) (by omega)) ?_
        rintro rv lr' rows ⟨v, rfl, _, rfl, rfl⟩
        (refine ⟨by simp [shB, mvF, rdR, rowS, rowN, rowC], by simp [frB, baseOf], go_on ?_⟩; simp only [killA, killH, killRow, push_cast, simprocAttr])
        (try simp only [push_cast, simprocAttr]); refine call_lend [500000] none (lr := [rdR z (p + 1 + 1)]) (by simp [ndB]) (by first | rfl | simp [rowsOf, hget, rdR, rowS, rowN, rowC, sC, ndC, cmC]) (by simp [idsL, idsA]) (by simp [mvN]) (by simpa [rnA, ixOf] using pick_pcl z (p + 1 + 1) 40 (hr.le (by omega)) (by omega)) ?_
        rintro rv lr' rows ⟨k2, rfl, _, rfl, rfl⟩
        (refine ⟨by simp [shB, mvF, rdR, rowS, rowN, rowC], by simp [frB, baseOf], go_on ?_⟩; simp only [killA, killH, killRow, push_cast, simprocAttr])
        refine at_b (fun h3 => ?_) (fun h3 => ?_)
        · (try simp only [h3, push_cast, simprocAttr])
          (try simp only [push_cast, simprocAttr]); refine call_lend [500000] none (lr := [rdR z (p + 1 + 1 + 1)]) (by simp [ndB]) (by first | rfl | simp [rowsOf, hget, rdR, rowS, rowN, rowC, sC, ndC, cmC]) (by simp [idsL, idsA]) (by simp [mvN]) (by simpa [rnA, ixOf] using pick_pcl z (p + 1 + 1 + 1) 3 (hr.le (by omega)) (by omega)) ?_
          rintro rv lr' rows ⟨k3, rfl, hk3, rfl, rfl⟩
          obtain ⟨x, hx⟩ := get_of_lt (l := [(-1 : Int), 99, 100]) (k := k3) (hk3 (by omega))
          have i1 := ix_n hx
          have i2 := map_get inC hx
          simp only [inC, List.map_cons, List.map_nil, List.length_cons, List.length_nil, Nat.reduceAdd] at i1 i2
          (refine ⟨by simp [shB, mvF, rdR, rowS, rowN, rowC], by simp [frB, baseOf], go_on ?_⟩; simp only [i1, i2, killA, killH, killRow, push_cast, simprocAttr])
          (refine at_retL ?_; simp only [Tryz.results33, retL, push_cast, simprocAttr]; simpa [show List.range 1 = [0] from rfl, show List.range 2 = [0, 1] from rfl, show List.range 3 = [0, 1, 2] from rfl, nmL, mvF, ndB, ixOf, rowsOf, hget, rdR, rowS, rowN, rowC] using  hfin ⟨2, x⟩ (p + 1 + 1 + 1 + 1) (by omega) (by omega))
        · (try simp only [h3, push_cast, simprocAttr])
          refine at_b (fun h4 => ?_) (fun h4 => ?_)
          · (try simp only [h4, push_cast, simprocAttr])
            (try simp only [push_cast, simprocAttr]); refine call_lend [500000] none (lr := [rdR z (p + 1 + 1 + 1)]) (by simp [ndB]) (by first | rfl | simp [rowsOf, hget, rdR, rowS, rowN, rowC, sC, ndC, cmC]) (by simp [idsL, idsA]) (by simp [mvN]) (by simpa [rnA, ixOf] using pick_pcl z (p + 1 + 1 + 1) 3 (hr.le (by omega)) (by omega)) ?_
            rintro rv lr' rows ⟨k3, rfl, hk3, rfl, rfl⟩
            obtain ⟨x, hx⟩ := get_of_lt (l := [(3 : Int), -1, 1]) (k := k3) (hk3 (by omega))
            have i1 := ix_n hx
            have i2 := map_get inC hx
            simp only [inC, List.map_cons, List.map_nil, List.length_cons, List.length_nil, Nat.reduceAdd] at i1 i2
            (refine ⟨by simp [shB, mvF, rdR, rowS, rowN, rowC], by simp [frB, baseOf], go_on ?_⟩; simp only [i1, i2, killA, killH, killRow, push_cast, simprocAttr])
            (refine at_retL ?_; simp only [Tryz.results33, retL, push_cast, simprocAttr]; simpa [show List.range 1 = [0] from rfl, show List.range 2 = [0, 1] from rfl, show List.range 3 = [0, 1, 2] from rfl, nmL, mvF, ndB, ixOf, rowsOf, hget, rdR, rowS, rowN, rowC] using  hfin ⟨x, v⟩ (p + 1 + 1 + 1 + 1) (by omega) (by omega))
          · (try simp only [h4, push_cast, simprocAttr])
            (refine at_retL ?_; simp only [Tryz.results33, retL, push_cast, simprocAttr]; simpa [show List.range 1 = [0] from rfl, show List.range 2 = [0, 1] from rfl, show List.range 3 = [0, 1, 2] from rfl, nmL, mvF, ndB, ixOf, rowsOf, hget, rdR, rowS, rowN, rowC] using  hfin ⟨2, v⟩ (p + 1 + 1 + 1) (by omega) (by omega))
end Go.Proofs.YtjhbihooobingaaGreatDoor
/-
  Walks: the draws: a tree, a path in a tree, a command.
-/
namespace Go.Proofs.YtjhbihooobingaaGreatDoor
open Go Go.RowKit Go.Proofs
def cmdD (z : List Int) (p c : Nat) (rv : AV) (lr' rows : List Row) : Prop := ∃ x : Cm, x.p.length ≤ 10 ∧ rv = cmdA x ∧ RdD z p c lr' ∧ rows = []
attribute [local irreducible] RWp AW run kPe pe Kt effA gd gu br retR RDp runD kPeD brW gW effD
set_option maxRecDepth 100000
theorem l91In_pcl (z : List Int) (p : Nat) (t : List Nd) (ht : tV t = true) (hr : RdOk z (p + 11)) : PCL Tryz.prog 32 [rdR z p] (mvF none) [.p 0 0 0, ndA t] (strD z p 11 10) := by
  have hT := (tV_iff t).1 ht
  have hTl := hT.le
  refine pcl_enter Tryz.func32 rfl rfl (by simp) fun w0 fb loc => go_on ?_; simp only [Tryz.ntmps32, hpL, nmL, mvF, renL, decide_true, decide_false, push_cast, simprocAttr]
  by_cases h0 : 0 < t.length
  · have i0 : ltI 0 (t.length : Int) = true := ltI_t (by omega)
    (try simp only [i0, push_cast, simprocAttr])
    (try simp only [push_cast, simprocAttr]); refine call_lend [500000] none (lr := [rdR z p]) (by simp [ndB]) (by first | rfl | simp [rowsOf, hget, rdR, rowS, rowN, rowC, sC, ndC, cmC]) (by simp [idsL, idsA]) (by simp [mvN]) (by simpa [rnA, ixOf] using pick_pcl z p 4 (hr.le (by omega)) (by omega)) ?_
    rintro rv lr' rows ⟨k, rfl, hk, rfl, rfl⟩
    (refine ⟨by simp [shB, mvF, rdR, rowS, rowN, rowC], by simp [frB, baseOf], go_on ?_⟩; simp only [killA, killH, killRow, push_cast, simprocAttr])
    refine at_b (fun hb => ?_) (fun hb => ?_)
    · (try simp only [hb, push_cast, simprocAttr])
      (try simp only [push_cast, simprocAttr]); refine call_lend [500000] none (lr := [rdR z (p + 1)]) (by simp [ndB]) (by first | rfl | simp [rowsOf, hget, rdR, rowS, rowN, rowC, sC, ndC, cmC]) (by simp [idsL, idsA]) (by simp [mvN]) (by simpa [rnA, ixOf] using pick_pcl z (p + 1) t.length (hr.le (by omega)) (by omega)) ?_
      rintro rv lr' rows ⟨k2, rfl, hk2, rfl, rfl⟩
      obtain ⟨x, hx⟩ := get_of_lt (hk2 h0)
      have i1 := ix_n hx
      have i2 := map_get ndC hx
      simp only [ndC] at i2
      have hxl : x.p.length ≤ 8 := (pV_len (hT.nd x (mem_of_get hx)).1 (hT.nd x (mem_of_get hx)).2.1).2
      (refine ⟨by simp [shB, mvF, rdR, rowS, rowN, rowC], by simp [frB, baseOf], go_on ?_⟩; simp only [i1, i2, killA, killH, killRow, push_cast, simprocAttr])
      (try simp only [push_cast, simprocAttr]); refine call_lend [500000] none (lr := [rdR z (p + 1 + 1)]) (by simp [ndB]) (by first | rfl | simp [rowsOf, hget, rdR, rowS, rowN, rowC, sC, ndC, cmC]) (by simp [idsL, idsA]) (by simp [mvN]) (by simpa [rnA, ixOf] using pick_pcl z (p + 1 + 1) 4 (hr.le (by omega)) (by omega)) ?_
      rintro rv lr' rows ⟨k3, rfl, hk3, rfl, rfl⟩
      (refine ⟨by simp [shB, mvF, rdR, rowS, rowN, rowC], by simp [frB, baseOf], go_on ?_⟩; simp only [killA, killH, killRow, push_cast, simprocAttr])
      refine at_b (fun hc => ?_) (fun hc => ?_)
      · have c1 : x.p.length ≤ 9223372036854775806 := by omega
        have c2 := app_l x.p [47]
        (try simp only [hc, c1, c2, push_cast, simprocAttr])
        (try simp only [push_cast, simprocAttr]); refine call_lend [500000, 28] none (lr := [rdR z (p + 1 + 1 + 1), rowS [[97], [98]]]) (by simp [ndB]) (by first | rfl | simp [rowsOf, hget, rdR, rowS, rowN, rowC, sC, ndC, cmC]) (by simp [idsL, idsA]) (by simp [mvN]) (by simpa [rnA, ixOf] using of_pcl z (p + 1 + 1 + 1) [[97], [98]] (hr.le (by omega)) (by simp) (by simp)) ?_
        rintro rv lr' rows ⟨s, hs, rfl, rfl, rfl⟩
        have hl : s.length = 1 := by
          simp only [List.mem_cons, List.not_mem_nil, or_false] at hs
          rcases hs with rfl | rfl <;> rfl
        have c3 : (x.p ++ [47]).length + s.length ≤ 9223372036854775807 := by simp; omega
        have c4 := app_l (x.p ++ [47]) s
        have hfin : strD z p 11 10 (sA (x.p ++ [47] ++ s)) [rdR z (p + 1 + 1 + 1 + 1)] [] := ⟨_, by simp; omega, rfl, ⟨_, rfl, by omega, by omega⟩, rfl⟩
        (refine ⟨by simp [shB, mvF, rdR, rowS, rowN, rowC], by simp [frB, baseOf], go_on ?_⟩; simp only [c3, c4, killA, killH, killRow, push_cast, simprocAttr])
        (refine at_retL ?_; simp only [Tryz.results32, retL, push_cast, simprocAttr]; simpa [show List.range 1 = [0] from rfl, show List.range 2 = [0, 1] from rfl, show List.range 3 = [0, 1, 2] from rfl, nmL, mvF, ndB, ixOf, rowsOf, hget, rdR, rowS, rowN, rowC] using  hfin)
      · have hfin : strD z p 11 10 (sA x.p) [rdR z (p + 1 + 1 + 1)] [] := ⟨_, by omega, rfl, ⟨_, rfl, by omega, by omega⟩, rfl⟩
        (try simp only [hc, push_cast, simprocAttr])
        (refine at_retL ?_; simp only [Tryz.results32, retL, push_cast, simprocAttr]; simpa [show List.range 1 = [0] from rfl, show List.range 2 = [0, 1] from rfl, show List.range 3 = [0, 1, 2] from rfl, nmL, mvF, ndB, ixOf, rowsOf, hget, rdR, rowS, rowN, rowC] using  hfin)
    · (try simp only [hb, push_cast, simprocAttr])
      (try simp only [push_cast, simprocAttr]); refine call_lend [500000] none (lr := [rdR z (p + 1)]) (by simp [ndB]) (by first | rfl | simp [rowsOf, hget, rdR, rowS, rowN, rowC, sC, ndC, cmC]) (by simp [idsL, idsA]) (by simp [mvN]) (by simpa [rnA, ixOf] using l91Path_pcl z (p + 1) (hr.le (by omega))) ?_
      rintro rv lr' rows ⟨s, hs, rfl, ⟨u, rfl, g1, g2⟩, rfl⟩
      have hfin : strD z p 11 10 (sA s) [rdR z u] [] := ⟨_, hs, rfl, ⟨_, rfl, by omega, by omega⟩, rfl⟩
      (refine ⟨by simp [shB, mvF, rdR, rowS, rowN, rowC], by simp [frB, baseOf], go_on ?_⟩; simp only [killA, killH, killRow, push_cast, simprocAttr])
      (refine at_retL ?_; simp only [Tryz.results32, retL, push_cast, simprocAttr]; simpa [show List.range 1 = [0] from rfl, show List.range 2 = [0, 1] from rfl, show List.range 3 = [0, 1, 2] from rfl, nmL, mvF, ndB, ixOf, rowsOf, hget, rdR, rowS, rowN, rowC] using  hfin)
  · have i0 : ltI 0 (t.length : Int) = false := ltI_f (by omega)
    (try simp only [i0, push_cast, simprocAttr])
    (try simp only [push_cast, simprocAttr]); refine call_lend [500000] none (lr := [rdR z p]) (by simp [ndB]) (by first | rfl | simp [rowsOf, hget, rdR, rowS, rowN, rowC, sC, ndC, cmC]) (by simp [idsL, idsA]) (by simp [mvN]) (by simpa [rnA, ixOf] using l91Path_pcl z p (hr.le (by omega))) ?_
    rintro rv lr' rows ⟨s, hs, rfl, ⟨u, rfl, g1, g2⟩, rfl⟩
    have hfin : strD z p 11 10 (sA s) [rdR z u] [] := ⟨_, hs, rfl, ⟨_, rfl, by omega, by omega⟩, rfl⟩
    (refine ⟨by simp [shB, mvF, rdR, rowS, rowN, rowC], by simp [frB, baseOf], go_on ?_⟩; simp only [killA, killH, killRow, push_cast, simprocAttr])
    (refine at_retL ?_; simp only [Tryz.results32, retL, push_cast, simprocAttr]; simpa [show List.range 1 = [0] from rfl, show List.range 2 = [0, 1] from rfl, show List.range 3 = [0, 1, 2] from rfl, nmL, mvF, ndB, ixOf, rowsOf, hget, rdR, rowS, rowN, rowC] using  hfin)
theorem l91Command_pcl (z : List Int) (p : Nat) (t : List Nd) (ht : tV t = true) (hr : RdOk z (p + 20)) : PCL Tryz.prog 20 [rdR z p] (mvF none) [.p 0 0 0, ndA t] (cmdD z p 20) := by
  have hT := (tV_iff t).1 ht
  have hTl := hT.le
  refine pcl_enter Tryz.func20 rfl rfl (by simp) fun w0 fb loc => go_on ?_; simp only [Tryz.ntmps20, hpL, nmL, mvF, renL, decide_true, decide_false, push_cast, simprocAttr]
  (try simp only [push_cast, simprocAttr]); refine call_lend [500000] none (lr := [rdR z p]) (by simp [ndB]) (by first | rfl | simp [rowsOf, hget, rdR, rowS, rowN, rowC, sC, ndC, cmC]) (by simp [idsL, idsA]) (by simp [mvN]) (by simpa [rnA, ixOf] using l91In_pcl z p t ht (hr.le (by omega))) ?_
  rintro rv lr' rows ⟨s, hs, rfl, ⟨u, rfl, g1, g2⟩, rfl⟩
  (refine ⟨by simp [shB, mvF, rdR, rowS, rowN, rowC], by simp [frB, baseOf], go_on ?_⟩; simp only [killA, killH, killRow, push_cast, simprocAttr])
  (try simp only [push_cast, simprocAttr]); refine call_lend [500000] none (lr := [rdR z u]) (by simp [ndB]) (by first | rfl | simp [rowsOf, hget, rdR, rowS, rowN, rowC, sC, ndC, cmC]) (by simp [idsL, idsA]) (by simp [mvN]) (by simpa [rnA, ixOf] using l91Content_pcl z u (hr.le (by omega))) ?_
  rintro rv lr' rows ⟨c, rfl, ⟨v, rfl, g3, g4⟩, rfl⟩
  (refine ⟨by simp [shB, mvF, rdR, rowS, rowN, rowC], by simp [frB, baseOf], go_on ?_⟩; simp only [killA, killH, killRow, push_cast, simprocAttr])
  (refine at_call ?_; (try simp only [push_cast, simprocAttr]); refine rwc_d (l3Get_pc t (by omega) s) (by simp [flatV, flatL, ctC, ndC, cmC]) (by simp [ren, ctC, ndC, cmC]) (go_on ?_); (try simp only [push_cast, simprocAttr]))
  (try simp only [push_cast, simprocAttr]); refine call_lend [500000] none (lr := [rdR z v]) (by simp [ndB]) (by first | rfl | simp [rowsOf, hget, rdR, rowS, rowN, rowC, sC, ndC, cmC]) (by simp [idsL, idsA]) (by simp [mvN]) (by simpa [rnA, ixOf] using pick_pcl z v 12 (hr.le (by omega)) (by omega)) ?_
  rintro rv lr' rows ⟨k, rfl, hk, rfl, rfl⟩
  (refine ⟨by simp [shB, mvF, rdR, rowS, rowN, rowC], by simp [frB, baseOf], go_on ?_⟩; simp only [killA, killH, killRow, push_cast, simprocAttr])
  refine at_b (fun hb => ?_) (fun hb => ?_)
  · (try simp only [hb, push_cast, simprocAttr])
    (try simp only [push_cast, simprocAttr]); refine call_lend [500000] none (lr := [rdR z (v + 1)]) (by simp [ndB]) (by first | rfl | simp [rowsOf, hget, rdR, rowS, rowN, rowC, sC, ndC, cmC]) (by simp [idsL, idsA]) (by simp [mvN]) (by simpa [rnA, ixOf] using l91Content_pcl z (v + 1) (hr.le (by omega))) ?_
    rintro rv lr' rows ⟨d, rfl, ⟨y, rfl, g5, g6⟩, rfl⟩
    have hfin : cmdD z p 20 (.agg [sA s, iA d.k, iA d.v, iA c.k, iA c.v]) [rdR z y] [] := ⟨⟨s, d, c⟩, hs, rfl, ⟨_, rfl, by omega, by omega⟩, rfl⟩
    (refine ⟨by simp [shB, mvF, rdR, rowS, rowN, rowC], by simp [frB, baseOf], go_on ?_⟩; simp only [killA, killH, killRow, push_cast, simprocAttr])
    (refine at_retL ?_; simp only [Tryz.results20, retL, push_cast, simprocAttr]; simpa [show List.range 1 = [0] from rfl, show List.range 2 = [0, 1] from rfl, show List.range 3 = [0, 1, 2] from rfl, nmL, mvF, ndB, ixOf, rowsOf, hget, rdR, rowS, rowN, rowC] using  hfin)
  · have hfin : cmdD z p 20 (.agg [sA s, iA (getC t s).k, iA (getC t s).v, iA c.k, iA c.v]) [rdR z (v + 1)] [] := ⟨⟨s, getC t s, c⟩, hs, rfl, ⟨_, rfl, by omega, by omega⟩, rfl⟩
    (try simp only [hb, push_cast, simprocAttr])
    (refine at_retL ?_; simp only [Tryz.results20, retL, push_cast, simprocAttr]; simpa [show List.range 1 = [0] from rfl, show List.range 2 = [0, 1] from rfl, show List.range 3 = [0, 1, 2] from rfl, nmL, mvF, ndB, ixOf, rowsOf, hget, rdR, rowS, rowN, rowC] using  hfin)
end Go.Proofs.YtjhbihooobingaaGreatDoor
/-
  Walks: the draws: a log, a broken log.
-/
namespace Go.Proofs.YtjhbihooobingaaGreatDoor
open Go Go.RowKit Go.Proofs
structure LogS (l : List Cm) : Prop where
  n : l.length ≤ 21
  p : ∀ c ∈ l, c.p.length ≤ 10
theorem cap2_tv {t : List Nd} {c : Cm} (h : (cap2 t c).2 = true) : tV (cap2 t c).1 = true := by
  unfold cap2 at *
  split at h
  · rename_i h1
    rw [if_pos h1]
    unfold apB2 at *
    cases hr : apC t c with
    | none => rw [hr] at h; cases h
    | some t' => exact apC_tv hr
  · cases h
attribute [local irreducible] RWp AW run kPe pe Kt effA gd gu br retR RDp runD kPeD brW gW effD
set_option maxRecDepth 100000
end Go.Proofs.YtjhbihooobingaaGreatDoor
/-
  Walks: the draws: a broken log.
-/
namespace Go.Proofs.YtjhbihooobingaaGreatDoor
open Go Go.RowKit Go.Proofs
theorem LogS.set {l : List Cm} (h : LogS l) (k : Nat) (x : Cm) (hx : x.p.length ≤ 10) : LogS (l.set k x) := by
  refine ⟨by simpa using h.n, fun c hc => ?_⟩
  rcases List.mem_or_eq_of_mem_set hc with hc | rfl
  · exact h.p c hc
  · exact hx
theorem effD_app2 {P : Program} {o : SO} {l : List SO} {evs : List E} {s : AS} {go : List E → AS → RD} (x y : Operand) (t : TypeId) :
    effD P o l evs s go (.call ⟨.builtin .append, ⟨[x, y]⟩, ⟨[t, t]⟩⟩) = apD o evs s go (apE P s o.dst t (evA s.t x) (evA s.t y)) := effD_app _ _ _ _ _ _ (.assign (.tmp 0)) x y t
theorem at_chkD {P : Program} {K : List E → AS → Prop} {φ : Prop} {r : RD} (hφ : φ) (h : RDp P K r) : RDp P K (.chk φ r) := ⟨hφ, h⟩
attribute [local irreducible] RWp AW run kPe pe Kt effA gd gu br retR RDp runD kPeD brW gW effD
set_option maxRecDepth 100000
end Go.Proofs.YtjhbihooobingaaGreatDoor
/-
  Walks: the draws: a side.
-/
namespace Go.Proofs.YtjhbihooobingaaGreatDoor
open Go Go.RowKit Go.Proofs
attribute [local irreducible] RWp AW run kPe pe Kt effA gd gu br retR RDp runD kPeD brW gW effD
set_option maxRecDepth 100000
end Go.Proofs.YtjhbihooobingaaGreatDoor
/-
  Walks: the sides that the laws draw.
-/
namespace Go.Proofs.YtjhbihooobingaaGreatDoor
open Go Go.RowKit Go.Proofs
theorem BytesOk.tk {z : List Int} (h : BytesOk z) : BytesOk (z.take 2000) := ⟨by have := h.len; rw [List.length_take]; omega, fun n hn => h.by_ n (List.mem_of_mem_take hn)⟩
end Go.Proofs.YtjhbihooobingaaGreatDoor
/-
  Walks: a side's tree, twice; equality of trees and of logs by the laws' own loops.
-/
namespace Go.Proofs.YtjhbihooobingaaGreatDoor
open Go Go.RowKit Go.Proofs
theorem lap_site {s : St} (h : siteV s = true) : lap s.base s.log = (siteT s, ((apAll s.base s.log).2 : Int)) := by
  unfold siteT
  rw [if_pos h]
  simp only [siteV, Bool.and_eq_true] at h
  have hf := h.2
  simp only [fits, Bool.and_eq_true] at hf
  unfold lap
  rw [if_pos (by simp_all)]
attribute [local irreducible] RWp AW run kPe pe Kt effA gd gu br retR RDp runD kPeD brW gW effD
set_option maxRecDepth 100000
theorem SiteTree_pc (s : St) (hs : SmS s) : PC Tryz.prog 48 [stA' s] (rX (.o 0 (siteT s).length) [rowN (siteT s)]) := by
  have hL := LogApply_pc s.base hs.t s.log hs.l
  have hV := SiteValid_pc s hs
  unfold stA' stC at hV ⊢
  refine pc_enter Tryz.func48 rfl rfl fun w0 fb => go_on ?_; (try simp only [Tryz.ntmps48, push_cast, simprocAttr])
  refine at_call ?_
  (try simp only [push_cast, simprocAttr])
  refine rwc_v hV ?_
  (try simp only [push_cast, simprocAttr])
  (refine at_dropS [2] (by refine wk_ok ?_ ?_ ?_ ?_ <;> simp [dropS, dropT, hasN, delL, hdel, leL, leH, idsL, idsA, idsR, inH, hget, sameRow]) ?_; simp only [dropS, dropT, hasN, delL, hdel, idsA, idsL, hget, List.map_cons, List.map_nil, List.all_cons, List.all_nil, List.append_nil, Bool.not_false, Bool.not_true, Bool.and_true, if_true, if_false, simprocAttr])
  refine go_on ?_
  (try simp only [push_cast, simprocAttr])
  refine at_b (fun hb => ?_) (fun hb => ?_)
  · have h : siteV s = false := not_t hb
    (try simp only [hb, push_cast, simprocAttr])
    refine at_ret ?_; simp only [Tryz.results48, push_cast, simprocAttr]
    simp [rX, siteT, h, ixOf]
  · have h : siteV s = true := not_f hb
    rw [lap_site h] at hL
    (try simp only [hb, push_cast, simprocAttr])
    (refine at_call ?_; (try simp only [push_cast, simprocAttr]); refine rwc_r (hL) (by simp [flatV, flatL]) (flat_n _) (by simp [frB, baseOf]) (go_on ?_); (try simp only [push_cast, simprocAttr]))
    refine at_ret ?_; simp only [Tryz.results48, push_cast, simprocAttr]
    simp [rX, ixOf]
theorem specSiteTree_pc (s : St) (hs : SmS s) : PC Tryz.prog 55 [stA' s] (vX (ndA (siteT s))) := by
  have hL := specLogApply_pc s.base hs.t s.log hs.l
  have hV := specSiteValid_pc s hs
  unfold stA' stC at hV ⊢
  refine pc_enter Tryz.func55 rfl rfl fun w0 fb => go_on ?_; (try simp only [Tryz.ntmps55, push_cast, simprocAttr])
  (refine at_call ?_; (try simp only [push_cast, simprocAttr]); refine rwc_v (hV) (go_on ?_); (try simp only [push_cast, simprocAttr]))
  refine at_b (fun hb => ?_) (fun hb => ?_)
  · have h : siteV s = false := not_t hb
    (try simp only [hb, push_cast, simprocAttr])
    refine at_retf ?_; simp only [Tryz.results55, push_cast, simprocAttr]
    simp [vX, siteT, h, ixOf]
  · have h : siteV s = true := not_f hb
    rw [lap_site h] at hL
    (try simp only [hb, push_cast, simprocAttr])
    ((try simp only [push_cast, simprocAttr]); refine at_share2 (by simp [isC2, isC]) (by first | rfl | simp [ren]) (hL) (go_on ?_); (try simp only [push_cast, simprocAttr]))
    refine at_ret ?_; simp only [Tryz.results55, push_cast, simprocAttr]
    simp [vX, ixOf]
theorem ct_ext (a b : Ct) : a = b ↔ a.k = b.k ∧ a.v = b.v := by
  obtain ⟨a1, a2⟩ := a
  obtain ⟨b1, b2⟩ := b
  simp
theorem ndg : Tryz.prog.eqGuardType Tryz.prog.depth 83 = false := by kernel_rfl
theorem ndh : Tryz.prog.stoodInHeld 83 = false := by kernel_rfl
end Go.Proofs.YtjhbihooobingaaGreatDoor
/-
  Walks: what the drawn sides keep.
-/
namespace Go.Proofs.YtjhbihooobingaaGreatDoor
open Go Go.RowKit Go.Proofs
theorem SmT2.n' {l : List Nd} (h : SmT2 l) : l.length < 4294967281 := by have := h.n; omega
theorem siteT_sm {s : St} (h : SmS s) : SmT2 (siteT s) := by
  unfold siteT
  split
  · exact apAll_sm _ _ h.t
  · exact ⟨⟨by simp, by simp⟩, by simp⟩
attribute [local irreducible] RWp AW run kPe pe Kt effA gd gu br retR RDp runD kPeD brW gW effD
set_option maxRecDepth 100000
end Go.Proofs.YtjhbihooobingaaGreatDoor
/-
  Walks: copies of sides; impl.CommandApply; equality of sides by the laws' own loops.
-/
namespace Go.Proofs.YtjhbihooobingaaGreatDoor
open Go Go.RowKit Go.Proofs
attribute [local irreducible] RWp AW run kPe pe Kt effA gd gu br retR RDp runD kPeD brW gW effD
set_option maxRecDepth 100000
theorem cloneLog_pc (l : List Cm) (hl : l.length < 4294967281) : PC Tryz.prog 110 [cmA l] (rX (.o 0 l.length) [rowC l]) := by
  refine pc_enter Tryz.func110 rfl rfl fun w0 fb => go_on ?_; (try simp only [Tryz.ntmps110, push_cast, simprocAttr])
  refine at_chk (by omega) ?_
  (try simp only [push_cast, simprocAttr])
  refine at_ret ?_; simp only [Tryz.results110, push_cast, simprocAttr]
  simp [rX, ixOf]
theorem clone_pc (s : St) (h1 : s.base.length < 4294967281) (h2 : s.log.length < 4294967281) : PC Tryz.prog 99 [stA' s] (rX (stO s) [rowN s.base, rowC s.log]) := by
  unfold stA' stC stO
  refine pc_enter Tryz.func99 rfl rfl fun w0 fb => go_on ?_; (try simp only [Tryz.ntmps99, push_cast, simprocAttr])
  refine at_draw rfl (by kernel_rfl) ?_; simp only [push_cast, simprocAttr]
  (refine at_callD (by simp [clB, idsL, idsA, hget]) ?_; (try simp only [push_cast, simprocAttr]); refine rcd_r (cloneTree_pc s.base h1) (by simp [flatV, flatL]) (flat_n _) (by simp [frB, baseOf]) ?_; (try simp only [push_cast, simprocAttr]))
  (refine at_callD (by simp [clB, idsL, idsA, hget]) ?_; (try simp only [push_cast, simprocAttr]); refine rcd_r (cloneLog_pc s.log h2) (by simp [flatV, flatL]) (flat_c _) (by simp [frB, baseOf]) ?_; (try simp only [push_cast, simprocAttr]))
  refine at_done (by kernel_rfl) (by kernel_rfl) (go_on ?_)
  (try simp only [push_cast, simprocAttr])
  refine at_ret ?_; simp only [Tryz.results99, push_cast, simprocAttr]
  simp [rX, ixOf]
theorem l41Copy_pc (s : St) (h1 : s.base.length < 4294967281) (h2 : s.log.length < 4294967281) : PC Tryz.prog 29 [stA' s] (rX (stO s) [rowN s.base, rowC s.log]) := by
  unfold stA' stC stO
  refine pc_enter Tryz.func29 rfl rfl fun w0 fb => go_on ?_; (try simp only [Tryz.ntmps29, push_cast, simprocAttr])
  refine at_draw rfl (by kernel_rfl) ?_; simp only [push_cast, simprocAttr]
  (try simp only [effD_app2, push_cast, simprocAttr])
  refine at_chkD (by omega) ?_
  (try simp only [effD_app2, push_cast, simprocAttr])
  refine at_chkD (by omega) ?_
  (try simp only [push_cast, simprocAttr])
  refine at_done (by kernel_rfl) (by kernel_rfl) (go_on ?_)
  (try simp only [push_cast, simprocAttr])
  refine at_ret ?_; simp only [Tryz.results29, push_cast, simprocAttr]
  simp [rX, ixOf]
theorem CommandApply_pc (l : List Nd) (hs : SmT2 l) (c : Cm) (hp : c.p.length < 4294967281) : PC Tryz.prog 100 [ndA l, cmdA c] (rX (.tup [.o 0 (cap2 l c).1.length, bA (cap2 l c).2]) [rowN (cap2 l c).1]) := by
  have hA := apply_pc l hs.s (by have := hs.n; omega) c hp
  have hC := CommandValid_pc c hp
  have hsm : (apB2 l c).1.length < 4294967281 := (apB2_sm hs c).n'
  unfold cmdA cmC at *
  refine pc_enter Tryz.func100 rfl rfl fun w0 fb => go_on ?_; (try simp only [Tryz.ntmps100, push_cast, simprocAttr])
  refine at_call ?_
  (try simp only [push_cast, simprocAttr])
  refine rwc_v (TreeValid_pc l hs.s) ?_
  (try simp only [push_cast, simprocAttr])
  (refine at_dropS [4] (by refine wk_ok ?_ ?_ ?_ ?_ <;> simp [dropS, dropT, hasN, delL, hdel, leL, leH, idsL, idsA, idsR, inH, hget, sameRow]) ?_; simp only [dropS, dropT, hasN, delL, hdel, idsA, idsL, hget, List.map_cons, List.map_nil, List.all_cons, List.all_nil, List.append_nil, Bool.not_false, Bool.not_true, Bool.and_true, if_true, if_false, simprocAttr])
  refine go_on ?_
  repeat' first | (refine at_b (fun hb => ?_) (fun hb => ?_) <;> simp only [hb, push_cast, simprocAttr]) | (refine at_ret ?_; simp only [Tryz.results100, push_cast, simprocAttr]) | (refine at_call ?_; (try simp only [push_cast, simprocAttr]); refine rwc_v (by first | exact hC) (go_on ?_); simp only [push_cast, simprocAttr]) | (show RWp _ _ _ _ _; simp only [push_cast, simprocAttr])
  · have h : tV l = false := not_t hb
    simp [rX, cap2, h]
  · have h : cmV c = false := not_t hb
    simp [rX, cap2, h]
  · rename_i h1
    have e : cap2 l c = apB2 l c := by unfold cap2; rw [if_pos (by simp [not_f hb, not_f h1])]
    rw [e]
    unfold shN at hA
    ((try simp only [push_cast, simprocAttr]); refine at_share2 (by simp [isC2, isC]) (by first | rfl | simp [ren]) (hA) (go_on ?_); (try simp only [push_cast, simprocAttr]))
    (refine at_call ?_; (try simp only [push_cast, simprocAttr]); refine rwc_r (cloneTree_pc _ hsm) rfl (flat_n _) (by simp [frB, baseOf]) (go_on ?_); (try simp only [push_cast, simprocAttr]))
    refine at_ret ?_; simp only [Tryz.results100, push_cast, simprocAttr]
    simp [rX, ixOf]
theorem cmg : Tryz.prog.eqGuardType Tryz.prog.depth 36 = false := by kernel_rfl
theorem cmh : Tryz.prog.stoodInHeld 36 = false := by kernel_rfl
end Go.Proofs.YtjhbihooobingaaGreatDoor
/-
  Walks: SiteDo, twice.
-/
namespace Go.Proofs.YtjhbihooobingaaGreatDoor
open Go Go.RowKit Go.Proofs
/-- What SiteDo leaves where its arguments are valid. -/
def doR (s : St) (c : Cm) : AV → List Row → Prop := rX (.tup [stO (siteDo s c).1, bA (siteDo s c).2]) [rowN (siteDo s c).1.base, rowC (siteDo s c).1.log]
def st00 : AV := .agg [iA 0, .v (.slice none 0 0), .v (.slice none 0 0)]
theorem SiteDo_bad {s : St} {c : Cm} (h : (siteV s && cmV c) = false) : siteDo s c = (st0, false) := by unfold siteDo; rw [if_neg (by simp [h])]
theorem cap2_do {s : St} {c : Cm} (h : siteV s = true) (hc : cmV c = true) : (cap2 (siteT s) c).2 = (apC (siteT s) c).isSome := by
  have ht := (law_siteTree h).2.2
  unfold cap2
  rw [if_pos (by simp [ht, hc])]
  unfold apB2
  cases apC (siteT s) c <;> rfl
theorem do_ok {s : St} {c : Cm} (h : siteV s = true) (hc : cmV c = true) (h1 : (apC (siteT s) c).isSome = true) (h2 : s.log.length ≠ 20) : siteDo s c = (⟨s.ep, s.base, s.log ++ [c]⟩, true) := by
  unfold siteDo; rw [if_pos (by simp [h, hc]), if_pos (by simp [h1, h2])]
theorem do_no {s : St} {c : Cm} (h : siteV s = true) (hc : cmV c = true) (h1 : (apC (siteT s) c).isSome = false ∨ s.log.length = 20) : siteDo s c = (s, false) := by
  unfold siteDo; rw [if_pos (by simp [h, hc]), if_neg (by rcases h1 with h1 | h1 <;> simp [h1])]
attribute [local irreducible] RWp AW run kPe pe Kt effA gd gu br retR RDp runD kPeD brW gW effD
set_option maxRecDepth 100000
theorem SiteDo_pc0 (s : St) (hs : SmS s) (c : Cm) (hp : c.p.length < 4294967281) (h : (siteV s && cmV c) = false) : PC Tryz.prog 68 [stA' s, cmdA c] (vX (.tup [st00, bA false])) := by
  have hV := SiteValid_pc s hs
  have hC := CommandValid_pc c hp
  unfold stA' stC at hV ⊢
  unfold cmdA cmC at hC ⊢
  refine pc_enter Tryz.func68 rfl rfl fun w0 fb => go_on ?_; (try simp only [Tryz.ntmps68, push_cast, simprocAttr])
  (refine at_call ?_; (try simp only [push_cast, simprocAttr]); refine rwc_v (hV) (go_on ?_); (try simp only [push_cast, simprocAttr]))
  cases hv : siteV s with
  | false =>
    (try simp only [hv, Bool.not_false, push_cast, simprocAttr])
    refine at_ret ?_; simp only [Tryz.results68, push_cast, simprocAttr]
    simp [vX, st00]
  | true =>
    rw [hv] at h
    simp only [Bool.true_and] at h
    (try simp only [hv, Bool.not_true, push_cast, simprocAttr])
    (refine at_call ?_; (try simp only [push_cast, simprocAttr]); refine rwc_v (hC) (go_on ?_); (try simp only [push_cast, simprocAttr]))
    (try simp only [h, Bool.not_false, push_cast, simprocAttr])
    refine at_ret ?_; simp only [Tryz.results68, push_cast, simprocAttr]
    simp [vX, st00]
theorem SiteDo_pc1 (s : St) (hs : SmS s) (c : Cm) (hp : c.p.length < 4294967281) (hv : siteV s = true) (hc : cmV c = true) : PC Tryz.prog 68 [stA' s, cmdA c] (doR s c) := by
  have hV := SiteValid_pc s hs
  have hC := CommandValid_pc c hp
  have hb : s.base.length < 4294967281 := by have := hs.t.n; omega
  have hl : s.log.length < 4294967280 := hs.l.n
  have hK := clone_pc s hb (by omega)
  have hK2 := clone_pc ⟨s.ep, s.base, s.log ++ [c]⟩ hb (by simp; omega)
  have hT := SiteTree_pc s hs
  have hA := CommandApply_pc (siteT s) (siteT_sm hs) c hp
  rw [cap2_do hv hc] at hA
  unfold stA' stC at hV hK hK2 hT ⊢
  unfold cmdA cmC at hC hA ⊢
  unfold stO at hK hK2
  refine pc_enter Tryz.func68 rfl rfl fun w0 fb => go_on ?_; (try simp only [Tryz.ntmps68, push_cast, simprocAttr])
  (refine at_call ?_; (try simp only [push_cast, simprocAttr]); refine rwc_v (hV) (go_on ?_); (try simp only [push_cast, simprocAttr]))
  (try simp only [hv, Bool.not_true, push_cast, simprocAttr])
  (refine at_call ?_; (try simp only [push_cast, simprocAttr]); refine rwc_v (hC) (go_on ?_); (try simp only [push_cast, simprocAttr]))
  (try simp only [hc, Bool.not_true, push_cast, simprocAttr])
  (refine at_call ?_; (try simp only [push_cast, simprocAttr]); refine rwc_r (hK) (by simp [flatV, flatL]) (flat_nc _ _) (by simp [frB, baseOf]) (go_on ?_); (try simp only [push_cast, simprocAttr]))
  refine at_draw rfl (by kernel_rfl) ?_; simp only [push_cast, simprocAttr]
  (refine at_callD (by simp [clB, idsL, idsA, hget]) ?_; (try simp only [push_cast, simprocAttr]); refine rcd_r hT (by simp [flatV, flatL]) (flat_n _) (by simp [frB, baseOf]) ?_; (try simp only [push_cast, simprocAttr]))
  (refine at_callD (by simp [clB, idsL, idsA, hget]) ?_; (try simp only [push_cast, simprocAttr]); refine rcd_r hA (by simp [flatV, flatL]) (flat_n _) (by simp [frB, baseOf]) ?_; (try simp only [push_cast, simprocAttr]))
  refine at_done (by kernel_rfl) (by kernel_rfl) (go_on ?_)
  (try simp only [push_cast, simprocAttr])
  cases h1 : (apC (siteT s) c).isSome with
  | false =>
    have e := do_no hv hc (.inl h1)
    (try simp only [h1, Bool.not_false, push_cast, simprocAttr])
    refine at_ret ?_; simp only [Tryz.results68, push_cast, simprocAttr]
    simp [doR, rX, e, stO, ixOf]
  | true =>
    (try simp only [h1, Bool.not_true, push_cast, simprocAttr])
    refine at_b (fun h2 => ?_) (fun h2 => ?_)
    · have e := do_no hv hc (.inr (by have := of_eqI_t h2; omega))
      (try simp only [h2, push_cast, simprocAttr])
      refine at_ret ?_; simp only [Tryz.results68, push_cast, simprocAttr]
      simp [doR, rX, e, stO, ixOf]
    · have e := do_ok hv hc h1 (by have := of_eqI_f h2; omega)
      have happ : s.log.map cmC ++ [[sA c.p, iA c.a.k, iA c.a.v, iA c.b.k, iA c.b.v]] = (s.log ++ [c]).map cmC := by rw [List.map_append]; rfl
      (try simp only [h2, push_cast, simprocAttr])
      refine at_chk (by omega) ?_
      (try simp only [happ, push_cast, simprocAttr])
      simp only at hK2
      have ee : (s.log ++ [c]).length = s.log.length + 1 := by simp
      rw [ee] at hK2
      refine at_call ?_
      simp only [ee, push_cast, simprocAttr]
      refine rwc_r hK2 (by simp [flatV, flatL]) (flat_nc _ _) (by simp [frB, baseOf]) (go_on ?_)
      (try simp only [push_cast, simprocAttr])
      refine at_ret ?_; simp only [Tryz.results68, push_cast, simprocAttr]
      simp [doR, rX, e, stO, ixOf]
theorem nil_st0 {h : Hp} {loc : Loc} {w : World} {v : Value} (hg : G h loc w st00 v) : G h loc w (stA' st0) v := by
  refine hg.agg2 rfl fun j x y u h1 h2 h3 => ?_
  rcases j with _ | _ | _ | j
  · cases h1; cases h2; exact h3
  · cases h1; cases h2; exact h3.nil2
  · cases h1; cases h2; exact h3.nil2
  · cases h1
/-- SiteDo, read as data. -/
theorem SiteDo_d (s : St) (hs : SmS s) (c : Cm) (hp : c.p.length < 4294967281) : PC Tryz.prog 68 [stA' s, cmdA c] (vX (.tup [stA' (siteDo s c).1, bA (siteDo s c).2])) := by
  cases h : siteV s && cmV c with
  | false =>
    rw [SiteDo_bad h]
    refine (SiteDo_pc0 s hs c hp h).less fun h loc w v hg => hg.tup2 rfl fun j x y u h1 h2 h3 => ?_
    rcases j with _ | _ | j
    · cases h1; cases h2; exact nil_st0 h3
    · cases h1; cases h2; exact h3
    · cases h1
  | true =>
    simp only [Bool.and_eq_true] at h
    have := (SiteDo_pc1 s hs c hp h.1 h.2).frzX
    simpa [viewN, hpOf, hget, stO, stA', stC, isC, tk] using this
end Go.Proofs.YtjhbihooobingaaGreatDoor
/-
  Walks: spec.SiteDo.
-/
namespace Go.Proofs.YtjhbihooobingaaGreatDoor
open Go Go.RowKit Go.Proofs
theorem siteV_add {s : St} {c : Cm} (hv : siteV s = true) (hc : cmV c = true) : siteV ⟨s.ep, s.base, s.log ++ [c]⟩ = ((apC (siteT s) c).isSome && decide (s.log.length ≠ 20)) := by
  obtain ⟨t, L, hs⟩ := (siteV_iff s).1 hv
  rw [Bool.eq_iff_iff, Bool.and_eq_true, decide_eq_true_eq, hs.T]
  constructor
  · intro h
    obtain ⟨t', L', h'⟩ := (siteV_iff _).1 h
    have h1 := apAll_append_inv hs.ap h'.ap
    obtain ⟨t1, h2, _⟩ := apAll_cons h1
    have h3 := lV_len h'.lv
    simp only [List.length_append, List.length_singleton] at h3
    exact ⟨by rw [h2]; rfl, by omega⟩
  · rintro ⟨h1, h2⟩
    cases hx : apC t c with
    | none => rw [hx] at h1; cases h1
    | some x =>
      obtain ⟨L', h3⟩ := hs.add ((cmV_iff c).1 hc) hx h2
      exact h3.v
attribute [local irreducible] RWp AW run kPe pe Kt effA gd gu br retR RDp runD kPeD brW gW effD
set_option maxRecDepth 100000
theorem specSiteDo_pc0 (s : St) (hs : SmS s) (c : Cm) (hp : c.p.length < 4294967281) (h : (siteV s && cmV c) = false) : PC Tryz.prog 90 [stA' s, cmdA c] (vX (.tup [st00, bA false])) := by
  have hV := specSiteValid_pc s hs
  have hC := specCommandValid_pc c hp
  unfold stA' stC at hV ⊢
  unfold cmdA cmC at hC ⊢
  refine pc_enter Tryz.func90 rfl rfl fun w0 fb => go_on ?_; (try simp only [Tryz.ntmps90, push_cast, simprocAttr])
  (refine at_call ?_; (try simp only [push_cast, simprocAttr]); refine rwc_v (hV) (go_on ?_); (try simp only [push_cast, simprocAttr]))
  cases hv : siteV s with
  | false =>
    (try simp only [hv, Bool.not_false, push_cast, simprocAttr])
    refine at_ret ?_; simp only [Tryz.results90, push_cast, simprocAttr]
    simp [vX, st00]
  | true =>
    rw [hv] at h
    simp only [Bool.true_and] at h
    (try simp only [hv, Bool.not_true, push_cast, simprocAttr])
    (refine at_call ?_; (try simp only [push_cast, simprocAttr]); refine rwc_v (hC) (go_on ?_); (try simp only [push_cast, simprocAttr]))
    (try simp only [h, Bool.not_false, push_cast, simprocAttr])
    refine at_ret ?_; simp only [Tryz.results90, push_cast, simprocAttr]
    simp [vX, st00]
theorem specSiteDo_pc1 (s : St) (hs : SmS s) (c : Cm) (hp : c.p.length < 4294967281) (hv : siteV s = true) (hc : cmV c = true) : PC Tryz.prog 90 [stA' s, cmdA c] (doR s c) := by
  have hV := specSiteValid_pc s hs
  have hC := specCommandValid_pc c hp
  have hb : s.base.length < 4294967281 := by have := hs.t.n; omega
  have hl : s.log.length < 4294967280 := hs.l.n
  have hK := l41Copy_pc s hb (by omega)
  have hl20 : s.log.length ≤ 20 := by
    obtain ⟨t, L, h⟩ := (siteV_iff s).1 hv
    exact lV_len h.lv
  have hV2 := specSiteValid_pc ⟨s.ep, s.base, s.log ++ [c]⟩ ⟨hs.t, ⟨by simp; omega, fun d hd => by
    rcases List.mem_append.1 hd with hd | hd
    · exact hs.l.p d hd
    · simp only [List.mem_singleton] at hd
      subst hd
      exact hp⟩⟩
  rw [siteV_add hv hc] at hV2
  generalize hB : ((apC (siteT s) c).isSome && decide (s.log.length ≠ 20)) = B at hV2
  unfold stA' stC at hV hK hV2 ⊢
  unfold cmdA cmC at hC ⊢
  unfold stO at hK
  have ee : (s.log ++ [c]).length = s.log.length + 1 := by simp
  have happ : s.log.map cmC ++ [[sA c.p, iA c.a.k, iA c.a.v, iA c.b.k, iA c.b.v]] = (s.log ++ [c]).map cmC := by rw [List.map_append]; rfl
  refine pc_enter Tryz.func90 rfl rfl fun w0 fb => go_on ?_; (try simp only [Tryz.ntmps90, push_cast, simprocAttr])
  (refine at_call ?_; (try simp only [push_cast, simprocAttr]); refine rwc_v (hV) (go_on ?_); (try simp only [push_cast, simprocAttr]))
  (try simp only [hv, Bool.not_true, push_cast, simprocAttr])
  (refine at_call ?_; (try simp only [push_cast, simprocAttr]); refine rwc_v (hC) (go_on ?_); (try simp only [push_cast, simprocAttr]))
  (try simp only [hc, Bool.not_true, push_cast, simprocAttr])
  (refine at_call ?_; (try simp only [push_cast, simprocAttr]); refine rwc_r (hK) (by simp [flatV, flatL]) (flat_nc _ _) (by simp [frB, baseOf]) (go_on ?_); (try simp only [push_cast, simprocAttr]))
  refine at_chk (by omega) ?_
  (try simp only [happ, push_cast, simprocAttr])
  refine at_call ?_
  simp only [ee, push_cast, simprocAttr]
  refine rwc_v hV2 (go_on ?_)
  (try simp only [push_cast, simprocAttr])
  cases B with
  | false =>
    have e := do_no hv hc (c := c) (by
      rcases Bool.eq_false_or_eq_true (apC (siteT s) c).isSome with h1 | h1
      · rw [h1] at hB; simp at hB; exact .inr hB
      · exact .inl h1)
    (try simp only [Bool.not_false, push_cast, simprocAttr])
    (refine at_call ?_; (try simp only [push_cast, simprocAttr]); refine rwc_r (hK) (by simp [flatV, flatL]) (flat_nc _ _) (by simp [frB, baseOf]) (go_on ?_); (try simp only [push_cast, simprocAttr]))
    refine at_ret ?_; simp only [Tryz.results90, push_cast, simprocAttr]
    simp [doR, rX, e, stO, ixOf]
  | true =>
    simp only [Bool.and_eq_true, decide_eq_true_eq] at hB
    have e := do_ok hv hc hB.1 hB.2
    (try simp only [Bool.not_true, push_cast, simprocAttr])
    refine at_ret ?_; simp only [Tryz.results90, push_cast, simprocAttr]
    simp [doR, rX, e, stO, ixOf]
/-- spec.SiteDo, read as data. -/
theorem specSiteDo_d (s : St) (hs : SmS s) (c : Cm) (hp : c.p.length < 4294967281) : PC Tryz.prog 90 [stA' s, cmdA c] (vX (.tup [stA' (siteDo s c).1, bA (siteDo s c).2])) := by
  cases h : siteV s && cmV c with
  | false =>
    rw [SiteDo_bad h]
    refine (specSiteDo_pc0 s hs c hp h).less fun h loc w v hg => hg.tup2 rfl fun j x y u h1 h2 h3 => ?_
    rcases j with _ | _ | j
    · cases h1; cases h2; exact nil_st0 h3
    · cases h1; cases h2; exact h3
    · cases h1
  | true =>
    simp only [Bool.and_eq_true] at h
    have := (specSiteDo_pc1 s hs c hp h.1 h.2).frzX
    simpa [viewN, hpOf, hget, stO, stA', stC, isC, tk] using this
end Go.Proofs.YtjhbihooobingaaGreatDoor
/-
  Walks: the sides that the laws draw (DrawSiteDo).
-/
namespace Go.Proofs.YtjhbihooobingaaGreatDoor
open Go Go.RowKit Go.Proofs
theorem at_shareD {P : Program} {K : List E → AS → Prop} {f : FuncId} {args : List AV} {o : SO} {l : List SO} {evs : List E} {s : AS} {x : AV} (hc : args.all isC2 = true) (hx : ren (baseOf o.dst) x = x) (hpc : PC P f args (vX x))
    (hk : RDp P K (runD P l (evs ++ [mkE o s x none []]) (s.put o.dst x))) : RDp P K (.call f args o l evs s) := by
  refine ⟨x, [], .inr ⟨hc, hpc⟩, frB_0 _ _, ?_⟩
  rw [hx]
  exact runD_sound _ _ _ (by simpa only [hpOf, hsets] using hk)
theorem tV_siteT (s : St) : tV (siteT s) = true := by
  cases h : siteV s with
  | true => exact (law_siteTree h).2.2
  | false => simp [siteT, h, tV, sortP]
attribute [local irreducible] RWp AW run kPe pe Kt effA gd gu br retR RDp runD kPeD brW gW effD
set_option maxRecDepth 100000
end Go.Proofs.YtjhbihooobingaaGreatDoor
/-
  Walks: what the functions of sides leave, read as data.
-/
namespace Go.Proofs.YtjhbihooobingaaGreatDoor
open Go Go.RowKit Go.Proofs
theorem SiteTree_d (s : St) (hs : SmS s) : PC Tryz.prog 48 [stA' s] (vX (ndA (siteT s))) := by
  have := (SiteTree_pc s hs).frzX
  simpa [viewN, hpOf, hget, isC, tk] using this
theorem siteDo_sm {s : St} (hs : SmS s) {c : Cm} (hp : c.p.length < 4294967281) : SmS (siteDo s c).1 := by
  unfold siteDo
  split
  · rename_i h
    simp only [Bool.and_eq_true] at h
    obtain ⟨t, L, h3⟩ := (siteV_iff s).1 h.1
    have := lV_len h3.lv
    split
    · refine ⟨hs.t, ⟨by simp; omega, fun d hd => ?_⟩⟩
      rcases List.mem_append.1 hd with hd | hd
      · exact hs.l.p d hd
      · simp only [List.mem_singleton] at hd
        subst hd
        exact hp
    · exact hs
  · exact ⟨⟨⟨by simp [st0], by simp [st0]⟩, by simp [st0]⟩, ⟨by simp [st0], by simp [st0]⟩⟩
end Go.Proofs.YtjhbihooobingaaGreatDoor
/-
  Walks: slices.DeleteFunc at commands.
-/
namespace Go.Proofs.YtjhbihooobingaaGreatDoor
open Go Go.RowKit Go.Proofs
attribute [local irreducible] RWp AW run kPe pe Kt effA gd gu br retR RDp runD kPeD brW gW effD
set_option maxRecDepth 100000
def delC (f : List Cm) (rv : AV) (lr' rows : List Row) : Prop := rv = .o 0 f.length ∧ lr' = [rowC f] ∧ rows = []
theorem DeleteFuncC_pcl (l : List Cm) (hl : l.length < 4294967281) (g : FuncId) (caps : List AV) (hc : caps.all isC = true) (p : Cm → Bool) (hp : ∀ n ∈ l, PC Tryz.prog g (cmdA n :: caps) (vB (p n))) :
    PCL Tryz.prog 120 [rowC l] (mvF (some 0)) [.o 0 l.length, .fn g caps] (delC (l.filter fun n => !p n)) := by
  refine pcl_enter Tryz.func120 rfl rfl (by simp) fun w0 fb loc => go_on ?_
  (try simp only [Tryz.ntmps120, hpL, nmL, mvF, renL, closed_renL hc, decide_true, decide_false, push_cast, simprocAttr])
  refine at_call ?_
  simp only [List.map_cons, List.map_nil, view_fn 2, closed_view hc]
  (try simp only [push_cast, simprocAttr])
  refine rwc_v (IndexFuncC_pc l hl g caps hc p hp) (go_on ?_)
  rcases idxF_spec p l 0 with ⟨h1, h2⟩ | ⟨j, n, h1, h2, h3⟩
  · rw [h1]
    (try simp only [push_cast, simprocAttr])
    refine at_retL ?_
    simp only [Tryz.results120, retL, push_cast, simprocAttr]
    have hf : l.filter (fun n => !p n) = l := by
      rw [List.filter_eq_self]
      intro a ha
      have := List.find?_eq_none.1 h2 a ha
      simpa using this
    simp [show List.range 1 = [0] from rfl, nmL, mvF, ndB, ixOf, rowsOf, hget, delC, hf]
  · rw [h1, Nat.zero_add]
    have i0 : eqI (j : Int) (-1) = false := eqI_f (by omega)
    have hj := lt_of_some h2
    have w1 := wr ((j : Int) + 1) (by omega)
    (try simp only [i0, w1, push_cast, simprocAttr])
    have hpn : p n = true := by have := List.find?_some h3; exact this
    obtain ⟨kp, hkp⟩ : ∃ kp : Nat → List Cm, kp = fun i => (l.take i).filter fun n => !p n := ⟨_, rfl⟩
    have k1 : ∀ i a, l[i]? = some a → kp (i + 1) = kp i ++ (if p a then [] else [a]) := by
      intro i a ha
      rw [hkp]
      simp only
      rw [List.take_add_one, ha, List.filter_append]
      cases hpa : p a <;> simp [hpa]
    have kl : ∀ i, (kp i).length ≤ i := fun i => by rw [hkp]; exact Nat.le_trans (List.length_filter_le _ _) (by rw [List.length_take]; omega)
    have kj : kp j = l.take j := by rw [hkp]; exact idxF_take p l 0 j h1
    have kj1 : kp (j + 1) = l.take j := by rw [k1 j n h2, hpn, kj]; simp
    have kn : kp l.length = l.filter fun n => !p n := by rw [hkp]; simp
    have e0 : kp (j + 1) ++ [n] ++ l.drop (j + 1) = l := by
      rw [kj1, List.append_assoc, List.singleton_append, ← drop_of_get h2, List.take_append_drop]
    have e1 : (kp (j + 1)).length = j := by rw [kj1, List.length_take]; omega
    refine at_loop (X := Nat × List Cm) (fun x => [(5, iA (kp x.1).length), (6, iA x.1)]) (fun x => [(600000, rowC (kp x.1 ++ x.2 ++ l.drop x.1)), (4, rowC [])])
      (fun x => x.1 ≤ l.length ∧ (kp x.1).length + x.2.length = x.1 ∧ 0 < x.2.length) (fun x => l.length - x.1) (j + 1, [n]) ⟨by dsimp only; omega, by dsimp only; rw [e1]; rfl, by simp⟩ ?_ ?_
    · simp only [e0, e1]
      (refine wk_ok ?_ ?_ ?_ ?_ <;> simp [closed_ids hc, leL, leH, idsL, idsA, idsR, inH, hget, sameRow, upA, hvA, dsts, dstO, setA_0, setA_1, setA_8, List.append, List.cons_append, List.nil_append])
    · rintro ⟨q, M⟩ ⟨q1, q2, q3⟩
      simp only at q1 q2 q3
      simp only [upA, hvA, dsts, dstO, setA_0, setA_1, setA_8, List.append, List.cons_append, List.nil_append]
      refine go_on_n 11 ?_
      (try simp only [run_0, push_cast, simprocAttr])
      obtain ⟨y, M1, rfl⟩ : ∃ y M1, M = y :: M1 := by
        cases M with
        | nil => simp at q3
        | cons y M1 => exact ⟨y, M1, rfl⟩
      simp only [List.length_cons] at q2
      refine at_b (fun hg => ?_) (fun hg => ?_)
      · have hlt := lt_tt hg
        obtain ⟨x, hx⟩ := get_of_lt hlt
        obtain ⟨R, hRR⟩ : ∃ R, R = kp q ++ y :: M1 ++ l.drop q := ⟨_, rfl⟩
        have hRq : R[q]? = some x := by
          rw [hRR, drop_of_get hx, List.getElem?_append_right (by simp; omega)]
          simp
          rw [show q - ((kp q).length + (M1.length + 1)) = 0 by omega]
          rfl
        have hRi : R[(kp q).length]? = some y := by
          rw [hRR, List.append_assoc, List.getElem?_append_right (Nat.le_refl _)]
          simp
        have hRl : R.length = l.length := by rw [hRR]; simp; omega
        have i1 := ix_n hx
        have i2 := map_get cmC hRq
        have i3 : toIx ((kp q).length : Int) l.length = some (kp q).length := by
          have := ix_n hRi
          rw [hRl] at this
          exact this
        have i4 := map_get cmC hRi
        simp only [cmC] at i2 i4
        have w2 := wr ((q : Int) + 1) (by omega)
        have w3 := wr (((kp q).length : Int) + 1) (by omega)
        rw [← hRR]
        (try simp only [hg, run_0, push_cast, simprocAttr])
        refine at_more (go_on ?_)
        (try simp only [hg, i1, i2, push_cast, simprocAttr])
        refine at_call ?_
        simp only [List.map_cons, List.map_nil, closed_view hc]
        (try simp only [push_cast, simprocAttr])
        refine rwc_v (hp x (mem_of_get hx)) (go_on ?_)
        (try simp only [push_cast, simprocAttr])
        refine at_b (fun hd => ?_) (fun hd => ?_)
        · have hpx := not_t hd
          have hk2 : kp (q + 1) = kp q ++ [x] := by rw [k1 q x hx, hpx]; simp
          have hset : R.set (kp q).length x = kp (q + 1) ++ (M1 ++ [x]) ++ l.drop (q + 1) := by
            rw [hRR, hk2, drop_of_get hx]
            simp
          (try simp only [hd, i3, i4, w2, w3, push_cast, simprocAttr])
          have hs : (List.map cmC R).set (kp q).length [sA x.p, iA x.a.k, iA x.a.v, iA x.b.k, iA x.b.v] = List.map cmC (kp (q + 1) ++ (M1 ++ [x]) ++ l.drop (q + 1)) := by rw [← hset, List.map_set]; rfl
          have hl2 : (((kp (q + 1)).length : Nat) : Int) = (kp q).length + 1 := by rw [hk2]; simp
          refine at_fin ⟨(q + 1, M1 ++ [x]), ⟨by dsimp only; omega, by rw [hk2]; simp; omega, by simp⟩, by dsimp only; omega, ?_⟩
          rw [hs]
          (refine wk_ok ?_ ?_ ?_ ?_ <;> simp [closed_ids hc, hl2, leL, leH, idsL, idsA, idsR, inH, hget, sameRow, upA, hvA, dsts, dstO, setA_0, setA_1, setA_8, List.append, List.cons_append, List.nil_append])
        · have hpx := not_f hd
          have hk2 : kp (q + 1) = kp q := by rw [k1 q x hx, hpx]; simp
          have hs : R = kp (q + 1) ++ (y :: M1 ++ [x]) ++ l.drop (q + 1) := by
            rw [hRR, hk2, drop_of_get hx]
            simp
          (try simp only [hd, w2, push_cast, simprocAttr])
          refine at_fin ⟨(q + 1, y :: M1 ++ [x]), ⟨by dsimp only; omega, by rw [hk2]; simp; omega, by simp⟩, by dsimp only; omega, ?_⟩
          simp only [← hs]
          (refine wk_ok ?_ ?_ ?_ ?_ <;> simp [closed_ids hc, hk2, leL, leH, idsL, idsA, idsR, inH, hget, sameRow, upA, hvA, dsts, dstO, setA_0, setA_1, setA_8, List.append, List.cons_append, List.nil_append])
      · have hq := lt_ff hg
        have hq1 : q = l.length := by omega
        subst hq1
        (try simp only [hg, run_0, push_cast, simprocAttr])
        refine at_more (go_on_n 3 ?_)
        (try simp only [run_0, push_cast, simprocAttr])
        refine at_more ?_
        have hRl : (kp l.length ++ y :: M1 ++ l.drop l.length).length = l.length := by simp; omega
        refine aw_slclear (row := rowC (kp l.length ++ y :: M1 ++ l.drop l.length)) (r := 600000) (n := l.length) (i := (kp l.length).length) rfl rfl (by simp) (by simp [hget]) (by simp only [List.length_map]; exact hRl.symm) (by omega) ty43 rfl ty36 rfl rfl rfl rfl (fun w => ⟨_, rfl, rfl⟩) (go_on ?_)
        have hki : ((kp l.length).length : Int) ≤ l.length := by have := kl l.length; omega
        (try simp only [hki, push_cast, simprocAttr])
        have hes : (List.take (kp l.length).length (List.map cmC (kp l.length ++ y :: M1 ++ l.drop l.length)) ++ List.replicate (l.length - (kp l.length).length) [AV.any, AV.any, AV.any, AV.any, AV.any]).take (kp l.length).length = (kp l.length).map cmC := by
          rw [List.append_assoc, List.map_append, List.take_append_of_le_length (by simp), List.take_take, Nat.min_self, List.take_append_of_le_length (by simp), take_map]
        refine ret_wk (wk_trunc 600000 (kp l.length).length (by simp only [hget]; rfl) (by simp) (by simp)) ?_
        refine at_retL ?_
        simp only [Tryz.results120, retL, hes, okT, Nat.le_refl, push_cast, decide_true, simprocAttr]
        simp [show List.range 1 = [0] from rfl, nmL, mvF, ndB, ixOf, rowsOf, hget, delC, kn]
end Go.Proofs.YtjhbihooobingaaGreatDoor
/-
  Walks: slices.SortFunc at commands.
-/
namespace Go.Proofs.YtjhbihooobingaaGreatDoor
open Go Go.RowKit Go.Proofs
open Go.Sort (grow SWO PermIn SortedIn)
instance : Inhabited Cm := ⟨cm0⟩
def encC (c : Cm) : List Value := [sV c.p, .int .i64 c.a.k, .int .i64 c.a.v, .int .i64 c.b.k, .int .i64 c.b.v]
def cmpS (a b : Str) : Int := if slt a b then -1 else if slt b a then 1 else 0
def cfC (c d : Cm) : Int := if cEnds c && cEnds d then cmpS d.p c.p else if cEnds c then -1 else if cEnds d then 1 else cmpS c.p d.p
theorem cmpS_lt (a b : Str) : decide (cmpS a b < 0) = slt a b := by
  unfold cmpS
  cases slt a b <;> cases slt b a <;> rfl
theorem ltOf_cf (c d : Cm) : ltOf cfC c d = cLt c d := by
  unfold ltOf cfC cLt
  cases cEnds c <;> cases cEnds d <;> simp [cmpS_lt]
theorem cLt_trans {a b c : Cm} (h1 : cLt a b = true) (h2 : cLt b c = true) : cLt a c = true := by
  have h3 := cLt_asymm h2
  cases h : cLt a c with
  | true => rfl
  | false =>
    have := cLt_neg_trans (a := b) (b := c) (c := a) h3 h
    rw [h1] at this
    cases this
theorem swoC : SWO (ltOf cfC) where
  irrefl x := by rw [ltOf_cf]; exact cLt_irrefl x
  trans x y z h1 h2 := by rw [ltOf_cf] at *; exact cLt_trans h1 h2
  ntrans x y z h1 h2 := by rw [ltOf_cf] at *; exact cLt_neg_trans (a := z) (b := y) (c := x) h2 h1
theorem gtr_slt (a b : Str) : (!(Op.bytesLess a b || a == b)) = slt b a := by
  show (!(slt a b || a == b)) = slt b a
  by_cases h : a = b
  · subst h; simp [slt_irrefl]
  · cases h1 : slt a b with
    | true => simp [slt_asymm h1]
    | false => simp [slt_of_ne h h1, h]
set_option maxRecDepth 100000
set_option maxHeartbeats 1000000
theorem nan_c (a : Str) (W : World) : Calls Tryz.prog 185 #[sV a] W fun e w' => e = .returned (.bool false) ∧ w' = W := by
  go_enter Tryz.func185, Tryz.ntmps185
  go_wp2
  go_ret
  exact ⟨rfl, rfl⟩
theorem cmpS_c (a b : Str) (W : World) : Calls Tryz.prog 155 #[sV a, sV b] W fun e w' => e = .returned (.int .i64 (cmpS a b)) ∧ w' = W := by
  have h1 := nan_c a
  have h2 := nan_c b
  have hgt : ∀ W, (binOp .gtr 9 (sV a) (sV b)).run Tryz.prog W = .ok (.bool (slt b a)) W := fun W => by
    have : binOp .gtr 9 (sV a) (sV b) = pure (.bool !(Op.bytesLess a b || a == b)) := by simp [binOp, Op.stringOp, ba_list]
    rw [this, gtr_slt]
    rfl
  have hlt : Op.bytesLess a b = slt a b := rfl
  go_enter Tryz.func155, Tryz.ntmps155
  go_wp2_with (go_at_call 185; first | (refine (h1 _).mono ?_; rintro e w' ⟨rfl, rfl⟩) | (refine (h2 _).mono ?_; rintro e w' ⟨rfl, rfl⟩))
  all_goals go_ret
  all_goals refine ⟨?_, rfl⟩
  all_goals simp [cmpS, *]
theorem ends_c (c : Cm) (W : World) : Calls Tryz.prog 154 #[.agg #[sV c.p, .int .i64 c.a.k, .int .i64 c.a.v, .int .i64 c.b.k, .int .i64 c.b.v]] W fun e w' => e = .returned (.bool (cEnds c)) ∧ w' = W.alloc (.cells #[sV c.p, .int .i64 c.a.k, .int .i64 c.a.v, .int .i64 c.b.k, .int .i64 c.b.v] 36) := by
  have hc : cEnds c = (decide (c.b.k = 0) || decide (c.a.k = 1)) := rfl
  go_enter Tryz.func154, Tryz.ntmps154
  go_wp2
  all_goals go_ret
  · refine ⟨?_, by simp [*]⟩
    show Ending.returned (Value.bool true) = _
    simp [hc, *]
  · refine ⟨?_, rfl⟩
    show Ending.returned (Value.bool (c.b.k == 0 || c.a.k == 1)) = _
    rw [hc]
    congr 2
theorem canonOrder_c (c d : Cm) (W : World) : Calls Tryz.prog 108 #[.agg #[sV c.p, .int .i64 c.a.k, .int .i64 c.a.v, .int .i64 c.b.k, .int .i64 c.b.v], .agg #[sV d.p, .int .i64 d.a.k, .int .i64 d.a.v, .int .i64 d.b.k, .int .i64 d.b.v]] W fun e w' =>
    e = .returned (.int .i64 (cfC c d)) ∧ ∃ q os', w' = grow (W.drewN q) os' := by
  have h1 := ends_c c
  have h2 := ends_c d
  have h3 := cmpS_c c.p d.p
  have h4 := cmpS_c d.p c.p
  have hf : cfC c d = if cEnds c && cEnds d then cmpS d.p c.p else if cEnds c then -1 else if cEnds d then 1 else cmpS c.p d.p := rfl
  generalize cfC c d = r at hf ⊢
  generalize cmpS c.p d.p = x at h3 hf
  generalize cmpS d.p c.p = y at h4 hf
  generalize cEnds c = u at h1 hf
  generalize cEnds d = v at h2 hf
  subst hf
  go_enter Tryz.func108, Tryz.ntmps108
  go_wp2_with (first
    | (go_at_call 154; first | (with_reducible refine (h1 _).mono ?_; rintro e w' ⟨rfl, rfl⟩) | (with_reducible refine (h2 _).mono ?_; rintro e w' ⟨rfl, rfl⟩))
    | (go_at_call 155; first | (with_reducible refine (h3 _).mono ?_; rintro e w' ⟨rfl, rfl⟩) | (with_reducible refine (h4 _).mono ?_; rintro e w' ⟨rfl, rfl⟩)))
  all_goals go_ret
  all_goals exact ⟨rfl, 0, _, by simp only [Go.Sort.alloc_eq_grow, Go.Sort.grow_grow]; rfl⟩
theorem lays_c (blk off size : Nat) (w : World) : CmpLays Tryz.prog 108 #[] encC 5 cfC blk off size w := fun _ _ _ _ x y => canonOrder_c x y _
end Go.Proofs.YtjhbihooobingaaGreatDoor
/-
  Walks: slices.SortFunc at commands: a contract with a lent row.
-/
namespace Go.Proofs.YtjhbihooobingaaGreatDoor
open Go Go.RowKit Go.Proofs
open Go.Sort (grow SWO PermIn SortedIn)
theorem cOrd_of : ∀ {l : List Cm}, l.Pairwise (fun a b => cLt b a = false) → cOrd l = true
  | [], _ => rfl
  | a :: l, h => by
    rw [List.pairwise_cons] at h
    exact cOrd_mk (cOrd_of h.2) h.1
def sortD (l : List Cm) (rv : AV) (lr' rows : List Row) : Prop := ∃ l' : List Cm, l'.Perm l ∧ cOrd l' = true ∧ rv = .tup [] ∧ lr' = [rowC l'] ∧ rows = []
theorem encC_cm (c : Cm) (j : Nat) (x : AV) (h : (cmC c)[j]? = some x) : x = .v ((encC c)[j]!) ∧ ((encC c)[j]!).oneCell' = true ∧ j < 5 := by
  rcases j with _ | _ | _ | _ | _ | j
  · cases h; exact ⟨rfl, rfl, by omega⟩
  · cases h; exact ⟨rfl, rfl, by omega⟩
  · cases h; exact ⟨rfl, rfl, by omega⟩
  · cases h; exact ⟨rfl, rfl, by omega⟩
  · cases h; exact ⟨rfl, rfl, by omega⟩
  · simp [cmC] at h
theorem encC_get (c : Cm) (j : Nat) (h : j < 5) : (cmC c)[j]? = some (.v ((encC c)[j]!)) := by
  rcases j with _ | _ | _ | _ | _ | j
  · rfl
  · rfl
  · rfl
  · rfl
  · rfl
  · omega
set_option maxRecDepth 100000
set_option maxHeartbeats 1000000
theorem SortC_pcl (l : List Cm) (hl : l.length < 4294967281) : PCL Tryz.prog 107 [rowC l] (mvF none) [.o 0 l.length, .fn 108 []] (sortD l) := by
  refine ⟨fun vs W => enters_of Tryz.func107 (by kernel_rfl) rfl vs W, fun w fb loc vs hlw hs hg => ?_⟩
  have h0 := hg 0 _ rfl
  have h1 := hg 1 _ rfl
  obtain ⟨cs, hv1, hcs, _⟩ := h1.fn_inv
  obtain rfl : cs = #[] := Array.eq_empty_of_size_eq_zero hcs
  have hvs : vs = #[vs.getD 0 undef, vs.getD 1 undef] := by
    apply Array.ext
    · simpa using hs
    · intro i h1 h2
      have : i < 2 := by simpa using h2
      rcases i with _ | _ | i
      · simp [Array.getD, h1]
      · simp [Array.getD, h1]
      · omega
  rw [hv1] at hvs
  generalize vs.getD 0 undef = v0 at h0 hvs
  subst hvs
  clear hs hg hv1 h1 hcs
  have hrow : hget (hpOf 0 [rowC l]) 0 = some (rowC l) := rfl
  generalize hL : l.length = L at h0
  cases h0 with
  | cl hc => cases hc
  | @onil _ row hr hl' =>
    obtain rfl : l = [] := List.eq_nil_of_length_eq_zero hL
    have hcon := AnyF.slices_SortFunc_none Tryz.sortC none 0 (.func (.func 108) #[] #[]) w
    change Calls Tryz.prog 107 _ _ _ at hcon
    refine hcon.mono ?_
    rintro e w' ⟨rfl, rfl⟩
    refine ⟨.tup [], [rowC []], [], _, loc, ⟨[], List.Perm.refl _, rfl, rfl, rfl, rfl⟩, rfl, ⟨rfl, rfl, rfl, rfl, Nat.le_refl _, fun _ _ _ => rfl, hlw.fbe, fun _ _ _ => rfl, .tup #[] rfl (fun j a ha => by simp at ha), hlw.rw, hlw.inj, fun r row b c h1 h2 => .inr ⟨r, row, c, h1, h2⟩⟩⟩
  | @o _ _ row b c hr hl' hn =>
    subst hL
    rw [hrow] at hr
    cases hr
    obtain ⟨hlen, hn', hm, cur, hh, hsz, hcells⟩ := (hlw.rw 0 _ hrow).2.open hl'
    simp only [List.length_map] at hn hn'
    have hcm : ∀ (k : Nat) (hk : k < l.length) (j : Nat), j < 5 → cur[k * 5 + j]? = some ((encC l[k])[j]!) := fun k hk j hj => by
      obtain ⟨u, g1, _, g3, _⟩ := hcells k (cmC l[k]) j _ (by simp [List.getElem?_eq_getElem hk]) (encC_get _ j hj)
      rw [g1, g3.v_inv]
    have hH : Go.Sort.HoldsK encC 5 w b 0 l.toArray := by
      intro j hj
      rw [Go.Sort.size_flatK] at hj
      have hj' : j < l.length * 5 := by simpa using hj
      have hk : j / 5 < l.length := by omega
      rw [Nat.zero_add]
      refine ⟨?_, by simp [World.frozen?, hh]⟩
      have := hcm (j / 5) hk (j % 5) (by omega)
      rw [show j / 5 * 5 + j % 5 = j by omega] at this
      simp only [World.cell?, hh, Option.isSome_none, Bool.false_eq_true, if_false, id]
      rw [this, Go.Sort.get_flatK _ _ _ _ hj]
      congr 3
      simp [hk]
    have hblk : b < w.heap.size := by
      rcases Nat.lt_or_ge b w.heap.size with h | h
      · exact h
      · rw [Array.getElem?_eq_none h] at hh; cases hh
    have eg : ∀ args w, (callFunc 108 args).run Tryz.prog w = .ok (.enter 108 args) w := enters_of Tryz.func108 (by kernel_rfl) rfl
    have hcon := AnyQ.slices_SortFunc Tryz.sortC 5 Tryz.isAgg36 Tryz.sizeOf36 encC (fun _ => rfl) (fun x v hv => by simp [encC] at hv; rcases hv with rfl | rfl | rfl | rfl | rfl <;> rfl) cfC swoC 108 #[] b 0 c l.toArray w eg (lays_c b 0 _ w) hH hblk (by simp; omega)
    change Calls Tryz.prog 107 _ _ _ at hcon
    rw [show l.toArray.size = l.length from by simp] at hcon
    refine hcon.mono ?_
    rintro e w' ⟨rfl, d', n, os, hp, hsd, rfl⟩
    obtain ⟨hps, _, hpp⟩ := hp
    have hps' : d'.size = l.length := by simpa using hps
    have hperm : d'.toList.Perm l := by
      have e1 : d'.extract 0 l.length = d' := by rw [← hps']; simp
      have e2 : l.toArray.extract 0 l.length = l.toArray := by simp
      rw [e1, e2] at hpp
      simpa using hpp
    have hord : cOrd d'.toList = true := by
      apply cOrd_of
      rw [List.pairwise_iff_getElem]
      intro i j hi hj hij
      have := hsd i j (Nat.zero_le _) hij (by simpa [hps'] using hj)
      rw [ltOf_cf] at this
      simp only [Array.length_toList] at hi hj
      simpa [hi, hj] using this
    generalize hd : d'.toList = l' at hperm hord
    have hdl : l'.length = l.length := by rw [← hd, Array.length_toList, hps']
    refine ⟨.tup [], [rowC l'], [], _, loc, ⟨l', hperm, hord, rfl, rfl, rfl⟩, rfl, ?_⟩
    have hbh : (sortWorldK encC 5 w b 0 n d' os).heap[b]? = some (.cells (Go.Sort.putCells id 0 (Go.Sort.flatK encC 5 d') cur) 36 (0, 0)) := by
      unfold sortWorldK
      show ((Go.Sort.putRowK encC 5 (Go.Sort.ahead w n) b 0 d').heap ++ os)[b]? = _
      rw [Array.getElem?_append_left (by rw [Go.Sort.size_putRowK]; exact hblk)]
      unfold Go.Sort.putRowK Go.Sort.putRow Go.Sort.mapBlock
      simp only [Array.getElem?_modify, if_true]
      show Option.map _ w.heap[b]? = _
      rw [hh]
      rfl
    have hbk : ∀ k, k < w.heap.size → k ≠ b → (sortWorldK encC 5 w b 0 n d' os).heap[k]? = w.heap[k]? := fun k hk hne => by
      unfold sortWorldK
      show ((Go.Sort.putRowK encC 5 (Go.Sort.ahead w n) b 0 d').heap ++ os)[k]? = _
      rw [Array.getElem?_append_left (by rw [Go.Sort.size_putRowK]; exact hk)]
      unfold Go.Sort.putRowK Go.Sort.putRow Go.Sort.mapBlock
      simp only [Array.getElem?_modify]
      rw [if_neg (fun e => hne e.symm)]
      rfl
    have hcell : ∀ (k : Nat) (e : List AV) (j : Nat) (x : AV), (rowC l').es[k]? = some e → e[j]? = some x → ∃ u, (Go.Sort.putCells id 0 (Go.Sort.flatK encC 5 d') cur)[k * 5 + j]? = some u ∧ u.oneCell' = true ∧ x = .v u := fun k e j x he hx => by
      rw [List.getElem?_map, Option.map_eq_some_iff] at he
      obtain ⟨y, hy, rfl⟩ := he
      obtain ⟨g1, g2, g3⟩ := encC_cm y j x hx
      have hk := lt_of_some hy
      refine ⟨_, ?_, g2, g1⟩
      have hin : k * 5 + j < (Go.Sort.flatK encC 5 d').size := by rw [Go.Sort.size_flatK, hps']; omega
      have hcu : k * 5 + j < cur.size := by rw [hsz]; show _ < c * 5; omega
      unfold Go.Sort.putCells
      rw [Array.getElem?_mapIdx, Array.getElem?_eq_getElem hcu]
      simp only [Option.map_some, Option.some.injEq]
      rw [if_pos ⟨by omega, by omega⟩, Nat.sub_zero, Go.Sort.get_flatK _ _ _ _ (by rw [Go.Sort.size_flatK] at hin; exact hin)]
      rw [show (k * 5 + j) / 5 = k by omega, show (k * 5 + j) % 5 = j by omega]
      have : d'[k]! = y := by
        rw [← hd, Array.getElem?_toList] at hy
        rw [Array.getElem!_eq_getD, Array.getD_eq_getD_getElem?, hy]
        rfl
      rw [this]
      rfl
    have hc5 : (Go.Sort.putCells id 0 (Go.Sort.flatK encC 5 d') cur).size = c * 5 := by
      unfold Go.Sort.putCells
      rw [Array.size_mapIdx]
      exact hsz
    have hG : ∀ (x : AV) (u : Value), x = .v u → G (hpOf 0 [rowC l']) loc (sortWorldK encC 5 w b 0 n d' os) x u ∧ C (Live (hpOf 0 [rowC l']) loc) 0 (sortWorldK encC 5 w b 0 n d' os) x u := fun x u h => by
      subst h
      exact ⟨.cl .v, .v⟩
    have hone : ∀ r row, hget (hpOf 0 [rowC l']) r = some row → r = 0 ∧ row = rowC l' := fun r row h => by
      rcases r with _ | r
      · cases h; exact ⟨rfl, rfl⟩
      · simp [hpOf, hget] at h
    refine ⟨rfl, rfl, rfl, rfl, ?_, fun k hk hnl => hbk k hk fun e => hnl ⟨0, _, c, hrow, by rw [e]; exact hl'⟩, hlw.fbe, fun _ _ _ => rfl, .tup #[] rfl (fun j a ha => by simp at ha), fun r row h => ?_, fun r r' row row' _ _ _ h h' _ _ => ?_, fun r row b' c' h h' => ?_⟩
    · unfold sortWorldK
      show w.heap.size ≤ ((Go.Sort.putRowK encC 5 (Go.Sort.ahead w n) b 0 d').heap ++ os).size
      rw [Array.size_append, Go.Sort.size_putRowK]
      exact Nat.le_add_right _ _
    · obtain ⟨rfl, rfl⟩ := hone r row h
      refine ⟨rfl, RowOk.mk' hl' (fun k e he => ?_) (by rw [List.length_map, hdl]; exact hn') hm hbh hc5 fun k e j x he hx => ?_⟩
      · rw [List.getElem?_map, Option.map_eq_some_iff] at he
        obtain ⟨y, _, rfl⟩ := he
        rfl
      · obtain ⟨u, g1, g2, g3⟩ := hcell k e j x he hx
        exact ⟨u, g1, g2, (hG x u g3).1, fun _ => (hG x u g3).2⟩
    · rw [(hone r row h).1, (hone r' row' h').1]
    · obtain ⟨rfl, rfl⟩ := hone r row h
      rw [hl'] at h'
      cases h'
      exact .inr ⟨0, _, c, hrow, hl'⟩
end Go.Proofs.YtjhbihooobingaaGreatDoor
/-
  Walks: impl.LogCanon.
-/
namespace Go.Proofs.YtjhbihooobingaaGreatDoor
open Go Go.RowKit Go.Proofs
theorem idxF_first {α : Type} (p : α → Bool) : ∀ (l : List α) (k j : Nat), idxF p k l = ((k + j : Nat) : Int) → ∀ i e, i < j → l[i]? = some e → p e = false
  | [], k, j, h, _, _, _, he => by simp at he
  | a :: l, k, 0, h, i, e, hi, _ => by omega
  | a :: l, k, j + 1, h, i, e, hi, he => by
    by_cases hp : p a = true
    · simp only [idxF, hp, if_true] at h
      omega
    · have hp : p a = false := by simpa using hp
      have h' : idxF p (k + 1) l = ((k + 1 + j : Nat) : Int) := by
        rw [show idxF p k (a :: l) = idxF p (k + 1) l by simp [idxF, hp]] at h
        rw [h]; congr 1; omega
      cases i with
      | zero => simp at he; subst he; exact hp
      | succ i => exact idxF_first p l (k + 1) j h' i e (by omega) (by simpa using he)
def canD (l : List Cm) : AV → List Row → Prop := rX (.tup [.o 0 ((lCanon l).getD []).length, bA (lCanon l).isSome]) [rowC ((lCanon l).getD [])]
attribute [local irreducible] RWp AW run kPe pe Kt effA gd gu br retR RDp runD kPeD brW gW effD
set_option maxRecDepth 100000
theorem LogCanon1_pc (d : Cm) (c : Cm) : PC Tryz.prog 119 [cmdA d, .ip (cmC c)] (vB (decide (d.p = c.p))) := by
  unfold cmdA cmC
  refine pc_enter Tryz.func119 rfl rfl fun w0 fb => go_on ?_; (try simp only [Tryz.ntmps119, push_cast, simprocAttr])
  repeat' first | (refine at_b (fun hb => ?_) (fun hb => ?_) <;> simp only [hb, push_cast, simprocAttr]) | (refine at_ret ?_; simp only [Tryz.results119, push_cast, simprocAttr]) | (show RWp _ _ _ _ _; simp only [push_cast, simprocAttr])
  simp [vX]
theorem LogCanon2_pc (c : Cm) : PC Tryz.prog 121 [cmdA c] (vB (decide (c.a = c.b))) := by
  unfold cmdA cmC
  refine pc_enter Tryz.func121 rfl rfl fun w0 fb => go_on ?_; (try simp only [Tryz.ntmps121, push_cast, simprocAttr])
  repeat' first | (refine at_b (fun hb => ?_) (fun hb => ?_) <;> simp only [ctg, cth, hb, push_cast, simprocAttr]) | (refine at_ret ?_; simp only [ctg, cth, Tryz.results121, push_cast, simprocAttr]) | (show RWp _ _ _ _ _; simp only [ctg, cth, push_cast, simprocAttr])
  simp [vX, ct_eq]
theorem LogCanon_pc (l : List Cm) (hs : SmL l) : PC Tryz.prog 78 [cmA l] (canD l) := by
  refine pc_enter Tryz.func78 rfl rfl fun w0 fb => go_on ?_; (try simp only [Tryz.ntmps78, push_cast, simprocAttr])
  refine at_call ?_
  (try simp only [push_cast, simprocAttr])
  refine rwc_v (LogValid_pc l hs) ?_
  (try simp only [push_cast, simprocAttr])
  (refine at_dropS [2] (by refine wk_ok ?_ ?_ ?_ ?_ <;> simp [dropS, dropT, hasN, delL, hdel, leL, leH, idsL, idsA, idsR, inH, hget, sameRow]) ?_; simp only [dropS, dropT, hasN, delL, hdel, idsA, idsL, hget, List.map_cons, List.map_nil, List.all_cons, List.all_nil, List.append_nil, Bool.not_false, Bool.not_true, Bool.and_true, if_true, if_false, simprocAttr])
  refine go_on ?_
  (try simp only [push_cast, simprocAttr])
  refine at_b (fun hb => ?_) (fun hb => ?_)
  · have h : lV l = false := not_t hb
    (try simp only [hb, push_cast, simprocAttr])
    refine at_ret ?_; simp only [Tryz.results78, push_cast, simprocAttr]
    simp [canD, rX, lCanon, h, ixOf]
  have h : lV l = true := not_f hb
  have hl20 := lV_len h
  (try simp only [hb, push_cast, simprocAttr])
  refine at_loop (X := Nat × List Cm) (fun x => [(4, .o 4 x.2.length), (13, iA x.1)]) (fun x => [(4, rowC x.2)])
    (fun x => x.1 ≤ l.length ∧ x.2.length ≤ x.1 ∧ one1 x.2 = true ∧ cFold [] l = cFold x.2 (l.drop x.1)) (fun x => l.length - x.1) (0, []) ⟨Nat.zero_le _, by simp, rfl, rfl⟩ ?_ ?_
  · (refine wk_ok ?_ ?_ ?_ ?_ <;> simp [leL, leH, idsL, idsA, idsR, inH, hget, sameRow, upA, hvA, dsts, dstO, setA_0, setA_1, setA_8, List.append, List.cons_append, List.nil_append])
  · rintro ⟨i, o⟩ ⟨q1, q2, q3, q4⟩
    simp only at q1 q2 q3 q4
    simp only [upA, hvA, dsts, dstO, setA_0, setA_1, setA_8, List.append, List.cons_append, List.nil_append]
    refine go_on ?_
    (try simp only [push_cast, simprocAttr])
    by_cases hlt : i < l.length
    · obtain ⟨c, hc⟩ := get_of_lt hlt
      have i0 : ltI (i : Int) l.length = true := ltI_t (by omega)
      have i1 := ix_n hc
      have i2 := map_get cmC hc
      simp only [cmC] at i2
      rw [drop_of_get hc] at q4
      have w1 := wr ((i : Int) + 1) (by omega)
      (try simp only [i0, i1, i2, push_cast, simprocAttr])
      have hI := IndexFuncC_pc o (by omega) 119 [.ip (cmC c)] rfl (fun d => decide (d.p = c.p)) (fun d _ => LogCanon1_pc d c)
      unfold cmC at hI
      refine at_call ?_
      (try simp only [push_cast, simprocAttr])
      refine rwc_v hI (go_on ?_)
      rcases idxF_spec (fun d : Cm => decide (d.p = c.p)) o 0 with ⟨h1, h2⟩ | ⟨j, d, h1, h2, h3⟩
      · have hno : ∀ d ∈ o, d.p ≠ c.p := fun d hd => by simpa using List.find?_eq_none.1 h2 d hd
        have hadd := cAdd_no hno
        have happ : o.map cmC ++ [[sA c.p, iA c.a.k, iA c.a.v, iA c.b.k, iA c.b.v]] = (o ++ [c]).map cmC := by rw [List.map_append]; rfl
        have j0 : ltI (-1) 0 = true := ltI_t (by omega)
        rw [h1]
        (try simp only [j0, w1, push_cast, simprocAttr])
        refine at_chk (by omega) ?_
        (try simp only [happ, w1, push_cast, simprocAttr])
        refine at_fin ⟨(i + 1, o ++ [c]), ⟨by dsimp only; omega, by simp; omega, (cAdd_one q3 hadd).1, ?_⟩, by dsimp only; omega, ?_⟩
        · rw [q4]; simp only [cFold, hadd, Option.bind_some]
        · (refine wk_ok ?_ ?_ ?_ ?_ <;> simp [cmC, leL, leH, idsL, idsA, idsR, inH, hget, sameRow, upA, hvA, dsts, dstO, setA_0, setA_1, setA_8, List.append, List.cons_append, List.nil_append])
      · rw [Nat.zero_add] at h1
        have hj := lt_of_some h2
        have hdp : d.p = c.p := by have := List.find?_some h3; simpa using this
        have hadd := cAdd_at h2 hdp (fun k e hk he => by have := idxF_first (fun d : Cm => decide (d.p = c.p)) o 0 j (by rw [h1]; simp) k e hk he; simpa using this)
        have j0 : ltI (j : Int) 0 = false := ltI_f (by omega)
        have k1 := ix_n h2
        have k2 := map_get cmC h2
        simp only [cmC] at k2
        rw [h1]
        (try simp only [j0, push_cast, simprocAttr])
        refine at_draw rfl (by kernel_rfl) ?_
        (try simp only [k1, k2, ctg, cth, push_cast, simprocAttr])
        have e : (eqI d.b.k c.a.k && eqI d.b.v c.a.v) = decide (d.b = c.a) := by
          rw [Bool.eq_iff_iff]; simp [eqI_d, ct_ext]
        refine at_done (by kernel_rfl) (by kernel_rfl) (go_on ?_)
        (try simp only [e, push_cast, simprocAttr])
        refine at_b (fun hn => ?_) (fun hn => ?_)
        · have hne : d.b ≠ c.a := by simpa using hn
          rw [if_neg hne] at hadd
          have hnone : lCanon l = none := by
            unfold lCanon
            rw [if_pos h, q4]
            simp only [cFold, hadd, Option.bind_none, Option.map_none]
          (try simp only [hn, push_cast, simprocAttr])
          refine at_ret ?_; simp only [Tryz.results78, push_cast, simprocAttr]
          simp [canD, rX, hnone, ixOf]
        · have heq : d.b = c.a := by simpa using hn
          rw [if_pos heq] at hadd
          have hset : (o.map cmC).set j [sA d.p, iA d.a.k, iA d.a.v, iA c.b.k, iA c.b.v] = (o.set j ⟨d.p, d.a, c.b⟩).map cmC := by rw [List.map_set]; rfl
          (try simp only [hn, k1, k2, hset, w1, push_cast, simprocAttr])
          refine at_fin ⟨(i + 1, o.set j ⟨d.p, d.a, c.b⟩), ⟨by dsimp only; omega, by simp; omega, (cAdd_one q3 hadd).1, ?_⟩, by dsimp only; omega, ?_⟩
          · rw [q4]; simp only [cFold, hadd, Option.bind_some]
          · (refine wk_ok ?_ ?_ ?_ ?_ <;> simp [cmC, leL, leH, idsL, idsA, idsR, inH, hget, sameRow, upA, hvA, dsts, dstO, setA_0, setA_1, setA_8, List.append, List.cons_append, List.nil_append])
    · have i0 : ltI (i : Int) l.length = false := ltI_f (by omega)
      rw [List.drop_of_length_le (by omega)] at q4
      simp only [cFold] at q4
      have hcan : lCanon l = some (cSort (o.filter fun c => decide (c.a ≠ c.b))) := by
        unfold lCanon
        rw [if_pos h, q4]
        rfl
      have hD := DeleteFuncC_pcl o (by omega) 121 [] rfl (fun c => decide (c.a = c.b)) (fun c _ => LogCanon2_pc c)
      obtain ⟨f, hf⟩ : ∃ f, f = o.filter fun c => !decide (c.a = c.b) := ⟨_, rfl⟩
      have hff : (o.filter fun c => decide (c.a ≠ c.b)) = f := by rw [hf]; apply List.filter_congr; intro c _; simp
      have hfl : f.length ≤ o.length := by rw [hf]; exact List.length_filter_le _ _
      have hf1 : one1 f = true := by rw [hf]; exact one1_sub List.filter_sublist q3
      rw [← hf] at hD
      rw [hff] at hcan
      have hS := SortC_pcl f (by omega)
      (try simp only [i0, push_cast, simprocAttr])
      (try simp only [push_cast, simprocAttr]); refine call_lend [4] (some 0) (lr := [rowC o]) (by simp [ndB]) (by first | rfl | simp [rowsOf, hget, rdR, rowS, rowN, rowC, sC, ndC, cmC]) (by simp [idsL, idsA]) (by simp [mvN]) (by simpa [rnA, ixOf] using hD) ?_
      rintro rv lr' rows ⟨rfl, rfl, rfl⟩
      refine ⟨by simp [shB, mvF], by simp [frB], go_on ?_⟩
      (try simp only [killA, killH, killRow, push_cast, simprocAttr])
      (try simp only [push_cast, simprocAttr]); refine call_lend [4] none (lr := [rowC f]) (by simp [ndB]) (by first | rfl | simp [rowsOf, hget, rdR, rowS, rowN, rowC, sC, ndC, cmC]) (by simp [idsL, idsA]) (by simp [mvN]) (by simpa [rnA, ixOf] using hS) ?_
      rintro rv lr' rows ⟨g, hgp, hgo, rfl, rfl, rfl⟩
      have hgl : g.length = f.length := hgp.length_eq
      obtain rfl : g = cSort f := cSort_eq hf1 hgp hgo
      refine ⟨by simp [shB, mvF, hgl], by simp [frB, baseOf], go_on ?_⟩
      (try simp only [killA, killH, killRow, push_cast, simprocAttr])
      refine at_call ?_
      simp only [hgl, push_cast, simprocAttr]
      refine rwc_r (cloneLog_pc (cSort f) (by omega)) (by simp [flatV, flatL]) (flat_c _) (by simp [frB, baseOf]) (go_on ?_)
      (try simp only [push_cast, simprocAttr])
      refine at_ret ?_; simp only [Tryz.results78, push_cast, simprocAttr]
      simp [canD, rX, hcan, hgl, ixOf]
end Go.Proofs.YtjhbihooobingaaGreatDoor
/-
  Walks: the reference's canonical order and sort.
-/
namespace Go.Proofs.YtjhbihooobingaaGreatDoor
open Go Go.RowKit Go.Proofs
attribute [local irreducible] RWp AW run kPe pe Kt effA gd gu br retR RDp runD kPeD brW gW effD
set_option maxRecDepth 100000
theorem l14Ends_pc (c : Cm) : PC Tryz.prog 205 [cmdA c] (vB (cEnds c)) := by
  have hc : cEnds c = (decide (c.b.k = 0) || decide (c.a.k = 1)) := rfl
  unfold cmdA cmC
  refine pc_enter Tryz.func205 rfl rfl fun w0 fb => go_on ?_; (try simp only [Tryz.ntmps205, push_cast, simprocAttr])
  repeat' first | (refine at_b (fun hb => ?_) (fun hb => ?_) <;> simp only [hb, push_cast, simprocAttr]) | (refine at_ret ?_; simp only [Tryz.results205, push_cast, simprocAttr]) | (show RWp _ _ _ _ _; simp only [push_cast, simprocAttr])
  all_goals simp [vX, hc, eqI_d, *]
  all_goals simp [eqI_d] at *
  all_goals simp [*]
theorem gtrS_l (a b : Str) : (!(slt a b || decide (a = b))) = slt b a := by
  rw [← gtr_slt a b]
  show _ = (!(slt a b || a == b))
  by_cases h : a = b <;> simp [h]
theorem l14Before_pc (c d : Cm) : PC Tryz.prog 193 [cmdA c, cmdA d] (vB (cLt c d)) := by
  have h1 := l14Ends_pc c
  have h2 := l14Ends_pc d
  have hL : cLt c d = if cEnds c then (if cEnds d then slt d.p c.p else true) else (if cEnds d then false else slt c.p d.p) := rfl
  unfold cmdA cmC at *
  refine pc_enter Tryz.func193 rfl rfl fun w0 fb => go_on ?_; (try simp only [Tryz.ntmps193, push_cast, simprocAttr])
  repeat' first | (refine at_b (fun hb => ?_) (fun hb => ?_) <;> simp only [hb, push_cast, simprocAttr]) | (refine at_ret ?_; simp only [Tryz.results193, push_cast, simprocAttr]) | (refine at_call ?_; (try simp only [push_cast, simprocAttr]); refine rwc_v (by first | exact h1 | exact h2) (go_on ?_); simp only [push_cast, simprocAttr]) | (show RWp _ _ _ _ _; simp only [push_cast, simprocAttr])
  all_goals (try simp only [Bool.not_eq_true', Bool.not_eq_false'] at *)
  all_goals simp_all [vX]
  rw [← gtrS_l c.p d.p, Bool.not_or]
def putI (c : Cm) (l : List Cm) (k : Nat) (o : List Cm) (b : Bool) : Prop := o.length ≤ k + 1 ∧ cPut c l = o ++ (if b = true then l.drop k else cPut c (l.drop k))
theorem putI_next {c d : Cm} {l : List Cm} {k : Nat} {o : List Cm} (hd : l[k]? = some d) :
    (putI c l k o true → putI c l (k + 1) (o ++ [d]) true) ∧ (o.length ≤ k → putI c l k o false → cLt c d = false → putI c l (k + 1) (o ++ [d]) false ∧ (o ++ [d]).length ≤ k + 1) ∧
      (o.length ≤ k → putI c l k o false → cLt c d = true → putI c l (k + 1) (o ++ [c] ++ [d]) true) := by
  have hdr : l.drop k = d :: l.drop (k + 1) := by
    have hi : k < l.length := lt_of_some hd
    rw [List.drop_eq_getElem_cons hi]
    rw [List.getElem?_eq_getElem hi] at hd
    cases hd
    rfl
  refine ⟨fun ⟨h1, h2⟩ => ⟨by simp; omega, ?_⟩, fun h0 ⟨h1, h2⟩ hc => ⟨⟨by simp; omega, ?_⟩, by simp; omega⟩, fun h0 ⟨h1, h2⟩ hc => ⟨by simp; omega, ?_⟩⟩
  · rw [h2, if_pos rfl, if_pos rfl, hdr]; simp
  · rw [h2]
    simp only [Bool.false_eq_true, if_false]
    rw [hdr]
    simp [cPut, hc]
  · rw [h2]
    simp only [Bool.false_eq_true, if_false, if_true]
    rw [hdr]
    simp [cPut, hc]
theorem l14Put_pc (l : List Cm) (hl : l.length < 4294967280) (c : Cm) : PC Tryz.prog 168 [cmA l, cmdA c] (rX (.o 0 (cPut c l).length) [rowC (cPut c l)]) := by
  unfold cmdA cmC
  refine pc_enter Tryz.func168 rfl rfl fun w0 fb => go_on ?_; (try simp only [Tryz.ntmps168, push_cast, simprocAttr])
  refine at_loop (X := Nat × List Cm × Bool) (fun x => [(5, .o 8 x.2.1.length), (6, bA x.2.2), (7, iA x.1), (8, .any)]) (fun x => [(3, ⟨36, 5, [cmC c], true⟩), (4, rowC []), (8, rowC x.2.1)])
    (fun x => x.1 ≤ l.length ∧ putI c l x.1 x.2.1 x.2.2 ∧ (x.2.2 = false → x.2.1.length ≤ x.1)) (fun x => l.length - x.1) (0, [], false) ⟨Nat.zero_le _, ⟨by simp, rfl⟩, fun _ => by simp⟩ ?_ ?_
  · (refine wk_ok ?_ ?_ ?_ ?_ <;> simp [cmC, leL, leH, idsL, idsA, idsR, inH, hget, sameRow, upA, hvA, dsts, dstO, setA_0, setA_1, setA_8, List.append, List.cons_append, List.nil_append])
  · rintro ⟨k, o, b⟩ ⟨q1, q2, q3⟩
    simp only at q1 q2 q3
    have q5 := q2.1
    simp only [upA, hvA, dsts, dstO, setA_0, setA_1, setA_8, List.append, List.cons_append, List.nil_append]
    refine go_on ?_
    (try simp only [push_cast, simprocAttr])
    by_cases hlt : k < l.length
    · obtain ⟨d, hd⟩ := get_of_lt hlt
      have i0 : ltI (k : Int) l.length = true := ltI_t (by omega)
      have i1 := ix_n hd
      have i2 := map_get cmC hd
      simp only [cmC] at i2
      have w1 := wr ((k : Int) + 1) (by omega)
      have hB := l14Before_pc c d
      unfold cmdA cmC at hB
      obtain ⟨n1, n2, n3⟩ := putI_next (c := c) (o := o) hd
      have happ : ∀ m : List Cm, m.map cmC ++ [[sA d.p, iA d.a.k, iA d.a.v, iA d.b.k, iA d.b.v]] = (m ++ [d]).map cmC := fun m => by rw [List.map_append]; rfl
      have happc : o.map cmC ++ [[sA c.p, iA c.a.k, iA c.a.v, iA c.b.k, iA c.b.v]] = (o ++ [c]).map cmC := by rw [List.map_append]; rfl
      (try simp only [i0, push_cast, simprocAttr])
      cases b with
      | true =>
        refine at_draw rfl (by kernel_rfl) ?_
        (try simp only [Bool.not_true, push_cast, simprocAttr])
        refine at_done (by kernel_rfl) (by kernel_rfl) (go_on ?_)
        (try simp only [i1, i2, push_cast, simprocAttr])
        refine at_chk (by omega) ?_
        (try simp only [happ, w1, push_cast, simprocAttr])
        refine at_fin ⟨(k + 1, o ++ [d], true), ⟨by dsimp only; omega, n1 q2, fun h => by cases h⟩, by dsimp only; omega, ?_⟩
        (refine wk_ok ?_ ?_ ?_ ?_ <;> simp [cmC, leL, leH, idsL, idsA, idsR, inH, hget, sameRow, upA, hvA, dsts, dstO, setA_0, setA_1, setA_8, List.append, List.cons_append, List.nil_append])
      | false =>
        have q4 := q3 rfl
        refine at_draw rfl (by kernel_rfl) ?_
        (try simp only [Bool.not_false, i1, i2, push_cast, simprocAttr])
        repeat' first | (refine at_bWn (fun hb => ?_) (fun hb => ?_) <;> simp only [Bool.not_false, hb, push_cast, simprocAttr]) | (refine at_bW (fun hb => ?_) (fun hb => ?_) <;> simp only [Bool.not_false, hb, push_cast, simprocAttr]) | (refine at_callD (by simp [clB, idsL, idsA, hget]) ?_; (try simp only [push_cast, simprocAttr]); first | (refine rcd_v (hB) ?_; simp only [Bool.not_false, push_cast, simprocAttr]) | (refine rcd_d (hB) (by simp [flatV, flatL, ctC, ndC, cmC]) (by simp [ren, ctC, ndC, cmC]) ?_; simp only [Bool.not_false, push_cast, simprocAttr])) | (refine at_done (by kernel_rfl) (by kernel_rfl) (go_on ?_); (try simp only [Bool.not_false, push_cast, simprocAttr]))
        refine at_b (fun hs => ?_) (fun hs => ?_)
        · have ht : List.take (o.length + 1) (List.map cmC (o ++ [c])) = List.map cmC (o ++ [c]) := List.take_of_length_le (by simp)
          (try simp only [hs, push_cast, simprocAttr])
          refine at_chk (by omega) ?_
          (try simp only [happc, i1, i2, push_cast, simprocAttr])
          refine at_chk (by omega) ?_
          (try simp only [ht, happ, w1, push_cast, simprocAttr])
          refine at_fin ⟨(k + 1, o ++ [c] ++ [d], true), ⟨by dsimp only; omega, n3 q4 q2 hs, fun h => by cases h⟩, by dsimp only; omega, ?_⟩
          (refine wk_ok ?_ ?_ ?_ ?_ <;> simp [cmC, leL, leH, idsL, idsA, idsR, inH, hget, sameRow, upA, hvA, dsts, dstO, setA_0, setA_1, setA_8, List.append, List.cons_append, List.nil_append])
        · (try simp only [hs, i1, i2, push_cast, simprocAttr])
          refine at_chk (by omega) ?_
          (try simp only [happ, w1, push_cast, simprocAttr])
          refine at_fin ⟨(k + 1, o ++ [d], false), ⟨by dsimp only; omega, (n2 q4 q2 hs).1, fun _ => (n2 q4 q2 hs).2⟩, by dsimp only; omega, ?_⟩
          (refine wk_ok ?_ ?_ ?_ ?_ <;> simp [cmC, leL, leH, idsL, idsA, idsR, inH, hget, sameRow, upA, hvA, dsts, dstO, setA_0, setA_1, setA_8, List.append, List.cons_append, List.nil_append])
    · have i0 : ltI (k : Int) l.length = false := ltI_f (by omega)
      have hk : k = l.length := by omega
      have happc : o.map cmC ++ [[sA c.p, iA c.a.k, iA c.a.v, iA c.b.k, iA c.b.v]] = (o ++ [c]).map cmC := by rw [List.map_append]; rfl
      have hd0 : l.drop k = [] := List.drop_of_length_le (by omega)
      (try simp only [i0, push_cast, simprocAttr])
      cases b with
      | true =>
        have e := q2.2
        rw [if_pos rfl, hd0, List.append_nil] at e
        (try simp only [Bool.not_true, push_cast, simprocAttr])
        refine at_ret ?_; simp only [Tryz.results168, push_cast, simprocAttr]
        simp [rX, e, ixOf]
      | false =>
        have e := q2.2
        rw [if_neg (by simp), hd0] at e
        simp only [cPut] at e
        (try simp only [Bool.not_false, push_cast, simprocAttr])
        refine at_chk (by omega) ?_
        (try simp only [happc, push_cast, simprocAttr])
        refine at_ret ?_; simp only [Tryz.results168, push_cast, simprocAttr]
        simp [rX, e, ixOf]
theorem cSort_snoc (l : List Cm) (c : Cm) : cSort (l ++ [c]) = cPut c (cSort l) := by
  unfold cSort
  rw [List.foldl_append]
  rfl
theorem l14Sort_pc (l : List Cm) (hl : l.length < 4294967270) : PC Tryz.prog 134 [cmA l] (vX (cmA (cSort l))) := by
  refine pc_enter Tryz.func134 rfl rfl fun w0 fb => go_on ?_; (try simp only [Tryz.ntmps134, push_cast, simprocAttr])
  refine at_loop (X := Nat) (fun k => [(3, cmA (cSort (l.take k))), (4, iA k), (5, .any)]) (fun _ => [(2, rowC [])]) (fun k => k ≤ l.length) (fun k => l.length - k) 0 (Nat.zero_le _) ?_ ?_
  · (refine wk_frz ?_ ?_ ?_ ?_ <;> simp [cSort, leF, leHF, frzB, idsL, idsA, idsR, inH, hget, sameRow, viewN, tk, upA, hvA, dsts, dstO, setA_0, setA_1, setA_8, List.append, List.cons_append, List.nil_append])
  · rintro k q1
    simp only [upA, hvA, dsts, dstO, setA_0, setA_1, setA_8, List.append, List.cons_append, List.nil_append]
    refine go_on ?_
    (try simp only [push_cast, simprocAttr])
    by_cases hlt : k < l.length
    · obtain ⟨d, hd⟩ := get_of_lt hlt
      have i0 : ltI (k : Int) l.length = true := ltI_t (by omega)
      have i1 := ix_n hd
      have i2 := map_get cmC hd
      simp only [cmC] at i2
      have w1 := wr ((k : Int) + 1) (by omega)
      have hsl : (cSort (l.take k)).length ≤ l.length := by rw [cSort_len, List.length_take]; omega
      have hP := l14Put_pc (cSort (l.take k)) (by omega) d
      have hnx : cPut d (cSort (l.take k)) = cSort (l.take (k + 1)) := by rw [List.take_add_one, hd, ← cSort_snoc]; rfl
      rw [hnx] at hP
      unfold cmdA cmC at hP
      (try simp only [i0, i1, i2, push_cast, simprocAttr])
      (refine at_call ?_; (try simp only [push_cast, simprocAttr]); refine rwc_r (hP) rfl (flat_c _) (by simp [frB, baseOf]) (go_on ?_); (try simp only [push_cast, simprocAttr]))
      (try simp only [w1, push_cast, simprocAttr])
      refine at_fin ⟨k + 1, by omega, by omega, ?_⟩
      (refine wk_frz ?_ ?_ ?_ ?_ <;> simp [leF, leHF, frzB, idsL, idsA, idsR, inH, hget, sameRow, viewN, tk, upA, hvA, dsts, dstO, setA_0, setA_1, setA_8, List.append, List.cons_append, List.nil_append])
    · have i0 : ltI (k : Int) l.length = false := ltI_f (by omega)
      have hk : k = l.length := by omega
      subst hk
      (try simp only [i0, push_cast, simprocAttr])
      refine at_ret ?_; simp only [Tryz.results134, push_cast, simprocAttr]
      simp [vX]
end Go.Proofs.YtjhbihooobingaaGreatDoor
/-
  Walks: spec.LogCanon.
-/
namespace Go.Proofs.YtjhbihooobingaaGreatDoor
open Go Go.RowKit Go.Proofs
/-- No command ahead of a place has its path. -/
def firstB (l : List Cm) (i : Nat) (p : Str) : Bool := !decide (p ∈ (l.take i).map (·.p))
attribute [local irreducible] RWp AW run kPe pe Kt effA gd gu br retR RDp runD kPeD brW gW effD
set_option maxRecDepth 100000
theorem l14First_pc (l : List Cm) (hl : l.length < 4294967280) (i : Nat) (c : Cm) (hc : l[i]? = some c) : PC Tryz.prog 133 [cmA l, iA i] (vB (firstB l i c.p)) := by
  have hi := lt_of_some hc
  have c1 := ix_n hc
  have c2 := map_get cmC hc
  simp only [cmC] at c2
  refine pc_enter Tryz.func133 rfl rfl fun w0 fb => go_on ?_; (try simp only [Tryz.ntmps133, push_cast, simprocAttr])
  refine at_loop (X := Nat) (fun k => [(5, iA k)]) (fun _ => []) (fun k => k ≤ i ∧ ∀ j d, j < k → l[j]? = some d → d.p ≠ c.p) (fun k => i - k) 0 ⟨Nat.zero_le _, fun j d hj => by omega⟩ ?_ ?_
  · (refine wk_ok ?_ ?_ ?_ ?_ <;> simp [leL, leH, idsL, idsA, idsR, inH, hget, sameRow, upA, hvA, dsts, dstO, setA_0, setA_1, setA_8, List.append, List.cons_append, List.nil_append])
  · rintro k ⟨q1, q2⟩
    simp only [upA, hvA, dsts, dstO, setA_0, setA_1, setA_8, List.append, List.cons_append, List.nil_append]
    refine go_on ?_
    (try simp only [push_cast, simprocAttr])
    by_cases hlt : k < i
    · obtain ⟨d, hd⟩ := get_of_lt (l := l) (k := k) (by omega)
      have i0 : ltI (k : Int) (i : Int) = true := ltI_t (by omega)
      have i1 := ix_n hd
      have i2 := map_get cmC hd
      simp only [cmC] at i2
      have w1 := wr ((k : Int) + 1) (by omega)
      (try simp only [i0, push_cast, simprocAttr])
      refine at_draw rfl (by kernel_rfl) ?_
      (try simp only [i1, i2, c1, c2, push_cast, simprocAttr])
      refine at_done (by kernel_rfl) (by kernel_rfl) (go_on ?_)
      (try simp only [push_cast, simprocAttr])
      refine at_b (fun hn => ?_) (fun hn => ?_)
      · have he : d.p = c.p := by simpa using hn
        have hf : firstB l i c.p = false := by
          unfold firstB
          simp only [Bool.not_eq_false', decide_eq_true_eq, List.mem_map]
          exact ⟨d, List.mem_of_getElem? (i := k) (by rw [List.getElem?_take, if_pos hlt]; exact hd), he⟩
        (try simp only [hn, push_cast, simprocAttr])
        refine at_ret ?_; simp only [Tryz.results133, push_cast, simprocAttr]
        simp [vX, hf]
      · have he : d.p ≠ c.p := by simpa using hn
        (try simp only [hn, w1, push_cast, simprocAttr])
        refine at_fin ⟨k + 1, ⟨by omega, fun j e hj hje => ?_⟩, by omega, ?_⟩
        · rcases Nat.lt_or_ge j k with h | h
          · exact q2 j e h hje
          · obtain rfl : j = k := by omega
            rw [hd] at hje
            cases hje
            exact he
        · (refine wk_ok ?_ ?_ ?_ ?_ <;> simp [leL, leH, idsL, idsA, idsR, inH, hget, sameRow, upA, hvA, dsts, dstO, setA_0, setA_1, setA_8, List.append, List.cons_append, List.nil_append])
    · have i0 : ltI (k : Int) (i : Int) = false := ltI_f (by omega)
      have hf : firstB l i c.p = true := by
        unfold firstB
        simp only [Bool.not_eq_true', decide_eq_false_iff_not, List.mem_map, not_exists, not_and]
        intro d hd e
        obtain ⟨j, hj, hje⟩ := List.getElem_of_mem hd
        have hj2 := hj
        rw [List.length_take] at hj2
        have : l[j]? = some d := by
          have h3 : (l.take i)[j]? = some d := by rw [List.getElem?_eq_getElem hj, hje]
          rw [List.getElem?_take, if_pos (by omega)] at h3
          exact h3
        exact q2 j d (by omega) this e
      (try simp only [i0, push_cast, simprocAttr])
      refine at_ret ?_; simp only [Tryz.results133, push_cast, simprocAttr]
      simp [vX, hf]
def canS (l : List Cm) : AV → List Row → Prop := vX (.tup [cmA ((lCanon l).getD []), bA (lCanon l).isSome])
theorem specLogCanon_pc (l : List Cm) (hs : SmL l) : PC Tryz.prog 87 [cmA l] (canS l) := by
  refine pc_enter Tryz.func87 rfl rfl fun w0 fb => go_on ?_; (try simp only [Tryz.ntmps87, push_cast, simprocAttr])
  (refine at_call ?_; (try simp only [push_cast, simprocAttr]); refine rwc_v (specLogValid_pc l hs) (go_on ?_); (try simp only [push_cast, simprocAttr]))
  refine at_b (fun hb => ?_) (fun hb => ?_)
  · have h : lV l = false := not_t hb
    (try simp only [hb, push_cast, simprocAttr])
    refine at_retf ?_; simp only [Tryz.results87, push_cast, simprocAttr]
    simp [canS, vX, lCanon, h]
  have h : lV l = true := not_f hb
  have hl20 := lV_len h
  have hO := lCanon_out h
  (try simp only [hb, push_cast, simprocAttr])
  refine at_loop (X := Nat × List Cm) (fun x => [(4, .o 12 x.2.length), (5, iA x.1), (12, .any)]) (fun x => [(2, rowC []), (12, rowC x.2)])
    (fun x => x.1 ≤ l.length ∧ x.2.length ≤ x.1 ∧ (outA [] l).map fltC = ((outA ((l.take x.1).map (·.p)) (l.drop x.1)).map fltC).map (x.2 ++ ·)) (fun x => l.length - x.1) (0, []) ⟨Nat.zero_le _, by simp, by simp [Function.comp_def]⟩ ?_ ?_
  · (refine wk_ok ?_ ?_ ?_ ?_ <;> simp [leL, leH, idsL, idsA, idsR, inH, hget, sameRow, upA, hvA, dsts, dstO, setA_0, setA_1, setA_8, List.append, List.cons_append, List.nil_append])
  · rintro ⟨i, o⟩ ⟨q1, q2, q3⟩
    simp only at q1 q2 q3
    simp only [upA, hvA, dsts, dstO, setA_0, setA_1, setA_8, List.append, List.cons_append, List.nil_append]
    by_cases hlt : i < l.length
    · refine go_on ?_
      (try simp only [push_cast, simprocAttr])
      obtain ⟨c, hc⟩ := get_of_lt hlt
      obtain ⟨s1, s2⟩ := out_step hc q3
      have i0 : ltI (i : Int) l.length = true := ltI_t (by omega)
      have i1 := ix_n hc
      have i2 := map_get cmC hc
      simp only [cmC] at i2
      have w1 := wr ((i : Int) + 1) (by omega)
      have hF := l14First_pc l (by omega) i c hc
      (try simp only [i0, push_cast, simprocAttr])
      (refine at_call ?_; (try simp only [push_cast, simprocAttr]); refine rwc_v (hF) (go_on ?_); (try simp only [push_cast, simprocAttr]))
      refine at_b (fun hf => ?_) (fun hf => ?_)
      · have hm : c.p ∉ (l.take i).map (·.p) := by simpa [firstB] using hf
        obtain ⟨s3, s4⟩ := s2 hm
        (try simp only [hf, i1, i2, w1, push_cast, simprocAttr])
        refine at_loop (X := Nat × Ct) (fun y => [(7, iA y.1)]) (fun y => [(2, rowC []), (12, rowC o), (6, ⟨36, 5, [cmC ⟨c.p, c.a, y.2⟩], true⟩)])
          (fun y => i + 1 ≤ y.1 ∧ y.1 ≤ l.length ∧ chn c.p c.b (l.drop (i + 1)) = chn c.p y.2 (l.drop y.1)) (fun y => l.length - y.1) (i + 1, c.b) ⟨Nat.le_refl _, by dsimp only; omega, rfl⟩ ?_ ?_
        · (refine wk_ok ?_ ?_ ?_ ?_ <;> simp [cmC, leL, leH, idsL, idsA, idsR, inH, hget, sameRow, upA, hvA, dsts, dstO, setA_0, setA_1, setA_8, List.append, List.cons_append, List.nil_append])
        · rintro ⟨k, t⟩ ⟨r1, r2, r3⟩
          simp only at r1 r2 r3
          simp only [upA, hvA, dsts, dstO, setA_0, setA_1, setA_8, List.append, List.cons_append, List.nil_append]
          refine go_on ?_
          (try simp only [push_cast, simprocAttr])
          by_cases hlk : k < l.length
          · obtain ⟨d, hd⟩ := get_of_lt hlk
            have j0 : ltI (k : Int) l.length = true := ltI_t (by omega)
            have j1 := ix_n hd
            have j2 := map_get cmC hd
            simp only [cmC] at j2
            have w2 := wr ((k : Int) + 1) (by omega)
            rw [drop_of_get hd] at r3
            simp only [chn] at r3
            (try simp only [j0, push_cast, simprocAttr])
            refine at_draw rfl (by kernel_rfl) ?_
            (try simp only [j1, j2, push_cast, simprocAttr])
            refine at_done (by kernel_rfl) (by kernel_rfl) (go_on ?_)
            (try simp only [push_cast, simprocAttr])
            refine at_b (fun hp => ?_) (fun hp => ?_)
            · have hp' : d.p = c.p := by simpa using hp
              rw [if_pos hp'] at r3
              (try simp only [hp, push_cast, simprocAttr])
              refine at_draw rfl (by kernel_rfl) ?_
              (try simp only [j1, j2, ctg, cth, push_cast, simprocAttr])
              have e : (eqI d.a.k t.k && eqI d.a.v t.v) = decide (d.a = t) := ct_eq _ _
              refine at_done (by kernel_rfl) (by kernel_rfl) (go_on ?_)
              (try simp only [e, push_cast, simprocAttr])
              refine at_b (fun hn => ?_) (fun hn => ?_)
              · have hne : d.a ≠ t := by simpa using hn
                rw [if_neg hne] at r3
                have hnone : lCanon l = none := by rw [hO, s3 r3]; rfl
                (try simp only [hn, push_cast, simprocAttr])
                refine at_retf ?_; simp only [Tryz.results87, push_cast, simprocAttr]
                simp [canS, vX, hnone]
              · have heq : d.a = t := by simpa using hn
                rw [if_pos heq] at r3
                (try simp only [hn, j1, j2, w2, push_cast, simprocAttr])
                refine at_fin ⟨(k + 1, d.b), ⟨by dsimp only; omega, by dsimp only; omega, r3⟩, by dsimp only; omega, ?_⟩
                (refine wk_ok ?_ ?_ ?_ ?_ <;> simp [cmC, leL, leH, idsL, idsA, idsR, inH, hget, sameRow, upA, hvA, dsts, dstO, setA_0, setA_1, setA_8, List.append, List.cons_append, List.nil_append])
            · have hp' : ¬ d.p = c.p := by simpa using hp
              rw [if_neg hp'] at r3
              (try simp only [hp, w2, push_cast, simprocAttr])
              refine at_fin ⟨(k + 1, t), ⟨by dsimp only; omega, by dsimp only; omega, r3⟩, by dsimp only; omega, ?_⟩
              (refine wk_ok ?_ ?_ ?_ ?_ <;> simp [cmC, leL, leH, idsL, idsA, idsR, inH, hget, sameRow, upA, hvA, dsts, dstO, setA_0, setA_1, setA_8, List.append, List.cons_append, List.nil_append])
          · have j0 : ltI (k : Int) l.length = false := ltI_f (by omega)
            rw [List.drop_of_length_le (show l.length ≤ k by omega)] at r3
            have s5 := s4 t r3
            have e : (eqI c.a.k t.k && eqI c.a.v t.v) = decide (c.a = t) := ct_eq _ _
            (try simp only [j0, ctg, cth, e, push_cast, simprocAttr])
            refine at_b (fun hn => ?_) (fun hn => ?_)
            · have hne : c.a ≠ t := by simpa using hn
              rw [if_pos hne] at s5
              have happ : o.map cmC ++ [[sA c.p, iA c.a.k, iA c.a.v, iA t.k, iA t.v]] = (o ++ [(⟨c.p, c.a, t⟩ : Cm)]).map cmC := by rw [List.map_append]; rfl
              (try simp only [hn, push_cast, simprocAttr])
              refine at_chk (by omega) ?_
              (try simp only [happ, w1, push_cast, simprocAttr])
              refine at_fin ⟨(i + 1, o ++ [(⟨c.p, c.a, t⟩ : Cm)]), ⟨by dsimp only; omega, by simp; omega, s5⟩, by dsimp only; omega, ?_⟩
              (refine wk_ok ?_ ?_ ?_ ?_ <;> simp [cmC, leL, leH, idsL, idsA, idsR, inH, hget, sameRow, upA, hvA, dsts, dstO, setA_0, setA_1, setA_8, List.append, List.cons_append, List.nil_append])
            · have heq : c.a = t := by simpa using hn
              rw [if_neg (by simpa using heq)] at s5
              (try simp only [hn, w1, push_cast, simprocAttr])
              refine at_fin ⟨(i + 1, o), ⟨by dsimp only; omega, by dsimp only; omega, s5⟩, by dsimp only; omega, ?_⟩
              (refine wk_ok ?_ ?_ ?_ ?_ <;> simp [cmC, leL, leH, idsL, idsA, idsR, inH, hget, sameRow, upA, hvA, dsts, dstO, setA_0, setA_1, setA_8, List.append, List.cons_append, List.nil_append])
      · have hm : c.p ∈ (l.take i).map (·.p) := by simpa [firstB] using hf
        (try simp only [hf, w1, push_cast, simprocAttr])
        refine at_fin ⟨(i + 1, o), ⟨by dsimp only; omega, by dsimp only; omega, s1 hm⟩, by dsimp only; omega, ?_⟩
        (refine wk_ok ?_ ?_ ?_ ?_ <;> simp [leL, leH, idsL, idsA, idsR, inH, hget, sameRow, upA, hvA, dsts, dstO, setA_0, setA_1, setA_8, List.append, List.cons_append, List.nil_append])
    · have i0 : ltI (i : Int) l.length = false := ltI_f (by omega)
      rw [List.drop_of_length_le (by omega)] at q3
      simp only [outA, Option.map_some, show fltC [] = [] from rfl, List.append_nil] at q3
      have hcan : lCanon l = some (cSort o) := by rw [hO, q3]; rfl
      have hS := l14Sort_pc o (by omega)
      refine go_on_n 12 ?_
      (try simp only [i0, run_0, push_cast, simprocAttr])
      refine at_more ?_
      (refine at_frzS [12] (by refine wk_frz ?_ ?_ ?_ ?_ <;> simp [frzS, frzT, hasN, delL, hdel, leF, leHF, frzB, idsL, idsA, idsR, inH, hget, sameRow, viewN, tk]) ?_; simp only [frzS, frzT, hasN, delL, hdel, idsA, idsL, viewN, hget, List.map_cons, List.map_nil, List.all_cons, List.all_nil, List.append_nil, List.drop, List.getElem?_cons_zero, List.getElem?_cons_succ, Bool.not_false, Bool.not_true, Bool.and_true, if_true, if_false, simprocAttr])
      refine go_on ?_
      (try simp only [push_cast, simprocAttr])
      ((try simp only [push_cast, simprocAttr]); refine at_share (by first | rfl | simp [isC]) (by first | rfl | simp only [ren]) (hS) (go_on ?_); (try simp only [push_cast, simprocAttr]))
      refine at_ret ?_; simp only [Tryz.results87, push_cast, simprocAttr]
      simp [canS, vX, hcan]
end Go.Proofs.YtjhbihooobingaaGreatDoor
/-
  Walks: SiteCanon, SiteShort, twice.
-/
namespace Go.Proofs.YtjhbihooobingaaGreatDoor
open Go Go.RowKit Go.Proofs
attribute [local irreducible] RWp AW run kPe pe Kt effA gd gu br retR RDp runD kPeD brW gW effD
set_option maxRecDepth 100000
theorem SiteCanon_pc (s : St) (hs : SmS s) : PC Tryz.prog 47 [stA' s] (rX (.o 0 (siteC s).length) [rowC (siteC s)]) := by
  have hL := LogCanon_pc s.log hs.l
  have hV := SiteValid_pc s hs
  unfold stA' stC at hV ⊢
  unfold canD at hL
  refine pc_enter Tryz.func47 rfl rfl fun w0 fb => go_on ?_; (try simp only [Tryz.ntmps47, push_cast, simprocAttr])
  refine at_call ?_
  (try simp only [push_cast, simprocAttr])
  refine rwc_v hV ?_
  (try simp only [push_cast, simprocAttr])
  (refine at_dropS [2] (by refine wk_ok ?_ ?_ ?_ ?_ <;> simp [dropS, dropT, hasN, delL, hdel, leL, leH, idsL, idsA, idsR, inH, hget, sameRow]) ?_; simp only [dropS, dropT, hasN, delL, hdel, idsA, idsL, hget, List.map_cons, List.map_nil, List.all_cons, List.all_nil, List.append_nil, Bool.not_false, Bool.not_true, Bool.and_true, if_true, if_false, simprocAttr])
  refine go_on ?_
  (try simp only [push_cast, simprocAttr])
  refine at_b (fun hb => ?_) (fun hb => ?_)
  · have h : siteV s = false := not_t hb
    (try simp only [hb, push_cast, simprocAttr])
    refine at_ret ?_; simp only [Tryz.results47, push_cast, simprocAttr]
    simp [rX, siteC, h, ixOf]
  · have h : siteV s = true := not_f hb
    have e : siteC s = (lCanon s.log).getD [] := by simp [siteC, h]
    rw [← e] at hL
    (try simp only [hb, push_cast, simprocAttr])
    (refine at_call ?_; (try simp only [push_cast, simprocAttr]); refine rwc_r (hL) (by simp [flatV, flatL]) (flat_c _) (by simp [frB, baseOf]) (go_on ?_); (try simp only [push_cast, simprocAttr]))
    refine at_ret ?_; simp only [Tryz.results47, push_cast, simprocAttr]
    simp [rX, ixOf]
theorem SiteCanon_d (s : St) (hs : SmS s) : PC Tryz.prog 47 [stA' s] (vX (cmA (siteC s))) := by
  have := (SiteCanon_pc s hs).frzX
  simpa [viewN, hpOf, hget, isC, tk] using this
theorem specSiteCanon_pc (s : St) (hs : SmS s) : PC Tryz.prog 54 [stA' s] (vX (cmA (siteC s))) := by
  have hL := specLogCanon_pc s.log hs.l
  have hV := specSiteValid_pc s hs
  unfold stA' stC at hV ⊢
  unfold canS at hL
  refine pc_enter Tryz.func54 rfl rfl fun w0 fb => go_on ?_; (try simp only [Tryz.ntmps54, push_cast, simprocAttr])
  (refine at_call ?_; (try simp only [push_cast, simprocAttr]); refine rwc_v (hV) (go_on ?_); (try simp only [push_cast, simprocAttr]))
  refine at_b (fun hb => ?_) (fun hb => ?_)
  · have h : siteV s = false := not_t hb
    (try simp only [hb, push_cast, simprocAttr])
    refine at_retf ?_; simp only [Tryz.results54, push_cast, simprocAttr]
    simp [vX, siteC, h, ixOf]
  · have h : siteV s = true := not_f hb
    have e : siteC s = (lCanon s.log).getD [] := by simp [siteC, h]
    rw [← e] at hL
    (try simp only [hb, push_cast, simprocAttr])
    ((try simp only [push_cast, simprocAttr]); refine at_share2 (by simp [isC2, isC]) (by first | rfl | simp [ren]) (hL) (go_on ?_); (try simp only [push_cast, simprocAttr]))
    refine at_ret ?_; simp only [Tryz.results54, push_cast, simprocAttr]
    simp [vX, ixOf]
end Go.Proofs.YtjhbihooobingaaGreatDoor
/-
  Walks: canonical logs are short.
-/
namespace Go.Proofs.YtjhbihooobingaaGreatDoor
open Go Go.RowKit Go.Proofs
theorem siteC_cv (s : St) : (siteC s).length ≤ 20 ∧ ∀ c ∈ siteC s, CV c := by
  cases h : siteV s with
  | true =>
    obtain ⟨t, L, hs⟩ := (siteV_iff s).1 h
    rw [hs.C]
    exact ⟨hs.l20, hs.co.cv⟩
  | false =>
    have : siteC s = [] := by simp [siteC, h]
    rw [this]
    exact ⟨by simp, by simp⟩
theorem siteC_sm (s : St) : SmL (siteC s) := by
  obtain ⟨h1, h2⟩ := siteC_cv s
  refine ⟨by omega, fun c hc => ?_⟩
  have h := h2 c hc
  have := (pV_len h.p h.r).2
  omega
end Go.Proofs.YtjhbihooobingaaGreatDoor
