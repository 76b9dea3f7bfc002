/-
  Regions that draw their order, by assertions that may look at several slots; the last operation waits for all others.
-/
import Derived.Test.YtjhfhlfiagggpaaK6
namespace Go.Proofs.Ytjhfhlfiagggpaa
open Go Go.RowKit

/-- Operation i's assertion looks at the slots that i and what it waits for have written. -/
def lookOk (ops : List Oper) (look : Nat → List Nat) : Bool :=
  (List.range ops.length).all fun i => (look i).all fun t => (i :: waitsFor ops i).any fun m => match ops[m]? with
    | some o => o.dst == some t
    | none => false
theorem lookOk_spec {ops : List Oper} {look : Nat → List Nat} (h : lookOk ops look = true) : ∀ (i t : Nat), i < ops.length → t ∈ look i → ∃ (m : Nat) (o : Oper), ops[m]? = some o ∧ o.dst = some t ∧ (m = i ∨ m ∈ waitsFor ops i) := by
  intro i t h1 ht
  simp only [lookOk, List.all_eq_true, List.mem_range, List.any_eq_true] at h
  obtain ⟨m, hm, h2⟩ := h i h1 t ht
  cases ho : ops[m]? with
  | none => rw [ho] at h2; cases h2
  | some o =>
    rw [ho] at h2
    exact ⟨m, o, ho, by simpa using h2, by simpa using hm⟩

theorem wpAny_tailG {P : Program} {ops : Array Oper} {Q : Exit → Act → World → Prop} {md : Region.Mode} {a0 : Act} {w0 : World} (F : Nat → Act → World → Prop) (look : Nat → List Nat) (n : Nat)
    (hok : regionOk ops a0.tmps.size = true) (hmd : md = .any) (htl : tailOk ops.toList n = true)
    (hlk : lookOk ops.toList look = true) (hloc : ∀ i a a' w, (∀ t ∈ look i, a'.tmps.getD t undef = a.tmps.getD t undef) → F i a w → F i a' w)
    (hst : ∀ i a w w', F i a w → Below w.heap.size w w' → F i a w')
    (hop : ∀ (i : Nat) (o : Oper), i < n → ops[i]? = some o → ∀ a w, Below w0.heap.size w0 w → Agree ops a0 a →
      (∀ e ∈ o.after, Region.binds md e = true → F e.on a w) →
      wpOp P ops Q i (fun a' w' => ∃ v, a' = a.put o.dst v ∧ F i a' w' ∧ Below w.heap.size w w') a w)
    (hend : ∀ a w, Below w0.heap.size w0 w → Agree ops a0 a → (∀ (i : Nat), i < n → F i a w) →
      wpOp P ops Q n (fun a' w' => Q .normal a' w') a w) :
    ∀ (fuel : Nat) (listed : Array Bool) (a : Act) (w : World), listed.size = ops.size → (listed.toList.filter (!·)).length ≤ fuel → listed.getD n true = false →
      (∀ (i : Nat), listed.getD i false = true → ∀ j ∈ waitsFor ops.toList i, listed.getD j false = true) → Below w0.heap.size w0 w → Agree ops a0 a →
      (∀ (i : Nat), listed.getD i false = true → F i a w) → wpAny P md ops Q fuel listed a w := by
  subst hmd
  obtain ⟨hback, hin, hinj⟩ := regionOk_spec hok
  have hsize : ops.size = n + 1 := by
    unfold tailOk at htl
    simp only [Bool.and_eq_true, beq_iff_eq, Array.length_toList] at htl
    exact htl.1
  have hanc : ∀ i, i < n + 1 → i ∈ ancs ops.toList (n + 1) [n] := by
    unfold tailOk at htl
    simp only [Bool.and_eq_true, List.all_eq_true, List.mem_range] at htl
    intro i hi
    simpa using htl.2 i hi
  have hw : ∀ (i : Nat) (o : Oper), ops[i]? = some o → ∀ j, j ∈ waitsFor ops.toList i ↔ ∃ e ∈ o.after, Region.binds .any e = true ∧ e.on = j := by
    intro i o ho j
    unfold waitsFor
    rw [Array.getElem?_toList, ho]
    simp [and_assoc]
  -- where the last is ready, all others are listed
  have hlast : ∀ (listed : Array Bool), (∀ (i : Nat), listed.getD i false = true → ∀ j ∈ waitsFor ops.toList i, listed.getD j false = true) → n ∈ Region.ready .any ops listed →
      ∀ i, i < n → listed.getD i false = true := by
    intro listed hcl hr i hi
    obtain ⟨_, o, ho, hpre⟩ := mem_ready.1 hr
    have h1 := ancs_spec ops.toList (fun k => k = n ∨ listed.getD k false = true) (fun k hk j hj => by
      rcases hk with rfl | hk
      · obtain ⟨e, he, hb, rfl⟩ := (hw k o ho j).1 hj
        exact .inr (hpre e he hb)
      · exact .inr (hcl k hk j hj)) (n + 1) [n] (by simp) i (hanc i (by omega))
    rcases h1 with h1 | h1
    · omega
    · exact h1
  intro fuel
  induction fuel with
  | zero =>
    intro listed a w hsz hf hn hcl hb hag hF
    exfalso
    have hnl : n < listed.size := by omega
    have hfalse : listed[n] = false := by simpa [Array.getD, hnl] using hn
    have h0 : listed.toList.filter (!·) = [] := List.eq_nil_of_length_eq_zero (by omega)
    rw [List.filter_eq_nil_iff] at h0
    have := h0 listed[n] (by simp)
    simp [hfalse] at this
  | succ fuel ih =>
    intro listed a w hsz hf hn hcl hb hag hF
    have hnl : n < listed.size := by omega
    refine ⟨fun hr => ?_, fun i hi => ?_⟩
    · -- the last is unlisted, so some operation is ready
      exfalso
      have hall : ∀ i, i < ops.size → listed.getD i false = true := by
        intro i
        induction i using Nat.strongRecOn with
        | _ i ihi =>
          intro hi
          cases hl : listed.getD i false with
          | true => rfl
          | false =>
            have : i ∈ Region.ready .any ops listed := by
              rw [mem_ready]
              refine ⟨?_, ops[i], Array.getElem?_eq_getElem hi, fun e he _ => ?_⟩
              · have h1 : i < listed.size := by omega
                simp only [Array.getD, h1, dif_pos] at hl ⊢
                exact hl
              · have := hback i ops[i] (Array.getElem?_eq_getElem hi) e he
                exact ihi e.on this (by omega)
            rw [hr] at this
            cases this
      have := hall n (by omega)
      simp only [Array.getD, hnl, dif_pos] at this hn
      rw [this] at hn
      cases hn
    · obtain ⟨h1, o, ho, hpre⟩ := mem_ready.1 hi
      have his : i < ops.size := getElem?_lt ho
      have hil : i < listed.size := by omega
      have hfalse : listed[i] = false := by simpa [Array.getD, hil] using h1
      by_cases hin' : i = n
      · subst hin'
        have hl := hlast listed hcl hi
        refine wpOp_mono ?_ (hend a w hb hag fun j hj => hF j (hl j hj))
        intro a' w' hq
        refine wpAny_doneG ?_ hq fuel
        rw [List.eq_nil_iff_forall_not_mem]
        intro j hj
        obtain ⟨g1, oj, g2, _⟩ := mem_ready.1 hj
        have hjs : j < ops.size := getElem?_lt g2
        by_cases hji : j = i
        · subst hji
          simp [Array.getD_eq_getD_getElem?, hil] at g1
        · have := hl j (by omega)
          have hjl : j < listed.size := by omega
          simp only [Array.getD_eq_getD_getElem?, Array.getElem?_setIfInBounds] at g1 this
          rw [if_neg (fun h => hji h.symm)] at g1
          simp only [hjl, Array.getElem?_eq_getElem, Option.getD_some] at g1 this
          rw [this] at g1
          cases g1
      · refine wpOp_mono ?_ (hop i o (by omega) ho a w hb hag fun e he hbd => hF e.on (hpre e he hbd))
        rintro a' w' ⟨v, rfl, hv, hb'⟩
        have hother : ∀ j, i ≠ j → (listed.setIfInBounds i true).getD j false = listed.getD j false := fun j hij => by
          simp [Array.getD_eq_getD_getElem?, Array.getElem?_setIfInBounds, hij]
        have hself : (listed.setIfInBounds i true).getD i false = true := by simp [Array.getD_eq_getD_getElem?, hil]
        refine ih _ _ _ (by simpa using hsz) ?_ ?_ ?_ (hb.trans (hb'.mono hb.size)) (hag.put ho v) fun j hlj => ?_
        · have key : ∀ (l : List Bool) (k : Nat), l[k]? = some false → ((l.set k true).filter (!·)).length + 1 = (l.filter (!·)).length := by
            intro l
            induction l with
            | nil => intro k hk; simp at hk
            | cons x l ihl =>
              intro k hk
              cases k with
              | zero =>
                simp at hk
                subst hk
                simp
              | succ k =>
                have := ihl k (by simpa using hk)
                cases x <;> simp [List.filter_cons] <;> omega
          have := key listed.toList i (by simp [hil, hfalse])
          simp only [Array.toList_setIfInBounds]
          omega
        · simp only [Array.getD_eq_getD_getElem?, Array.getElem?_setIfInBounds] at hn ⊢
          rw [if_neg hin']
          exact hn
        · intro j hj k hk
          by_cases hij : i = j
          · subst hij
            obtain ⟨e, he, hbd, rfl⟩ := (hw i o ho k).1 hk
            have := hpre e he hbd
            by_cases hie : i = e.on
            · rw [← hie]; exact hself
            · rw [hother _ hie]; exact this
          · have := hcl j (by rw [← hother j hij]; exact hj) k hk
            by_cases hik : i = k
            · subst hik; exact hself
            · rw [hother _ hik]; exact this
        · by_cases hij : i = j
          · subst hij
            exact hv
          · have hjl : listed.getD j false = true := by rw [← hother j hij]; exact hlj
            refine hst j _ w w' (hloc j a _ w (fun t ht => ?_) (hF j hjl)) hb'
            refine put_getD_other _ _ _ _ (fun hd => ?_)
            -- what operation j looks at was written by operations that are listed
            have hjs : j < ops.size := by
              rcases Nat.lt_or_ge j ops.size with h | h
              · exact h
              · rw [Array.getD_eq_getD_getElem?, Array.getElem?_eq_none (by omega)] at hjl; cases hjl
            obtain ⟨m, om, hom, hdm, hm⟩ := lookOk_spec hlk j t (by simpa using hjs) ht
            have hml : listed.getD m false = true := by
              rcases hm with rfl | hm
              · exact hjl
              · exact hcl j hjl m hm
            have : i = m := hinj i m o om t ho (by simpa using hom) hd hdm
            subst this
            have hg : listed.getD i false = listed[i] := by simp [Array.getD, hil]
            rw [hg, hfalse] at hml
            cases hml
where
  wpAny_doneG {P : Program} {ops : Array Oper} {Q : Exit → Act → World → Prop} {md : Region.Mode} {listed : Array Bool} {a : Act} {w : World} (hr : Region.ready md ops listed = []) (h : Q .normal a w) :
      ∀ fuel, wpAny P md ops Q fuel listed a w
    | 0 => ⟨hr, h⟩
    | _ + 1 => ⟨fun _ => h, by rw [hr]; simp⟩


/-- What the operations that must come first have left. -/
def predsG (F : Nat → Act → World → Prop) (a : Act) (w : World) : List Edge → Prop
  | [] => True
  | e :: r => (if Region.binds .any e = true then F e.on a w else True) ∧ predsG F a w r
theorem predsG_of {F : Nat → Act → World → Prop} {a : Act} {w : World} : ∀ (l : List Edge), (∀ e ∈ l, Region.binds .any e = true → F e.on a w) → predsG F a w l
  | [], _ => trivial
  | e :: r, h => by
    refine ⟨?_, predsG_of r fun e' he' => h e' (List.mem_cons_of_mem _ he')⟩
    split
    · rename_i hb; exact h e (List.mem_cons_self ..) hb
    · trivial

theorem wp_region_tailG {P : Program} {id : Nat} {ops : List Oper} {Q : Exit → Act → World → Prop} {a0 : Act} {w0 : World} (hm : P.follows .mixedOrders = true) (n : Nat) (F : Nat → Act → World → Prop) (look : Nat → List Nat)
    (hok : regionOk ops.toArray a0.tmps.size = true) (htl : tailOk ops n = true) (hlk : lookOk ops look = true)
    (hloc : ∀ i a a' w, (∀ t ∈ look i, a'.tmps.getD t undef = a.tmps.getD t undef) → F i a w → F i a' w)
    (hst : ∀ i a w w', F i a w → Below w.heap.size w w' → F i a w')
    (hop : eachOp (fun i o => ∀ a w, Below w0.heap.size w0 w → Agree ops.toArray a0 a → predsG F a w o.after.toList →
      wpOp P ops.toArray Q i (fun a' w' => ∃ v, a' = a.put o.dst v ∧ F i a' w' ∧ Below w.heap.size w w') a w) (ops.take n) 0)
    (hend : ∀ a w, Below w0.heap.size w0 w → Agree ops.toArray a0 a → (∀ (i : Nat), i < n → F i a w) → wpOp P ops.toArray Q n (fun a' w' => Q .normal a' w') a w) :
    (Code.region id ops.toArray true).wp P Q a0 w0 := by
  have hlen : ops.length = n + 1 := by
    unfold tailOk at htl
    simp only [Bool.and_eq_true, beq_iff_eq] at htl
    exact htl.1
  refine wp_region_any hm (wpAny_tailG F look n hok rfl (by simpa using htl) (by simpa using hlk) hloc hst (fun i o hi ho a w hb hag hp => ?_) hend _ _ _ _ (by simp) (by simp) ?_ (fun i hi => ?_) (Below.refl _ _).drew ⟨rfl, rfl, fun _ _ => rfl⟩ fun i hl => ?_)
  · have := eachOp_spec (ops.take n) 0 hop i o (by rw [List.getElem?_take]; simpa [hi] using ho)
    rw [Nat.zero_add] at this
    exact this a w hb hag (predsG_of _ fun e he => hp e (by simpa using he))
  · simp [Array.getD_eq_getD_getElem?, Array.getElem?_replicate, hlen]
  · exfalso
    simp [Array.getD_eq_getD_getElem?, Array.getElem?_replicate] at hi
    by_cases h : i < ops.length <;> simp [h] at hi
  · exfalso
    simp [Array.getD_eq_getD_getElem?, Array.getElem?_replicate] at hl
    by_cases h : i < ops.length <;> simp [h] at hl

section
variable {P : Program} {ops : Array Oper} {Q : Exit → Act → World → Prop} {i : Nat} {o : Oper} {a : Act} {w : World} {G : Act → World → Prop}
theorem opG_val (v : Value) (hi : ops[i]? = some o) (hg : o.guard = none) (hr : (execOp a.eval o).run P w = .ok (.value v) w) (hF : G (a.put o.dst v) w) :
    wpOp P ops Q i (fun a' w' => ∃ v, a' = a.put o.dst v ∧ G a' w' ∧ Below w.heap.size w w') a w := by
  refine op_wp hi hg ?_
  unfold Oper.wp
  rw [hr]
  exact ⟨v, rfl, hF, Below.refl _ _⟩
theorem opG_grow (v : Value) (w' : World) (hi : ops[i]? = some o) (hg : o.guard = none) (hr : (execOp a.eval o).run P w = .ok (.value v) w') (hb : Below w.heap.size w w') (hF : G (a.put o.dst v) w') :
    wpOp P ops Q i (fun a' w' => ∃ v, a' = a.put o.dst v ∧ G a' w' ∧ Below w.heap.size w w') a w := by
  refine op_wp hi hg ?_
  unfold Oper.wp
  rw [hr]
  exact ⟨v, rfl, hF, hb⟩
/-- A store, at a region's end. -/
theorem op_skip {R : Act → World → Prop} (w' : World) (hi : ops[i]? = some o) (hg : o.guard = none) (hd : o.dst = none) (hr : (execOp a.eval o).run P w = .ok .skip w') (h : R a w') : wpOp P ops Q i R a w := by
  refine op_wp hi hg ?_
  unfold Oper.wp
  rw [hr]
  show R (a.put o.dst undef) w'
  rw [hd]
  exact h
theorem opG_call (f : FuncId) (xs : Array Operand) (ats : Array TypeId) (args : Array Value) (hi : ops[i]? = some o) (hg : o.guard = none) (ho : o.op = .call { callee := .value (.func f), args := xs, argTypes := ats })
    (hargs : xs.map a.eval = args) (hf : ∀ args W, (callFunc f args).run P W = .ok (.enter f args) W)
    (hc : Calls P f args w fun e w' => ∃ v, e = .returned v ∧ G (a.put o.dst v) w' ∧ Below w.heap.size w w') :
    wpOp P ops Q i (fun a' w' => ∃ v, a' = a.put o.dst v ∧ G a' w' ∧ Below w.heap.size w w') a w := by
  have hr : (execOp a.eval o).run P w = .ok (.enter f args) w := by
    obtain ⟨dst, op, ty, pos, after, guard⟩ := o
    simp only at ho
    subst ho
    rw [execOp_call_go, ← hf args w, hargs]
    simp
  refine op_wp hi hg ?_
  unfold Oper.wp
  rw [hr]
  refine hc.mono ?_
  rintro e w' ⟨v, rfl, h1, h2⟩
  exact ⟨v, rfl, h1, h2⟩
end

end Go.Proofs.Ytjhfhlfiagggpaa
