/-
  The same, for a region whose last operation waits for all others (a store, an append in place): it is carried out last, and may write.
-/
import Derived.Test.YtjhfhlfiagggpaaK3
namespace Go.Proofs.Ytjhfhlfiagggpaa
open Go Go.RowKit

/-- What operation i waits for. -/
def waitsFor (ops : List Oper) (i : Nat) : List Nat := match ops[i]? with
  | none => []
  | some o => (o.after.toList.filter fun e => Region.binds .any e).map (·.on)
def ancs (ops : List Oper) : Nat → List Nat → List Nat
  | 0, acc => acc
  | k + 1, acc => ancs ops k (if acc.contains k then waitsFor ops k ++ acc else acc)
/-- The last operation waits for all others, by whatever road. -/
def tailOk (ops : List Oper) (n : Nat) : Bool := ops.length == n + 1 && (List.range (n + 1)).all fun i => (ancs ops (n + 1) [n]).contains i

theorem ancs_spec (ops : List Oper) (S : Nat → Prop) (hS : ∀ k, S k → ∀ i ∈ waitsFor ops k, S i) : ∀ (k : Nat) (acc : List Nat), (∀ i ∈ acc, S i) → ∀ i ∈ ancs ops k acc, S i
  | 0, acc, h, i, hi => h i hi
  | k + 1, acc, h, i, hi => by
    refine ancs_spec ops S hS k _ ?_ i hi
    split
    · rename_i hc
      intro j hj
      rcases List.mem_append.1 hj with h1 | h1
      · exact hS k (h k (by simpa using hc)) j h1
      · exact h j h1
    · exact h

theorem wpAny_tail {P : Program} {ops : Array Oper} {Q : Exit → Act → World → Prop} {md : Region.Mode} {a0 : Act} {w0 : World} (F : Nat → Value → World → Prop) (n : Nat)
    (hok : regionOk ops a0.tmps.size = true) (hmd : md = .any) (htl : tailOk ops.toList n = true)
    (hst : ∀ i v w w', F i v w → Below w.heap.size w w' → F i v w')
    (hop : ∀ (i : Nat) (o : Oper), i < n → ops[i]? = some o → ∀ a w, Below w0.heap.size w0 w → Agree ops a0 a →
      (∀ e ∈ o.after, Region.binds md e = true → ∀ (o' : Oper) (d : Nat), ops[e.on]? = some o' → o'.dst = some d → F e.on (a.tmps.getD d undef) w) →
      wpOp P ops Q i (fun a' w' => ∃ v, a' = a.put o.dst v ∧ F i v w' ∧ Below w.heap.size w w') a w)
    (hend : ∀ a w, Below w0.heap.size w0 w → Agree ops a0 a → (∀ (i : Nat) (o : Oper) (d : Nat), i < n → ops[i]? = some o → o.dst = some d → F i (a.tmps.getD d undef) w) →
      wpOp P ops Q n (fun a' w' => Q .normal a' w') a w) :
    ∀ (fuel : Nat) (listed : Array Bool) (a : Act) (w : World), listed.size = ops.size → (listed.toList.filter (!·)).length ≤ fuel → listed.getD n true = false →
      (∀ (i : Nat), listed.getD i false = true → ∀ j ∈ waitsFor ops.toList i, listed.getD j false = true) → Below w0.heap.size w0 w → Agree ops a0 a →
      (∀ (i : Nat) (o : Oper) (d : Nat), ops[i]? = some o → o.dst = some d → listed.getD i false = true → F i (a.tmps.getD d undef) w) → wpAny P md ops Q fuel listed a w := by
  subst hmd
  obtain ⟨hback, hin, hinj⟩ := regionOk_spec hok
  have hsize : ops.size = n + 1 := by
    unfold tailOk at htl
    simp only [Bool.and_eq_true, beq_iff_eq, Array.length_toList] at htl
    exact htl.1
  have hanc : ∀ i, i < n + 1 → i ∈ ancs ops.toList (n + 1) [n] := by
    unfold tailOk at htl
    simp only [Bool.and_eq_true, List.all_eq_true, List.mem_range] at htl
    intro i hi
    simpa using htl.2 i hi
  have hw : ∀ (i : Nat) (o : Oper), ops[i]? = some o → ∀ j, j ∈ waitsFor ops.toList i ↔ ∃ e ∈ o.after, Region.binds .any e = true ∧ e.on = j := by
    intro i o ho j
    unfold waitsFor
    rw [Array.getElem?_toList, ho]
    simp [and_assoc]
  -- where the last is ready, all others are listed
  have hlast : ∀ (listed : Array Bool), (∀ (i : Nat), listed.getD i false = true → ∀ j ∈ waitsFor ops.toList i, listed.getD j false = true) → n ∈ Region.ready .any ops listed →
      ∀ i, i < n → listed.getD i false = true := by
    intro listed hcl hr i hi
    obtain ⟨_, o, ho, hpre⟩ := mem_ready.1 hr
    have h1 := ancs_spec ops.toList (fun k => k = n ∨ listed.getD k false = true) (fun k hk j hj => by
      rcases hk with rfl | hk
      · obtain ⟨e, he, hb, rfl⟩ := (hw k o ho j).1 hj
        exact .inr (hpre e he hb)
      · exact .inr (hcl k hk j hj)) (n + 1) [n] (by simp) i (hanc i (by omega))
    rcases h1 with h1 | h1
    · omega
    · exact h1
  intro fuel
  induction fuel with
  | zero =>
    intro listed a w hsz hf hn hcl hb hag hF
    exfalso
    have hnl : n < listed.size := by omega
    have hfalse : listed[n] = false := by simpa [Array.getD, hnl] using hn
    have h0 : listed.toList.filter (!·) = [] := List.eq_nil_of_length_eq_zero (by omega)
    rw [List.filter_eq_nil_iff] at h0
    have := h0 listed[n] (by simp)
    simp [hfalse] at this
  | succ fuel ih =>
    intro listed a w hsz hf hn hcl hb hag hF
    have hnl : n < listed.size := by omega
    refine ⟨fun hr => ?_, fun i hi => ?_⟩
    · -- the last is unlisted, so some operation is ready
      exfalso
      have hall : ∀ i, i < ops.size → listed.getD i false = true := by
        intro i
        induction i using Nat.strongRecOn with
        | _ i ihi =>
          intro hi
          cases hl : listed.getD i false with
          | true => rfl
          | false =>
            have : i ∈ Region.ready .any ops listed := by
              rw [mem_ready]
              refine ⟨?_, ops[i], Array.getElem?_eq_getElem hi, fun e he _ => ?_⟩
              · have h1 : i < listed.size := by omega
                simp only [Array.getD, h1, dif_pos] at hl ⊢
                exact hl
              · have := hback i ops[i] (Array.getElem?_eq_getElem hi) e he
                exact ihi e.on this (by omega)
            rw [hr] at this
            cases this
      have := hall n (by omega)
      simp only [Array.getD, hnl, dif_pos] at this hn
      rw [this] at hn
      cases hn
    · obtain ⟨h1, o, ho, hpre⟩ := mem_ready.1 hi
      have his : i < ops.size := getElem?_lt ho
      have hil : i < listed.size := by omega
      have hfalse : listed[i] = false := by simpa [Array.getD, hil] using h1
      by_cases hin' : i = n
      · subst hin'
        have hl := hlast listed hcl hi
        refine wpOp_mono ?_ (hend a w hb hag fun j oj d hj hoj hd => hF j oj d hoj hd (hl j hj))
        intro a' w' hq
        refine wpAny_done' ?_ hq fuel
        rw [List.eq_nil_iff_forall_not_mem]
        intro j hj
        obtain ⟨g1, oj, g2, _⟩ := mem_ready.1 hj
        have hjs : j < ops.size := getElem?_lt g2
        by_cases hji : j = i
        · subst hji
          simp [Array.getD_eq_getD_getElem?, hil] at g1
        · have := hl j (by omega)
          have hjl : j < listed.size := by omega
          simp only [Array.getD_eq_getD_getElem?, Array.getElem?_setIfInBounds] at g1 this
          rw [if_neg (fun h => hji h.symm)] at g1
          simp only [hjl, Array.getElem?_eq_getElem, Option.getD_some] at g1 this
          rw [this] at g1
          cases g1
      · refine wpOp_mono ?_ (hop i o (by omega) ho a w hb hag fun e he hbd o' d ho' hd => hF e.on o' d ho' hd (hpre e he hbd))
        rintro a' w' ⟨v, rfl, hv, hb'⟩
        have hother : ∀ j, i ≠ j → (listed.setIfInBounds i true).getD j false = listed.getD j false := fun j hij => by
          simp [Array.getD_eq_getD_getElem?, Array.getElem?_setIfInBounds, hij]
        have hself : (listed.setIfInBounds i true).getD i false = true := by simp [Array.getD_eq_getD_getElem?, hil]
        refine ih _ _ _ (by simpa using hsz) ?_ ?_ ?_ (hb.trans (hb'.mono hb.size)) (hag.put ho v) fun j oj d hoj hd hlj => ?_
        · have key : ∀ (l : List Bool) (k : Nat), l[k]? = some false → ((l.set k true).filter (!·)).length + 1 = (l.filter (!·)).length := by
            intro l
            induction l with
            | nil => intro k hk; simp at hk
            | cons x l ihl =>
              intro k hk
              cases k with
              | zero =>
                simp at hk
                subst hk
                simp
              | succ k =>
                have := ihl k (by simpa using hk)
                cases x <;> simp [List.filter_cons] <;> omega
          have := key listed.toList i (by simp [hil, hfalse])
          simp only [Array.toList_setIfInBounds]
          omega
        · simp only [Array.getD_eq_getD_getElem?, Array.getElem?_setIfInBounds] at hn ⊢
          rw [if_neg hin']
          exact hn
        · intro j hj k hk
          by_cases hij : i = j
          · subst hij
            obtain ⟨e, he, hbd, rfl⟩ := (hw i o ho k).1 hk
            have := hpre e he hbd
            by_cases hie : i = e.on
            · rw [← hie]; exact hself
            · rw [hother _ hie]; exact this
          · have := hcl j (by rw [← hother j hij]; exact hj) k hk
            by_cases hik : i = k
            · subst hik; exact hself
            · rw [hother _ hik]; exact this
        · by_cases hij : i = j
          · subst hij
            rw [ho] at hoj
            cases hoj
            rw [hd, put_getD_same _ _ _ (by rw [hag.size]; exact hin i o d ho hd)]
            exact hv
          · rw [put_getD_other _ _ _ _ (fun h => hij (hinj i j o oj d ho hoj h hd))]
            exact hst j _ w w' (hF j oj d hoj hd (by rw [← hother j hij]; exact hlj)) hb'
where
  wpAny_done' {P : Program} {ops : Array Oper} {Q : Exit → Act → World → Prop} {md : Region.Mode} {listed : Array Bool} {a : Act} {w : World} (hr : Region.ready md ops listed = []) (h : Q .normal a w) :
      ∀ fuel, wpAny P md ops Q fuel listed a w
    | 0 => ⟨hr, h⟩
    | _ + 1 => ⟨fun _ => h, by rw [hr]; simp⟩

theorem wp_region_tail {P : Program} {id : Nat} {ops : List Oper} {Q : Exit → Act → World → Prop} {a0 : Act} {w0 : World} (hm : P.follows .mixedOrders = true) (n : Nat) (F : Nat → Value → World → Prop)
    (hok : regionOk ops.toArray a0.tmps.size = true) (htl : tailOk ops n = true)
    (hst : ∀ i v w w', F i v w → Below w.heap.size w w' → F i v w')
    (hop : eachOp (fun i o => ∀ a w, Below w0.heap.size w0 w → Agree ops.toArray a0 a → predsF ops.toArray F a w o.after.toList →
      wpOp P ops.toArray Q i (fun a' w' => ∃ v, a' = a.put o.dst v ∧ F i v w' ∧ Below w.heap.size w w') a w) (ops.take n) 0)
    (hend : ∀ a w, Below w0.heap.size w0 w → Agree ops.toArray a0 a → allF F a w (ops.take n) 0 → wpOp P ops.toArray Q n (fun a' w' => Q .normal a' w') a w) :
    (Code.region id ops.toArray true).wp P Q a0 w0 := by
  have hlen : ops.length = n + 1 := by
    unfold tailOk at htl
    simp only [Bool.and_eq_true, beq_iff_eq] at htl
    exact htl.1
  refine wp_region_any hm (wpAny_tail F n hok rfl (by simpa using htl) hst (fun i o hi ho a w hb hag hp => ?_) (fun a w hb hag hF => ?_) _ _ _ _ (by simp) (by simp) ?_ (fun i hi => ?_) (Below.refl _ _).drew ⟨rfl, rfl, fun _ _ => rfl⟩ fun i o d ho hd hl => ?_)
  · have := eachOp_spec (ops.take n) 0 hop i o (by rw [List.getElem?_take]; simpa [hi] using ho)
    rw [Nat.zero_add] at this
    exact this a w hb hag (predsF_of _ fun e he => hp e (by simpa using he))
  · exact hend a w hb hag (allF_of _ 0 fun i o d ho hd => by
      have hi : i < n := by
        rcases Nat.lt_or_ge i n with h | h
        · exact h
        · rw [List.getElem?_eq_none (by simp; omega)] at ho; cases ho
      rw [Nat.zero_add]
      exact hF i o d hi (by rw [List.getElem?_take] at ho; simpa [hi] using ho) hd)
  · simp [Array.getD_eq_getD_getElem?, Array.getElem?_replicate, hlen]
  · exfalso
    simp [Array.getD_eq_getD_getElem?, Array.getElem?_replicate] at hi
    by_cases h : i < ops.length <;> simp [h] at hi
  · exfalso
    simp [Array.getD_eq_getD_getElem?, Array.getElem?_replicate] at hl
    by_cases h : i < ops.length <;> simp [h] at hl

theorem Agree.at_ {ops : Array Oper} {a0 a : Act} (h : Agree ops a0 a) (t : Nat) (hw : writesTo ops t = false) : a.tmps[t]?.getD undef = a0.tmps.getD t undef := by
  rw [← Array.getD_eq_getD_getElem?]
  refine h.slot t fun i o ho hd => ?_
  have h1 : writesTo ops t = true := by
    simp only [writesTo, Array.any_eq_true]
    exact ⟨i, getElem?_lt ho, by rw [Array.getElem?_eq_some_iff] at ho; obtain ⟨_, rfl⟩ := ho; simp [hd]⟩
  rw [hw] at h1
  cases h1

/-- The frame behind the region, slot by slot; ds: the slots that the region writes. -/
theorem Agree.lit {ops : Array Oper} {a0 a : Act} (h : Agree ops a0 a) (ds : List Nat) (hds : (ops.toList.filterMap (·.dst)) = ds) :
    a = ⟨((List.range a0.tmps.size).map fun t => if ds.contains t = true then a.tmps[t]?.getD undef else a0.tmps[t]?.getD undef).toArray, a0.defers⟩ := by
  have h1 := h.eta
  have h2 : ∀ t, writesTo ops t = ds.contains t := by
    intro t
    rw [← hds, Bool.eq_iff_iff]
    simp only [writesTo, Array.any_eq_true, List.contains_iff_mem, List.mem_filterMap, Array.mem_toList_iff, beq_iff_eq]
    constructor
    · rintro ⟨i, hi, hd⟩; exact ⟨ops[i], Array.getElem_mem hi, hd⟩
    · rintro ⟨o, ho, hd⟩; obtain ⟨i, hi, rfl⟩ := Array.getElem_of_mem ho; exact ⟨i, hi, hd⟩
  simp only [h2, Array.getD_eq_getD_getElem?] at h1
  exact h1

section
variable {P : Program} {ops : Array Oper} {Q : Exit → Act → World → Prop} {i : Nat} {o : Oper} {a : Act} {w : World} {R : Act → World → Prop} {G : Value → World → Prop}
/-- An operation that yields a value and leaves the world. -/
theorem op_val (v : Value) (hi : ops[i]? = some o) (hg : o.guard = none) (hF : G v w) (hr : (execOp a.eval o).run P w = .ok (.value v) w) :
    wpOp P ops Q i (fun a' w' => ∃ v, a' = a.put o.dst v ∧ G v w' ∧ Below w.heap.size w w') a w := by
  unfold wpOp
  simp only [hi]
  rw [if_pos (by simp [Region.wanted, hg])]
  refine .inl ?_
  unfold Oper.wp
  rw [hr]
  exact ⟨v, rfl, hF, Below.refl _ _⟩
/-- An operation that yields a value and makes memory. -/
theorem op_grow (v : Value) (w' : World) (hi : ops[i]? = some o) (hg : o.guard = none) (hF : G v w') (hb : Below w.heap.size w w') (hr : (execOp a.eval o).run P w = .ok (.value v) w') :
    wpOp P ops Q i (fun a' w' => ∃ v, a' = a.put o.dst v ∧ G v w' ∧ Below w.heap.size w w') a w := by
  unfold wpOp
  simp only [hi]
  rw [if_pos (by simp [Region.wanted, hg])]
  refine .inl ?_
  unfold Oper.wp
  rw [hr]
  exact ⟨v, rfl, hF, hb⟩
/-- An operation by a law of its own. -/
theorem op_wp (hi : ops[i]? = some o) (hg : o.guard = none) (h : o.wp P a w R Q) : wpOp P ops Q i R a w := by
  unfold wpOp
  simp only [hi]
  rw [if_pos (by simp [Region.wanted, hg])]
  exact .inl h
/-- A struct's cells stored into a block of its own. -/
theorem op_store_row (ty : TypeId) (x y : Operand) (hi : ops[i]? = some o) (hgd : o.guard = none) (hd : o.dst = none) (ho : o.op = .store ty x y)
    (g : Nat) (cells : Array Value) (hx : a.eval x = .pointer (some ⟨g, 0, none⟩)) (hy : a.eval y = .agg cells)
    (t : TypeId) (old : Array Value) (hg : w.heap[g]? = some (.cells old t (0, 0))) (hsz : (P.info? ty).map (·.size) = some cells.size)
    (hold : old.size = cells.size) (h1 : cells.all (·.oneCell') = true) (h : R a (w.setRow g cells)) : wpOp P ops Q i R a w := by
  refine op_wp hi hgd (wp_store_row ty x y ho g cells hx hy t old hg hsz hold h1 ?_)
  rw [hd]
  exact h
/-- A call of a Go function, by its contract. -/
theorem op_call (f : FuncId) (args : Array Value) (hi : ops[i]? = some o) (hg : o.guard = none) (hr : (execOp a.eval o).run P w = .ok (.enter f args) w)
    (hc : Calls P f args w fun e w' => ∃ v, e = .returned v ∧ G v w' ∧ Below w.heap.size w w') :
    wpOp P ops Q i (fun a' w' => ∃ v, a' = a.put o.dst v ∧ G v w' ∧ Below w.heap.size w w') a w := by
  refine op_wp hi hg ?_
  unfold Oper.wp
  rw [hr]
  refine hc.mono ?_
  rintro e w' ⟨v, rfl, h1, h2⟩
  exact ⟨v, rfl, h1, h2⟩
end

/-- A type whose values lie in several cells. -/
def aggTy (P : Program) (t : TypeId) : Bool := match P.underlying t with
  | some (.struct _) => true
  | some (.array _ _) => true
  | _ => false
theorem aggTy_spec {P : Program} {t : TypeId} (h : aggTy P t = true) : ∃ d, P.underlying t = some d ∧ (match d with | .struct _ | .array _ _ => true | _ => false) = true := by
  unfold aggTy at h
  cases hu : P.underlying t with
  | none => simp [hu] at h
  | some d =>
    refine ⟨d, rfl, ?_⟩
    rw [hu] at h
    cases d <;> simp_all
/-- A function whose result is a struct in a block of its own. -/
theorem ret_row {P : Program} {fn : Func} {R : Ending → World → Prop} {a : Act} {w : World} {p : Tmp} {ty : TypeId} (h : fn.results = #[.cell p ty]) (g : Nat) (t : TypeId) (cs : Array Value) (fr : Nat × Nat)
    (hp : a.tmps.getD p undef = .pointer (some ⟨g, 0, none⟩)) (hg : w.heap[g]? = some (.cells cs t fr)) (hu : aggTy P ty = true) (hi : (P.info? ty).map (·.size) = some cs.size) (hd : a.defers = [])
    (hR : R (.returned (.agg cs)) w) : bodyPost P fn R .ret a w := by
  obtain ⟨d, hu, hd'⟩ := aggTy_spec hu
  exact bodyPost_ret (results_cell_row h _ _ g t cs fr d hp hg hu (by revert hd'; cases d <;> exact id) hi) hd hR
theorem setRow_get {w : World} {g : Nat} {old cs : Array Value} {t : TypeId} {fr : Nat × Nat} (hg : w.heap[g]? = some (.cells old t fr)) : (w.setRow g cs).heap[g]? = some (.cells cs t fr) := by
  simp [World.setRow, Array.getElem?_modify, hg]
theorem setRow_other {w : World} {g k : Nat} {cs : Array Value} (h : k ≠ g) : (w.setRow g cs).heap[k]? = w.heap[k]? := by
  simp only [World.setRow, Array.getElem?_modify]
  rw [if_neg (fun e => h e.symm)]
theorem setRow_grown (w : World) (g : Nat) (cs : Array Value) : w.grownBy (w.setRow g cs) (some g) :=
  ⟨rfl, rfl, rfl, by simp, fun k _ hne => setRow_other (fun e => hne (by rw [e]))⟩
theorem Below.setRow {B : Nat} {a w : World} (h : Below B a w) {g : Nat} (hg : B ≤ g) (cs : Array Value) : Below B a (w.setRow g cs) :=
  ⟨h.os, h.tape, h.output, by simpa using h.size, fun k hk => (setRow_other (by omega)).trans (h.block k hk)⟩

end Go.Proofs.Ytjhfhlfiagggpaa
