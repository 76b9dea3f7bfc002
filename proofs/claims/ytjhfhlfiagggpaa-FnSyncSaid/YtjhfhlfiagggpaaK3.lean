/-
  A region that draws its order, by assertions: each operation has a fact F of its own result, which lasts while memory only grows; whatever the order, all the facts hold at its end.
-/
import Derived.Test.YtjhfhlfiagggpaaK2
import Derived.Orders
namespace Go.Proofs.Ytjhfhlfiagggpaa
open Go Go.RowKit

/-- a is a0 but for the slots that the region's operations write. -/
structure Agree (ops : Array Oper) (a0 a : Act) : Prop where
  size : a.tmps.size = a0.tmps.size
  defers : a.defers = a0.defers
  slot : ∀ t, (∀ (i : Nat) (o : Oper), ops[i]? = some o → o.dst ≠ some t) → a.tmps.getD t undef = a0.tmps.getD t undef

/-- No two operations write one slot; each slot lies in the frame; edges point backward. -/
def regionOk (ops : Array Oper) (size : Nat) : Bool :=
  (List.range ops.size).all fun i => match ops[i]? with
    | none => true
    | some o => (o.after.all fun e => decide (e.on < i)) && match o.dst with
      | none => true
      | some d => decide (d < size) && (List.range i).all fun j => match ops[j]? with
        | none => true
        | some o' => o'.dst != some d

theorem getElem?_lt {α : Type} {xs : Array α} {i : Nat} {x : α} (h : xs[i]? = some x) : i < xs.size := by
  rcases Nat.lt_or_ge i xs.size with h1 | h1
  · exact h1
  · rw [Array.getElem?_eq_none h1] at h; cases h

theorem regionOk_spec {ops : Array Oper} {size : Nat} (h : regionOk ops size = true) :
    (∀ (i : Nat) (o : Oper), ops[i]? = some o → ∀ e ∈ o.after, e.on < i) ∧ (∀ (i : Nat) (o : Oper) (d : Nat), ops[i]? = some o → o.dst = some d → d < size) ∧
    (∀ (i j : Nat) (o o' : Oper) (d : Nat), ops[i]? = some o → ops[j]? = some o' → o.dst = some d → o'.dst = some d → i = j) := by
  unfold regionOk at h
  rw [List.all_eq_true] at h
  have hat : ∀ (i : Nat) (o : Oper), ops[i]? = some o → (o.after.all fun e => decide (e.on < i)) = true ∧ ∀ d, o.dst = some d → d < size ∧ ∀ j o', j < i → ops[j]? = some o' → o'.dst ≠ some d := by
    intro i o ho
    have hi : i < ops.size := getElem?_lt ho
    have h1 := h i (by simpa using hi)
    simp only [ho, Bool.and_eq_true] at h1
    refine ⟨h1.1, fun d hd => ?_⟩
    have h2 := h1.2
    simp only [hd, Bool.and_eq_true, decide_eq_true_eq, List.all_eq_true, List.mem_range] at h2
    refine ⟨h2.1, fun j o' hj ho' => ?_⟩
    have h3 := h2.2 j hj
    simpa [ho'] using h3
  refine ⟨fun i o ho e he => ?_, fun i o d ho hd => ((hat i o ho).2 d hd).1, fun i j o o' d ho ho' hd hd' => ?_⟩
  · have := (hat i o ho).1
    simp only [Array.all_eq_true_iff_forall_mem, decide_eq_true_eq] at this
    exact this e he
  · rcases Nat.lt_trichotomy i j with h1 | h1 | h1
    · exact absurd hd (((hat j o' ho').2 d hd').2 i o h1 ho)
    · exact h1
    · exact absurd hd' (((hat i o ho).2 d hd).2 j o' h1 ho')

theorem put_getD_same (a : Act) (d : Nat) (v : Value) (h : d < a.tmps.size) : (a.put (some d) v).tmps.getD d undef = v := by
  simp [Act.put, Array.getD, h]
theorem put_getD_other (a : Act) (x : Option Nat) (t : Nat) (v : Value) (h : x ≠ some t) : (a.put x v).tmps.getD t undef = a.tmps.getD t undef := by
  cases x with
  | none => rfl
  | some d =>
    have hne : d ≠ t := fun e => h (by rw [e])
    simp only [Act.put, Array.getD_eq_getD_getElem?, Array.getElem?_setIfInBounds]
    rw [if_neg hne]

theorem Agree.put {ops : Array Oper} {a0 a : Act} (h : Agree ops a0 a) {i : Nat} {o : Oper} (hi : ops[i]? = some o) (v : Value) : Agree ops a0 (a.put o.dst v) where
  size := by rw [← h.size]; cases o.dst <;> simp [Act.put]
  defers := by rw [← h.defers]; cases o.dst <;> rfl
  slot t ht := by rw [put_getD_other a o.dst t v (ht i o hi)]; exact h.slot t ht

theorem wpAny_assert {P : Program} {ops : Array Oper} {Q : Exit → Act → World → Prop} {md : Region.Mode} {a0 : Act} {w0 : World} (F : Nat → Value → World → Prop)
    (hok : regionOk ops a0.tmps.size = true)
    (hst : ∀ i v w w', F i v w → Below w.heap.size w w' → F i v w')
    (hop : ∀ (i : Nat) (o : Oper), ops[i]? = some o → ∀ a w, Below w0.heap.size w0 w → Agree ops a0 a →
      (∀ e ∈ o.after, Region.binds md e = true → ∀ (o' : Oper) (d : Nat), ops[e.on]? = some o' → o'.dst = some d → F e.on (a.tmps.getD d undef) w) →
      wpOp P ops Q i (fun a' w' => ∃ v, a' = a.put o.dst v ∧ F i v w' ∧ Below w.heap.size w w') a w)
    (hend : ∀ a w, Below w0.heap.size w0 w → Agree ops a0 a → (∀ (i : Nat) (o : Oper) (d : Nat), ops[i]? = some o → o.dst = some d → F i (a.tmps.getD d undef) w) → Q .normal a w) :
    ∀ (fuel : Nat) (listed : Array Bool) (a : Act) (w : World), listed.size = ops.size → (listed.toList.filter (!·)).length ≤ fuel → Below w0.heap.size w0 w → Agree ops a0 a →
      (∀ (i : Nat) (o : Oper) (d : Nat), ops[i]? = some o → o.dst = some d → listed.getD i false = true → F i (a.tmps.getD d undef) w) → wpAny P md ops Q fuel listed a w := by
  obtain ⟨hback, hin, hinj⟩ := regionOk_spec hok
  -- where none is ready, all are listed
  have hall : ∀ (listed : Array Bool), listed.size = ops.size → Region.ready md ops listed = [] → ∀ i, i < ops.size → listed.getD i false = true := by
    intro listed hsz hr i
    induction i using Nat.strongRecOn with
    | _ i ih =>
      intro hi
      cases hl : listed.getD i false with
      | true => rfl
      | false =>
        have : i ∈ Region.ready md ops listed := by
          rw [mem_ready]
          refine ⟨?_, ops[i], Array.getElem?_eq_getElem hi, fun e he _ => ?_⟩
          · have h1 : i < listed.size := by omega
            simp only [Array.getD, h1, dif_pos] at hl ⊢
            exact hl
          · have := hback i ops[i] (Array.getElem?_eq_getElem hi) e he
            exact ih e.on this (by omega)
        rw [hr] at this
        cases this
  intro fuel
  induction fuel with
  | zero =>
    intro listed a w hsz hf hb hag hF
    have hl : ∀ i, i < ops.size → listed.getD i false = true := by
      intro i hi
      have h0 : listed.toList.filter (!·) = [] := List.eq_nil_of_length_eq_zero (by omega)
      rw [List.filter_eq_nil_iff] at h0
      have h1 : i < listed.size := by omega
      have := h0 listed[i] (by simp)
      simp only [Array.getD, h1, dif_pos]
      simpa using this
    refine ⟨?_, hend a w hb hag fun i o d ho hd => hF i o d ho hd (hl i (getElem?_lt ho))⟩
    rw [List.eq_nil_iff_forall_not_mem]
    intro j hj
    obtain ⟨h1, o, h2, _⟩ := mem_ready.1 hj
    have hjs : j < ops.size := getElem?_lt h2
    have := hl j hjs
    have hjl : j < listed.size := by omega
    simp only [Array.getD, hjl, dif_pos] at h1 this
    rw [this] at h1
    cases h1
  | succ fuel ih =>
    intro listed a w hsz hf hb hag hF
    refine ⟨fun hr => hend a w hb hag fun i o d ho hd => hF i o d ho hd (hall listed hsz hr i (getElem?_lt ho)), fun i hi => ?_⟩
    obtain ⟨h1, o, ho, hpre⟩ := mem_ready.1 hi
    have his : i < ops.size := getElem?_lt ho
    have hil : i < listed.size := by omega
    have hfalse : listed[i] = false := by simpa [Array.getD, hil] using h1
    refine wpOp_mono ?_ (hop i o ho a w hb hag fun e he hbd o' d ho' hd => hF e.on o' d ho' hd (hpre e he hbd))
    rintro a' w' ⟨v, rfl, hv, hb'⟩
    refine ih _ _ _ (by simpa using hsz) ?_ (hb.trans (hb'.mono hb.size)) (hag.put ho v) fun j oj d hoj hd hlj => ?_
    · have key : ∀ (l : List Bool) (k : Nat), l[k]? = some false → ((l.set k true).filter (!·)).length + 1 = (l.filter (!·)).length := by
        intro l
        induction l with
        | nil => intro k hk; simp at hk
        | cons x l ihl =>
          intro k hk
          cases k with
          | zero =>
            simp at hk
            subst hk
            simp
          | succ k =>
            have := ihl k (by simpa using hk)
            cases x <;> simp [List.filter_cons] <;> omega
      have := key listed.toList i (by simp [hil, hfalse])
      simp only [Array.toList_setIfInBounds]
      omega
    · by_cases hij : i = j
      · subst hij
        rw [ho] at hoj
        cases hoj
        rw [hd, put_getD_same _ _ _ (by rw [hag.size]; exact hin i o d ho hd)]
        exact hv
      · rw [put_getD_other _ _ _ _ (fun h => hij (hinj i j o oj d ho hoj h hd))]
        refine hst j _ w w' (hF j oj d hoj hd ?_) hb'
        have : (listed.setIfInBounds i true).getD j false = listed.getD j false := by
          simp [Array.getD_eq_getD_getElem?, Array.getElem?_setIfInBounds, hij]
        rw [← this]
        exact hlj

theorem wp_region_assert {P : Program} {id : Nat} {ops : Array Oper} {Q : Exit → Act → World → Prop} {a0 : Act} {w0 : World} (hm : P.follows .mixedOrders = true) (F : Nat → Value → World → Prop)
    (hok : regionOk ops a0.tmps.size = true)
    (hst : ∀ i v w w', F i v w → Below w.heap.size w w' → F i v w')
    (hop : ∀ (i : Nat) (o : Oper), ops[i]? = some o → ∀ a w, Below w0.heap.size w0 w → Agree ops a0 a →
      (∀ e ∈ o.after, Region.binds .any e = true → ∀ (o' : Oper) (d : Nat), ops[e.on]? = some o' → o'.dst = some d → F e.on (a.tmps.getD d undef) w) →
      wpOp P ops Q i (fun a' w' => ∃ v, a' = a.put o.dst v ∧ F i v w' ∧ Below w.heap.size w w') a w)
    (hend : ∀ a w, Below w0.heap.size w0 w → Agree ops a0 a → (∀ (i : Nat) (o : Oper) (d : Nat), ops[i]? = some o → o.dst = some d → F i (a.tmps.getD d undef) w) → Q .normal a w) :
    (Code.region id ops true).wp P Q a0 w0 := by
  refine wp_region_any hm (wpAny_assert F hok hst hop hend _ _ _ _ (by simp) (by simp) (Below.refl _ _).drew ⟨rfl, rfl, fun _ _ => rfl⟩ fun i o d ho hd hl => ?_)
  simp [Array.getD_eq_getD_getElem?, Array.getElem?_replicate] at hl
  by_cases h : i < ops.size <;> simp [h] at hl


/-- R of each operation, by its number. -/
def eachOp (R : Nat → Oper → Prop) : List Oper → Nat → Prop
  | [], _ => True
  | o :: r, k => R k o ∧ eachOp R r (k + 1)
theorem eachOp_spec {R : Nat → Oper → Prop} : ∀ (l : List Oper) (k : Nat), eachOp R l k → ∀ (i : Nat) (o : Oper), l[i]? = some o → R (k + i) o
  | [], _, _, i, o, h => by simp at h
  | x :: l, k, hh, 0, o, h => by
    simp at h
    subst h
    exact hh.1
  | x :: l, k, hh, i + 1, o, h => by
    have := eachOp_spec l (k + 1) hh.2 i o (by simpa using h)
    rwa [show k + 1 + i = k + (i + 1) from by omega] at this

/-- What the operations that must come first have left. -/
def predsF (ops : Array Oper) (F : Nat → Value → World → Prop) (a : Act) (w : World) : List Edge → Prop
  | [] => True
  | e :: r => (match Region.binds .any e, (ops[e.on]?).bind (·.dst) with
    | true, some d => F e.on (a.tmps.getD d undef) w
    | _, _ => True) ∧ predsF ops F a w r
theorem predsF_of {ops : Array Oper} {F : Nat → Value → World → Prop} {a : Act} {w : World} : ∀ (l : List Edge),
    (∀ e ∈ l, Region.binds .any e = true → ∀ (o' : Oper) (d : Nat), ops[e.on]? = some o' → o'.dst = some d → F e.on (a.tmps.getD d undef) w) → predsF ops F a w l
  | [], _ => trivial
  | e :: r, h => by
    refine ⟨?_, predsF_of r fun e' he' => h e' (List.mem_cons_of_mem _ he')⟩
    split
    · rename_i d hb hd
      cases ho : ops[e.on]? with
      | none => simp [ho] at hd
      | some o' => exact h e (List.mem_cons_self ..) hb o' d ho (by simpa [ho] using hd)
    · trivial

/-- All that the operations have left. -/
def allF (F : Nat → Value → World → Prop) (a : Act) (w : World) : List Oper → Nat → Prop
  | [], _ => True
  | o :: r, k => (match o.dst with | some d => F k (a.tmps.getD d undef) w | none => True) ∧ allF F a w r (k + 1)
theorem allF_of {F : Nat → Value → World → Prop} {a : Act} {w : World} : ∀ (l : List Oper) (k : Nat),
    (∀ (i : Nat) (o : Oper) (d : Nat), l[i]? = some o → o.dst = some d → F (k + i) (a.tmps.getD d undef) w) → allF F a w l k
  | [], _, _ => trivial
  | o :: r, k, h => by
    refine ⟨?_, allF_of r (k + 1) fun i o' d ho hd => ?_⟩
    · split
      · rename_i d hd
        exact h 0 o d rfl hd
      · trivial
    · have := h (i + 1) o' d (by simpa using ho) hd
      rwa [show k + (i + 1) = k + 1 + i from by omega] at this

def writesTo (ops : Array Oper) (t : Nat) : Bool := ops.any fun o => o.dst == some t
theorem Agree.eta {ops : Array Oper} {a0 a : Act} (h : Agree ops a0 a) :
    a = ⟨((List.range a0.tmps.size).map fun t => if writesTo ops t = true then a.tmps.getD t undef else a0.tmps.getD t undef).toArray, a0.defers⟩ := by
  obtain ⟨ts, ds⟩ := a
  have hs := h.size
  have hd := h.defers
  simp only at hs hd
  subst hd
  congr 1
  refine Array.ext (by simp [hs]) fun i h1 h2 => ?_
  simp only [List.getElem_toArray, List.getElem_map, List.getElem_range]
  by_cases hw : writesTo ops i = true
  · rw [if_pos hw]
    simp [Array.getD, h1]
  · rw [if_neg hw, ← h.slot i fun j o ho hdst => hw ?_]
    · simp [Array.getD, h1]
    · simp only [writesTo, Array.any_eq_true]
      exact ⟨j, getElem?_lt ho, by rw [Array.getElem?_eq_some_iff] at ho; obtain ⟨_, rfl⟩ := ho; simp [hdst]⟩

theorem wp_region_asserts {P : Program} {id : Nat} {ops : List Oper} {Q : Exit → Act → World → Prop} {a0 : Act} {w0 : World} (hm : P.follows .mixedOrders = true) (F : Nat → Value → World → Prop)
    (hok : regionOk ops.toArray a0.tmps.size = true)
    (hst : ∀ i v w w', F i v w → Below w.heap.size w w' → F i v w')
    (hop : eachOp (fun i o => ∀ a w, Below w0.heap.size w0 w → Agree ops.toArray a0 a → predsF ops.toArray F a w o.after.toList →
      wpOp P ops.toArray Q i (fun a' w' => ∃ v, a' = a.put o.dst v ∧ F i v w' ∧ Below w.heap.size w w') a w) ops 0)
    (hend : ∀ a w, Below w0.heap.size w0 w → Agree ops.toArray a0 a → allF F a w ops 0 → Q .normal a w) :
    (Code.region id ops.toArray true).wp P Q a0 w0 :=
  wp_region_assert hm F hok hst
    (fun i o ho a w hb hag hp => by
      have := eachOp_spec ops 0 hop i o (by simpa using ho)
      rw [Nat.zero_add] at this
      exact this a w hb hag (predsF_of _ fun e he => hp e (by simpa using he)))
    fun a w hb hag hF => hend a w hb hag (allF_of ops 0 fun i o d ho hd => by rw [Nat.zero_add]; exact hF i o d (by simpa using ho) hd)

end Go.Proofs.Ytjhfhlfiagggpaa
