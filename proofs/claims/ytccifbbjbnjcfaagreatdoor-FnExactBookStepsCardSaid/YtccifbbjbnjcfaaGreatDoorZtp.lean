/- A part of the proof of FnExactBookSteps: texts Pa Pb Pc Pd Ph Pe Pi Pf Pj. -/
import GoSem.Op.String
import Derived.Lib.Split
set_option linter.unusedSimpArgs false
set_option linter.unusedVariables false
/-
  Plain data and plain functions: contents, paths, trees, commands, logs, conflicts, sides, sessions, rounds. No program in sight.
-/
namespace Go.Proofs.YtccifbbjbnjcfaaGreatDoor
open Go

abbrev Str := List UInt8
structure Ct where
  k : Int
  v : Int
  deriving DecidableEq
structure Nd where
  p : Str
  c : Ct
  deriving DecidableEq
structure Cm where
  p : Str
  a : Ct
  b : Ct
  deriving DecidableEq
structure St where
  ep : Int
  base : List Nd
  log : List Cm
  deriving DecidableEq
def ct0 : Ct := ⟨0, 0⟩
def cm0 : Cm := ⟨[], ct0, ct0⟩
def slt (a b : Str) : Bool := Op.bytesLess a b
def inR (n l h : Int) : Bool := decide (l ≤ n) && decide (n ≤ h)
def ctV (c : Ct) : Bool := (decide (c.v = 0) && (decide (c.k = 0) || decide (c.k = 1))) || (decide (c.k = 2) && inR c.v 0 99)

/-- A letter from a to d. -/
def letB (x : UInt8) : Bool := decide (97 ≤ x) && decide (x ≤ 100)
def prs : Str → Bool
  | [] => true
  | [_] => false
  | a :: b :: r => decide (a = 47) && letB b && prs r
def root : Str := [47]
def pV (s : Str) : Bool := decide (s = root) || (decide (s ≠ []) && prs s && decide (s.length ≤ 8))
def par (s : Str) : Str := if s.length ≤ 2 then root else s.take (s.length - 2)
def und (a s : Str) : Bool := if a = root then decide (s ≠ root) else (a ++ [47]).isPrefixOf s

def getC (l : List Nd) (p : Str) : Ct :=
  if p = root then ⟨1, 0⟩ else match l.find? (fun n => decide (n.p = p)) with
    | some n => n.c
    | none => ct0
def sortP : List Nd → Bool
  | [] => true
  | [_] => true
  | a :: b :: r => slt a.p b.p && sortP (b :: r)
def ndV (n : Nd) : Bool := pV n.p && decide (n.p ≠ root) && ctV n.c && decide (n.c.k ≠ 0)
def dirUp (l : List Nd) (n : Nd) : Bool := decide ((getC l (par n.p)).k = 1)
def tV (l : List Nd) : Bool := l.all ndV && sortP l && l.all (dirUp l) && decide (l.length ≤ 10)
def insN (n : Nd) : List Nd → List Nd
  | [] => [n]
  | m :: r => if slt m.p n.p then m :: insN n r else n :: m :: r
def putC (l : List Nd) (p : Str) (c : Ct) : List Nd :=
  if c.k = 0 then l.filter (fun n => decide (n.p ≠ p)) else insN ⟨p, c⟩ (l.filter (fun n => decide (n.p ≠ p)))
def tPut (l : List Nd) (p : Str) (c : Ct) : Option (List Nd) :=
  if tV l && pV p && decide (p ≠ root) && ctV c && tV (putC l p c) then some (putC l p c) else none

def cmV (c : Cm) : Bool := pV c.p && decide (c.p ≠ root) && ctV c.a && ctV c.b && decide (c.a ≠ c.b)
def apC (l : List Nd) (c : Cm) : Option (List Nd) := if getC l c.p = c.a then tPut l c.p c.b else none
def lV (l : List Cm) : Bool := l.all cmV && decide (l.length ≤ 20)
def apAll : List Nd → List Cm → List Nd × Nat
  | t, [] => (t, 0)
  | t, c :: l => match apC t c with
    | none => (t, 0)
    | some t' => ((apAll t' l).1, (apAll t' l).2 + 1)
def fits (t : List Nd) (l : List Cm) : Bool := tV t && lV l && decide ((apAll t l).2 = l.length)

def cEnds (c : Cm) : Bool := decide (c.b.k = 0) || decide (c.a.k = 1)
def cLt (c d : Cm) : Bool :=
  if cEnds c then (if cEnds d then slt d.p c.p else true) else (if cEnds d then false else slt c.p d.p)
def cPut (c : Cm) : List Cm → List Cm
  | [] => [c]
  | d :: r => if cLt c d then c :: d :: r else d :: cPut c r
def cSort (l : List Cm) : List Cm := l.foldl (fun o c => cPut c o) []
def cAdd : List Cm → Cm → Option (List Cm)
  | [], c => some [c]
  | d :: r, c => if d.p = c.p then (if d.b = c.a then some (⟨d.p, d.a, c.b⟩ :: r) else none) else (cAdd r c).map (d :: ·)
def cFold : List Cm → List Cm → Option (List Cm)
  | o, [] => some o
  | o, c :: l => (cAdd o c).bind (cFold · l)
def lCanon (l : List Cm) : Option (List Cm) :=
  if lV l then (cFold [] l).map fun o => cSort (o.filter (fun c => decide (c.a ≠ c.b))) else none
def one1 : List Cm → Bool
  | [] => true
  | c :: r => r.all (fun d => decide (d.p ≠ c.p)) && one1 r
/-- No command before the one ahead of it. -/
def cOrd : List Cm → Bool
  | [] => true
  | [_] => true
  | a :: b :: r => !cLt b a && cOrd (b :: r)
def canonV (l : List Cm) : Bool := lV l && one1 l && cOrd l

def mrg : List Nd → List Nd → List Str
  | [], b => b.map (·.p)
  | a, [] => a.map (·.p)
  | x :: a, y :: b => if slt x.p y.p then x.p :: mrg a (y :: b) else if slt y.p x.p then y.p :: mrg (x :: a) b else x.p :: mrg a b
  termination_by a b => a.length + b.length
def chg (a b : List Nd) : List Str := if tV a && tV b then (mrg a b).filter (fun p => decide (getC a p ≠ getC b p)) else []
def cDiff (a b : List Nd) : Option (List Cm) :=
  if tV a && tV b then some (cSort ((chg a b).map fun p => ⟨p, getC a p, getC b p⟩)) else none

def stops (c d : Cm) : Bool := und c.p d.p && decide (c.b.k ≠ 1) && decide (d.b.k ≠ 0)
def clash (c d : Cm) : Bool := (decide (c.p = d.p) && decide (c.b ≠ d.b)) || stops c d || stops d c
def disp (l : List Cm) (c : Cm) : Bool := l.any (clash c)
def safeOf (a b : List Cm) : List Cm := if canonV a && canonV b then b.filter (fun c => !decide (c ∈ a) && !disp a c) else []
def leftOf (a b : List Cm) : List Cm := if canonV a && canonV b then a.filter (disp b) else []
def pairFits (t : List Nd) (a b : List Cm) : Bool := canonV a && canonV b && fits t a && fits t b
def allC (t : List Nd) (l : List Cm) : Option (List Nd) := if (apAll t l).2 = l.length then some (apAll t l).1 else none
def pairTree (t : List Nd) (a b : List Cm) : Option (List Nd) := if pairFits t a b then allC t (a ++ safeOf a b) else none
def kept (a b : List Cm) : List Cm := safeOf a b ++ a.filter (fun c => !disp b c)
def pairBase (t : List Nd) (a b : List Cm) : Option (List Nd) :=
  if pairFits t a b && decide ((kept a b).length ≤ 20) then allC t (cSort (kept a b)) else none

def siteV (s : St) : Bool := inR s.ep 0 99 && tV s.base && fits s.base s.log
def siteC (s : St) : List Cm := if siteV s then (lCanon s.log).getD [] else []
def meet (a b : St) : Bool := siteV a && siteV b && decide (a.base = b.base) && decide (a.ep = b.ep) && decide (a.ep < 99)
def sRun (a b : St) : Option (St × St) :=
  if meet a b then
    (match pairBase a.base (siteC a) (siteC b), pairTree a.base (siteC a) (siteC b), pairTree a.base (siteC b) (siteC a) with
    | some t, some _, some _ => some (⟨a.ep + 1, t, leftOf (siteC a) (siteC b)⟩, ⟨a.ep + 1, t, leftOf (siteC b) (siteC a)⟩)
    | _, _, _ => none)
  else none
end Go.Proofs.YtccifbbjbnjcfaaGreatDoor
/-
  Plain laws: the order of texts; trees as sorted lists; what a canonical log does.
-/
namespace Go.Proofs.YtccifbbjbnjcfaaGreatDoor
open Go

theorem slt_nil_r (a : Str) : slt a [] = false := by cases a <;> rfl
theorem slt_nil_l (b : UInt8) (y : Str) : slt [] (b :: y) = true := rfl
theorem slt_cons (a b : UInt8) (x y : Str) : slt (a :: x) (b :: y) = (decide (a < b) || (decide (a = b) && slt x y)) := by
  simp only [slt, Op.bytesLess]
  by_cases h : a = b <;> simp [h]
theorem u8_irrefl (a : UInt8) : ¬ a < a := by rw [UInt8.lt_iff_toNat_lt]; omega
theorem u8_tri (a b : UInt8) (h1 : ¬ a < b) (h2 : ¬ b < a) : a = b := by
  rw [UInt8.lt_iff_toNat_lt] at h1 h2
  exact UInt8.toNat_inj.1 (by omega)
theorem u8_trans {a b c : UInt8} (h1 : a < b) (h2 : b < c) : a < c := by
  rw [UInt8.lt_iff_toNat_lt] at *; omega
theorem slt_irrefl : ∀ a : Str, slt a a = false
  | [] => rfl
  | a :: x => by rw [slt_cons, slt_irrefl x]; simp [u8_irrefl]
theorem slt_tri : ∀ a b : Str, slt a b = false → slt b a = false → a = b
  | [], [], _, _ => rfl
  | [], b :: y, h, _ => by rw [slt_nil_l] at h; cases h
  | a :: x, [], _, h => by rw [slt_nil_l] at h; cases h
  | a :: x, b :: y, h1, h2 => by
    rw [slt_cons, Bool.or_eq_false_iff, Bool.and_eq_false_iff] at h1 h2
    simp only [decide_eq_false_iff_not] at h1 h2
    have hab := u8_tri a b h1.1 h2.1
    subst hab
    have g1 : slt x y = false := by rcases h1.2 with h | h; exact absurd rfl h; exact h
    have g2 : slt y x = false := by rcases h2.2 with h | h; exact absurd rfl h; exact h
    rw [slt_tri x y g1 g2]
theorem slt_trans : ∀ a b c : Str, slt a b = true → slt b c = true → slt a c = true
  | _, [], _, h, _ => by rw [slt_nil_r] at h; cases h
  | _, _ :: _, [], _, h => by rw [slt_nil_r] at h; cases h
  | [], _ :: _, c :: z, _, _ => slt_nil_l c z
  | a :: x, b :: y, c :: z, h1, h2 => by
    rw [slt_cons, Bool.or_eq_true, Bool.and_eq_true] at h1 h2 ⊢
    simp only [decide_eq_true_eq] at h1 h2 ⊢
    rcases h1 with h1 | ⟨rfl, h1⟩
    · rcases h2 with h2 | ⟨rfl, h2⟩
      · exact .inl (u8_trans h1 h2)
      · exact .inl h1
    · rcases h2 with h2 | ⟨rfl, h2⟩
      · exact .inl h2
      · exact .inr ⟨rfl, slt_trans x y z h1 h2⟩
theorem slt_asymm {a b : Str} (h : slt a b = true) : slt b a = false := by
  cases h2 : slt b a with
  | false => rfl
  | true => have := slt_trans a b a h h2; rw [slt_irrefl] at this; cases this
theorem slt_ne {a b : Str} (h : slt a b = true) : a ≠ b := by
  rintro rfl; rw [slt_irrefl] at h; cases h
theorem slt_of_ne {a b : Str} (h : a ≠ b) (h2 : slt a b = false) : slt b a = true := by
  cases h3 : slt b a with
  | true => rfl
  | false => exact absurd (slt_tri a b h2 h3) h
theorem slt_append : ∀ (a b : Str), b ≠ [] → slt a (a ++ b) = true
  | [], b :: y, _ => slt_nil_l b y
  | [], [], h => absurd rfl h
  | a :: x, b, h => by rw [List.cons_append, slt_cons, slt_append x b h]; simp

/-! ### Trees -/
theorem sortP_cons {a : Nd} {l : List Nd} (h : sortP (a :: l) = true) : sortP l = true := by
  cases l with
  | nil => rfl
  | cons b r => simp only [sortP, Bool.and_eq_true] at h; exact h.2
theorem sortP_head {a : Nd} : ∀ {l : List Nd}, sortP (a :: l) = true → ∀ n ∈ l, slt a.p n.p = true
  | [], _, n, h => by cases h
  | b :: r, h, n, hn => by
    simp only [sortP, Bool.and_eq_true] at h
    cases hn with
    | head => exact h.1
    | tail _ hn => exact slt_trans _ _ _ h.1 (sortP_head h.2 n hn)
theorem sortP_mk {a : Nd} {l : List Nd} (h : sortP l = true) (h1 : ∀ n ∈ l, slt a.p n.p = true) : sortP (a :: l) = true := by
  cases l with
  | nil => rfl
  | cons b r => simp only [sortP, Bool.and_eq_true]; exact ⟨h1 b List.mem_cons_self, h⟩
theorem sortP_filter (q : Nd → Bool) : ∀ {l : List Nd}, sortP l = true → sortP (l.filter q) = true
  | [], _ => rfl
  | a :: l, h => by
    have ih := sortP_filter q (sortP_cons h)
    rw [List.filter_cons]
    split
    · exact sortP_mk ih fun n hn => sortP_head h n (List.mem_filter.1 hn).1
    · exact ih
theorem sortP_inj : ∀ {l : List Nd}, sortP l = true → ∀ m ∈ l, ∀ n ∈ l, m.p = n.p → m = n
  | [], _, m, hm, _, _, _ => by cases hm
  | a :: l, h, m, hm, n, hn, e => by
    have hh := sortP_head h
    cases hm with
    | head => cases hn with
      | head => rfl
      | tail _ hn => exact absurd e (slt_ne (hh n hn))
    | tail _ hm => cases hn with
      | head => exact absurd e.symm (slt_ne (hh m hm))
      | tail _ hn => exact sortP_inj (sortP_cons h) m hm n hn e
theorem sortP_ext : ∀ {l l' : List Nd}, sortP l = true → sortP l' = true → (∀ n, n ∈ l ↔ n ∈ l') → l = l'
  | [], [], _, _, _ => rfl
  | [], b :: l', _, _, h => by have := (h b).2 List.mem_cons_self; cases this
  | a :: l, [], _, _, h => by have := (h a).1 List.mem_cons_self; cases this
  | a :: l, b :: l', h1, h2, h => by
    have e : a = b := by
      have g1 := (h a).1 List.mem_cons_self
      have g2 := (h b).2 List.mem_cons_self
      cases g1 with
      | head => rfl
      | tail _ g1 => cases g2 with
        | head => rfl
        | tail _ g2 =>
          have := slt_asymm (sortP_head h1 b g2)
          rw [sortP_head h2 a g1] at this
          cases this
    subst e
    congr 1
    refine sortP_ext (sortP_cons h1) (sortP_cons h2) fun n => ?_
    have h3 := sortP_head h1
    have h4 := sortP_head h2
    constructor
    · intro hn
      have := (h n).1 (List.mem_cons_of_mem _ hn)
      cases this with
      | head => exact absurd rfl (slt_ne (h3 _ hn))
      | tail _ h => exact h
    · intro hn
      have := (h n).2 (List.mem_cons_of_mem _ hn)
      cases this with
      | head => exact absurd rfl (slt_ne (h4 _ hn))
      | tail _ h => exact h

theorem getC_root (l : List Nd) : getC l root = ⟨1, 0⟩ := by simp [getC]
theorem find_p {l : List Nd} (hs : sortP l = true) {n : Nd} (hn : n ∈ l) : l.find? (fun m => decide (m.p = n.p)) = some n := by
  cases h : l.find? (fun m => decide (m.p = n.p)) with
  | none => have := List.find?_eq_none.1 h n hn; simp at this
  | some m =>
    have h1 := List.mem_of_find?_eq_some h
    have h2 := List.find?_some h
    simp only [decide_eq_true_eq] at h2
    rw [sortP_inj hs m h1 n hn h2]
theorem getC_mem {l : List Nd} (hs : sortP l = true) {n : Nd} (hn : n ∈ l) (hr : n.p ≠ root) : getC l n.p = n.c := by
  simp only [getC, if_neg hr, find_p hs hn]
theorem getC_none {l : List Nd} {p : Str} (hr : p ≠ root) (h : ∀ n ∈ l, n.p ≠ p) : getC l p = ct0 := by
  have : l.find? (fun m => decide (m.p = p)) = none := List.find?_eq_none.2 fun n hn => by simpa using h n hn
  simp only [getC, if_neg hr, this]
theorem getC_some {l : List Nd} {p : Str} (hr : p ≠ root) (h : getC l p ≠ ct0) : ⟨p, getC l p⟩ ∈ l := by
  unfold getC at h ⊢
  rw [if_neg hr] at h ⊢
  cases hf : l.find? (fun n => decide (n.p = p)) with
  | none => rw [hf] at h; exact absurd rfl h
  | some n =>
    have h2 := List.find?_some hf
    simp only [decide_eq_true_eq] at h2
    subst h2
    exact List.mem_of_find?_eq_some hf

structure TV (l : List Nd) : Prop where
  nd : ∀ n ∈ l, pV n.p = true ∧ n.p ≠ root ∧ ctV n.c = true ∧ n.c.k ≠ 0
  so : sortP l = true
  up : ∀ n ∈ l, (getC l (par n.p)).k = 1
  le : l.length ≤ 10
theorem tV_iff (l : List Nd) : tV l = true ↔ TV l := by
  simp only [tV, Bool.and_eq_true, List.all_eq_true, ndV, dirUp, decide_eq_true_eq]
  constructor
  · rintro ⟨⟨⟨h1, h2⟩, h3⟩, h4⟩
    exact ⟨fun n hn => ⟨(h1 n hn).1.1.1, (h1 n hn).1.1.2, (h1 n hn).1.2, (h1 n hn).2⟩, h2, h3, h4⟩
  · rintro ⟨h1, h2, h3, h4⟩
    exact ⟨⟨⟨fun n hn => ⟨⟨⟨(h1 n hn).1, (h1 n hn).2.1⟩, (h1 n hn).2.2.1⟩, (h1 n hn).2.2.2⟩, h2⟩, h3⟩, h4⟩

theorem TV.get {l : List Nd} (h : TV l) {n : Nd} (hn : n ∈ l) : getC l n.p = n.c := getC_mem h.so hn (h.nd n hn).2.1
theorem TV.mem_iff {l : List Nd} (h : TV l) (n : Nd) : n ∈ l ↔ n.p ≠ root ∧ getC l n.p = n.c ∧ n.c.k ≠ 0 := by
  constructor
  · exact fun hn => ⟨(h.nd n hn).2.1, h.get hn, (h.nd n hn).2.2.2⟩
  · rintro ⟨h1, h2, h3⟩
    have := getC_some h1 (l := l) (by rw [h2]; rintro e; rw [e] at h3; exact h3 rfl)
    rw [h2] at this
    exact this
theorem TV.ext {l l' : List Nd} (h : TV l) (h' : TV l') (he : ∀ p, getC l p = getC l' p) : l = l' :=
  sortP_ext h.so h'.so fun n => by rw [h.mem_iff, h'.mem_iff, he]
theorem ctV_none {c : Ct} (h : ctV c = true) (hk : c.k = 0) : c = ct0 := by
  obtain ⟨k, v⟩ := c
  simp only at hk
  subst hk
  simp [ctV, ct0] at h ⊢
  exact h
theorem getC_ctV {l : List Nd} (h : TV l) (p : Str) : ctV (getC l p) = true := by
  by_cases hr : p = root
  · rw [hr, getC_root]; rfl
  · by_cases h0 : getC l p = ct0
    · rw [h0]; rfl
    · exact (h.nd _ (getC_some hr h0)).2.2.1

theorem mem_insN (n : Nd) : ∀ (l : List Nd) (m : Nd), m ∈ insN n l ↔ m = n ∨ m ∈ l
  | [], m => by simp [insN]
  | a :: l, m => by
    simp only [insN]
    split
    · simp only [List.mem_cons, mem_insN n l m]
      constructor
      · rintro (h | h | h) <;> simp [h]
      · rintro (h | h | h) <;> simp [h]
    · simp only [List.mem_cons]
theorem sortP_insN (n : Nd) : ∀ {l : List Nd}, sortP l = true → (∀ m ∈ l, m.p ≠ n.p) → sortP (insN n l) = true
  | [], _, _ => rfl
  | a :: l, h, hn => by
    simp only [insN]
    split
    · rename_i hlt
      refine sortP_mk (sortP_insN n (sortP_cons h) fun m hm => hn m (List.mem_cons_of_mem _ hm)) fun m hm => ?_
      rcases (mem_insN n l m).1 hm with rfl | hm
      · exact hlt
      · exact sortP_head h m hm
    · rename_i hlt
      have h1 : slt n.p a.p = true := slt_of_ne (hn a List.mem_cons_self) (by simpa using hlt)
      refine sortP_mk h fun m hm => ?_
      cases hm with
      | head => exact h1
      | tail _ hm => exact slt_trans _ _ _ h1 (sortP_head h m hm)
theorem mem_putC {l : List Nd} {p : Str} {c : Ct} (n : Nd) : n ∈ putC l p c ↔ (c.k ≠ 0 ∧ n = ⟨p, c⟩) ∨ (n ∈ l ∧ n.p ≠ p) := by
  unfold putC
  split
  · rename_i h
    simp [h]
  · rename_i h
    rw [mem_insN, List.mem_filter]
    simp [h]
theorem sortP_putC {l : List Nd} {p : Str} {c : Ct} (h : sortP l = true) : sortP (putC l p c) = true := by
  unfold putC
  split
  · exact sortP_filter _ h
  · refine sortP_insN _ (sortP_filter _ h) fun m hm => ?_
    rw [List.mem_filter] at hm
    simpa using hm.2
theorem getC_putC {l : List Nd} {p : Str} {c : Ct} (h : sortP l = true) (hr : p ≠ root) (hc : ctV c = true) (q : Str) : getC (putC l p c) q = if q = p then c else getC l q := by
  have hs := sortP_putC (p := p) (c := c) h
  by_cases hq : q = root
  · subst hq
    rw [if_neg (fun e => hr e.symm), getC_root, getC_root]
  split
  · rename_i e
    subst e
    by_cases hk : c.k = 0
    · rw [ctV_none hc hk, getC_none hq fun n hn => ?_]
      rcases (mem_putC n).1 hn with ⟨h1, _⟩ | ⟨_, h2⟩
      · exact absurd rfl h1
      · exact h2
    · have : (⟨q, c⟩ : Nd) ∈ putC l q c := (mem_putC _).2 (.inl ⟨hk, rfl⟩)
      exact getC_mem hs this hr
  · rename_i e
    by_cases hx : ∃ n ∈ l, n.p = q
    · obtain ⟨n, hn, rfl⟩ := hx
      rw [getC_mem h hn hq]
      exact getC_mem hs ((mem_putC n).2 (.inr ⟨hn, e⟩)) hq
    · have hx' : ∀ n ∈ l, n.p ≠ q := fun n hn e => hx ⟨n, hn, e⟩
      rw [getC_none hq hx']
      refine getC_none hq fun n hn => ?_
      rcases (mem_putC n).1 hn with ⟨_, rfl⟩ | ⟨h1, _⟩
      · exact fun e2 => e e2.symm
      · exact hx' n h1

theorem sub_len : ∀ {l l' : List Nd}, sortP l = true → sortP l' = true → (∀ n ∈ l, ∃ m ∈ l', m.p = n.p) → l.length ≤ l'.length
  | [], _, _, _, _ => Nat.zero_le _
  | a :: l, l', h1, h2, h => by
    obtain ⟨m, hm, he⟩ := h a List.mem_cons_self
    have h3 : (l'.filter (fun n => decide (n.p ≠ a.p))).length < l'.length := by
      refine List.length_filter_lt_length_iff_exists.2 ⟨m, hm, by simp [he]⟩
    have := sub_len (l' := l'.filter (fun n => decide (n.p ≠ a.p))) (sortP_cons h1) (sortP_filter _ h2) fun n hn => by
      obtain ⟨m', hm', he'⟩ := h n (List.mem_cons_of_mem _ hn)
      refine ⟨m', List.mem_filter.2 ⟨hm', ?_⟩, he'⟩
      rw [he']
      have := slt_ne (sortP_head h1 n hn)
      simp [Ne.symm this]
    simp only [List.length_cons]
    omega

/-! ### Canonical order -/
theorem cLt_neg_trans {a b c : Cm} (h1 : cLt b a = false) (h2 : cLt c b = false) : cLt c a = false := by
  have key : ∀ x y z : Str, slt y x = false → slt z y = false → slt z x = false := by
    intro x y z g1 g2
    cases g : slt z x with
    | false => rfl
    | true =>
      by_cases hxy : x = y
      · subst hxy; rw [g2] at g; cases g
      · have := slt_of_ne (Ne.symm hxy) g1
        have := slt_trans _ _ _ g this
        rw [g2] at this; cases this
  unfold cLt at *
  revert h1 h2
  cases cEnds a <;> cases cEnds b <;> cases cEnds c <;> simp
  · exact key _ _ _
  · exact fun g1 g2 => key _ _ _ g2 g1
theorem cLt_total {a b : Cm} (hp : a.p ≠ b.p) (h : cLt a b = false) : cLt b a = true := by
  unfold cLt at *
  revert h
  cases cEnds a <;> cases cEnds b <;> simp
  · exact slt_of_ne hp
  · exact slt_of_ne hp.symm
theorem cLt_asymm {a b : Cm} (h : cLt a b = true) : cLt b a = false := by
  unfold cLt at *
  revert h
  cases cEnds a <;> cases cEnds b <;> simp
  · exact slt_asymm
  · exact slt_asymm
theorem cOrd_cons {a : Cm} {l : List Cm} (h : cOrd (a :: l) = true) : cOrd l = true := by
  cases l with
  | nil => rfl
  | cons b r => simp only [cOrd, Bool.and_eq_true] at h; exact h.2
theorem cOrd_head {a : Cm} : ∀ {l : List Cm}, cOrd (a :: l) = true → ∀ d ∈ l, cLt d a = false
  | [], _, d, h => by cases h
  | b :: r, h, d, hd => by
    simp only [cOrd, Bool.and_eq_true, Bool.not_eq_true'] at h
    cases hd with
    | head => exact h.1
    | tail _ hd => exact cLt_neg_trans h.1 (cOrd_head h.2 d hd)
theorem cOrd_mk {a : Cm} {l : List Cm} (h : cOrd l = true) (h1 : ∀ d ∈ l, cLt d a = false) : cOrd (a :: l) = true := by
  cases l with
  | nil => rfl
  | cons b r => simp only [cOrd, Bool.and_eq_true, Bool.not_eq_true']; exact ⟨h1 b List.mem_cons_self, h⟩
theorem one1_cons {a : Cm} {l : List Cm} (h : one1 (a :: l) = true) : one1 l = true ∧ ∀ d ∈ l, d.p ≠ a.p := by
  simp only [one1, Bool.and_eq_true, List.all_eq_true, decide_eq_true_eq] at h
  exact ⟨h.2, h.1⟩
/-- What a command is, in words. -/
structure CV (c : Cm) : Prop where
  p : pV c.p = true
  r : c.p ≠ root
  a : ctV c.a = true
  b : ctV c.b = true
  ne : c.a ≠ c.b
theorem cmV_iff (c : Cm) : cmV c = true ↔ CV c := by
  simp only [cmV, Bool.and_eq_true, decide_eq_true_eq]
  exact ⟨fun ⟨⟨⟨⟨h1, h2⟩, h3⟩, h4⟩, h5⟩ => ⟨h1, h2, h3, h4, h5⟩, fun ⟨h1, h2, h3, h4, h5⟩ => ⟨⟨⟨⟨h1, h2⟩, h3⟩, h4⟩, h5⟩⟩

theorem apC_some {t t' : List Nd} {c : Cm} (h : apC t c = some t') : getC t c.p = c.a ∧ t' = putC t c.p c.b ∧ TV t ∧ TV t' ∧ pV c.p = true ∧ c.p ≠ root ∧ ctV c.b = true := by
  unfold apC tPut at h
  split at h
  · rename_i h1
    split at h
    · rename_i h2
      cases h
      simp only [Bool.and_eq_true, decide_eq_true_eq, tV_iff] at h2
      exact ⟨h1, rfl, h2.1.1.1.1, h2.2, h2.1.1.1.2, h2.1.1.2, h2.1.2⟩
    · cases h
  · cases h
theorem apC_mk {t : List Nd} {c : Cm} (ht : TV t) (hc : CV c) (ha : getC t c.p = c.a) (h' : TV (putC t c.p c.b)) : apC t c = some (putC t c.p c.b) := by
  unfold apC tPut
  rw [if_pos ha, if_pos]
  simp only [Bool.and_eq_true, decide_eq_true_eq, tV_iff]
  exact ⟨⟨⟨⟨ht, hc.p⟩, hc.r⟩, hc.b⟩, h'⟩

/-- A path is longer than its parent, unless that is the root. -/
theorem par_slt {p : Str} (h : par p ≠ root) : slt (par p) p = true ∧ par p ≠ p := by
  unfold par at *
  split at h
  · exact absurd rfl h
  · rename_i hl
    rw [if_neg hl]
    have h1 : slt (p.take (p.length - 2)) (p.take (p.length - 2) ++ p.drop (p.length - 2)) = true := slt_append _ _ (by
      intro e
      have := congrArg List.length e
      simp at this
      omega)
    rw [List.take_append_drop] at h1
    exact ⟨h1, slt_ne h1⟩

/-- The first step of a canonical log leads to a tree. -/
theorem canon_step {t t' : List Nd} {c : Cm} {L : List Cm} (ht : TV t) (ht' : TV t') (hv : ∀ d ∈ c :: L, CV d) (h1 : one1 (c :: L) = true) (ho : cOrd (c :: L) = true)
    (ha : ∀ d ∈ c :: L, getC t d.p = d.a) (hb : ∀ d ∈ c :: L, getC t' d.p = d.b) (hn : ∀ p, (∀ d ∈ c :: L, d.p ≠ p) → getC t' p = getC t p) : TV (putC t c.p c.b) := by
  have hout : ∀ p, ¬ (∃ d ∈ c :: L, d.p = p) → getC t' p = getC t p := fun p hex => hn p fun d hd e => hex ⟨d, hd, e⟩
  have hc := hv c List.mem_cons_self
  have hca := ha c List.mem_cons_self
  have hcb := hb c List.mem_cons_self
  have hord := cOrd_head ho
  have hget := getC_putC ht.so hc.r hc.b
  have hsort := sortP_putC (p := c.p) (c := c.b) ht.so
  have hmem : ∀ n ∈ putC t c.p c.b, (n = ⟨c.p, c.b⟩ ∧ c.b.k ≠ 0) ∨ (n ∈ t ∧ n.p ≠ c.p) := fun n hn => by
    rcases (mem_putC n).1 hn with ⟨g1, g2⟩ | g
    · exact .inl ⟨g2, g1⟩
    · exact .inr g
  -- what is there behind the whole log has a directory above
  have hup' : ∀ p, p ≠ root → (getC t' p).k ≠ 0 → (getC t' (par p)).k = 1 := fun p hp hk => by
    have := getC_some hp (l := t') (fun e => hk (by rw [e]; rfl))
    exact ht'.up _ this
  have hup : ∀ p, p ≠ root → (getC t p).k ≠ 0 → (getC t (par p)).k = 1 := fun p hp hk => by
    have := getC_some hp (l := t) (fun e => hk (by rw [e]; rfl))
    exact ht.up _ this
  refine ⟨fun n hn => ?_, hsort, fun n hn => ?_, ?_⟩
  · rcases hmem n hn with ⟨rfl, hk⟩ | ⟨hn, _⟩
    · exact ⟨hc.p, hc.r, hc.b, hk⟩
    · exact ht.nd n hn
  · by_cases hq : par n.p = root
    · rw [hq, getC_root]
    rw [hget]
    rcases hmem n hn with ⟨rfl, hk⟩ | ⟨hnt, hne⟩
    · -- the node that is put
      simp only at hq ⊢
      obtain ⟨hlt, hpne⟩ := par_slt hq
      rw [if_neg hpne]
      have h2 := hup' c.p hc.r (by rw [hcb]; exact hk)
      by_cases hex : ∃ d ∈ c :: L, d.p = par c.p
      · obtain ⟨d, hd, he⟩ := hex
        by_cases hda : d.a.k = 1
        · rw [← he, ha d hd]; exact hda
        · exfalso
          have hdb : d.b.k = 1 := by rw [← hb d hd, he]; exact h2
          have hde : cEnds d = false := by simp [cEnds, hda, hdb]
          have hdL : d ∈ L := by
            cases hd with
            | head => exact absurd he.symm hpne
            | tail _ h => exact h
          have h3 := hord d hdL
          cases hce : cEnds c with
          | false =>
            simp only [cLt, hde, hce, he, hlt] at h3
            cases h3
          | true =>
            have : c.a.k = 1 := by
              simp only [cEnds, Bool.or_eq_true, decide_eq_true_eq] at hce
              rcases hce with h | h
              · exact absurd h hk
              · exact h
            have h4 := hup c.p hc.r (by rw [hca, this]; decide)
            rw [← he, ha d hd] at h4
            exact hda h4
      · rw [← hout _ hex]; exact h2
    · have hnk := (ht.nd n hnt).2.2.2
      have hget_n := ht.get hnt
      have hnr := (ht.nd n hnt).2.1
      have h2 := ht.up n hnt
      by_cases hqc : par n.p = c.p
      · rw [if_pos hqc]
        have hcd : c.a.k = 1 := by rw [← hca, ← hqc]; exact h2
        have hce : cEnds c = true := by simp [cEnds, hcd]
        by_cases hcb1 : c.b.k = 1
        · exact hcb1
        · exfalso
          obtain ⟨hlt, _⟩ := par_slt hq
          have hk0 : (getC t' n.p).k = 0 := by
            cases Int.decEq (getC t' n.p).k 0 with
            | isTrue h => exact h
            | isFalse h =>
              have := hup' n.p hnr h
              rw [hqc, hcb] at this
              exact absurd this hcb1
          by_cases hex : ∃ d ∈ c :: L, d.p = n.p
          · obtain ⟨d, hd, he⟩ := hex
            have hdb : d.b.k = 0 := by rw [← hb d hd, he]; exact hk0
            have hde : cEnds d = true := by simp [cEnds, hdb]
            have hdL : d ∈ L := by
              cases hd with
              | head => exact absurd he.symm hne
              | tail _ h => exact h
            have h3 := hord d hdL
            rw [hqc] at hlt
            simp only [cLt, hde, hce, he, hlt] at h3
            cases h3
          · rw [hout _ hex, hget_n] at hk0
            exact hnk hk0
      · rw [if_neg hqc]; exact h2
  · -- not too many
    cases hce : cEnds c with
    | true =>
      have : (putC t c.p c.b).length ≤ t.length := by
        refine sub_len hsort ht.so fun n hn => ?_
        rcases hmem n hn with ⟨rfl, hk⟩ | ⟨hn, _⟩
        · have hk1 : c.a.k = 1 := by
            simp only [cEnds, Bool.or_eq_true, decide_eq_true_eq] at hce
            rcases hce with h | h
            · exact absurd h hk
            · exact h
          exact ⟨_, getC_some hc.r (l := t) (by rw [hca]; intro e; rw [e] at hk1; cases hk1), rfl⟩
        · exact ⟨n, hn, rfl⟩
      have := ht.le
      omega
    | false =>
      have : (putC t c.p c.b).length ≤ t'.length := by
        refine sub_len hsort ht'.so fun n hn => ?_
        have hne0 : ∀ d ∈ c :: L, d.b.k ≠ 0 := fun d hd => by
          cases hd with
          | head => exact fun e => by simp [cEnds, e] at hce
          | tail _ hd =>
            intro e
            have h5 := hord d hd
            have h6 : cEnds d = true := by simp [cEnds, e]
            simp [cLt, hce, h6] at h5
        have hthere : (getC t' n.p).k ≠ 0 ∧ n.p ≠ root := by
          rcases hmem n hn with ⟨rfl, hk⟩ | ⟨hnt, _⟩
          · exact ⟨by simp only; rw [hcb]; exact hk, hc.r⟩
          · refine ⟨?_, (ht.nd n hnt).2.1⟩
            by_cases hex : ∃ d ∈ c :: L, d.p = n.p
            · obtain ⟨d, hd, he⟩ := hex
              rw [← he, hb d hd]; exact hne0 d hd
            · rw [hout _ hex, ht.get hnt]; exact (ht.nd n hnt).2.2.2
        exact ⟨_, getC_some hthere.2 (l := t') (fun e => hthere.1 (by rw [e]; rfl)), rfl⟩
      have := ht'.le
      omega

/-- A canonical log leads from tree to tree. -/
theorem canon_apply : ∀ (L : List Cm) (t t' : List Nd), TV t → TV t' → (∀ d ∈ L, CV d) → one1 L = true → cOrd L = true →
    (∀ d ∈ L, getC t d.p = d.a) → (∀ d ∈ L, getC t' d.p = d.b) → (∀ p, (∀ d ∈ L, d.p ≠ p) → getC t' p = getC t p) → apAll t L = (t', L.length)
  | [], t, t', ht, ht', _, _, _, _, _, hn => by
    simp only [apAll, List.length_nil, Prod.mk.injEq, and_true]
    exact ht.ext ht' fun p => (hn p fun d hd => by cases hd).symm
  | c :: L, t, t', ht, ht', hv, h1, ho, ha, hb, hn => by
    have hc := hv c List.mem_cons_self
    have h2 := canon_step ht ht' hv h1 ho ha hb hn
    have h3 := apC_mk ht hc (ha c List.mem_cons_self) h2
    have hget := getC_putC ht.so hc.r hc.b
    obtain ⟨g1, g2⟩ := one1_cons h1
    have := canon_apply L (putC t c.p c.b) t' h2 ht' (fun d hd => hv d (List.mem_cons_of_mem _ hd)) g1 (cOrd_cons ho) (fun d hd => by rw [hget, if_neg (g2 d hd)]; exact ha d (List.mem_cons_of_mem _ hd))
      (fun d hd => hb d (List.mem_cons_of_mem _ hd)) fun p hp => by
        rw [hget]
        split
        · rename_i e; subst e; exact hb c List.mem_cons_self
        · rename_i e
          exact hn p fun d hd => by
            cases hd with
            | head => exact fun e2 => e e2.symm
            | tail _ hd => exact hp d hd
    simp only [apAll, h3, this, List.length_cons]

end Go.Proofs.YtccifbbjbnjcfaaGreatDoor
/-
  Plain laws: logs that fit, their canonical logs, and differences of trees.
-/
namespace Go.Proofs.YtccifbbjbnjcfaaGreatDoor
open Go

theorem one1_iff : ∀ l : List Cm, one1 l = true ↔ (l.map (·.p)).Nodup
  | [] => by simp [one1]
  | c :: l => by
    simp only [one1, Bool.and_eq_true, List.all_eq_true, decide_eq_true_eq, List.map_cons, List.nodup_cons, one1_iff l, List.mem_map, not_exists, not_and]
theorem one1_perm {l l' : List Cm} (h : l.Perm l') (h1 : one1 l = true) : one1 l' = true := by
  rw [one1_iff] at *
  exact (h.map _).nodup_iff.1 h1
theorem one1_sub {l l' : List Cm} (h : l'.Sublist l) (h1 : one1 l = true) : one1 l' = true := by
  rw [one1_iff] at *
  exact (h.map _).nodup h1
theorem one1_inj : ∀ {l : List Cm}, one1 l = true → ∀ c ∈ l, ∀ d ∈ l, c.p = d.p → c = d
  | [], _, c, hc, _, _, _ => by cases hc
  | a :: l, h, c, hc, d, hd, e => by
    obtain ⟨h1, h2⟩ := one1_cons h
    cases hc with
    | head => cases hd with
      | head => rfl
      | tail _ hd => exact absurd e.symm (h2 d hd)
    | tail _ hc => cases hd with
      | head => exact absurd e (h2 c hc)
      | tail _ hd => exact one1_inj h1 c hc d hd e
theorem cOrd_filter (q : Cm → Bool) : ∀ {l : List Cm}, cOrd l = true → cOrd (l.filter q) = true
  | [], _ => rfl
  | a :: l, h => by
    rw [List.filter_cons]
    split
    · exact cOrd_mk (cOrd_filter q (cOrd_cons h)) fun d hd => cOrd_head h d (List.mem_filter.1 hd).1
    · exact cOrd_filter q (cOrd_cons h)
theorem cPut_perm (c : Cm) : ∀ l : List Cm, (cPut c l).Perm (c :: l)
  | [] => .refl _
  | d :: r => by
    simp only [cPut]
    split
    · exact .refl _
    · exact ((cPut_perm c r).cons d).trans (.swap _ _ _)
theorem cPut_ord (c : Cm) : ∀ {l : List Cm}, cOrd l = true → cOrd (cPut c l) = true
  | [], _ => rfl
  | d :: r, h => by
    simp only [cPut]
    split
    · rename_i hlt
      refine cOrd_mk h fun e he => ?_
      cases he with
      | head => exact cLt_asymm hlt
      | tail _ he => exact cLt_neg_trans (cLt_asymm hlt) (cOrd_head h e he)
    · rename_i hlt
      refine cOrd_mk (cPut_ord c (cOrd_cons h)) fun e he => ?_
      rcases List.mem_cons.1 ((cPut_perm c r).mem_iff.1 he) with rfl | he
      · simpa using hlt
      · exact cOrd_head h e he
theorem cSort_aux : ∀ (l o : List Cm), cOrd o = true → (l.foldl (fun o c => cPut c o) o).Perm (o ++ l) ∧ cOrd (l.foldl (fun o c => cPut c o) o) = true
  | [], o, h => by simp [h]
  | c :: l, o, h => by
    obtain ⟨h1, h2⟩ := cSort_aux l (cPut c o) (cPut_ord c h)
    refine ⟨h1.trans ?_, h2⟩
    exact ((cPut_perm c o).append_right l).trans (List.perm_middle.symm)
theorem cSort_perm (l : List Cm) : (cSort l).Perm l := by
  have := (cSort_aux l [] rfl).1
  rwa [List.nil_append] at this
theorem cSort_ord (l : List Cm) : cOrd (cSort l) = true := (cSort_aux l [] rfl).2
theorem mem_cSort {l : List Cm} {c : Cm} : c ∈ cSort l ↔ c ∈ l := (cSort_perm l).mem_iff
theorem cSort_len (l : List Cm) : (cSort l).length = l.length := (cSort_perm l).length_eq
theorem cSort_one {l : List Cm} (h : one1 l = true) : one1 (cSort l) = true := one1_perm (cSort_perm l).symm h
theorem canon_ext : ∀ {l l' : List Cm}, cOrd l = true → cOrd l' = true → one1 l = true → one1 l' = true → (∀ n, n ∈ l ↔ n ∈ l') → l = l'
  | [], [], _, _, _, _, _ => rfl
  | [], b :: l', _, _, _, _, h => by have := (h b).2 List.mem_cons_self; cases this
  | a :: l, [], _, _, _, _, h => by have := (h a).1 List.mem_cons_self; cases this
  | a :: l, b :: l', h1, h2, o1, o2, h => by
    obtain ⟨p1, q1⟩ := one1_cons o1
    obtain ⟨p2, q2⟩ := one1_cons o2
    have e : a = b := by
      have g1 := (h a).1 List.mem_cons_self
      have g2 := (h b).2 List.mem_cons_self
      cases g1 with
      | head => rfl
      | tail _ g1 => cases g2 with
        | head => rfl
        | tail _ g2 =>
          have := cLt_total (q1 b g2) (cOrd_head h1 b g2)
          rw [cOrd_head h2 a g1] at this
          cases this
    subst e
    congr 1
    refine canon_ext (cOrd_cons h1) (cOrd_cons h2) p1 p2 fun n => ?_
    constructor
    · intro hn
      have := (h n).1 (List.mem_cons_of_mem _ hn)
      cases this with
      | head => exact absurd rfl (q1 _ hn)
      | tail _ h => exact h
    · intro hn
      have := (h n).2 (List.mem_cons_of_mem _ hn)
      cases this with
      | head => exact absurd rfl (q2 _ hn)
      | tail _ h => exact h
/-- The commands tell what leads from one tree to another one. -/
structure Ov (t t' : List Nd) (o : List Cm) : Prop where
  one : one1 o = true
  fr : ∀ c ∈ o, getC t c.p = c.a
  to : ∀ c ∈ o, getC t' c.p = c.b
  ot : ∀ p, (∀ c ∈ o, c.p ≠ p) → getC t' p = getC t p

theorem cAdd_new : ∀ {o : List Cm} {c : Cm}, (∀ d ∈ o, d.p ≠ c.p) → cAdd o c = some (o ++ [c])
  | [], c, _ => rfl
  | d :: r, c, h => by
    simp only [cAdd, if_neg (h d List.mem_cons_self), cAdd_new fun e he => h e (List.mem_cons_of_mem _ he), Option.map_some, List.cons_append]
theorem cAdd_old : ∀ {o : List Cm} {c d : Cm}, one1 o = true → d ∈ o → d.p = c.p → d.b = c.a →
    ∃ o', cAdd o c = some o' ∧ o'.map (·.p) = o.map (·.p) ∧ ∀ e, e ∈ o' ↔ e = ⟨d.p, d.a, c.b⟩ ∨ (e ∈ o ∧ e.p ≠ c.p)
  | [], c, d, _, hd, _, _ => by cases hd
  | x :: r, c, d, h1, hd, hp, hb => by
    obtain ⟨g1, g2⟩ := one1_cons h1
    simp only [cAdd]
    cases hd with
    | head =>
      refine ⟨⟨x.p, x.a, c.b⟩ :: r, by rw [if_pos hp, if_pos hb], rfl, fun e => ?_⟩
      simp only [List.mem_cons]
      constructor
      · rintro (h | h)
        · exact .inl h
        · exact .inr ⟨.inr h, fun e2 => g2 e h (e2.trans hp.symm)⟩
      · rintro (h | ⟨h | h, h3⟩)
        · exact .inl h
        · subst h; exact absurd hp h3
        · exact .inr h
    | tail _ hd =>
      have hx : ¬ x.p = c.p := fun e => g2 d hd (hp.trans e.symm)
      obtain ⟨o', e1, e2, e3⟩ := cAdd_old g1 hd hp hb
      refine ⟨x :: o', by rw [if_neg hx, e1]; rfl, by simp [e2], fun e => ?_⟩
      simp only [List.mem_cons, e3]
      constructor
      · rintro (h | h | ⟨h, h2⟩)
        · subst h; exact .inr ⟨.inl rfl, hx⟩
        · exact .inl h
        · exact .inr ⟨.inr h, h2⟩
      · rintro (h | ⟨h | h, h3⟩)
        · exact .inr (.inl h)
        · exact .inl h
        · exact .inr (.inr ⟨h, h3⟩)

theorem Ov.step {t t1 t2 : List Nd} {o : List Cm} {c : Cm} (h : Ov t t1 o) (hc : apC t1 c = some t2) : ∃ o', cAdd o c = some o' ∧ Ov t t2 o' ∧ o'.length ≤ o.length + 1 ∧ ∀ e ∈ o', (∃ d ∈ o, d.p = e.p) ∨ e = c := by
  obtain ⟨ha, rfl, ht1, ht2, hp, hr, hb⟩ := apC_some hc
  have hget := getC_putC ht1.so hr hb
  by_cases hex : ∃ d ∈ o, d.p = c.p
  · obtain ⟨d, hd, he⟩ := hex
    obtain ⟨o', e1, e2, e3⟩ := cAdd_old h.one hd he (by rw [← h.to d hd, he]; exact ha)
    refine ⟨o', e1, ⟨?_, fun e he' => ?_, fun e he' => ?_, fun p hp' => ?_⟩, ?_, fun e he' => ?_⟩
    · rw [one1_iff, e2, ← one1_iff]; exact h.one
    · rcases (e3 e).1 he' with rfl | ⟨h1, _⟩
      · exact h.fr d hd
      · exact h.fr e h1
    · rw [hget]
      rcases (e3 e).1 he' with rfl | ⟨h1, h2⟩
      · rw [if_pos he]
      · rw [if_neg h2]; exact h.to e h1
    · rw [hget]
      have h1 : p ≠ c.p := fun e => hp' ⟨d.p, d.a, c.b⟩ ((e3 _).2 (.inl rfl)) (by simp only; rw [he, e])
      rw [if_neg h1]
      refine h.ot p fun e he' e2 => ?_
      by_cases h3 : e.p = c.p
      · exact h1 (e2.symm.trans h3)
      · exact hp' e ((e3 e).2 (.inr ⟨he', h3⟩)) e2
    · have := congrArg List.length e2
      simp only [List.length_map] at this
      omega
    · rcases (e3 e).1 he' with rfl | ⟨h1, _⟩
      · exact .inl ⟨d, hd, rfl⟩
      · exact .inl ⟨e, h1, rfl⟩
  · have hnew : ∀ d ∈ o, d.p ≠ c.p := fun d hd e => hex ⟨d, hd, e⟩
    refine ⟨o ++ [c], cAdd_new hnew, ⟨?_, fun e he => ?_, fun e he => ?_, fun p hp' => ?_⟩, by simp, fun e he => ?_⟩
    · rw [one1_iff, List.map_append, List.nodup_append]
      refine ⟨(one1_iff o).1 h.one, by simp, fun x hx y hy => ?_⟩
      simp only [List.map_cons, List.map_nil, List.mem_singleton] at hy
      subst hy
      obtain ⟨d, hd, rfl⟩ := List.mem_map.1 hx
      exact hnew d hd
    · rcases List.mem_append.1 he with h1 | h1
      · exact h.fr e h1
      · rw [List.mem_singleton] at h1; subst h1
        rw [← ha]; exact (h.ot _ hnew).symm
    · rw [hget]
      rcases List.mem_append.1 he with h1 | h1
      · rw [if_neg (hnew e h1)]; exact h.to e h1
      · rw [List.mem_singleton] at h1; subst h1; rw [if_pos rfl]
    · rw [hget, if_neg (fun e => hp' c (by simp) e.symm)]
      exact h.ot p fun d hd => hp' d (List.mem_append_left _ hd)
    · rcases List.mem_append.1 he with h1 | h1
      · exact .inl ⟨e, h1, rfl⟩
      · exact .inr (List.mem_singleton.1 h1)

theorem apAll_cons {t t' : List Nd} {c : Cm} {l : List Cm} (h : apAll t (c :: l) = (t', (c :: l).length)) : ∃ t1, apC t c = some t1 ∧ apAll t1 l = (t', l.length) := by
  simp only [apAll] at h
  split at h
  · simp at h
  · rename_i t1 h1
    simp only [List.length_cons, Prod.mk.injEq] at h
    exact ⟨t1, h1, Prod.ext h.1 (by simp only; omega)⟩
theorem ov_fold : ∀ (l : List Cm) (t t1 t' : List Nd) (o : List Cm), Ov t t1 o → apAll t1 l = (t', l.length) → ∃ o', cFold o l = some o' ∧ Ov t t' o' ∧ o'.length ≤ o.length + l.length ∧ ∀ e ∈ o', (∃ d ∈ o, d.p = e.p) ∨ ∃ d ∈ l, d.p = e.p
  | [], t, t1, t', o, h, ha => by
    simp only [apAll, List.length_nil, Prod.mk.injEq, and_true] at ha
    subst ha
    exact ⟨o, rfl, h, by simp, fun e he => .inl ⟨e, he, rfl⟩⟩
  | c :: l, t, t1, t', o, h, ha => by
    obtain ⟨t2, h1, h2⟩ := apAll_cons ha
    obtain ⟨o1, e1, e2, e3, e4⟩ := h.step h1
    obtain ⟨o', g1, g2, g3, g4⟩ := ov_fold l t t2 t' o1 e2 h2
    refine ⟨o', by simp only [cFold, e1, Option.bind_some, g1], g2, by simp only [List.length_cons]; omega, fun e he => ?_⟩
    rcases g4 e he with ⟨d, hd, he'⟩ | ⟨d, hd, he'⟩
    · rcases e4 d hd with ⟨d', hd', he''⟩ | rfl
      · exact .inl ⟨d', hd', he''.trans he'⟩
      · exact .inr ⟨_, List.mem_cons_self, he'⟩
    · exact .inr ⟨d, List.mem_cons_of_mem _ hd, he'⟩
theorem ov_nil (t : List Nd) : Ov t t [] := ⟨rfl, fun c h => (by cases h), fun c h => (by cases h), fun _ _ => rfl⟩
theorem cFold_one : ∀ (l o : List Cm), one1 (o ++ l) = true → cFold o l = some (o ++ l)
  | [], o, _ => by simp [cFold]
  | c :: l, o, h => by
    have h0 := (one1_iff _).1 h
    rw [List.map_append, List.nodup_append] at h0
    have hn : ∀ d ∈ o, d.p ≠ c.p := fun d hd => h0.2.2 _ (List.mem_map_of_mem hd) _ (by simp)
    simp only [cFold, cAdd_new hn, Option.bind_some]
    rw [cFold_one l (o ++ [c]) (by simpa using h)]
    simp
/-- A log with each path once that fits. -/
theorem ov_one {t t' : List Nd} {l : List Cm} (h1 : one1 l = true) (h : apAll t l = (t', l.length)) : Ov t t' l := by
  obtain ⟨o, e1, e2, _⟩ := ov_fold l t t t' [] (ov_nil t) h
  rw [cFold_one l [] (by simpa using h1)] at e1
  cases e1
  simpa using e2
theorem apAll_TV : ∀ (l : List Cm) {t t' : List Nd} {n : Nat}, TV t → apAll t l = (t', n) → TV t'
  | [], t, t', n, h, ha => by simp only [apAll, Prod.mk.injEq] at ha; rw [← ha.1]; exact h
  | c :: l, t, t', n, h, ha => by
    simp only [apAll] at ha
    split at ha
    · simp only [Prod.mk.injEq] at ha; rw [← ha.1]; exact h
    · rename_i t1 h1
      simp only [Prod.mk.injEq] at ha
      rw [← ha.1]
      exact apAll_TV l (n := (apAll t1 l).2) (apC_some h1).2.2.2.1 rfl
/-! ### Differences -/
theorem mem_mrg (p : Str) : ∀ (a b : List Nd), p ∈ mrg a b ↔ (∃ n ∈ a, n.p = p) ∨ ∃ n ∈ b, n.p = p := by
  intro a b
  fun_induction mrg a b with
  | case1 b => simp
  | case2 a h => simp
  | case3 x a y b h ih =>
    simp only [List.mem_cons, ih]
    constructor
    · rintro (rfl | ⟨n, hn, e⟩ | ⟨n, hn, e⟩)
      · exact .inl ⟨x, .inl rfl, rfl⟩
      · exact .inl ⟨n, .inr hn, e⟩
      · exact .inr ⟨n, hn, e⟩
    · rintro (⟨n, rfl | hn, e⟩ | ⟨n, hn, e⟩)
      · exact .inl e.symm
      · exact .inr (.inl ⟨n, hn, e⟩)
      · exact .inr (.inr ⟨n, hn, e⟩)
  | case4 x a y b h h2 ih =>
    simp only [List.mem_cons, ih]
    constructor
    · rintro (rfl | ⟨n, hn, e⟩ | ⟨n, hn, e⟩)
      · exact .inr ⟨y, .inl rfl, rfl⟩
      · exact .inl ⟨n, hn, e⟩
      · exact .inr ⟨n, .inr hn, e⟩
    · rintro (⟨n, hn, e⟩ | ⟨n, rfl | hn, e⟩)
      · exact .inr (.inl ⟨n, hn, e⟩)
      · exact .inl e.symm
      · exact .inr (.inr ⟨n, hn, e⟩)
  | case5 x a y b h h2 ih =>
    have e0 : x.p = y.p := slt_tri _ _ (by simpa using h) (by simpa using h2)
    simp only [List.mem_cons, ih]
    constructor
    · rintro (rfl | ⟨n, hn, e⟩ | ⟨n, hn, e⟩)
      · exact .inl ⟨x, .inl rfl, rfl⟩
      · exact .inl ⟨n, .inr hn, e⟩
      · exact .inr ⟨n, .inr hn, e⟩
    · rintro (⟨n, rfl | hn, e⟩ | ⟨n, rfl | hn, e⟩)
      · exact .inl e.symm
      · exact .inr (.inl ⟨n, hn, e⟩)
      · exact .inl (e.symm.trans e0.symm)
      · exact .inr (.inr ⟨n, hn, e⟩)
theorem mrg_nodup : ∀ (a b : List Nd), sortP a = true → sortP b = true → (mrg a b).Nodup := by
  have hmap : ∀ l : List Nd, sortP l = true → (l.map (·.p)).Nodup := by
    intro l
    induction l with
    | nil => simp
    | cons a l ih =>
      intro h
      simp only [List.map_cons, List.nodup_cons, List.mem_map, not_exists, not_and]
      exact ⟨fun n hn e => slt_ne (sortP_head h n hn) e.symm, ih (sortP_cons h)⟩
  intro a b
  fun_induction mrg a b with
  | case1 b => exact fun _ h => hmap b h
  | case2 a h => exact fun h _ => hmap a h
  | case3 x a y b h ih =>
    intro h1 h2
    rw [List.nodup_cons, mem_mrg]
    refine ⟨?_, ih (sortP_cons h1) h2⟩
    rintro (⟨n, hn, e⟩ | ⟨n, hn, e⟩)
    · exact slt_ne (sortP_head h1 n hn) e.symm
    · cases hn with
      | head => exact slt_ne h e.symm
      | tail _ hn => exact slt_ne (slt_trans _ _ _ h (sortP_head h2 n hn)) e.symm
  | case4 x a y b h h' ih =>
    intro h1 h2
    rw [List.nodup_cons, mem_mrg]
    refine ⟨?_, ih h1 (sortP_cons h2)⟩
    rintro (⟨n, hn, e⟩ | ⟨n, hn, e⟩)
    · cases hn with
      | head => exact slt_ne h' e.symm
      | tail _ hn => exact slt_ne (slt_trans _ _ _ h' (sortP_head h1 n hn)) e.symm
    · exact slt_ne (sortP_head h2 n hn) e.symm
  | case5 x a y b h h' ih =>
    have e0 : x.p = y.p := slt_tri _ _ (by simpa using h) (by simpa using h')
    intro h1 h2
    rw [List.nodup_cons, mem_mrg]
    refine ⟨?_, ih (sortP_cons h1) (sortP_cons h2)⟩
    rintro (⟨n, hn, e⟩ | ⟨n, hn, e⟩)
    · exact slt_ne (sortP_head h1 n hn) e.symm
    · exact slt_ne (sortP_head h2 n hn) (e0.symm.trans e.symm)
theorem mem_chg {a b : List Nd} (ha : TV a) (hb : TV b) (p : Str) : p ∈ chg a b ↔ getC a p ≠ getC b p := by
  unfold chg
  rw [if_pos (by rw [Bool.and_eq_true, tV_iff, tV_iff]; exact ⟨ha, hb⟩), List.mem_filter, mem_mrg, decide_eq_true_eq]
  refine ⟨fun h => h.2, fun h => ⟨?_, h⟩⟩
  have hr : p ≠ root := by rintro rfl; rw [getC_root, getC_root] at h; exact h rfl
  by_cases h0 : getC a p = ct0
  · exact .inr ⟨_, getC_some hr (l := b) (fun e => h (h0.trans e.symm)), rfl⟩
  · exact .inl ⟨_, getC_some hr h0, rfl⟩
theorem diff_one {a b : List Nd} (ha : TV a) (hb : TV b) : one1 ((chg a b).map fun p => (⟨p, getC a p, getC b p⟩ : Cm)) = true := by
  rw [one1_iff, List.map_map]
  have : (fun c : Cm => c.p) ∘ (fun p => (⟨p, getC a p, getC b p⟩ : Cm)) = id := rfl
  rw [this, List.map_id]
  unfold chg
  rw [if_pos (by rw [Bool.and_eq_true, tV_iff, tV_iff]; exact ⟨ha, hb⟩)]
  exact (mrg_nodup a b ha.so hb.so).filter _

/-- A valid canonical log. -/
structure CO (l : List Cm) : Prop where
  cv : ∀ c ∈ l, CV c
  one : one1 l = true
  ord : cOrd l = true
theorem canonV_iff (l : List Cm) : canonV l = true ↔ CO l ∧ l.length ≤ 20 := by
  simp only [canonV, lV, Bool.and_eq_true, List.all_eq_true, decide_eq_true_eq]
  exact ⟨fun ⟨⟨⟨h1, h2⟩, h3⟩, h4⟩ => ⟨⟨fun c hc => (cmV_iff c).1 (h1 c hc), h3, h4⟩, h2⟩, fun ⟨⟨h1, h3, h4⟩, h2⟩ => ⟨⟨⟨fun c hc => (cmV_iff c).2 (h1 c hc), h2⟩, h3⟩, h4⟩⟩

/-- What a canonical log tells leads there. -/
theorem Ov.apply {t t' : List Nd} {L : List Cm} (h : Ov t t' L) (ht : TV t) (ht' : TV t') (hc : CO L) : apAll t L = (t', L.length) :=
  canon_apply L t t' ht ht' hc.cv hc.one hc.ord h.fr h.to h.ot

/-- What a log that fits does: its canonical log. -/
theorem fits_canon {t t' : List Nd} {l : List Cm} (ht : TV t) (hv : lV l = true) (h : apAll t l = (t', l.length)) :
    ∃ L, lCanon l = some L ∧ cDiff t t' = some L ∧ CO L ∧ L.length ≤ l.length ∧ Ov t t' L ∧ apAll t L = (t', L.length) := by
  have ht' := apAll_TV l ht h
  obtain ⟨o, e1, e2, e3, e4⟩ := ov_fold l t t t' [] (ov_nil t) h
  have hvl : ∀ c ∈ l, CV c := by
    simp only [lV, Bool.and_eq_true, List.all_eq_true] at hv
    exact fun c hc => (cmV_iff c).1 (hv.1 c hc)
  have hpath : ∀ e ∈ o, pV e.p = true ∧ e.p ≠ root := fun e he => by
    rcases e4 e he with ⟨d, hd, _⟩ | ⟨d, hd, he'⟩
    · cases hd
    · rw [← he']; exact ⟨(hvl d hd).p, (hvl d hd).r⟩
  have hone : one1 (o.filter (fun c => decide (c.a ≠ c.b))) = true := one1_sub List.filter_sublist e2.one
  have hco : CO (cSort (o.filter (fun c => decide (c.a ≠ c.b)))) := by
    refine ⟨fun c hc => ?_, cSort_one hone, cSort_ord _⟩
    rw [mem_cSort, List.mem_filter, decide_eq_true_eq] at hc
    exact ⟨(hpath c hc.1).1, (hpath c hc.1).2, by rw [← e2.fr c hc.1]; exact getC_ctV ht _, by rw [← e2.to c hc.1]; exact getC_ctV ht' _, hc.2⟩
  have hov : Ov t t' (cSort (o.filter (fun c => decide (c.a ≠ c.b)))) := by
    refine ⟨cSort_one hone, fun c hc => ?_, fun c hc => ?_, fun p hp => ?_⟩
    · rw [mem_cSort, List.mem_filter] at hc; exact e2.fr c hc.1
    · rw [mem_cSort, List.mem_filter] at hc; exact e2.to c hc.1
    · by_cases hex : ∃ c ∈ o, c.p = p
      · obtain ⟨c, hc, rfl⟩ := hex
        rw [e2.to c hc, e2.fr c hc]
        by_cases hab : c.a = c.b
        · exact hab.symm
        · exact absurd rfl (hp c (by rw [mem_cSort, List.mem_filter, decide_eq_true_eq]; exact ⟨hc, hab⟩))
      · exact e2.ot p fun c hc e => hex ⟨c, hc, e⟩
  refine ⟨_, by simp only [lCanon, hv, if_true, e1, Option.map_some], ?_, hco, ?_, hov, hov.apply ht ht' hco⟩
  · unfold cDiff
    rw [if_pos (by rw [Bool.and_eq_true, tV_iff, tV_iff]; exact ⟨ht, ht'⟩)]
    congr 1
    refine canon_ext (cSort_ord _) hco.ord (cSort_one (diff_one ht ht')) hco.one fun c => ?_
    rw [mem_cSort, List.mem_map]
    constructor
    · rintro ⟨p, hp, rfl⟩
      rw [mem_chg ht ht'] at hp
      by_cases hex : ∃ c ∈ cSort (o.filter (fun c => decide (c.a ≠ c.b))), c.p = p
      · obtain ⟨c, hc, rfl⟩ := hex
        rw [hov.fr c hc, hov.to c hc]
        exact hc
      · exact absurd (hov.ot p fun c hc e => hex ⟨c, hc, e⟩).symm hp
    · intro hc
      refine ⟨c.p, (mem_chg ht ht' _).2 (by rw [hov.fr c hc, hov.to c hc]; exact (hco.cv c hc).ne), ?_⟩
      rw [hov.fr c hc, hov.to c hc]
  · rw [cSort_len]
    refine Nat.le_trans (List.length_filter_le _ _) ?_
    simpa using e3

end Go.Proofs.YtccifbbjbnjcfaaGreatDoor
/-
  Plain laws: pairs of canonical logs, sides and sessions.
-/
namespace Go.Proofs.YtccifbbjbnjcfaaGreatDoor
open Go

theorem fits_iff (t : List Nd) (l : List Cm) : fits t l = true ↔ TV t ∧ lV l = true ∧ ∃ t', apAll t l = (t', l.length) := by
  simp only [fits, Bool.and_eq_true, decide_eq_true_eq, tV_iff]
  constructor
  · rintro ⟨⟨h1, h2⟩, h3⟩
    exact ⟨h1, h2, (apAll t l).1, Prod.ext rfl h3⟩
  · rintro ⟨h1, h2, t', h3⟩
    exact ⟨⟨h1, h2⟩, by rw [h3]⟩
theorem allC_iff (t : List Nd) (l : List Cm) (t' : List Nd) : allC t l = some t' ↔ apAll t l = (t', l.length) := by
  unfold allC
  constructor
  · intro h
    split at h
    · rename_i h1
      cases h
      exact Prod.ext rfl h1
    · cases h
  · intro h
    rw [h]; simp
theorem apAll_append : ∀ (l l2 : List Cm) {t t' : List Nd}, apAll t l = (t', l.length) → apAll t (l ++ l2) = ((apAll t' l2).1, l.length + (apAll t' l2).2)
  | [], l2, t, t', h => by
    simp only [apAll, List.length_nil, Prod.mk.injEq, and_true] at h
    subst h
    simp
  | c :: l, l2, t, t', h => by
    obtain ⟨t1, h1, h2⟩ := apAll_cons h
    have := apAll_append l l2 h2
    simp only [List.cons_append, apAll, h1, this, List.length_cons]
    congr 1
    omega
theorem apAll_append_inv {l l2 : List Cm} {t T : List Nd} {t' : List Nd} (h : apAll t l = (t', l.length)) (h2 : apAll t (l ++ l2) = (T, (l ++ l2).length)) : apAll t' l2 = (T, l2.length) := by
  rw [apAll_append l l2 h] at h2
  simp only [List.length_append, Prod.mk.injEq] at h2
  exact Prod.ext h2.1 (by simp only; omega)

/-! ### What lies under what -/
theorem prs_get : ∀ (s : Str) (k : Nat) (x : UInt8), prs s = true → s[k]? = some x → (k % 2 = 0 → x = 47) ∧ (k % 2 = 1 → letB x = true)
  | [], k, x, _, h => by simp at h
  | [_], k, x, h, _ => by cases h
  | a :: b :: r, k, x, hp, h => by
    simp only [prs, Bool.and_eq_true, decide_eq_true_eq] at hp
    match k, h with
    | 0, h => simp at h; subst h; exact ⟨fun _ => hp.1.1, fun h => by omega⟩
    | 1, h => simp at h; subst h; exact ⟨fun h => by omega, fun _ => hp.1.2⟩
    | k + 2, h =>
      have := prs_get r k x hp.2 (by simpa using h)
      exact ⟨fun h => this.1 (by omega), fun h => this.2 (by omega)⟩
theorem prs_even : ∀ (s : Str), prs s = true → s.length % 2 = 0
  | [], _ => rfl
  | [_], h => by cases h
  | a :: b :: r, h => by
    simp only [prs, Bool.and_eq_true] at h
    have := prs_even r h.2
    simp only [List.length_cons]; omega
theorem letB_47 : letB 47 = false := by decide
theorem und_par {q p : Str} (hp : pV p = true) (hr : p ≠ root) (hq : q ≠ root) (hq0 : q ≠ []) (hu : und q p = true) : par p = q ∨ (und q (par p) = true ∧ par p ≠ root) := by
  unfold und at hu ⊢
  rw [if_neg hq] at hu ⊢
  rw [List.isPrefixOf_iff_prefix] at hu ⊢
  obtain ⟨r, hr'⟩ := hu
  have hprs : prs p = true := by
    simp only [pV, Bool.or_eq_true, Bool.and_eq_true, decide_eq_true_eq] at hp
    rcases hp with h | h
    · exact absurd h hr
    · exact h.1.2
  have h47 : p[q.length]? = some 47 := by rw [← hr']; simp
  have hev : q.length % 2 = 0 := by
    rcases Nat.mod_two_eq_zero_or_one q.length with h | h
    · exact h
    · have := (prs_get p _ _ hprs h47).2 h
      rw [letB_47] at this; cases this
  have hlen : q.length + 1 + r.length = p.length := by rw [← hr']; simp; omega
  have he := prs_even p hprs
  have hle : q.length + 2 ≤ p.length := by omega
  have hq1 : 2 ≤ q.length := by
    cases q with
    | nil => exact absurd rfl hq0
    | cons a t => simp only [List.length_cons] at hev ⊢; omega
  have h2 : par p = p.take (p.length - 2) := by unfold par; rw [if_neg (by omega)]
  rw [h2]
  · by_cases h3 : q.length + 2 = p.length
    · left
      have : p.length - 2 = q.length := by omega
      rw [this, ← hr', List.append_assoc, List.take_left]
    · right
      refine ⟨⟨(p.take (p.length - 2)).drop (q.length + 1), ?_⟩, ?_⟩
      · conv => rhs; rw [← List.take_append_drop (q.length + 1) (p.take (p.length - 2))]
        congr 1
        rw [List.take_take, Nat.min_eq_left (by omega), ← hr', List.take_append_of_le_length (by simp), List.take_of_length_le (by simp)]
      · intro e
        have := congrArg List.length e
        simp [root] at this
        omega

/-- Above what is there lie directories. -/
theorem TV.anc {T : List Nd} (h : TV T) {q : Str} (hq0 : q ≠ []) : ∀ (n : Nat) (p : Str), p.length ≤ n → p ≠ root → (getC T p).k ≠ 0 → und q p = true → (getC T q).k = 1
  | 0, p, hn, hr, hk, _ => by
    have h1 := h.nd _ (getC_some hr (l := T) (fun e => hk (by rw [e]; rfl)))
    have : p = [] := List.eq_nil_of_length_eq_zero (by omega)
    subst this
    have := h1.1
    simp [pV, root] at this
  | n + 1, p, hn, hr, hk, hu => by
    by_cases hq : q = root
    · rw [hq, getC_root]
    have h0 := getC_some hr (l := T) (fun e => hk (by rw [e]; rfl))
    have h1 := h.nd _ h0
    have h2 := h.up _ h0
    rcases und_par h1.1 hr hq hq0 hu with e | ⟨h3, h4⟩
    · rw [← e]; exact h2
    · refine TV.anc h hq0 n (par p) ?_ h4 (by rw [h2]; decide) h3
      unfold par at h4 ⊢
      split
      · rename_i h5; rw [if_pos h5] at h4; exact absurd rfl h4
      · rw [List.length_take]; omega
theorem CV.nil {c : Cm} (h : CV c) : c.p ≠ [] := fun e => by have := h.p; rw [e] at this; simp [pV, root] at this
theorem no_stop {T : List Nd} (hT : TV T) {c d : Cm} (hcv : CV c) (hdv : CV d) (hc : getC T c.p = c.b) (hd : getC T d.p = d.b) (h : stops c d = true) : False := by
  simp only [stops, Bool.and_eq_true, decide_eq_true_eq] at h
  exact h.1.2 (by rw [← hc]; exact hT.anc hcv.nil _ d.p (Nat.le_refl _) hdv.r (by rw [hd]; exact h.2) h.1.1)
/-- What one tree holds is not in conflict. -/
theorem no_clash {T : List Nd} (hT : TV T) {c d : Cm} (hcv : CV c) (hdv : CV d) (hc : getC T c.p = c.b) (hd : getC T d.p = d.b) : clash c d = false := by
  cases h : clash c d with
  | false => rfl
  | true =>
    unfold clash at h
    simp only [Bool.or_eq_true, Bool.and_eq_true, decide_eq_true_eq] at h
    rcases h with (⟨g1, g2⟩ | g) | g
    · rw [← g1, hc] at hd; exact absurd hd g2
    · exact (no_stop hT hcv hdv hc hd g).elim
    · exact (no_stop hT hdv hcv hd hc g).elim

/-- Two canonical logs that fit one tree. -/
structure PF (t : List Nd) (a b : List Cm) (ta tb : List Nd) : Prop where
  tv : TV t
  ca : CO a
  cb : CO b
  la : a.length ≤ 20
  lb : b.length ≤ 20
  fa : apAll t a = (ta, a.length)
  fb : apAll t b = (tb, b.length)
theorem pairFits_iff (t : List Nd) (a b : List Cm) : pairFits t a b = true ↔ ∃ ta tb, PF t a b ta tb := by
  simp only [pairFits, Bool.and_eq_true, canonV_iff, fits_iff]
  constructor
  · rintro ⟨⟨⟨⟨h1, h2⟩, h3, h4⟩, h5, h6, ta, h7⟩, h8, h9, tb, h10⟩
    exact ⟨ta, tb, h5, h1, h3, h2, h4, h7, h10⟩
  · rintro ⟨ta, tb, h⟩
    refine ⟨⟨⟨⟨h.ca, h.la⟩, h.cb, h.lb⟩, h.tv, ?_, ta, h.fa⟩, h.tv, ?_, tb, h.fb⟩
    · simp only [lV, Bool.and_eq_true, List.all_eq_true, decide_eq_true_eq]
      exact ⟨fun c hc => (cmV_iff c).2 (h.ca.cv c hc), h.la⟩
    · simp only [lV, Bool.and_eq_true, List.all_eq_true, decide_eq_true_eq]
      exact ⟨fun c hc => (cmV_iff c).2 (h.cb.cv c hc), h.lb⟩
theorem CO.canonV {a : List Cm} (h : CO a) (hl : a.length ≤ 20) : canonV a = true := (canonV_iff a).2 ⟨h, hl⟩

section
variable {t : List Nd} {a b : List Cm} {ta tb : List Nd}
theorem PF.safe_iff (h : PF t a b ta tb) (c : Cm) : c ∈ safeOf a b ↔ c ∈ b ∧ c ∉ a ∧ ∀ d ∈ a, clash c d = false := by
  unfold safeOf
  rw [if_pos (by rw [Bool.and_eq_true]; exact ⟨h.ca.canonV h.la, h.cb.canonV h.lb⟩), List.mem_filter]
  simp only [Bool.and_eq_true, Bool.not_eq_true', decide_eq_false_iff_not, disp, List.any_eq_false, Bool.not_eq_true]
theorem PF.left_iff (h : PF t a b ta tb) (c : Cm) : c ∈ leftOf a b ↔ c ∈ a ∧ ∃ d ∈ b, clash c d = true := by
  unfold leftOf
  rw [if_pos (by rw [Bool.and_eq_true]; exact ⟨h.ca.canonV h.la, h.cb.canonV h.lb⟩), List.mem_filter]
  simp only [disp, List.any_eq_true]
theorem CO.sub_filter {l : List Cm} (h : CO l) (q : Cm → Bool) : CO (l.filter q) := ⟨fun c hc => h.cv c (List.mem_filter.1 hc).1, one1_sub List.filter_sublist h.one, cOrd_filter q h.ord⟩
theorem CO.nil : CO [] := ⟨fun c h => (by cases h), rfl, rfl⟩
theorem PF.safe_co (h : PF t a b ta tb) : CO (safeOf a b) := by
  unfold safeOf
  split
  · exact h.cb.sub_filter _
  · exact CO.nil
theorem PF.left_co (h : PF t a b ta tb) : CO (leftOf a b) := by
  unfold leftOf
  split
  · exact h.ca.sub_filter _
  · exact CO.nil
theorem PF.ova (h : PF t a b ta tb) : Ov t ta a := ov_one h.ca.one h.fa
theorem PF.ovb (h : PF t a b ta tb) : Ov t tb b := ov_one h.cb.one h.fb
theorem PF.tva (h : PF t a b ta tb) : TV ta := apAll_TV a h.tv h.fa
theorem PF.tvb (h : PF t a b ta tb) : TV tb := apAll_TV b h.tv h.fb
/-- What is safe is not on a path of the other log. -/
theorem PF.safe_path (h : PF t a b ta tb) {c d : Cm} (hc : c ∈ safeOf a b) (hd : d ∈ a) : c.p ≠ d.p := by
  intro e
  obtain ⟨h1, h2, h3⟩ := (h.safe_iff c).1 hc
  have h4 := h3 d hd
  unfold clash at h4
  simp only [Bool.or_eq_false_iff, Bool.and_eq_false_iff, decide_eq_false_iff_not] at h4
  have hb : c.b = d.b := by
    rcases h4.1.1 with g | g
    · exact absurd e g
    · exact Classical.byContradiction fun hne => g hne
  have ha : c.a = d.a := by rw [← h.ovb.fr c h1, ← h.ova.fr d hd, e]
  exact h2 (by
    have : c = d := by
      obtain ⟨p, x, y⟩ := c
      obtain ⟨p', x', y'⟩ := d
      simp only at e ha hb
      subst e; subst ha; subst hb
      rfl
    rw [this]; exact hd)
theorem PF.kept_iff (h : PF t a b ta tb) (c : Cm) : c ∈ kept a b ↔ (c ∈ a ∧ ∀ d ∈ b, clash c d = false) ∨ (c ∈ b ∧ ∀ d ∈ a, clash c d = false) := by
  unfold kept
  rw [List.mem_append, h.safe_iff, List.mem_filter]
  simp only [disp, Bool.not_eq_true', List.any_eq_false, Bool.not_eq_true]
  constructor
  · rintro (⟨h1, h2, h3⟩ | h1)
    · exact .inr ⟨h1, h3⟩
    · exact .inl h1
  · rintro (h1 | ⟨h1, h2⟩)
    · exact .inr h1
    · by_cases hc : c ∈ a
      · exact .inr ⟨hc, fun d hd => no_clash h.tvb (h.cb.cv c h1) (h.cb.cv d hd) (h.ovb.to c h1) (h.ovb.to d hd)⟩
      · exact .inl ⟨h1, hc, h2⟩
end

end Go.Proofs.YtccifbbjbnjcfaaGreatDoor
/-
  Plain laws: paths as texts that are cut.
-/
namespace Go.Proofs.YtccifbbjbnjcfaaGreatDoor
open Go

/-- Cut at every slash. -/
def cutP : Str → List Str
  | [] => [[]]
  | a :: r => if a = 47 then [] :: cutP r else match cutP r with
    | x :: xs => (a :: x) :: xs
    | [] => [[a]]
theorem cut_ne : ∀ s : Str, cutP s ≠ []
  | [] => by simp [cutP]
  | a :: r => by
    unfold cutP
    split
    · simp
    · split <;> simp
theorem cut_47 (r : Str) : cutP (47 :: r) = [] :: cutP r := by simp [cutP]
theorem cut_cons {a : UInt8} {r x : Str} {xs : List Str} (ha : a ≠ 47) (h : cutP r = x :: xs) : cutP (a :: r) = (a :: x) :: xs := by
  simp [cutP, ha, h]
theorem splitK_cut : ∀ s : Str, Lib.splitK [47] 0 (s.count 47) s = cutP s
  | [] => rfl
  | a :: r => by
    have ih := splitK_cut r
    by_cases ha : a = 47
    · subst ha
      rw [List.count_cons_self]
      simp [Lib.splitK, Lib.index, cutP, ih, List.isPrefixOf]
    · have hi : Lib.index (a :: r) [47] = if Lib.index r [47] == -1 then -1 else Lib.index r [47] + 1 := by
        have : (47 == a) = false := by simpa using Ne.symm ha
        simp [Lib.index, List.isPrefixOf, this]
      rw [List.count_cons_of_ne ha]
      cases hk : r.count 47 with
      | zero =>
        rw [hk] at ih
        exact (cut_cons ha ih.symm).symm
      | succ k =>
        rw [hk] at ih
        unfold Lib.splitK at ih ⊢
        rw [hi]
        by_cases hx : (Lib.index r [47] == -1) = true
        · rw [if_pos hx] at ih
          simp only [hx, if_true]
          rw [if_pos (by rfl)]
          exact (cut_cons ha ih.symm).symm
        · rw [if_neg hx] at ih
          have hge := Lib.index_ge r [47]
          have hne : Lib.index r [47] ≠ -1 := by simpa using hx
          obtain ⟨m, hm⟩ : ∃ m : Nat, Lib.index r [47] = m := ⟨(Lib.index r [47]).toNat, by omega⟩
          rw [hm] at ih ⊢
          rw [if_neg (by simp; omega), if_neg (by simp)]
          rw [cut_cons ha ih.symm]
          have e1 : ((m : Int) + 1).toNat = m + 1 := by omega
          have e2 : (m : Int).toNat = m := by omega
          rw [e1, e2]
          simp [show m + 1 + 1 = (m + 1) + 1 from rfl]
/-- A name of one letter. -/
def nameB : Str → Bool
  | [a] => letB a
  | _ => false
theorem cut_names : ∀ (n : Nat) (r : Str), r.length ≤ n → (cutP r).all nameB = prs (47 :: r) ∧ (prs (47 :: r) = true → 2 * (cutP r).length = r.length + 1)
  | _, [], _ => by simp [cutP, nameB, prs]
  | _, [b], _ => by
    by_cases hb : b = 47
    · subst hb; simp [cutP, nameB, prs, letB_47]
    · simp [cutP, hb, nameB, prs]
  | n + 2, b :: c :: r, h => by
    obtain ⟨ih1, ih2⟩ := cut_names n r (by simp at h; omega)
    by_cases hb : b = 47
    · subst hb
      simp [cut_47, nameB, prs, letB_47]
    · by_cases hc : c = 47
      · subst hc
        rw [cut_cons hb (cut_47 r)]
        constructor
        · simp only [List.all_cons, nameB, ih1]
          simp [prs]
        · intro hp
          have : prs (47 :: r) = true := by simp [prs] at hp ⊢; exact hp.2
          have := ih2 this
          simp; omega
      · obtain ⟨x, xs, hx⟩ : ∃ x xs, cutP r = x :: xs := by
          cases hs : cutP r with
          | nil => exact absurd hs (cut_ne r)
          | cons x xs => exact ⟨x, xs, rfl⟩
        rw [cut_cons hb (cut_cons hc hx)]
        have hp : prs (47 :: b :: c :: r) = false := by
          cases r with
          | nil => simp [prs]
          | cons d r => simp [prs, hc]
        rw [hp]
        simp [nameB]
  | 0, b :: c :: r, h => by simp at h
  | 1, b :: c :: r, h => by simp at h
theorem pV_names (s : Str) (hr : s ≠ root) : pV s = (decide ((cutP s).head? = some []) && decide (1 ≤ (cutP s).tail.length) && decide ((cutP s).tail.length ≤ 4) && (cutP s).tail.all nameB) := by
  unfold pV
  simp only [hr, decide_false, Bool.false_or]
  cases s with
  | nil => simp [cutP]
  | cons a r =>
    by_cases ha : a = 47
    · subst ha
      obtain ⟨h1, h2⟩ := cut_names r.length r (Nat.le_refl _)
      rw [cut_47]
      simp only [List.head?_cons, List.tail_cons, h1, decide_true, Bool.true_and]
      have h3 : 1 ≤ (cutP r).length := by
        cases hs : cutP r with
        | nil => exact absurd hs (cut_ne r)
        | cons x xs => simp
      cases hp : prs (47 :: r) with
      | false => simp
      | true =>
        have := h2 hp
        simp [h3]
        exact decide_eq_decide.2 (by omega)
    · have hp : prs (a :: r) = false := by
        cases r with
        | nil => simp [prs]
        | cons b r => simp [prs, ha]
      obtain ⟨x, xs, hx⟩ : ∃ x xs, cutP r = x :: xs := by
        cases hs : cutP r with
        | nil => exact absurd hs (cut_ne r)
        | cons x xs => exact ⟨x, xs, rfl⟩
      rw [cut_cons ha hx, hp]
      simp
theorem pV_cut {s y : Str} {ys : List Str} (hr : s ≠ root) (h : cutP s = y :: ys) : pV s = (decide (y = []) && inR ys.length 1 4 && ys.all nameB) := by
  have e1 : decide (1 ≤ ys.length) = decide ((1 : Int) ≤ ys.length) := decide_eq_decide.2 (by omega)
  have e2 : decide (ys.length ≤ 4) = decide ((ys.length : Int) ≤ 4) := decide_eq_decide.2 (by omega)
  have e3 : decide (some y = some []) = decide (y = []) := decide_eq_decide.2 (by simp)
  rw [pV_names s hr, h]
  show (decide (some y = some []) && decide (1 ≤ ys.length) && decide (ys.length ≤ 4) && ys.all nameB) = _
  rw [e1, e2, e3]
  unfold inR
  simp only [Bool.and_assoc]
theorem cut_len : ∀ s : Str, (cutP s).length ≤ s.length + 1
  | [] => by simp [cutP]
  | a :: r => by
    have ih := cut_len r
    by_cases ha : a = 47
    · subst ha; rw [cut_47]; simp; omega
    · cases hs : cutP r with
      | nil => exact absurd hs (cut_ne r)
      | cons x xs => rw [cut_cons ha hs]; rw [hs] at ih; simp at ih ⊢; omega
/-- How deep a path lies. -/
def depth (s : Str) : Int := if pV s then ((s.length / 2 : Nat) : Int) else -1
theorem pV_len {s : Str} (h : pV s = true) (hr : s ≠ root) : 2 ≤ s.length ∧ s.length ≤ 8 := by
  unfold pV at h
  simp only [hr, decide_false, Bool.false_or, Bool.and_eq_true, decide_eq_true_eq] at h
  obtain ⟨⟨h1, h2⟩, h3⟩ := h
  have := prs_even s h2
  cases s with
  | nil => exact absurd rfl h1
  | cons a r => simp at *; omega
theorem depth_pos (s : Str) : (decide (0 < depth s)) = (pV s && decide (s ≠ root)) := by
  unfold depth
  cases h : pV s with
  | false => simp
  | true =>
    by_cases hr : s = root
    · subst hr; simp [root]
    · have := pV_len h hr
      simp [hr]; omega
/-- The cut, step by step. -/
def cutA (acc : Str) : Str → List Str
  | [] => [acc]
  | a :: r => if a = 47 then acc :: cutA [] r else cutA (acc ++ [a]) r
theorem cutA_eq : ∀ (s acc : Str), cutA acc s = match cutP s with | x :: xs => (acc ++ x) :: xs | [] => [acc]
  | [], acc => by simp [cutA, cutP]
  | a :: r, acc => by
    unfold cutA
    by_cases ha : a = 47
    · subst ha
      rw [if_pos rfl, cutA_eq r, cut_47]
      cases hs : cutP r with
      | nil => exact absurd hs (cut_ne r)
      | cons x xs => simp
    · rw [if_neg ha, cutA_eq r]
      cases hs : cutP r with
      | nil => exact absurd hs (cut_ne r)
      | cons x xs => rw [cut_cons ha hs]; simp
theorem cutA_nil (s : Str) : cutA [] s = cutP s := by
  rw [cutA_eq]
  cases hs : cutP s with
  | nil => exact absurd hs (cut_ne s)
  | cons x xs => simp
/-! ### Trees, node by node -/
end Go.Proofs.YtccifbbjbnjcfaaGreatDoor
/-
  Plain laws: both trees of a pair, the common tree, and what is left.
-/
namespace Go.Proofs.YtccifbbjbnjcfaaGreatDoor
open Go

section
variable {t : List Nd} {a b : List Cm} {ta tb T B : List Nd}
theorem PF.fits (h : PF t a b ta tb) : pairFits t a b = true := (pairFits_iff t a b).2 ⟨ta, tb, h⟩
theorem PF.tree (h : PF t a b ta tb) : pairTree t a b = some T ↔ apAll ta (safeOf a b) = (T, (safeOf a b).length) := by
  unfold pairTree
  rw [if_pos h.fits, allC_iff]
  constructor
  · exact fun h2 => apAll_append_inv h.fa h2
  · intro h2
    rw [apAll_append a _ h.fa, h2, List.length_append]
theorem kept_one (h : PF t a b ta tb) : one1 (kept a b) = true := by
  rw [one1_iff]
  unfold kept
  rw [List.map_append, List.nodup_append]
  refine ⟨(one1_iff _).1 h.safe_co.one, (one1_iff _).1 (h.ca.sub_filter _).one, fun x hx y hy => ?_⟩
  obtain ⟨c, hc, rfl⟩ := List.mem_map.1 hx
  obtain ⟨d, hd, rfl⟩ := List.mem_map.1 hy
  exact h.safe_path hc (List.mem_filter.1 hd).1
theorem Ov.perm {t t' : List Nd} {o o' : List Cm} (h : Ov t t' o) (hp : o.Perm o') : Ov t t' o' :=
  ⟨one1_perm hp h.one, fun c hc => h.fr c (hp.mem_iff.2 hc), fun c hc => h.to c (hp.mem_iff.2 hc), fun p hp' => h.ot p fun c hc => hp' c (hp.mem_iff.1 hc)⟩
theorem PF.base_iff (h : PF t a b ta tb) : pairBase t a b = some B ↔ (kept a b).length ≤ 20 ∧ apAll t (cSort (kept a b)) = (B, (kept a b).length) := by
  unfold pairBase
  rw [h.fits, Bool.true_and]
  constructor
  · intro h2
    split at h2
    · rename_i h3
      rw [allC_iff, cSort_len] at h2
      exact ⟨by simpa using h3, h2⟩
    · cases h2
  · rintro ⟨h2, h3⟩
    rw [if_pos (by simpa using h2), allC_iff, cSort_len]
    exact h3
theorem PF.base_ov (h : PF t a b ta tb) (hb : pairBase t a b = some B) : Ov t B (kept a b) ∧ TV B := by
  obtain ⟨_, h2⟩ := h.base_iff.1 hb
  refine ⟨(ov_one (cSort_one (kept_one h)) (by rw [cSort_len]; exact h2)).perm (cSort_perm _), apAll_TV _ h.tv h2⟩
theorem PF.tree_ov (h : PF t a b ta tb) (ht : pairTree t a b = some T) : Ov ta T (safeOf a b) ∧ TV T := by
  have h2 := h.tree.1 ht
  exact ⟨ov_one h.safe_co.one h2, apAll_TV _ h.tva h2⟩
/-- What a log did stays. -/
theorem PF.tree_own (h : PF t a b ta tb) (ht : pairTree t a b = some T) {c : Cm} (hc : c ∈ a) : getC T c.p = c.b := by
  obtain ⟨h1, _⟩ := h.tree_ov ht
  rw [h1.ot c.p fun d hd => h.safe_path hd hc]
  exact h.ova.to c hc
theorem PF.tree_safe (h : PF t a b ta tb) (ht : pairTree t a b = some T) {c : Cm} (hc : c ∈ safeOf a b) : getC T c.p = c.b := (h.tree_ov ht).1.to c hc
theorem PF.tree_else (h : PF t a b ta tb) (ht : pairTree t a b = some T) {p : Str} (h1 : ∀ c ∈ a, c.p ≠ p) (h2 : ∀ c ∈ safeOf a b, c.p ≠ p) : getC T p = getC t p := by
  rw [(h.tree_ov ht).1.ot p h2, h.ova.ot p h1]
/-- What is left leads from the common tree to the tree of the side. -/
theorem PF.left_ov (h : PF t a b ta tb) (hb : pairBase t a b = some B) (ht : pairTree t a b = some T) : Ov B T (leftOf a b) := by
  obtain ⟨hB, _⟩ := h.base_ov hb
  have hnk : ∀ c ∈ leftOf a b, ∀ d ∈ kept a b, d.p ≠ c.p := fun c hc d hd e => by
    obtain ⟨h1, e2, h2, h3⟩ := (h.left_iff c).1 hc
    unfold kept at hd
    rcases List.mem_append.1 hd with h4 | h4
    · exact h.safe_path h4 h1 e
    · rw [List.mem_filter] at h4
      have := one1_inj h.ca.one d h4.1 c h1 e
      subst this
      simp only [disp, Bool.not_eq_true', List.any_eq_false, Bool.not_eq_true] at h4
      rw [h4.2 _ h2] at h3
      cases h3
  refine ⟨h.left_co.one, fun c hc => ?_, fun c hc => ?_, fun p hp => ?_⟩
  · rw [hB.ot c.p fun d hd => hnk c hc d hd]
    exact h.ova.fr c ((h.left_iff c).1 hc).1
  · exact h.tree_own ht ((h.left_iff c).1 hc).1
  · by_cases hs : ∃ c ∈ safeOf a b, c.p = p
    · obtain ⟨c, hc, rfl⟩ := hs
      rw [h.tree_safe ht hc, hB.to c (List.mem_append_left _ hc)]
    · have hs' : ∀ c ∈ safeOf a b, c.p ≠ p := fun c hc e => hs ⟨c, hc, e⟩
      by_cases ha : ∃ c ∈ a, c.p = p
      · obtain ⟨c, hc, rfl⟩ := ha
        have hcd : ∀ d ∈ b, clash c d = false := fun d hd => by
          cases hcl : clash c d with
          | false => rfl
          | true => exact absurd rfl (hp c ((h.left_iff c).2 ⟨hc, d, hd, hcl⟩))
        rw [h.tree_own ht hc, hB.to c ((h.kept_iff c).2 (.inl ⟨hc, hcd⟩))]
      · have ha' : ∀ c ∈ a, c.p ≠ p := fun c hc e => ha ⟨c, hc, e⟩
        rw [h.tree_else ht ha' hs', hB.ot p fun d hd => ?_]
        unfold kept at hd
        rcases List.mem_append.1 hd with h4 | h4
        · exact hs' d h4
        · exact ha' d (List.mem_filter.1 h4).1
theorem PF.left_apply (h : PF t a b ta tb) (hb : pairBase t a b = some B) (ht : pairTree t a b = some T) : apAll B (leftOf a b) = (T, (leftOf a b).length) :=
  (h.left_ov hb ht).apply (h.base_ov hb).2 (h.tree_ov ht).2 h.left_co

end

/-! ### Sides -/
/-- A valid side, its tree and its canonical log. -/
structure SV (s : St) (t : List Nd) (L : List Cm) : Prop where
  ep : 0 ≤ s.ep ∧ s.ep ≤ 99
  tv : TV s.base
  lv : lV s.log = true
  ap : apAll s.base s.log = (t, s.log.length)
  cn : lCanon s.log = some L
  df : cDiff s.base t = some L
  co : CO L
  le : L.length ≤ s.log.length
  ov : Ov s.base t L
  apL : apAll s.base L = (t, L.length)
theorem lV_len {l : List Cm} (h : lV l = true) : l.length ≤ 20 := by
  simp only [lV, Bool.and_eq_true, decide_eq_true_eq] at h; exact h.2
theorem lV_mk {l : List Cm} (h : ∀ c ∈ l, CV c) (hl : l.length ≤ 20) : lV l = true := by
  simp only [lV, Bool.and_eq_true, List.all_eq_true, decide_eq_true_eq]
  exact ⟨fun c hc => (cmV_iff c).2 (h c hc), hl⟩
theorem siteV_iff (s : St) : siteV s = true ↔ ∃ t L, SV s t L := by
  simp only [siteV, Bool.and_eq_true, inR, decide_eq_true_eq, tV_iff, fits_iff]
  constructor
  · rintro ⟨⟨h1, h2⟩, _, h4, t, h5⟩
    obtain ⟨L, g1, g2, g3, g4, g5, g6⟩ := fits_canon h2 h4 h5
    exact ⟨t, L, h1, h2, h4, h5, g1, g2, g3, g4, g5, g6⟩
  · rintro ⟨t, L, h⟩
    exact ⟨⟨h.ep, h.tv⟩, h.tv, h.lv, t, h.ap⟩
section
variable {s : St} {t : List Nd} {L : List Cm}
theorem SV.v (h : SV s t L) : siteV s = true := (siteV_iff s).2 ⟨t, L, h⟩
theorem SV.C (h : SV s t L) : siteC s = L := by unfold siteC; rw [if_pos h.v, h.cn]; rfl
theorem SV.l20 (h : SV s t L) : L.length ≤ 20 := Nat.le_trans h.le (lV_len h.lv)
/-- A side with another log that leads to the same tree. -/
theorem SV.re (h : SV s t L) {l : List Cm} (hl : lV l = true) (ha : apAll s.base l = (t, l.length)) (ep : Int) (he : 0 ≤ ep ∧ ep ≤ 99) : SV ⟨ep, s.base, l⟩ t L := by
  obtain ⟨L', g1, g2, g3, g4, g5, g6⟩ := fits_canon h.tv hl ha
  have : L' = L := by rw [h.df] at g2; cases g2; rfl
  subst this
  exact ⟨he, h.tv, hl, ha, g1, g2, g3, g4, g5, g6⟩
theorem SV.short (h : SV s t L) : SV ⟨s.ep, s.base, L⟩ t L := h.re (lV_mk h.co.cv h.l20) h.apL s.ep h.ep
theorem SV.mk' {s : St} {t : List Nd} (he : 0 ≤ s.ep ∧ s.ep ≤ 99) (ht : TV s.base) (hl : lV s.log = true) (ha : apAll s.base s.log = (t, s.log.length)) : ∃ L, SV s t L := by
  obtain ⟨L, g1, g2, g3, g4, g5, g6⟩ := fits_canon ht hl ha
  exact ⟨L, he, ht, hl, ha, g1, g2, g3, g4, g5, g6⟩
/-- A canonical log is its own. -/
theorem SV.canon {s : St} {t : List Nd} (he : 0 ≤ s.ep ∧ s.ep ≤ 99) (ht : TV s.base) (hc : CO s.log) (hl : s.log.length ≤ 20) (ha : apAll s.base s.log = (t, s.log.length)) : SV s t s.log := by
  obtain ⟨L, h⟩ := SV.mk' he ht (lV_mk hc.cv hl) ha
  have ov2 := ov_one hc.one ha
  have : s.log = L := canon_ext hc.ord h.co.ord hc.one h.co.one fun c => by
    constructor
    · intro hm
      by_cases hex : ∃ d ∈ L, d.p = c.p
      · obtain ⟨d, hd, e⟩ := hex
        have h1 := h.ov.fr d hd
        have h2 := h.ov.to d hd
        rw [e, ov2.fr c hm] at h1
        rw [e, ov2.to c hm] at h2
        have : d = c := by
          obtain ⟨p, x, y⟩ := d
          obtain ⟨p', x', y'⟩ := c
          simp only at e h1 h2
          subst e; subst h1; subst h2
          rfl
        rw [← this]; exact hd
      · have := h.ov.ot c.p fun d hd e => hex ⟨d, hd, e⟩
        rw [ov2.fr c hm, ov2.to c hm] at this
        exact absurd this.symm (hc.cv c hm).ne
    · intro hm
      by_cases hex : ∃ d ∈ s.log, d.p = c.p
      · obtain ⟨d, hd, e⟩ := hex
        have h1 := ov2.fr d hd
        have h2 := ov2.to d hd
        rw [e, h.ov.fr c hm] at h1
        rw [e, h.ov.to c hm] at h2
        have : d = c := by
          obtain ⟨p, x, y⟩ := d
          obtain ⟨p', x', y'⟩ := c
          simp only at e h1 h2
          subst e; subst h1; subst h2
          rfl
        rw [← this]; exact hd
      · have := ov2.ot c.p fun d hd e => hex ⟨d, hd, e⟩
        rw [h.ov.fr c hm, h.ov.to c hm] at this
        exact absurd this.symm (h.co.cv c hm).ne
  rw [this]; exact h
end

end Go.Proofs.YtccifbbjbnjcfaaGreatDoor
/-
  Plain laws: the reference's way to put a node.
-/
namespace Go.Proofs.YtccifbbjbnjcfaaGreatDoor
open Go

end Go.Proofs.YtccifbbjbnjcfaaGreatDoor
/-
  Plain laws: sides, sessions.
-/
namespace Go.Proofs.YtccifbbjbnjcfaaGreatDoor
open Go

/-! ### Sides -/
/-! ### Sessions -/
/-- A session that is done. -/
structure SR (a b x y : St) (ta tb : List Nd) (La Lb : List Cm) (B Ta Tb : List Nd) : Prop where
  sa : SV a ta La
  sb : SV b tb Lb
  eb : b.base = a.base
  ee : b.ep = a.ep
  lt : a.ep < 99
  pf : PF a.base La Lb ta tb
  pb : pairBase a.base La Lb = some B
  pa : pairTree a.base La Lb = some Ta
  pt : pairTree a.base Lb La = some Tb
  ex : x = ⟨a.ep + 1, B, leftOf La Lb⟩
  ey : y = ⟨a.ep + 1, B, leftOf Lb La⟩
theorem meet_iff (a b : St) : meet a b = true ↔ ∃ ta tb La Lb, SV a ta La ∧ SV b tb Lb ∧ b.base = a.base ∧ b.ep = a.ep ∧ a.ep < 99 := by
  simp only [meet, Bool.and_eq_true, decide_eq_true_eq, siteV_iff]
  constructor
  · rintro ⟨⟨⟨⟨⟨ta, La, h1⟩, tb, Lb, h2⟩, h3⟩, h4⟩, h5⟩
    exact ⟨ta, tb, La, Lb, h1, h2, h3.symm, h4.symm, h5⟩
  · rintro ⟨ta, tb, La, Lb, h1, h2, h3, h4, h5⟩
    exact ⟨⟨⟨⟨⟨ta, La, h1⟩, tb, Lb, h2⟩, h3.symm⟩, h4.symm⟩, h5⟩
theorem SV.pf {a b : St} {ta tb : List Nd} {La Lb : List Cm} (h1 : SV a ta La) (h2 : SV b tb Lb) (h3 : b.base = a.base) : PF a.base La Lb ta tb :=
  ⟨h1.tv, h1.co, h2.co, h1.l20, h2.l20, h1.apL, by rw [← h3]; exact h2.apL⟩
section
variable {a b x y : St} {ta tb : List Nd} {La Lb : List Cm} {B Ta Tb : List Nd}
theorem SR.run (h : SR a b x y ta tb La Lb B Ta Tb) : sRun a b = some (x, y) := by
  unfold sRun
  rw [if_pos ((meet_iff a b).2 ⟨ta, tb, La, Lb, h.sa, h.sb, h.eb, h.ee, h.lt⟩), h.sa.C, h.sb.C, h.pb, h.pa, h.pt, h.ex, h.ey]
theorem left_len (La Lb : List Cm) : (leftOf La Lb).length ≤ La.length := by
  unfold leftOf
  split
  · exact List.length_filter_le _ _
  · exact Nat.zero_le _
theorem SR.xs (h : SR a b x y ta tb La Lb B Ta Tb) : SV x Ta (leftOf La Lb) := by
  have h1 := h.sa.ep
  have h2 := h.lt
  have := left_len La Lb
  have := h.sa.l20
  rw [h.ex]
  exact SV.canon ⟨by simp only; omega, by simp only; omega⟩ (h.pf.base_ov h.pb).2 h.pf.left_co (by simp only; omega) (h.pf.left_apply h.pb h.pa)
end

end Go.Proofs.YtccifbbjbnjcfaaGreatDoor
/-
  Plain laws: a canonical log, by the two programs' own ways.
-/
namespace Go.Proofs.YtccifbbjbnjcfaaGreatDoor
open Go

/-! ### By first places -/
end Go.Proofs.YtccifbbjbnjcfaaGreatDoor
