/- A part of the proof of FnExactBookSteps: texts M11 M12 M13 M14 M15 Ty M16 M17 M18 K3 K4 M19 M20 M21 M22. -/
import Derived.Test.YtccifbbjbnjcfaaGreatDoorZt1
import Derived.Test.YtccifbbjbnjcfaaGreatDoorProg
import Derived.KernelRfl
import Derived.IntWalk
import Derived.Orders
set_option linter.unusedSimpArgs false
set_option linter.unusedVariables false
/-
  The abstract machine: a stack of code, run as far as it goes; what stands at a stop.
-/
namespace Go.Proofs.YtccifbbjbnjcfaaGreatDoor
open Go Go.RowKit

/-- An operation without what a run does not read; 'g': the slot of its guard. -/
structure SO where
  dst : Option Tmp
  op : Op
  type : TypeId
  g : Option (Option Tmp × Bool)
def SO.oper (o : SO) : Oper := ⟨o.dst, o.op, o.type, "", #[], none⟩

inductive It where
  | code (c : Code)
  | ops (l : List SO)
  | inBlock (id : Nat)
  | fin (K : AS → Prop)

/-- Where the machine stops. -/
inductive R where
  | ret (s : AS)
  | fall (s : AS)
  | fin (K : AS → Prop) (s : AS)
  | call (f : FuncId) (args : List AV) (dst : Option Tmp) (k : List It) (s : AS)
  | loop (c : Code) (k : List It) (s : AS)
  | draw (id : Nat) (ops : Array Oper) (k : List It) (s : AS)
  | chk (φ : Prop) (r : R)
  | more (k : List It) (s : AS)
  | stuck (k : List It) (s : AS)

section
variable (P : Program) (w0 : World) (lent : Lent) (Q : Exit → Act → World → Prop)

def gBool : Option Value → Option Bool
  | some (.bool b) => some b
  | _ => none
/-- Operations, one by one. -/
def wpSO (Q : Exit → Act → World → Prop) : List SO → Act → World → Prop
  | [], a, w => Q .normal a w
  | o :: rest, a, w => match o.g with
    | none => o.oper.wp P a w (wpSO Q rest) Q
    | some (d, want) => if (gBool (d.bind (a.tmps[·]?)) == some want) = true then o.oper.wp P a w (wpSO Q rest) Q else wpSO Q rest (a.put o.dst undef) w

/-- What the rest of the stack asks. -/
def Kt : List It → Exit → Act → World → Prop
  | [], e, a, w => Q e a w
  | .code c :: k, .normal, a, w => c.wp P (Kt k) a w
  | .ops l :: k, .normal, a, w => wpSO P (Kt k) l a w
  | .inBlock _ :: k, .normal, a, w => Kt k .normal a w
  | .inBlock id :: k, .exit j, a, w => if j = id then Kt k .normal a w else Kt k (.exit j) a w
  | .fin K :: _, .normal, a, w => ∃ s loc, K s ∧ Rel w0 lent s loc a w
  | _ :: k, e, a, w => Kt k e a w

/-- From this state on the stack runs well. -/
def AW (k : List It) (s : AS) : Prop := ∀ loc a w, Rel w0 lent s loc a w → Kt P w0 lent Q k .normal a w

def RWp : R → Prop
  | .ret s => ∀ loc a w, Rel w0 lent s loc a w → Q .ret a w
  | .fall s => ∀ loc a w, Rel w0 lent s loc a w → Q .normal a w
  | .fin K s => K s
  | .call f args dst k s => ∀ loc a w, Rel w0 lent s loc a w → ∀ vs : Array Value, vs.size = args.length → (∀ (j : Nat) x, args[j]? = some x → G s.h loc w x (vs.getD j undef)) →
      (callFunc f vs).run P w = .ok (.enter f vs) w ∧ Calls P f vs w fun e w' => ∃ v, e = .returned v ∧ Kt P w0 lent Q k .normal (a.put dst v) w'
  | .loop c k s => AW P w0 lent Q (.code (.loop c) :: k) s
  | .draw id ops k s => AW P w0 lent Q (.code (.region id ops true) :: k) s
  | .chk φ r => φ ∧ RWp r
  | .more k s => AW P w0 lent Q k s
  | .stuck _ _ => False
end

def exitTo' (id : Nat) : List It → Option (List It)
  | [] => none
  | .inBlock j :: k => if id = j then some k else exitTo' id k
  | _ :: k => exitTo' id k

def nthO : List Oper → Nat → Option Oper
  | [], _ => none
  | o :: _, 0 => some o
  | _ :: l, n + 1 => nthO l n
def cmpO (all : List Oper) (o : Oper) : SO := ⟨o.dst, o.op, o.type, match o.guard with | none => none | some (j, want) => some ((nthO all j).bind (·.dst), want)⟩
theorem nthO_eq : ∀ (l : List Oper) (n : Nat), nthO l n = l[n]?
  | [], n => by simp [nthO]
  | o :: l, 0 => by simp [nthO]
  | o :: l, n + 1 => by simp [nthO, nthO_eq l n]

/-- An append: what it asks, what it leaves. -/
def apR (P : Program) (s : AS) (dst : Option Tmp) (t : TypeId) (x y : AV) : Option (Prop × AS) :=
  match tyOf P t with
  | some ⟨_, _, .slice e, _⟩ => (match tyOf P e with
    | some te => if te.zero.length = te.size ∧ 0 < te.size ∧ 0 < te.bytes then (match x, dst with
        | .o r n, _ => (match hget s.h r, newsA s.h y with
          | some row, some (news, sz, c, _) => if row.E = e ∧ row.sz = te.size ∧ sz = te.size then
              if r < 500000 ∨ 600000 ≤ r then some ((n + news.length) * te.bytes ≤ 140737488355328, AS.put ⟨s.t.map (killA r), apH s.h r n row news c⟩ dst (.o r (n + news.length))) else none else none
          | _, _ => none)
        | .v (.slice none 0 0), some d => (match hget s.h d, newsA (hset s.h d ⟨e, te.size, [], true⟩) y with
          | none, some (news, sz, c, _) => if sz = te.size then
              if d < 500000 then some ((0 + news.length) * te.bytes ≤ 140737488355328, AS.put ⟨s.t.map (killA d), apH (hset s.h d ⟨e, te.size, [], true⟩) d 0 ⟨e, te.size, [], true⟩ news c⟩ dst (.o d (0 + news.length))) else none else none
          | _, _ => none)
        | _, _ => none) else none
    | none => none)
  | _ => none

/-- What an operation does that stores, appends or calls. -/
def effA (P : Program) (k : List It) (s : AS) (go : AS → R) (dst : Option Tmp) : Op → R
  | .store t x y => (match dst, stA P s.h t (evA s.t x) (evA s.t y) with
      | none, some h' => go ⟨s.t, h'⟩
      | _, _ => .stuck k s)
  | .call c => (match c.callee, c.args.toList, c.argTypes.toList with
      | .builtin .append, [x, y], [t, t'] => if t = t' then (match apR P s dst t (evA s.t x) (evA s.t y) with
        | some (φ, s') => .chk φ (go s')
        | none => .stuck k s) else .stuck k s
      | .value f, args, _ => (match evA s.t f with
        | .fn g caps => .call g (args.map (evA s.t) ++ caps) dst k s
        | .v (.func (.func g) fs cs) => .call g (fs.toList.map .v ++ (args.map (evA s.t) ++ cs.toList.map .v)) dst k s
        | _ => .stuck k s)
      | _, _, _ => .stuck k s)
  | _ => .stuck k s
/-- A new row under the name of its slot. -/
def layA (k : List It) (s : AS) (go : AS → R) (dst : Option Tmp) (row : Row) (x : Nat → AV) : R :=
  match dst with
  | some d => (match hget s.h d with
    | none => if d < 500000 then go ⟨setA s.t d (x d), hset s.h d row⟩ else .stuck k s
    | some _ => .stuck k s)
  | none => .stuck k s
def kPe (P : Program) (o : SO) (k : List It) (s : AS) (go : AS → R) : PeR → R
  | .val x => go (s.put o.dst x)
  | .newp row => layA k s go o.dst row fun d => .p d 0 0
  | .news row => layA k s go o.dst row fun d => .o d row.es.length
  | .nil row => layA k s go o.dst row fun d => .o d 0
  | .mks φ row => .chk φ (layA k s go o.dst row fun d => .o d row.es.length)
  | .no => effA P k s go o.dst o.op
/-- One operation that runs. -/
def op1 (P : Program) (o : SO) (k : List It) (s : AS) (go : AS → R) : R := kPe P o k s go (pe P s.h (evA s.t) o.oper)

/-- Two ways. -/
def br (go : List It → AS → R) (k1 : List It) (s1 : AS) (k2 : List It) (s2 : AS) : Bool → R
  | true => go k1 s1
  | false => go k2 s2
/-- Two ways, by a slot. -/
def gd (go : List It → AS → R) (k1 : List It) (s1 : AS) (k2 : List It) (s2 : AS) : AV → R
  | .v (.bool b) => br go k1 s1 k2 s2 b
  | _ => .stuck k1 s1
/-- Two ways, by a guard; one that has told nothing says no. -/
def gu (go : List It → AS → R) (k1 : List It) (s1 : AS) (k2 : List It) (s2 : AS) (k3 : List It) (s3 : AS) : AV → R
  | .v (.bool b) => br go k1 s1 k2 s2 b
  | .v (.tuple _) => go k3 s3
  | _ => .stuck k1 s1
/-- The stack, run. -/
def run (P : Program) : Nat → List It → AS → R
  | 0, k, s => .more k s
  | _ + 1, [], s => .fall s
  | n + 1, .code c :: k, s => (match c with
    | .skip => run P n k s
    | .seq a b => run P n (.code a :: .code b :: k) s
    | .region _ ops false => run P n (.ops (ops.toList.map (cmpO ops.toList)) :: k) s
    | .region id ops true => .draw id ops k s
    | .cond c a b => gd (run P n) (.code a :: k) s (.code b :: k) s (evA s.t c)
    | .block id c => run P n (.code c :: .inBlock id :: k) s
    | .loop c => .loop c k s
    | .exit id => (match exitTo' id k with
      | some k' => run P n k' s
      | none => .stuck k s)
    | .ret => .ret s
    | _ => .stuck k s)
  | n + 1, .inBlock _ :: k, s => run P n k s
  | _ + 1, .fin K :: _, s => .fin K s
  | n + 1, .ops [] :: k, s => run P n k s
  | n + 1, .ops (o :: l) :: k, s => (match o.g with
    | none => op1 P o (.ops l :: k) s (run P n (.ops l :: k))
    | some (some d, true) => gu (run P n) (.ops (⟨o.dst, o.op, o.type, none⟩ :: l) :: k) s (.ops l :: k) (s.put o.dst (.v undef)) (.ops l :: k) (s.put o.dst (.v undef)) (getA s.t d)
    | some (some d, false) => gu (run P n) (.ops l :: k) (s.put o.dst (.v undef)) (.ops (⟨o.dst, o.op, o.type, none⟩ :: l) :: k) s (.ops l :: k) (s.put o.dst (.v undef)) (getA s.t d)
    | some (none, _) => .stuck k s)
section
variable {P : Program} {w0 : World} {lent : Lent} {Q : Exit → Act → World → Prop}

theorem AW.seq {x y : Code} {k : List It} {s : AS} (h : AW P w0 lent Q (.code x :: .code y :: k) s) : AW P w0 lent Q (.code (.seq x y) :: k) s := by
  intro loc a w hR
  refine wp_seq (wp_mono (h loc a w hR) fun e a w hk => ?_)
  cases e <;> exact hk
theorem AW.block {id : Nat} {c : Code} {k : List It} {s : AS} (h : AW P w0 lent Q (.code c :: .inBlock id :: k) s) : AW P w0 lent Q (.code (.block id c) :: k) s := by
  intro loc a w hR
  refine wp_block (wp_mono (h loc a w hR) fun e a w hk => ?_)
  cases e <;> exact hk
theorem AW.exit {id : Nat} : ∀ {k k' : List It} {s : AS}, exitTo' id k = some k' → AW P w0 lent Q k' s → AW P w0 lent Q (.code (.exit id) :: k) s := by
  intro k
  have key : ∀ (k k' : List It), exitTo' id k = some k' → ∀ a w, Kt P w0 lent Q k' .normal a w → Kt P w0 lent Q k (.exit id) a w := by
    intro k
    induction k with
    | nil => intro k' h; cases h
    | cons x k ih =>
      intro k' h a w hk
      cases x with
      | inBlock j =>
        simp only [exitTo'] at h
        simp only [Kt]
        split at h
        · rename_i hj
          cases h
          rw [if_pos hj]; exact hk
        · rename_i hj
          rw [if_neg hj]; exact ih k' h a w hk
      | code c => exact ih k' h a w hk
      | ops l => exact ih k' h a w hk
      | fin K => exact ih k' h a w hk
  intro k' s h hk loc a w hR
  exact wp_exit (key k k' h a w (hk loc a w hR))

theorem oper_wp (o : Oper) (all : List Oper) : (cmpO all o).oper.wp P = o.wp P := by
  obtain ⟨dst, op, type, pos, after, guard⟩ := o
  funext a w next Q
  simp only [Oper.wp, cmpO, SO.oper]
  rfl

theorem wpSO_list {Q : Exit → Act → World → Prop} (all : List Oper) : ∀ (l : List Oper) (a : Act) (w : World), wpSO P Q (l.map (cmpO all)) a w → wpList P all.toArray Q l a w
  | [], a, w, h => h
  | o :: l, a, w, h => by
    have ih := wpSO_list (Q := Q) all l
    simp only [List.map_cons, wpSO] at h
    rw [oper_wp] at h
    simp only [wpList]
    cases hg : o.guard with
    | none =>
      simp only [cmpO, hg] at h
      simp only [Region.wanted, hg, if_true]
      exact .inl (Oper.wp_mono ih h)
    | some jw =>
      obtain ⟨j, want⟩ := jw
      simp only [cmpO, hg, nthO_eq] at h
      have hy : yielded all.toArray a.tmps j = gBool (((all[j]?).bind (·.dst)).bind (a.tmps[·]?)) := by
        unfold yielded
        rw [List.getElem?_toArray]
        generalize ((all[j]?).bind (·.dst)).bind (a.tmps[·]?) = x
        rcases x with _ | v
        · rfl
        · cases v <;> rfl
      simp only [Region.wanted, hg, hy]
      by_cases hw : (gBool (((all[j]?).bind (·.dst)).bind (a.tmps[·]?)) == some want) = true
      · rw [if_pos hw] at h ⊢
        exact .inl (Oper.wp_mono ih h)
      · rw [if_neg hw] at h ⊢
        exact ih _ _ h

theorem evA_args {s : AS} {loc : Loc} {a : Act} {w : World} (hR : Rel w0 lent s loc a w) (args : List Operand) (caps : List AV) (cs : Array Value) (hs : cs.size = caps.length) (hg : ∀ (j : Nat) x, caps[j]? = some x → G s.h loc w x (cs.getD j undef)) :
    ((args.map a.eval).toArray ++ cs).size = (args.map (evA s.t) ++ caps).length ∧ ∀ (j : Nat) x, (args.map (evA s.t) ++ caps)[j]? = some x → G s.h loc w x (((args.map a.eval).toArray ++ cs).getD j undef) := by
  refine ⟨by simp [hs], fun j x hx => ?_⟩
  rw [Array.getD_eq_getD_getElem?, Array.getElem?_append]
  by_cases hj : j < args.length
  · rw [List.getElem?_append_left (by simpa using hj), List.getElem?_map, Option.map_eq_some_iff] at hx
    obtain ⟨y, hy, rfl⟩ := hx
    rw [if_pos (by simpa using hj)]
    simp only [List.getElem?_toArray, List.getElem?_map, hy, Option.map_some, Option.getD_some]
    exact evA_ok hR y
  · rw [List.getElem?_append_right (by simp; omega)] at hx
    rw [if_neg (by simpa using hj)]
    have := hg _ x hx
    simpa [Array.getD_eq_getD_getElem?] using this

theorem evA_args2 {s : AS} {loc : Loc} {a : Act} {w : World} (hR : Rel w0 lent s loc a w) (args : List Operand) (fs cs : Array Value) :
    (fs ++ ((args.map a.eval).toArray ++ cs)).size = (fs.toList.map AV.v ++ (args.map (evA s.t) ++ cs.toList.map AV.v)).length ∧
      ∀ (j : Nat) x, (fs.toList.map AV.v ++ (args.map (evA s.t) ++ cs.toList.map AV.v))[j]? = some x → G s.h loc w x ((fs ++ ((args.map a.eval).toArray ++ cs)).getD j undef) := by
  obtain ⟨h1, h2⟩ := evA_args hR args (cs.toList.map AV.v) cs (by simp) fun j x hx => by
    rw [List.getElem?_map, Option.map_eq_some_iff] at hx
    obtain ⟨y, hy, rfl⟩ := hx
    rw [Array.getD_eq_getD_getElem?, ← Array.getElem?_toList, hy]
    exact .cl .v
  refine ⟨by rw [Array.size_append, h1]; simp, fun j x hx => ?_⟩
  rw [Array.getD_eq_getD_getElem?, Array.getElem?_append]
  by_cases hj : j < fs.size
  · rw [List.getElem?_append_left (by simpa using hj), List.getElem?_map, Option.map_eq_some_iff] at hx
    obtain ⟨y, hy, rfl⟩ := hx
    rw [if_pos hj, ← Array.getElem?_toList, hy]
    exact .cl .v
  · rw [List.getElem?_append_right (by simp; omega)] at hx
    rw [if_neg hj]
    have := h2 _ x hx
    simpa [Array.getD_eq_getD_getElem?] using this
theorem op1_sound {o : SO} {l : List SO} {k kk : List It} {s : AS} {go : AS → R} (hgo : ∀ s', RWp P w0 lent Q (go s') → AW P w0 lent Q (.ops l :: k) s')
    (hkk : kk = .ops l :: k) (h : RWp P w0 lent Q (op1 P o kk s go)) : ∀ loc a w, Rel w0 lent s loc a w → o.oper.wp P a w (wpSO P (Kt P w0 lent Q k) l) (Kt P w0 lent Q k) := by
  subst hkk
  intro loc a w hR
  have hp := pe_ok (P := P) (h := s.h) (loc := loc) (w := w) (ρ := evA s.t) (ev := a.eval) (o := o.oper) (fun y _ => evA_ok hR y) hR.rw
  unfold op1 kPe at h
  unfold Oper.wp
  cases hpe : pe P s.h (evA s.t) o.oper with
  | val x =>
    rw [hpe] at h hp
    obtain ⟨u, hr, hu⟩ := hp
    rw [hr]
    exact hgo _ h loc _ w (hR.put o.dst hu)
  | newp row =>
    rw [hpe] at h hp
    simp only [layA] at h
    split at h
    · rename_i d hd
      split at h
      · rename_i hh
        split at h
        case isFalse => exact h.elim
        rename_i hd5
        obtain ⟨cs, hr, hn, hl⟩ := hp
        rw [hr]
        obtain ⟨g1, g2, g3⟩ := hR.lay d row cs hh hn (by rw [hl]; unfold maxLen; omega) (pin_lo hR (.inl hd5))
        refine hgo _ h (locSet loc d (some (w.heap.size, row.es.length))) _ _ ?_
        rw [show o.oper.dst = o.dst from rfl, hd]
        have := G.p (h := hset s.h d row) (loc := locSet loc d (some (w.heap.size, row.es.length))) (w := w.alloc (.cells cs row.E)) (k := 0) (off := 0) g2 g3
        simp only [Nat.zero_mul, Nat.add_zero] at this
        exact g1.put (some d) this
      · exact h.elim
    · exact h.elim
  | news row =>
    rw [hpe] at h hp
    simp only [layA] at h
    split at h
    · rename_i d hd
      split at h
      · rename_i hh
        split at h
        case isFalse => exact h.elim
        rename_i hd5
        obtain ⟨cs, hr, hn, hl⟩ := hp
        rw [hr]
        obtain ⟨g1, g2, g3⟩ := hR.lay d row cs hh hn hl (pin_lo hR (.inl hd5))
        refine hgo _ h (locSet loc d (some (w.heap.size, row.es.length))) _ _ ?_
        rw [show o.oper.dst = o.dst from rfl, hd]
        exact g1.put (some d) (.o g2 g3 (Nat.le_refl _))
      · exact h.elim
    · exact h.elim
  | nil row =>
    rw [hpe] at h hp
    simp only [layA] at h
    split at h
    · rename_i d hd
      split at h
      · rename_i hh
        split at h
        case isFalse => exact h.elim
        rename_i hd5
        obtain ⟨hr, he⟩ := hp
        rw [hr]
        obtain ⟨g1, g2, g3⟩ := hR.layNil d row hh he (pin_lo hR (.inl hd5))
        refine hgo _ h (locSet loc d none) _ _ ?_
        rw [show o.oper.dst = o.dst from rfl, hd]
        exact g1.put (some d) (.onil g2 g3)
      · exact h.elim
    · exact h.elim
  | mks φ row =>
    rw [hpe] at h hp
    obtain ⟨hφ, h⟩ := h
    simp only [layA] at h
    split at h
    · rename_i d hd
      split at h
      · rename_i hh
        split at h
        case isFalse => exact h.elim
        rename_i hd5
        obtain ⟨cs, hr, hn, hl⟩ := hp hφ
        rw [hr]
        obtain ⟨g1, g2, g3⟩ := hR.lay d row cs hh hn hl (pin_lo hR (.inl hd5))
        refine hgo _ h (locSet loc d (some (w.heap.size, row.es.length))) _ _ ?_
        rw [show o.oper.dst = o.dst from rfl, hd]
        exact g1.put (some d) (.o g2 g3 (Nat.le_refl _))
      · exact h.elim
    · exact h.elim
  | no =>
    rw [hpe] at h
    clear hp
    simp only at h
    unfold effA at h
    split at h
    · rename_i t x y hop
      split at h
      · rename_i h' hdst hst
        obtain ⟨w', hr, hR'⟩ := stA_ok hR (evA_ok hR x) (evA_ok hR y) hst
        have : (execOp a.eval o.oper).run P w = .ok .skip w' := by simp [execOp, SO.oper, hop, hr]
        rw [this]
        show wpSO _ _ _ (a.put o.dst undef) w'
        rw [hdst]
        exact hgo _ h _ _ _ hR'
      · exact h.elim
    · rename_i c hop
      obtain ⟨callee, args, ats⟩ := c
      obtain ⟨args⟩ := args
      obtain ⟨ats⟩ := ats
      simp only at h
      split at h
      · rename_i x y t t'
        split at h
        · rename_i htt
          subst htt
          have hrun : ∀ v w', (Builtin.append_ #[t, t] o.type #[a.eval x, a.eval y]).run P w = .ok v w' → (execOp a.eval o.oper).run P w = .ok (.value v) w' := fun v w' hv => by
            simp [execOp, SO.oper, hop, resolve, invoke, builtin, hv]
          split at h
          · rename_i φ s' hap
            obtain ⟨hφ, hk⟩ := h
            unfold apR at hap
            split at hap
            · rename_i e z ht
              split at hap
              · rename_i te hte
                split at hap
                · rename_i hz
                  obtain ⟨hz1, hz2, hz3⟩ := hz
                  split at hap
                  · rename_i r n hx
                    split at hap
                    · rename_i row news sz c r2 hrow hnews
                      split at hap
                      · rename_i hsz
                        obtain ⟨hs1, hs2, hs3⟩ := hsz
                        subst hs3
                        split at hap
                        case isFalse => cases hap
                        rename_i hr5
                        cases hap
                        have hu := evA_ok hR x
                        rw [hx] at hu
                        have hmx : n + news.length ≤ maxLen := by
                          have : (n + news.length) * 1 ≤ (n + news.length) * te.bytes := Nat.mul_le_mul_left _ hz3
                          unfold maxLen; omega
                        obtain ⟨v', w', loc', hr, hR', hv⟩ := append_ok (P := P) (ty := o.type) hR ht rfl hte hz1 hz2 hrow hs1 hs2 hu (evA_ok hR y) hnews hφ hmx (pin_lo hR hr5)
                        rw [hrun v' w' hr]
                        exact hgo _ hk loc' _ w' (hR'.put o.dst hv)
                      · cases hap
                    · cases hap
                  · rename_i d hx hdd
                    split at hap
                    · rename_i news sz c r2 hh hnews
                      split at hap
                      · rename_i hsz
                        subst hsz
                        split at hap
                        case isFalse => cases hap
                        rename_i hd5
                        cases hap
                        have hu := evA_ok hR x
                        rw [hx] at hu
                        obtain ⟨g1, g2, g3⟩ := hR.layNil d ⟨e, te.size, [], true⟩ hh rfl (pin_lo hR (.inl hd5))
                        have hmx : 0 + news.length ≤ maxLen := by
                          have : (0 + news.length) * 1 ≤ (0 + news.length) * te.bytes := Nat.mul_le_mul_left _ hz3
                          unfold maxLen; omega
                        have hux : a.eval x = .slice none 0 0 := hu.v_inv
                        have hG1 : G (hset s.h d ⟨e, te.size, [], true⟩) (locSet loc d none) w (.o d 0) (a.eval x) := by rw [hux]; exact .onil g2 g3
                        obtain ⟨v', w', loc', hr, hR', hv⟩ := append_ok (P := P) (ty := o.type) g1 ht rfl hte hz1 hz2 g2 rfl rfl hG1 (evA_ok g1 y) hnews hφ hmx (pin_lo hR (.inl hd5))
                        rw [hrun v' w' hr]
                        refine hgo _ hk loc' _ w' ?_
                        rw [show o.oper.dst = o.dst from rfl, hdd]
                        exact hR'.put (some d) hv
                      · cases hap
                    · cases hap
                  · cases hap
                · cases hap
              · cases hap
            · cases hap
          · exact h.elim
        · exact h.elim
      · rename_i f
        split at h
        · rename_i g caps hf
          have hff := evA_ok hR f
          rw [hf] at hff
          obtain ⟨cs, hv, hs, hgc⟩ := hff.fn_inv
          obtain ⟨h1, h2⟩ := evA_args hR args caps cs hs hgc
          obtain ⟨hcf, hcalls⟩ := h loc a w hR _ h1 h2
          have : (execOp a.eval o.oper).run P w = .ok (.enter g ((args.map a.eval).toArray ++ cs)) w := by
            simp only [execOp, SO.oper, hop, resolve, hv, Deferred.ofValue, Sem.run_bind, Sem.run_pure, Result.andThen_ok, invoke, Array.empty_append, List.map_toArray]
            exact hcf
          rw [this]
          refine Calls.mono hcalls fun e w' he => ?_
          obtain ⟨v, rfl, hk⟩ := he
          exact hk
        · rename_i g fs cs hf
          have hv := evA_ok hR f
          rw [hf] at hv
          have hv := hv.v_inv
          obtain ⟨h1, h2⟩ := evA_args2 hR args fs cs
          obtain ⟨hcf, hcalls⟩ := h loc a w hR _ h1 h2
          have : (execOp a.eval o.oper).run P w = .ok (.enter g (fs ++ ((args.map a.eval).toArray ++ cs))) w := by
            simp only [execOp, SO.oper, hop, resolve, hv, Deferred.ofValue, Sem.run_bind, Sem.run_pure, Result.andThen_ok, invoke, List.map_toArray, Array.append_assoc]
            exact hcf
          rw [this]
          refine Calls.mono hcalls fun e w' he => ?_
          obtain ⟨v, rfl, hk⟩ := he
          exact hk
        · exact h.elim
      · exact h.elim
    · exact h.elim
end

end Go.Proofs.YtccifbbjbnjcfaaGreatDoor
/-
  The abstract machine: what its stops mean; loops; branches; the end.
-/
namespace Go.Proofs.YtccifbbjbnjcfaaGreatDoor
open Go Go.RowKit

section
variable {P : Program} {w0 : World} {lent : Lent} {Q : Exit → Act → World → Prop}

theorem guard_val {s : AS} {loc : Loc} {a : Act} {w : World} (hR : Rel w0 lent s loc a w) {d : Nat} {b : Bool} (hb : getA s.t d = .v (.bool b)) : a.tmps[d]? = some (.bool b) := by
  have h1 := evA_ok hR (.tmp d)
  simp only [evA, hb, Act.eval] at h1
  have h2 := h1.v_inv
  rw [Array.getD_eq_getD_getElem?] at h2
  cases ht : a.tmps[d]? with
  | none => rw [ht] at h2; simp [undef] at h2
  | some v => rw [ht] at h2; simp at h2; rw [h2]

theorem at_br {go : List It → AS → R} {k1 k2 : List It} {s1 s2 : AS} {b : Bool} (h : RWp P w0 lent Q (br go k1 s1 k2 s2 b)) : (b = true → RWp P w0 lent Q (go k1 s1)) ∧ (b = false → RWp P w0 lent Q (go k2 s2)) := by
  cases b
  · exact ⟨fun e => (by cases e), fun _ => h⟩
  · exact ⟨fun _ => h, fun e => (by cases e)⟩
theorem at_gd {go : List It → AS → R} {k1 k2 : List It} {s1 s2 : AS} {v : AV} (h : RWp P w0 lent Q (gd go k1 s1 k2 s2 v)) : ∃ b, v = .v (.bool b) ∧ (b = true → RWp P w0 lent Q (go k1 s1)) ∧ (b = false → RWp P w0 lent Q (go k2 s2)) := by
  unfold gd at h
  split at h
  · exact ⟨_, rfl, at_br h⟩
  · exact h.elim

theorem at_gu {go : List It → AS → R} {k1 k2 k3 : List It} {s1 s2 s3 : AS} {v : AV} (h : RWp P w0 lent Q (gu go k1 s1 k2 s2 k3 s3 v)) : (∃ b, v = .v (.bool b) ∧ (b = true → RWp P w0 lent Q (go k1 s1)) ∧ (b = false → RWp P w0 lent Q (go k2 s2))) ∨ ∃ t, v = .v (.tuple t) ∧ RWp P w0 lent Q (go k3 s3) := by
  unfold gu at h
  split at h
  · exact .inl ⟨_, rfl, at_br h⟩
  · exact .inr ⟨_, rfl, h⟩
  · exact h.elim
theorem guard_tup {s : AS} {loc : Loc} {a : Act} {w : World} (hR : Rel w0 lent s loc a w) {d : Nat} {t : Array Value} (hb : getA s.t d = .v (.tuple t)) : gBool a.tmps[d]? = none := by
  have h1 := evA_ok hR (.tmp d)
  simp only [evA, hb, Act.eval] at h1
  have h2 := h1.v_inv
  rw [Array.getD_eq_getD_getElem?] at h2
  cases ht : a.tmps[d]? with
  | none => rfl
  | some v => rw [ht] at h2; simp at h2; rw [h2]; rfl

theorem run_sound : ∀ (n : Nat) (k : List It) (s : AS), RWp P w0 lent Q (run P n k s) → AW P w0 lent Q k s
  | 0, k, s, h => h
  | n + 1, [], s, h => h
  | n + 1, .code c :: k, s, h => by
    cases c with
    | skip => exact fun loc a w hR => wp_skip (run_sound n k s h loc a w hR)
    | seq a b => exact AW.seq (run_sound n _ s h)
    | region id ops dr =>
      cases dr with
      | false =>
        exact fun loc a w hR => wp_region_list (by
          have := wpSO_list ops.toList ops.toList a w (run_sound n (.ops (ops.toList.map (cmpO ops.toList)) :: k) s h loc a w hR)
          rwa [Array.toArray_toList] at this)
      | true => exact h
    | cond c x y =>
      obtain ⟨t, ht, h⟩ := at_gd h
      intro loc a w hR
      have h1 := evA_ok hR c
      rw [ht] at h1
      exact wp_cond_split h1.v_inv (fun e => run_sound n _ s (h.1 e) loc a w hR) (fun e => run_sound n _ s (h.2 e) loc a w hR)
    | block id c => exact AW.block (run_sound n _ s h)
    | loop c => exact h
    | exit id =>
      simp only [run] at h
      split at h
      · rename_i k' hk
        exact AW.exit hk (run_sound n _ s h)
      · exact h.elim
    | ret =>
      have key : ∀ (k : List It) a w, Q .ret a w → Kt P w0 lent Q k .ret a w := by
        intro k
        induction k with
        | nil => exact fun a w h => h
        | cons x k ih => intro a w h; cases x <;> exact ih a w h
      exact fun loc a w hR => wp_ret (key k a w (h loc a w hR))
    | _ => exact h.elim
  | n + 1, .inBlock id :: k, s, h => fun loc a w hR => run_sound n k s h loc a w hR
  | n + 1, .fin K :: k, s, h => fun loc a w hR => ⟨s, loc, h, hR⟩
  | n + 1, .ops [] :: k, s, h => fun loc a w hR => run_sound n k s h loc a w hR
  | n + 1, .ops (o :: l) :: k, s, h => by
    intro loc a w hR
    show wpSO P (Kt P w0 lent Q k) (o :: l) a w
    simp only [run] at h
    simp only [wpSO]
    split at h
    · rename_i hg
      rw [hg]
      exact op1_sound (fun s' hs => run_sound n _ s' hs) rfl h loc a w hR
    · rename_i d hg
      rcases at_gu h with ⟨b, hb, h⟩ | ⟨t, hb, h⟩
      case inr =>
        have hv := guard_tup hR hb
        rw [hg]
        simp only [Option.bind_some, hv]
        rw [if_neg (by simp)]
        exact run_sound n _ _ h loc _ w (hR.put o.dst (u := undef) (.cl .v))
      have hv := guard_val hR hb
      rw [hg]
      simp only [Option.bind_some, hv, gBool]
      cases b
      · rw [if_neg (by simp)]
        exact run_sound n _ _ (h.2 rfl) loc _ w (hR.put o.dst (u := undef) (.cl .v))
      · rw [if_pos (by simp)]
        have := run_sound n _ s (h.1 rfl) loc a w hR
        exact this
    · rename_i d hg
      rcases at_gu h with ⟨b, hb, h⟩ | ⟨t, hb, h⟩
      case inr =>
        have hv := guard_tup hR hb
        rw [hg]
        simp only [Option.bind_some, hv]
        rw [if_neg (by simp)]
        exact run_sound n _ _ h loc _ w (hR.put o.dst (u := undef) (.cl .v))
      have hv := guard_val hR hb
      rw [hg]
      simp only [Option.bind_some, hv, gBool]
      cases b
      · rw [if_pos (by simp)]
        have := run_sound n _ s (h.2 rfl) loc a w hR
        exact this
      · rw [if_neg (by simp)]
        exact run_sound n _ _ (h.1 rfl) loc _ w (hR.put o.dst (u := undef) (.cl .v))
    · exact h.elim

/-- One state stands for all that another one stands for. -/
def Wk (s s' : AS) : Prop := ∀ (w0 : World) (lent : Lent) loc a w, Rel w0 lent s loc a w → ∃ loc', Rel w0 lent s' loc' a w

theorem Wk.refl (s : AS) : Wk s s := fun _ _ loc _ _ h => ⟨loc, h⟩

theorem AW.wk {k : List It} {s s' : AS} (h : Wk s s') (h' : AW P w0 lent Q k s') : AW P w0 lent Q k s := fun loc a w hR => by
  obtain ⟨loc', hR'⟩ := h w0 lent loc a w hR
  exact h' loc' a w hR'

theorem loop_rule {c : Code} {k : List It} {s : AS} {X : Type} (S : X → AS) (J : X → Prop) (μ : X → Nat) (x0 : X) (hj : J x0) (h0 : Wk s (S x0))
    (hr : ∀ x, J x → AW P w0 lent Q (.code c :: .fin (fun s' => ∃ y, J y ∧ μ y < μ x ∧ Wk s' (S y)) :: k) (S x)) : RWp P w0 lent Q (.loop c k s) := by
  intro loc a w hR
  obtain ⟨loc0, hR0⟩ := h0 w0 lent loc a w hR
  have least : ∀ p : Nat → Prop, (∃ n, p n) → ∃ n, p n ∧ ∀ m, p m → n ≤ m := by
    intro p ⟨n, hn⟩
    induction n using Nat.strongRecOn with
    | _ n ih =>
      by_cases h : ∃ m, m < n ∧ p m
      · obtain ⟨m, h1, h2⟩ := h
        exact ih m h1 h2
      · exact ⟨n, hn, fun m hm => by
          rcases Nat.lt_or_ge m n with h1 | h1
          · exact absurd ⟨m, h1, hm⟩ h
          · exact h1⟩
  classical
  let p : Act → World → Nat → Prop := fun a w n => ∃ x loc, J x ∧ Rel w0 lent (S x) loc a w ∧ μ x = n
  let m : Act → World → Nat := fun a w => if h : ∃ n, p a w n then Classical.choose (least _ h) else 0
  have hm : ∀ a w n, p a w n → p a w (m a w) ∧ m a w ≤ n := by
    intro a w n hn
    have h : ∃ n, p a w n := ⟨n, hn⟩
    have hc := Classical.choose_spec (least _ h)
    simp only [m, dif_pos h]
    exact ⟨hc.1, hc.2 n hn⟩
  refine wp_loop (fun a w => ∃ n, p a w n) m ⟨μ x0, x0, loc0, hj, hR0, rfl⟩ fun a w ⟨n, hn⟩ => ?_
  obtain ⟨⟨x, loc, hx, hR, hmx⟩, _⟩ := hm a w n hn
  refine wp_mono (hr x hx loc a w hR) fun e a' w' hk => ?_
  cases e with
  | normal =>
    obtain ⟨s', loc1, ⟨y, hy, hlt, hwk⟩, hR1⟩ := hk
    obtain ⟨loc2, hR2⟩ := hwk w0 lent loc1 a' w' hR1
    have h1 : p a' w' (μ y) := ⟨y, loc2, hy, hR2, rfl⟩
    exact ⟨⟨_, h1⟩, by have := (hm a' w' _ h1).2; omega⟩
  | _ => exact hk
end

end Go.Proofs.YtccifbbjbnjcfaaGreatDoor
/-
  The abstract machine: contracts; a call; the entry; the return.
-/
namespace Go.Proofs.YtccifbbjbnjcfaaGreatDoor
open Go Go.RowKit

/-- Rows by their places. -/
def hpOf (n : Nat) : List Row → Hp
  | [] => []
  | r :: l => (n, r) :: hpOf (n + 1) l
theorem hget_hpOf : ∀ (l : List Row) (n q : Nat), hget (hpOf n l) q = if n ≤ q then l[q - n]? else none
  | [], n, q => by simp [hpOf, hget]
  | r :: l, n, q => by
    simp only [hpOf, hget, hget_hpOf l (n + 1) q]
    by_cases h : n = q
    · subst h; simp
    · rw [if_neg h]
      by_cases h1 : n ≤ q
      · rw [if_pos h1, if_pos (by omega), show q - n = (q - (n + 1)) + 1 from by omega, List.getElem?_cons_succ]
      · rw [if_neg h1, if_neg (by omega)]

/-- What a call leaves: a value and new rows. -/
def Res (fb : Nat → Prop) (base : Nat) (w' : World) (rows : List Row) (rv : AV) (v : Value) : Prop :=
  ∃ loc : Loc, loc.fb = fb ∧ G (hpOf 0 rows) loc w' rv v ∧ (∀ r row, hget (hpOf 0 rows) r = some row → row.cl = true ∧ RowOk (hpOf 0 rows) loc w' r row) ∧
    (∀ r r' row row' b c c', hget (hpOf 0 rows) r = some row → hget (hpOf 0 rows) r' = some row' → loc r = some (b, c) → loc r' = some (b, c') → r = r') ∧
    ∀ r row b c, hget (hpOf 0 rows) r = some row → loc r = some (b, c) → base ≤ b

/-- A contract: called with these data the function returns what D allows; nothing that was there turns. -/
def PC (P : Program) (f : FuncId) (args : List AV) (D : AV → List Row → Prop) : Prop :=
  (∀ (vs : Array Value) (W : World), (callFunc f vs).run P W = .ok (.enter f vs) W) ∧
  ∀ (w : World) (fb : Nat → Prop) (vs : Array Value), (∀ b, fb b → b < w.heap.size) → vs.size = args.length → (∀ (j : Nat) x, args[j]? = some x → C fb 0 w x (vs.getD j undef)) →
    Calls P f vs w fun e w' => ∃ rv rows v, D rv rows ∧ e = .returned v ∧ Below w.heap.size w w' ∧ Res fb w.heap.size w' rows rv v

theorem PC.mono {P : Program} {f : FuncId} {args : List AV} {D D' : AV → List Row → Prop} (h : PC P f args D) (hd : ∀ rv rows, D rv rows → D' rv rows) : PC P f args D' :=
  ⟨h.1, fun w fb vs h1 h2 h3 => (h.2 w fb vs h1 h2 h3).mono fun _ _ ⟨rv, rows, v, h4, h5⟩ => ⟨rv, rows, v, hd _ _ h4, h5⟩⟩

/-- A value as the callee reads it. -/
def tk (es : List (List AV)) (n : Nat) : List (List AV) := if n = es.length then es else es.take n
def viewN : Nat → Hp → AV → AV
  | 0, _, x => if isC x then x else .any
  | d + 1, h, x =>
    match x with
    | .o r n => (match hget h r with
      | some row => if row.cl then .sl row.sz (tk row.es n) else .sl row.sz ((tk row.es n).map fun e => e.map (viewN d h))
      | none => .any)
    | .p r k off => (match hget h r with
      | some row => (match row.es[k]? with
        | some e => if row.cl then .ip (e.drop off) else .ip ((e.drop off).map (viewN d h))
        | none => .any)
      | none => .any)
    | .q _ _ _ _ => .any
    | .fn f caps => .fn f (caps.map (viewN d h))
    | .agg cs => .agg (cs.map (viewN d h))
    | .tup cs => .tup (cs.map (viewN d h))
    | x => x

theorem tk_eq (es : List (List AV)) (n : Nat) : tk es n = es.take n := by
  unfold tk
  split
  · rename_i e; rw [e, List.take_length]
  · rfl

section
variable {w0 : World} {lent : Lent} {s : AS} {loc : Loc} {a : Act} {w : World}

theorem vals_of_row {h : Hp} {b c : Nat} {row : Row} {r : Nat} (hrk : RowOk h loc w r row) (hl : loc r = some (b, c)) :
    ∃ u : Nat → Nat → Value, ∀ (k : Nat) e (j : Nat) x, row.es[k]? = some e → e[j]? = some x → w.cell? ⟨b, k * row.sz + j, none⟩ = some (u k j) ∧ (u k j).oneCell' = true ∧ G h loc w x (u k j) ∧ (row.cl = true → C (Live h loc) 0 w x (u k j)) := by
  obtain ⟨hlen, hn, hm, cur, hh, hs, hcells⟩ := hrk.open hl
  refine ⟨fun k j => (cur[k * row.sz + j]?).getD undef, fun k e j x he hx => ?_⟩
  obtain ⟨v, q1, q2, q3, q4⟩ := hcells k e j x he hx
  refine ⟨?_, ?_, ?_, fun hc => ?_⟩
  · simp [World.cell?, hh, q1]
  · simp only [q1, Option.getD_some]; exact q2
  · simp only [q1, Option.getD_some]; exact q3
  · simp only [q1, Option.getD_some]; exact q4 hc

theorem C.fbOf {x : AV} {u : Value} (h : C (Live s.h loc) 0 w x u) : C loc.fb 0 w x u :=
  h.mono (Nat.le_refl _) (Nat.le_refl _) fun _ _ _ hnl => ⟨fun hf => hnl (.inr hf), rfl⟩

theorem view_ok (hR : Rel w0 lent s loc a w) : ∀ (d : Nat) (x : AV) (u : Value), G s.h loc w x u → C loc.fb 0 w (viewN d s.h x) u
  | 0, x, u, h => by
    simp only [viewN]
    split
    · rename_i hc; exact (isC_ok h hc).fbOf
    · exact .any
  | d + 1, x, u, h => by
    have hnf : ∀ r row b c, hget s.h r = some row → loc r = some (b, c) → ¬ loc.fb b := fun r row b c h1 h2 hf => by
      rw [hR.fbe] at hf
      obtain ⟨h3, h4⟩ := hR.fbl b hf
      rcases hR.own r row b c h1 h2 with h5 | h5
      · omega
      · exact h4 h5
    have hmap : ∀ (cs : List AV) (vs : Array Value), vs.size = cs.length → (∀ (j : Nat) a, cs[j]? = some a → G s.h loc w a (vs.getD j undef)) →
        vs.size = (cs.map (viewN d s.h)).length ∧ ∀ (j : Nat) a, (cs.map (viewN d s.h))[j]? = some a → C loc.fb 0 w a (vs.getD j undef) := fun cs vs hs hg => by
      refine ⟨by simpa using hs, fun j a ha => ?_⟩
      rw [List.getElem?_map, Option.map_eq_some_iff] at ha
      obtain ⟨y, hy, rfl⟩ := ha
      exact view_ok hR d y _ (hg j y hy)
    cases x with
    | any => exact .any
    | v y => simp only [viewN]; exact (isC_ok h rfl).fbOf
    | sl sz es => simp only [viewN]; exact (isC_ok h rfl).fbOf
    | ip cs => simp only [viewN]; exact (isC_ok h rfl).fbOf
    | o r n =>
      simp only [viewN]
      cases h with
      | cl hc => cases hc
      | @o _ _ row b c hr hl hn =>
        rw [hr]
        simp only
        obtain ⟨u, hu⟩ := vals_of_row (hR.rw r row hr) hl
        obtain ⟨hlen, hnc, hm, cur, hh, hs, hcells⟩ := (hR.rw r row hr).open hl
        have hb := Live.lt hR.rw ⟨r, row, c, hr, hl⟩
        rw [tk_eq]
        have hlt : (row.es.take n).length = n := by simp; omega
        -- the flat list of values
        have hrd : Rd w 0 row.sz (some ⟨b, 0, none⟩) n (cur.toList.take (n * row.sz)) := by
          refine ⟨?_, fun hn0 => ⟨b, 0, rfl, Nat.zero_le _, hb, fun j v hv => ?_⟩⟩
          · rw [List.length_take, Array.length_toList, hs]
            have := Nat.mul_le_mul_right row.sz (show n ≤ c by omega)
            omega
          · rw [List.getElem?_take] at hv
            split at hv
            · simpa [World.cell?, hh] using hv
            · cases hv
        have hxx : ∀ (k : Nat) e (j : Nat), (row.es.take n)[k]? = some e → j < e.length → (cur.toList.take (n * row.sz))[k * row.sz + j]? = some (u k j) ∧ (u k j).oneCell' = true := by
          intro k e j he hj
          rw [List.getElem?_take] at he
          split at he
          · rename_i hk
            obtain ⟨g1, g2, _⟩ := hu k e j _ he (List.getElem?_eq_getElem hj)
            refine ⟨?_, g2⟩
            rw [hlen k e he] at hj
            rw [List.getElem?_take, if_pos (ix_lt hk hj)]
            simpa [World.cell?, hh] using g1
          · cases he
        split
        · rename_i hcl
          have := C.sl (lv := loc.fb) (lo := 0) (w := w) (sz := row.sz) (es := row.es.take n) (A := some ⟨b, 0, none⟩) (c := c) (cur.toList.take (n * row.sz)) u (by rw [hlt]; exact hrd) (fun _ ad had => by cases had; exact hnf r row b c hr hl) (by omega) hm
            (fun k e he => by
              rw [List.getElem?_take] at he
              split at he
              · exact hlen k e he
              · cases he) hxx (fun k e j x he hx => by
              rw [List.getElem?_take] at he
              split at he
              · exact ((hu k e j x he hx).2.2.2 hcl).fbOf
              · cases he)
          rwa [hlt] at this
        · have := C.sl (lv := loc.fb) (lo := 0) (w := w) (sz := row.sz) (es := (row.es.take n).map fun e => e.map (viewN d s.h)) (A := some ⟨b, 0, none⟩) (c := c) (cur.toList.take (n * row.sz)) u (by rw [List.length_map, hlt]; exact hrd) (fun _ ad had => by cases had; exact hnf r row b c hr hl) (by rw [List.length_map]; omega) hm
            (fun k e he => by
              rw [List.getElem?_map, Option.map_eq_some_iff] at he
              obtain ⟨e', he', rfl⟩ := he
              rw [List.length_map]
              rw [List.getElem?_take] at he'
              split at he'
              · exact hlen k e' he'
              · cases he') (fun k e j he hj => by
              rw [List.getElem?_map, Option.map_eq_some_iff] at he
              obtain ⟨e', he', rfl⟩ := he
              rw [List.length_map] at hj
              exact hxx k e' j he' hj) (fun k e j x he hx => by
              rw [List.getElem?_map, Option.map_eq_some_iff] at he
              obtain ⟨e', he', rfl⟩ := he
              rw [List.getElem?_map, Option.map_eq_some_iff] at hx
              obtain ⟨x', hx', rfl⟩ := hx
              rw [List.getElem?_take] at he'
              split at he'
              · exact view_ok hR d x' _ (hu k e' j x' he' hx').2.2.1
              · cases he')
          rwa [List.length_map, hlt] at this
      | @onil _ row hr hl =>
        rw [hr]
        simp only
        obtain ⟨hlen, xs, hown, _⟩ := hR.rw r row hr
        simp only [rowVal, hl] at hown
        have he0 : row.es.length = 0 := by
          rcases hown.2 with ⟨_, e2⟩ | ⟨g, cap, cur, e1, _⟩
          · exact e2
          · cases e1
        have he : row.es = [] := List.eq_nil_of_length_eq_zero he0
        rw [he]
        simp only [tk, List.length_nil, if_true, List.map_nil]
        split <;> exact .nilsl _
    | q r lo z n => simp only [viewN]; exact .any
    | p r k off =>
      simp only [viewN]
      cases h with
      | cl hc => cases hc
      | @p _ _ _ row b c hr hl =>
        rw [hr]
        simp only
        split
        · rename_i e he
          obtain ⟨u, hu⟩ := vals_of_row (hR.rw r row hr) hl
          have hb := Live.lt hR.rw ⟨r, row, c, hr, hl⟩
          have hx : ∀ j, j < (e.drop off).length → w.cell? ⟨b, k * row.sz + off + j, none⟩ = some (u k (off + j)) ∧ (u k (off + j)).oneCell' = true := fun j hj => by
            rw [List.length_drop] at hj
            obtain ⟨g1, g2, _⟩ := hu k e (off + j) _ he (List.getElem?_eq_getElem (by omega))
            rw [Nat.add_assoc]
            exact ⟨g1, g2⟩
          split
          · rename_i hcl
            exact .ip b _ (fun j => u k (off + j)) (Nat.zero_le _) hb (hnf r row b c hr hl) hx fun j x hj => by
              rw [List.getElem?_drop] at hj
              exact ((hu k e _ x he hj).2.2.2 hcl).fbOf
          · exact .ip b _ (fun j => u k (off + j)) (Nat.zero_le _) hb (hnf r row b c hr hl) (fun j hj => hx j (by simpa using hj)) fun j x hj => by
              rw [List.getElem?_map, Option.map_eq_some_iff] at hj
              obtain ⟨x', hx', rfl⟩ := hj
              rw [List.getElem?_drop] at hx'
              exact view_ok hR d x' _ (hu k e _ x' he hx').2.2.1
        · exact .any
    | fn f caps =>
      simp only [viewN]
      obtain ⟨vs, rfl, hs, hg⟩ := h.fn_inv
      obtain ⟨h1, h2⟩ := hmap caps vs hs hg
      exact .fn vs h1 h2
    | agg cs =>
      simp only [viewN]
      obtain ⟨vs, rfl, hs, hg⟩ := h.agg_inv
      obtain ⟨h1, h2⟩ := hmap cs vs hs hg
      exact .agg vs h1 h2
    | tup cs =>
      simp only [viewN]
      obtain ⟨vs, rfl, hs, hg⟩ := h.tup_inv
      obtain ⟨h1, h2⟩ := hmap cs vs hs hg
      exact .tup vs h1 h2
end

end Go.Proofs.YtccifbbjbnjcfaaGreatDoor
/-
  The abstract machine: a call by contract.
-/
namespace Go.Proofs.YtccifbbjbnjcfaaGreatDoor
open Go Go.RowKit

/-- Names moved up. -/
def ren (b : Nat) : AV → AV
  | .o r n => .o (b + r) n
  | .p r k off => .p (b + r) k off
  | .q r lo z n => .q (b + r) lo z n
  | .fn f caps => .fn f (caps.map (ren b))
  | .agg cs => .agg (cs.map (ren b))
  | .tup cs => .tup (cs.map (ren b))
  | x => x
mutual
/-- Neither slices nor pointers that lie elsewhere. -/
def flatV : AV → Bool
  | .v _ => true
  | .o _ _ => true
  | .any => true
  | .agg cs => flatL cs
  | .tup cs => flatL cs
  | _ => false
def flatL : List AV → Bool
  | [] => true
  | x :: l => flatV x && flatL l
end
theorem flatL_mem : ∀ {l : List AV}, flatL l = true → ∀ x ∈ l, flatV x = true
  | [], _, x, hx => by cases hx
  | y :: l, h, x, hx => by
    simp only [flatL, Bool.and_eq_true] at h
    cases hx with
    | head => exact h.1
    | tail _ hx => exact flatL_mem h.2 x hx
def FlatR (rows : List Row) : Prop := ∀ row ∈ rows, ∀ e ∈ row.es, ∀ x ∈ e, flatV x = true
def frB (h : Hp) (b n : Nat) : Bool := decide (n = 0) || (decide (b + n ≤ 500000) && h.all fun x => decide (x.1 < b) || decide (b + n ≤ x.1))
theorem frA_ok : ∀ {h : Hp} {b n : Nat}, (h.all fun x => decide (x.1 < b) || decide (b + n ≤ x.1)) = true → ∀ q, b ≤ q → q < b + n → hget h q = none
  | [], _, _, _, _, _, _ => rfl
  | (k, x) :: l, b, n, hf, q, h1, h2 => by
    simp only [List.all_cons, Bool.and_eq_true, Bool.or_eq_true, decide_eq_true_eq] at hf
    simp only [hget]
    rw [if_neg (by omega)]
    exact frA_ok (h := l) (b := b) (n := n) hf.2 q h1 h2
theorem frB_ok {h : Hp} {b n : Nat} (hf : frB h b n = true) : ∀ q, b ≤ q → q < b + n → hget h q = none := fun q h1 h2 => by
  simp only [frB, Bool.and_eq_true, Bool.or_eq_true, decide_eq_true_eq] at hf
  rcases hf with hf | hf
  · omega
  · exact frA_ok hf.2 q h1 h2
theorem frB_le {h : Hp} {b n : Nat} (hf : frB h b n = true) : n = 0 ∨ b + n ≤ 500000 := by
  simp only [frB, Bool.and_eq_true, Bool.or_eq_true, decide_eq_true_eq] at hf
  exact hf.imp id fun h => h.1
theorem hget_append : ∀ (h h' : Hp) (q : Nat), hget (h ++ h') q = match hget h q with | some x => some x | none => hget h' q
  | [], h', q => by simp [hget]
  | (k, x) :: l, h', q => by
    simp only [List.cons_append, hget]
    split
    · rfl
    · exact hget_append l h' q

theorem C.flat {lv lv' : Nat → Prop} {lo lo' : Nat} {w w' : World} {x : AV} {u : Value} (h : C lv lo w x u) (hf : flatV x = true) : C lv' lo' w' x u := by
  induction h with
  | any => exact .any
  | v => exact .v
  | sl => simp [flatV] at hf
  | ip => simp [flatV] at hf
  | fn => simp [flatV] at hf
  | agg vs hs hg ih =>
    simp only [flatV] at hf
    exact .agg vs hs fun j a ha => ih j a ha (flatL_mem hf a (List.mem_of_getElem? ha))
  | tup vs hs hg ih =>
    simp only [flatV] at hf
    exact .tup vs hs fun j a ha => ih j a ha (flatL_mem hf a (List.mem_of_getElem? ha))

theorem ren_closed {b : Nat} {h : Hp} {loc : Loc} {lo : Nat} {w : World} {x : AV} {u : Value} (hc : C (Live h loc) lo w x u) : C (Live h loc) lo w (ren b x) u := by
  induction hc with
  | any => simp only [ren]; exact .any
  | v => simp only [ren]; exact .v
  | sl xs u a1 a2 a3 a4 a5 a6 a7 => simp only [ren]; exact .sl xs u a1 a2 a3 a4 a5 a6 a7
  | ip b off u a1 a2 a3 a4 a5 => simp only [ren]; exact .ip b off u a1 a2 a3 a4 a5
  | fn vs hs hg ih =>
    simp only [ren]
    refine .fn vs (by simpa using hs) fun j a ha => ?_
    rw [List.getElem?_map, Option.map_eq_some_iff] at ha
    obtain ⟨y, hy, rfl⟩ := ha
    exact ih j y hy
  | agg vs hs hg ih =>
    simp only [ren]
    refine .agg vs (by simpa using hs) fun j a ha => ?_
    rw [List.getElem?_map, Option.map_eq_some_iff] at ha
    obtain ⟨y, hy, rfl⟩ := ha
    exact ih j y hy
  | tup vs hs hg ih =>
    simp only [ren]
    refine .tup vs (by simpa using hs) fun j a ha => ?_
    rw [List.getElem?_map, Option.map_eq_some_iff] at ha
    obtain ⟨y, hy, rfl⟩ := ha
    exact ih j y hy

section
variable {w0 : World} {lent : Lent} {s : AS} {loc : Loc} {a : Act} {w : World}

/-- Where the rows lie once new ones have come. -/
def locJ (loc locr : Loc) (b n : Nat) : Loc := ⟨fun q => if b ≤ q ∧ q < b + n then locr (q - b) else loc q, loc.fb⟩

theorem G.ren {h h' : Hp} {locr loc' : Loc} {w : World} {b : Nat} {x : AV} {u : Value} (sh : Bool) (hg : G h locr w x u) (hok : sh = true ∨ flatV x = true)
    (hrow : ∀ q row, hget h q = some row → loc' (b + q) = locr q ∧ hget h' (b + q) = some row)
    (hC : ∀ x u, (sh = true ∨ flatV x = true) → C (Live h locr) 0 w x u → C (Live h' loc') 0 w x u) : G h' loc' w (Go.Proofs.YtccifbbjbnjcfaaGreatDoor.ren b x) u := by
  induction hg with
  | cl hc => exact .cl (ren_closed (hC _ _ hok hc))
  | o hr hl hn => obtain ⟨h1, h2⟩ := hrow _ _ hr; simp only [Go.Proofs.YtccifbbjbnjcfaaGreatDoor.ren]; exact .o h2 (h1.trans hl) hn
  | onil hr hl => obtain ⟨h1, h2⟩ := hrow _ _ hr; simp only [Go.Proofs.YtccifbbjbnjcfaaGreatDoor.ren]; exact .onil h2 (h1.trans hl)
  | p hr hl => obtain ⟨h1, h2⟩ := hrow _ _ hr; simp only [Go.Proofs.YtccifbbjbnjcfaaGreatDoor.ren]; exact .p h2 (h1.trans hl)
  | q hr hl hn => obtain ⟨h1, h2⟩ := hrow _ _ hr; simp only [Go.Proofs.YtccifbbjbnjcfaaGreatDoor.ren]; exact .q h2 (h1.trans hl) hn
  | fn vs hs hg ih =>
    simp only [Go.Proofs.YtccifbbjbnjcfaaGreatDoor.ren]
    refine .fn vs (by simpa using hs) fun j a ha => ?_
    rw [List.getElem?_map, Option.map_eq_some_iff] at ha
    obtain ⟨y, hy, rfl⟩ := ha
    refine ih j y hy (hok.imp id fun h => ?_)
    simp [flatV] at h
  | agg vs hs hg ih =>
    simp only [Go.Proofs.YtccifbbjbnjcfaaGreatDoor.ren]
    refine .agg vs (by simpa using hs) fun j a ha => ?_
    rw [List.getElem?_map, Option.map_eq_some_iff] at ha
    obtain ⟨y, hy, rfl⟩ := ha
    refine ih j y hy (hok.imp id fun h => ?_)
    simp only [flatV] at h
    exact flatL_mem h y (List.mem_of_getElem? hy)
  | tup vs hs hg ih =>
    simp only [Go.Proofs.YtccifbbjbnjcfaaGreatDoor.ren]
    refine .tup vs (by simpa using hs) fun j a ha => ?_
    rw [List.getElem?_map, Option.map_eq_some_iff] at ha
    obtain ⟨y, hy, rfl⟩ := ha
    refine ih j y hy (hok.imp id fun h => ?_)
    simp only [flatV] at h
    exact flatL_mem h y (List.mem_of_getElem? hy)

/-- A call's new rows come to the caller. -/
theorem Rel.join {w' : World} {rows : List Row} {rv : AV} {v : Value} {fb : Nat → Prop} (sh : Bool) (b : Nat) (hR : Rel w0 lent s loc a w) (hb : Below w.heap.size w w') (hres : Res fb w.heap.size w' rows rv v)
    (hfr : frB s.h b rows.length = true) (hsh : sh = true → ∀ q, Live s.h loc q → fb q) (hfl : sh = true ∨ (flatV rv = true ∧ FlatR rows)) :
    ∃ loc', Rel w0 lent ⟨s.t, s.h ++ hpOf b rows⟩ loc' a w' ∧ G (s.h ++ hpOf b rows) loc' w' (ren b rv) v := by
  obtain ⟨locr, hfb, hg, hrows, hinj, hbase⟩ := hres
  have hR1 := hR.grow hb
  have hfree := frB_ok hfr
  have hlt : ∀ q row, hget (hpOf 0 rows) q = some row → q < rows.length ∧ row ∈ rows := fun q row h => by
    rw [hget_hpOf, if_pos (Nat.zero_le _), Nat.sub_zero] at h
    exact ⟨lt_of_some h, List.mem_of_getElem? h⟩
  have hold : ∀ q row, hget s.h q = some row → hget (s.h ++ hpOf b rows) q = some row ∧ locJ loc locr b rows.length q = loc q := fun q row h => by
    refine ⟨by rw [hget_append, h], ?_⟩
    simp only [locJ]
    rw [if_neg (fun hc => by rw [hfree q hc.1 hc.2] at h; cases h)]
  have hnew : ∀ q row, hget (hpOf 0 rows) q = some row → locJ loc locr b rows.length (b + q) = locr q ∧ hget (s.h ++ hpOf b rows) (b + q) = some row := fun q row h => by
    obtain ⟨h1, _⟩ := hlt q row h
    refine ⟨?_, ?_⟩
    · simp only [locJ]
      rw [if_pos ⟨by omega, by omega⟩, Nat.add_sub_cancel_left]
    · rw [hget_append, hfree (b + q) (by omega) (by omega)]
      simp only
      rw [hget_hpOf, if_pos (by omega), Nat.add_sub_cancel_left]
      rwa [hget_hpOf, if_pos (Nat.zero_le _), Nat.sub_zero] at h
  have hcase : ∀ q row, hget (s.h ++ hpOf b rows) q = some row → hget s.h q = some row ∨ ∃ q', q = b + q' ∧ hget (hpOf 0 rows) q' = some row := fun q row h => by
    rw [hget_append] at h
    cases hq : hget s.h q with
    | some x => rw [hq] at h; exact .inl h
    | none =>
      rw [hq] at h
      simp only at h
      rw [hget_hpOf] at h
      split at h
      · refine .inr ⟨q - b, by omega, ?_⟩
        rw [hget_hpOf, if_pos (Nat.zero_le _), Nat.sub_zero]
        exact h
      · cases h
  have hlive : ∀ q, Live (s.h ++ hpOf b rows) (locJ loc locr b rows.length) q → Live s.h loc q ∨ LiveR (hpOf 0 rows) locr q := by
    rintro q (⟨r, row, c, h1, h2⟩ | hf)
    · rcases hcase r row h1 with h3 | ⟨r', rfl, h3⟩
      · rw [(hold r row h3).2] at h2
        exact .inl (.inl ⟨r, row, c, h3, h2⟩)
      · rw [(hnew r' row h3).1] at h2
        exact .inr ⟨r', row, c, h3, h2⟩
    · exact .inl (.inr hf)
  have hbnew : ∀ q, LiveR (hpOf 0 rows) locr q → w.heap.size ≤ q := fun q ⟨r, row, c, h1, h2⟩ => hbase r row q c h1 h2
  have hC1 : ∀ x u, C (Live s.h loc) 0 w x u → C (Live (s.h ++ hpOf b rows) (locJ loc locr b rows.length)) 0 w' x u := fun x u hx =>
    hx.mono (Nat.le_refl _) hb.size fun q _ hq hnl => ⟨fun h => by
      rcases hlive q h with h1 | h1
      · exact hnl h1
      · have := hbnew q h1; omega, hb.block q hq⟩
  have hG1 : ∀ x u, G s.h loc w x u → G (s.h ++ hpOf b rows) (locJ loc locr b rows.length) w' x u := fun x u hx =>
    hx.mono hb.size (fun q row hq => ⟨(hold q row hq).2, row, (hold q row hq).1, rfl, Nat.le_refl _⟩) fun q hq hnl => ⟨fun h => by
      rcases hlive q h with h1 | h1
      · exact hnl h1
      · have := hbnew q h1; omega, hb.block q hq⟩
  have hC2 : ∀ x u, (sh = true ∨ flatV x = true) → C (Live (hpOf 0 rows) locr) 0 w' x u → C (Live (s.h ++ hpOf b rows) (locJ loc locr b rows.length)) 0 w' x u := fun x u hok hx => by
    rcases hok with h | h
    · exact hx.mono (Nat.le_refl _) (Nat.le_refl _) fun q _ _ hnl => ⟨fun hl => by
        rcases hlive q hl with h1 | h1
        · exact hnl (.inr (by rw [hfb]; exact hsh h q h1))
        · exact hnl (.inl h1), rfl⟩
    · exact hx.flat h
  refine ⟨locJ loc locr b rows.length, ⟨hR.tsz, fun i x hx => hG1 _ _ (hR.tm i x hx), hR.df, fun q row hq => ?_, fun q q' row1 row2 bb c c' h1 h2 h3 h4 => ?_, fun q row bb c h1 h2 => ?_, hR1.os, hR1.tape, hR1.output, hR1.size, hR1.keep, hR.fbe, hR.fbl, fun q p hq => by
    have hq' := hR.pl q p hq
    simp only [locJ]
    rw [if_neg (by rcases frB_le hfr with h | h <;> omega)]
    exact hR.pn q p hq, hR.pl⟩, ?_⟩
  · rcases hcase q row hq with h1 | ⟨q', rfl, h1⟩
    · exact (hR.rw q row h1).mono (hold q row h1).2 (fun bb c hl => hb.block bb (Live.lt hR.rw ⟨q, row, c, h1, hl⟩)) hG1 hC1
    · obtain ⟨hcl, g1, xs, g2, g3⟩ := hrows q' row h1
      refine ⟨g1, xs, ?_, fun k e j x he hx => ?_⟩
      · have e1 : rowVal (locJ loc locr b rows.length) (b + q') row.es.length = rowVal locr q' row.es.length := by simp only [rowVal, (hnew q' row h1).1]
        rw [e1]; exact g2
      · obtain ⟨u, q1, q2, q3, q4⟩ := g3 k e j x he hx
        have := hC2 x u (hfl.imp id fun h => h.2 row (hlt q' row h1).2 e (List.mem_of_getElem? he) x (List.mem_of_getElem? hx)) (q4 hcl)
        exact ⟨u, q1, q2, .cl this, fun _ => this⟩
  · simp only at h1 h2
    rcases hcase q row1 h1 with h5 | ⟨r1, rfl, h5⟩ <;> rcases hcase q' row2 h2 with h6 | ⟨r2, rfl, h6⟩
    · rw [(hold _ _ h5).2] at h3
      rw [(hold _ _ h6).2] at h4
      exact hR.inj q q' row1 row2 bb c c' h5 h6 h3 h4
    · rw [(hold _ _ h5).2] at h3
      rw [(hnew _ _ h6).1] at h4
      have := Live.lt hR.rw ⟨q, row1, c, h5, h3⟩
      have := hbase r2 row2 bb c' h6 h4
      omega
    · rw [(hnew _ _ h5).1] at h3
      rw [(hold _ _ h6).2] at h4
      have := Live.lt hR.rw ⟨q', row2, c', h6, h4⟩
      have := hbase r1 row1 bb c h5 h3
      omega
    · rw [(hnew _ _ h5).1] at h3
      rw [(hnew _ _ h6).1] at h4
      rw [hinj r1 r2 row1 row2 bb c c' h5 h6 h3 h4]
  · simp only at h1
    rcases hcase q row h1 with h5 | ⟨r1, rfl, h5⟩
    · rw [(hold _ _ h5).2] at h2
      exact hR.own q row bb c h5 h2
    · rw [(hnew _ _ h5).1] at h2
      have := hbase r1 row bb c h5 h2
      have := hR.size
      left; omega
  · exact hg.ren sh (hfl.imp id fun h => h.1) (fun q row hq => hnew q row hq) hC2

def baseOf (dst : Option Tmp) : Nat := match dst with | some d => 1000 * (d + 1) | none => 1000

/-- The caller's state behind a call. -/
def backTo (s : AS) (dst : Option Tmp) (rv : AV) (rows : List Row) : AS := AS.put ⟨s.t, s.h ++ hpOf (baseOf dst) rows⟩ dst (ren (baseOf dst) rv)

variable {P : Program} {Q : Exit → Act → World → Prop}
/-- A call; what it returns lies in no older memory. -/
theorem call_rule {f : FuncId} {args : List AV} {dst : Option Tmp} {k : List It} {D : AV → List Row → Prop} (hpc : PC P f (args.map (viewN 3 s.h)) D)
    (hk : ∀ rv rows, D rv rows → flatV rv = true ∧ FlatR rows ∧ frB s.h (baseOf dst) rows.length = true ∧ AW P w0 lent Q k (backTo s dst rv rows)) : RWp P w0 lent Q (.call f args dst k s) := by
  intro loc a w hR vs hs hg
  refine ⟨hpc.1 vs w, (hpc.2 w loc.fb vs (fun b hb => ?_) (by simpa using hs) fun j x hx => ?_).mono ?_⟩
  · rw [hR.fbe] at hb
    exact Nat.lt_of_lt_of_le (hR.fbl b hb).1 hR.size
  · rw [List.getElem?_map, Option.map_eq_some_iff] at hx
    obtain ⟨y, hy, rfl⟩ := hx
    exact view_ok hR 3 y _ (hg j y hy)
  · rintro e w' ⟨rv, rows, v, hd, rfl, hb, hres⟩
    obtain ⟨h1, h2, h3, h4⟩ := hk rv rows hd
    obtain ⟨loc', hR', hv⟩ := Rel.join false (baseOf dst) hR hb hres h3 (fun h => by cases h) (.inr ⟨h1, h2⟩)
    exact ⟨v, rfl, h4 loc' _ w' (hR'.put dst hv)⟩

/-- A call whose arguments name no row; what it returns may lie in older memory. -/
theorem call_share {f : FuncId} {args : List AV} {dst : Option Tmp} {k : List It} {D : AV → List Row → Prop} (hc : args.all isC = true) (hpc : PC P f args D)
    (hk : ∀ rv rows, D rv rows → frB s.h (baseOf dst) rows.length = true ∧ AW P w0 lent Q k (backTo s dst rv rows)) : RWp P w0 lent Q (.call f args dst k s) := by
  intro loc a w hR vs hs hg
  refine ⟨hpc.1 vs w, (hpc.2 w (Live s.h loc) vs (fun b hb => ?_) hs fun j x hx => ?_).mono ?_⟩
  · rcases hb with hb | hb
    · exact Live.lt hR.rw hb
    · rw [hR.fbe] at hb
      exact Nat.lt_of_lt_of_le (hR.fbl b hb).1 hR.size
  · exact isC_ok (hg j x hx) (List.all_eq_true.1 hc x (List.mem_of_getElem? hx))
  · rintro e w' ⟨rv, rows, v, hd, rfl, hb, hres⟩
    obtain ⟨h3, h4⟩ := hk rv rows hd
    obtain ⟨loc', hR', hv⟩ := Rel.join true (baseOf dst) hR hb hres h3 (fun _ q hq => hq) (.inl rfl)
    exact ⟨v, rfl, h4 loc' _ w' (hR'.put dst hv)⟩
end

end Go.Proofs.YtccifbbjbnjcfaaGreatDoor
/-
  The abstract machine: the entry; the return.
-/
namespace Go.Proofs.YtccifbbjbnjcfaaGreatDoor
open Go Go.RowKit

def resA (P : Program) (s : AS) : ResultVar → Option AV
  | .tmp t => some (getA s.t t)
  | .cell t ty => ldA P s.h ty (getA s.t t)
def resL (P : Program) (s : AS) : List ResultVar → Option (List AV)
  | [] => some []
  | r :: l => match resA P s r, resL P s l with
    | some x, some y => some (x :: y)
    | _, _ => none
def retV : List AV → AV
  | [x] => x
  | l => .tup l
mutual
/-- The rows that a value names. -/
def idsA : AV → List Nat
  | .o r _ => [r]
  | .p r _ _ => [r]
  | .q r _ _ _ => [r]
  | .fn _ caps => idsL caps
  | .agg cs => idsL cs
  | .tup cs => idsL cs
  | _ => []
def idsL : List AV → List Nat
  | [] => []
  | x :: l => idsA x ++ idsL l
end
def ixOf : List Nat → Nat → Nat
  | [], _ => 0
  | q :: l, r => if q = r then 0 else ixOf l r + 1
def ndB : List Nat → Bool
  | [] => true
  | q :: l => l.all (fun r => decide (q ≠ r)) && ndB l
/-- Names by their places. -/
def rnA (σ : List Nat) : AV → AV
  | .o r n => .o (ixOf σ r) n
  | .p r k off => .p (ixOf σ r) k off
  | .q r lo z n => .q (ixOf σ r) lo z n
  | .fn f caps => .fn f (caps.map (rnA σ))
  | .agg cs => .agg (cs.map (rnA σ))
  | .tup cs => .tup (cs.map (rnA σ))
  | x => x
def rowsOf (h : Hp) : List Nat → Option (List Row)
  | [] => some []
  | r :: l => match hget h r, rowsOf h l with
    | some row, some rows => if (row.cl || row.es.all (·.all isC)) then some (⟨row.E, row.sz, row.es, true⟩ :: rows) else none
    | _, _ => none
/-- What the function returns. -/
def retR (P : Program) (rs : List ResultVar) (s : AS) : Option (AV × List Row) :=
  match resL P s rs with
  | some l => if ndB (idsA (retV l)) then (rowsOf s.h (idsA (retV l))).map fun rows => (rnA (idsA (retV l)) (retV l), rows) else none
  | none => none

theorem ixOf_get : ∀ {σ : List Nat} {r : Nat}, r ∈ σ → σ[ixOf σ r]? = some r
  | q :: l, r, h => by
    simp only [ixOf]
    split
    · rename_i e; subst e; rfl
    · rename_i e
      rw [List.getElem?_cons_succ]
      exact ixOf_get (by cases h with
        | head => exact absurd rfl e
        | tail _ h => exact h)
theorem ndB_ok : ∀ {σ : List Nat}, ndB σ = true → ∀ (i j r : Nat), σ[i]? = some r → σ[j]? = some r → i = j
  | [], _, i, j, r, h, _ => by simp at h
  | q :: l, hn, i, j, r, h1, h2 => by
    simp only [ndB, Bool.and_eq_true, List.all_eq_true, decide_eq_true_eq] at hn
    cases i with
    | zero =>
      cases j with
      | zero => rfl
      | succ j =>
        simp at h1 h2
        subst h1
        exact absurd rfl (hn.1 _ (List.mem_of_getElem? h2))
    | succ i =>
      cases j with
      | zero =>
        simp at h1 h2
        subst h2
        exact absurd rfl (hn.1 _ (List.mem_of_getElem? h1))
      | succ j => rw [ndB_ok hn.2 i j r (by simpa using h1) (by simpa using h2)]
theorem rowsOf_get {h : Hp} : ∀ {σ : List Nat} {rows : List Row}, rowsOf h σ = some rows → rows.length = σ.length ∧ ∀ (i r : Nat), σ[i]? = some r → ∃ row, hget h r = some row ∧ (row.cl || row.es.all (·.all isC)) = true ∧ rows[i]? = some ⟨row.E, row.sz, row.es, true⟩
  | [], rows, hr => by
    simp only [rowsOf, Option.some.injEq] at hr
    subst hr
    exact ⟨rfl, fun i r h => by simp at h⟩
  | q :: l, rows, hr => by
    simp only [rowsOf] at hr
    split at hr
    · rename_i row rs h1 h2
      split at hr
      · rename_i hc
        cases hr
        obtain ⟨g1, g2⟩ := rowsOf_get h2
        refine ⟨by simp [g1], fun i r hi => ?_⟩
        cases i with
        | zero => simp at hi; subst hi; exact ⟨row, h1, hc, rfl⟩
        | succ i => obtain ⟨row', g3, g4, g5⟩ := g2 i r (by simpa using hi); exact ⟨row', g3, g4, by simpa using g5⟩
      · cases hr
    · cases hr

section
variable {w0 : World} {lent : Lent} {s : AS} {loc : Loc} {a : Act} {w : World}

theorem G.rn {h h' : Hp} {loc' : Loc} {x : AV} {u : Value} {σ : List Nat} (hg : G h loc w x u) (hs : ∀ r ∈ idsA x, r ∈ σ)
    (hrow : ∀ r row, r ∈ σ → hget h r = some row → loc' (ixOf σ r) = loc r ∧ ∃ row', hget h' (ixOf σ r) = some row' ∧ row'.sz = row.sz ∧ row.es.length = row'.es.length)
    (hC : ∀ x u, C (Live h loc) 0 w x u → C (Live h' loc') 0 w x u) : G h' loc' w (rnA σ x) u := by
  have hmem : ∀ (cs : List AV) (y : AV) (j : Nat), cs[j]? = some y → ∀ r ∈ idsA y, r ∈ idsL cs := by
    intro cs
    induction cs with
    | nil => intro y j h; simp at h
    | cons z l ih =>
      intro y j h r hr
      simp only [idsL, List.mem_append]
      cases j with
      | zero => simp at h; subst h; exact .inl hr
      | succ j => exact .inr (ih y j (by simpa using h) r hr)
  induction hg with
  | cl hc =>
    suffices ∀ x u, C (Live h' loc') 0 w x u → G h' loc' w (rnA σ x) u from this _ _ (hC _ _ hc)
    intro x u hc
    induction hc with
    | any => simp only [rnA]; exact .cl .any
    | v => simp only [rnA]; exact .cl .v
    | sl xs u a1 a2 a3 a4 a5 a6 a7 => simp only [rnA]; exact .cl (.sl xs u a1 a2 a3 a4 a5 a6 a7)
    | ip b off u a1 a2 a3 a4 a5 => simp only [rnA]; exact .cl (.ip b off u a1 a2 a3 a4 a5)
    | fn vs hs hg ih =>
      simp only [rnA]
      refine .fn vs (by simpa using hs) fun j a ha => ?_
      rw [List.getElem?_map, Option.map_eq_some_iff] at ha
      obtain ⟨y, hy, rfl⟩ := ha
      exact ih j y hy
    | agg vs hs hg ih =>
      simp only [rnA]
      refine .agg vs (by simpa using hs) fun j a ha => ?_
      rw [List.getElem?_map, Option.map_eq_some_iff] at ha
      obtain ⟨y, hy, rfl⟩ := ha
      exact ih j y hy
    | tup vs hs hg ih =>
      simp only [rnA]
      refine .tup vs (by simpa using hs) fun j a ha => ?_
      rw [List.getElem?_map, Option.map_eq_some_iff] at ha
      obtain ⟨y, hy, rfl⟩ := ha
      exact ih j y hy
  | @o r n row b c hr hl hn =>
    obtain ⟨h1, row', h2, h3, h4⟩ := hrow r row (hs r (by simp [idsA])) hr
    simp only [rnA]
    exact .o h2 (h1.trans hl) (by omega)
  | @onil r row hr hl =>
    obtain ⟨h1, row', h2, h3, h4⟩ := hrow r row (hs r (by simp [idsA])) hr
    simp only [rnA]
    exact .onil h2 (h1.trans hl)
  | @p r k off row b c hr hl =>
    obtain ⟨h1, row', h2, h3, h4⟩ := hrow r row (hs r (by simp [idsA])) hr
    simp only [rnA]
    rw [← h3]
    exact .p h2 (h1.trans hl)
  | @q r lo z n row b c A c' hr hl hn =>
    obtain ⟨h1, row', h2, h3, h4⟩ := hrow r row (hs r (by simp [idsA])) hr
    simp only [rnA]
    exact .q h2 (h1.trans hl) hn
  | @fn f caps vs hvs hg ih =>
    simp only [rnA]
    refine .fn vs (by simpa using hvs) fun j a ha => ?_
    rw [List.getElem?_map, Option.map_eq_some_iff] at ha
    obtain ⟨y, hy, rfl⟩ := ha
    exact ih j y hy fun r hr => hs r (by simp only [idsA]; exact hmem _ y j hy r hr)
  | @agg cs vs hvs hg ih =>
    simp only [rnA]
    refine .agg vs (by simpa using hvs) fun j a ha => ?_
    rw [List.getElem?_map, Option.map_eq_some_iff] at ha
    obtain ⟨y, hy, rfl⟩ := ha
    exact ih j y hy fun r hr => hs r (by simp only [idsA]; exact hmem _ y j hy r hr)
  | @tup cs vs hvs hg ih =>
    simp only [rnA]
    refine .tup vs (by simpa using hvs) fun j a ha => ?_
    rw [List.getElem?_map, Option.map_eq_some_iff] at ha
    obtain ⟨y, hy, rfl⟩ := ha
    exact ih j y hy fun r hr => hs r (by simp only [idsA]; exact hmem _ y j hy r hr)

theorem close_ok {rv : AV} {v : Value} {rows : List Row} (hR : Rel w0 lent s loc a w) (hl : ∀ b, ¬ lent.bk b) (hg : G s.h loc w rv v) (hn : ndB (idsA rv) = true) (hr : rowsOf s.h (idsA rv) = some rows) :
    Res lent.fb w0.heap.size w rows (rnA (idsA rv) rv) v := by
  obtain ⟨hlen, hget'⟩ := rowsOf_get hr
  have hnd := ndB_ok hn
  refine ⟨⟨fun i => ((idsA rv)[i]?).bind loc, lent.fb⟩, rfl, ?_⟩
  have hrow : ∀ r row, r ∈ idsA rv → hget s.h r = some row → ((idsA rv)[ixOf (idsA rv) r]?).bind loc = loc r ∧ ∃ row', hget (hpOf 0 rows) (ixOf (idsA rv) r) = some row' ∧ row'.sz = row.sz ∧ row.es.length = row'.es.length := fun r row hm h => by
    have h1 := ixOf_get hm
    obtain ⟨row', h2, h3, h4⟩ := hget' _ r h1
    rw [h] at h2
    cases h2
    refine ⟨by rw [h1]; rfl, ⟨row.E, row.sz, row.es, true⟩, by rw [hget_hpOf, if_pos (Nat.zero_le _), Nat.sub_zero]; exact h4, rfl, rfl⟩
  have hinv : ∀ i row', hget (hpOf 0 rows) i = some row' → ∃ r row, (idsA rv)[i]? = some r ∧ hget s.h r = some row ∧ (row.cl || row.es.all (·.all isC)) = true ∧ row' = ⟨row.E, row.sz, row.es, true⟩ := fun i row' h => by
    rw [hget_hpOf, if_pos (Nat.zero_le _), Nat.sub_zero] at h
    have hi := lt_of_some h
    have hi' : i < (idsA rv).length := by omega
    obtain ⟨row, h2, h3, h4⟩ := hget' i _ (List.getElem?_eq_getElem hi')
    rw [h] at h4
    cases h4
    exact ⟨_, row, List.getElem?_eq_getElem hi', h2, h3, rfl⟩
  have hlive : ∀ b, Live (hpOf 0 rows) ⟨fun i => ((idsA rv)[i]?).bind loc, lent.fb⟩ b → Live s.h loc b := by
    rintro b (⟨i, row', c, h1, h2⟩ | hf)
    · obtain ⟨r, row, g1, g2, _, _⟩ := hinv i row' h1
      simp only [g1, Option.bind_some] at h2
      exact .inl ⟨r, row, c, g2, h2⟩
    · exact .inr (by rw [hR.fbe]; exact hf)
  have hC : ∀ x u, C (Live s.h loc) 0 w x u → C (Live (hpOf 0 rows) ⟨fun i => ((idsA rv)[i]?).bind loc, lent.fb⟩) 0 w x u := fun x u hx => hx.mono (Nat.le_refl _) (Nat.le_refl _) fun b _ _ hnl => ⟨fun h => hnl (hlive b h), rfl⟩
  refine ⟨hg.rn (fun r hr => hr) hrow hC, fun i row' h => ?_, fun i j row1 row2 b c c' h1 h2 h3 h4 => ?_, fun i row' b c h1 h2 => ?_⟩
  · obtain ⟨r, row, g1, g2, g3, rfl⟩ := hinv i row' h
    refine ⟨rfl, ?_⟩
    obtain ⟨h1, xs, h2, h3⟩ := hR.rw r row g2
    refine ⟨h1, xs, ?_, fun k e j x he hx => ?_⟩
    · have : rowVal ⟨fun i => ((idsA rv)[i]?).bind loc, lent.fb⟩ i row.es.length = rowVal loc r row.es.length := by simp only [rowVal, g1, Option.bind_some]
      rw [this]
      have := h2
      rcases this with ⟨q1, q2⟩
      exact ⟨q1, q2⟩
    · obtain ⟨u, q1, q2, q3, q4⟩ := h3 k e j x he hx
      have hcx : C (Live s.h loc) 0 w x u := by
        rw [Bool.or_eq_true] at g3
        rcases g3 with g3 | g3
        · exact q4 g3
        · exact isC_ok q3 (List.all_eq_true.1 (List.all_eq_true.1 g3 e (List.mem_of_getElem? he)) x (List.mem_of_getElem? hx))
      exact ⟨u, q1, q2, .cl (hC _ _ hcx), fun _ => hC _ _ hcx⟩
  · obtain ⟨r1, rw1, g1, g2, _, _⟩ := hinv i row1 h1
    obtain ⟨r2, rw2, g3, g4, _, _⟩ := hinv j row2 h2
    simp only [g1, Option.bind_some] at h3
    simp only [g3, Option.bind_some] at h4
    have := hR.inj r1 r2 rw1 rw2 b c c' g2 g4 h3 h4
    subst this
    exact hnd i j r1 g1 g3
  · obtain ⟨r1, rw1, g1, g2, _, _⟩ := hinv i row' h1
    simp only [g1, Option.bind_some] at h2
    rcases hR.own r1 rw1 b c g2 h2 with h | h
    · exact h
    · exact absurd h (hl b)

variable {P : Program}

def rOne (a : Act) : ResultVar → Sem Value
  | .tmp t => pure (a.tmps.getD t undef)
  | .cell x t => do loadVar t (← asAddr (a.tmps.getD x undef))
theorem resL_ok (hR : Rel w0 lent s loc a w) : ∀ (rs : List ResultVar) (l : List AV), resL P s rs = some l →
    ∃ vs : List Value, (rs.mapM (rOne a)).run P w = .ok vs w ∧ vs.length = l.length ∧ ∀ (j : Nat) x, l[j]? = some x → ∃ v, vs[j]? = some v ∧ G s.h loc w x v
  | [], l, h => by
    simp only [resL, Option.some.injEq] at h
    subst h
    exact ⟨[], by simp, rfl, fun j x h => by simp at h⟩
  | r :: rs, l, h => by
    simp only [resL] at h
    split at h
    · rename_i x y hx hy
      cases h
      obtain ⟨vs, h1, h2, h3⟩ := resL_ok hR rs y hy
      have hv : ∃ v, (rOne a r).run P w = .ok v w ∧ G s.h loc w x v := by
        cases r with
        | tmp t =>
          simp only [resA, Option.some.injEq] at hx
          subst hx
          exact ⟨_, rfl, evA_ok hR (.tmp t)⟩
        | cell t ty =>
          simp only [resA] at hx
          have hp : G s.h loc w (getA s.t t) (a.tmps.getD t undef) := evA_ok hR (.tmp t)
          obtain ⟨v, g1, g2⟩ := ldA_ok (P := P) hp hR.rw hx
          have hca : ∃ cs, cellsAt s.h (getA s.t t) = some cs := by
            unfold ldA at hx
            split at hx
            · exact ⟨_, by assumption⟩
            · cases hx
          obtain ⟨cs, hcs⟩ := hca
          obtain ⟨b, off, hu, _⟩ := cellsAt_ok hp hR.rw hcs
          refine ⟨v, ?_, g2⟩
          rw [hu] at g1
          simp only [rOne, hu]
          simpa [Instr.loadAt, Instr.sureAddr, asAddr] using g1
      obtain ⟨v, g1, g2⟩ := hv
      refine ⟨v :: vs, ?_, by simp [h2], fun j z hz => ?_⟩
      · rw [List.mapM_cons, Sem.run_bind, g1]
        simp only [Result.andThen_ok, Sem.run_bind, h1]
        rfl
      · cases j with
        | zero => simp at hz; subst hz; exact ⟨v, rfl, g2⟩
        | succ j => obtain ⟨v', q1, q2⟩ := h3 j z (by simpa using hz); exact ⟨v', by simpa using q1, q2⟩
    · cases h

theorem retV_ok (hR : Rel w0 lent s loc a w) {fn : Func} {l : List AV} (h : resL P s fn.results.toList = some l) : ∃ v, (results fn a.tmps).run P w = .ok v w ∧ G s.h loc w (retV l) v := by
  obtain ⟨vs, h1, h2, h3⟩ := resL_ok hR _ _ h
  have hrun : (results fn a.tmps).run P w = .ok (if h : vs.toArray.size = 1 then vs.toArray[0] else .tuple vs.toArray) w := by
    have this : Sem.run P (Array.mapM (rOne a) fn.results) w = .ok vs.toArray w := by
      rw [Array.mapM_eq_mapM_toList]
      show Sem.run P (List.mapM _ _ >>= fun x => pure x.toArray) w = _
      rw [Sem.run_bind, h1]
      rfl
    show Sem.run P (Array.mapM (rOne a) fn.results >>= fun vs => pure (if h : vs.size = 1 then vs[0] else .tuple vs)) w = _
    rw [Sem.run_bind, this]
    rfl
  rw [hrun]
  refine ⟨_, rfl, ?_⟩
  have tup : ∀ l : List AV, vs.length = l.length → (∀ (j : Nat) x, l[j]? = some x → ∃ v, vs[j]? = some v ∧ G s.h loc w x v) → G s.h loc w (.tup l) (.tuple vs.toArray) := fun l h2 h3 =>
    .tup vs.toArray (by simpa using h2) fun j x hx => by
      obtain ⟨v, q1, q2⟩ := h3 j x hx
      simpa [Array.getD_eq_getD_getElem?, q1] using q2
  cases l with
  | nil =>
    have hne : ¬ vs.toArray.size = 1 := by simp at h2; simp [h2]
    rw [dif_neg hne]
    exact tup [] h2 h3
  | cons x l =>
    cases l with
    | nil =>
      have he : vs.toArray.size = 1 := by simpa using h2
      rw [dif_pos he]
      obtain ⟨v, q1, q2⟩ := h3 0 x rfl
      have : vs.toArray[0] = v := by
        have : vs[0]? = some vs.toArray[0] := by rw [List.getElem?_eq_getElem (by simpa using Nat.lt_of_lt_of_eq Nat.zero_lt_one he.symm)]; simp
        rw [q1] at this
        exact (Option.some.inj this).symm
      rw [this]
      exact q2
    | cons y l =>
      have hne : ¬ vs.toArray.size = 1 := by simp at h2; simp; omega
      rw [dif_neg hne]
      exact tup _ h2 h3

/-- What a body owes. -/
def PCpost (w0 : World) (fb : Nat → Prop) (D : AV → List Row → Prop) (e : Ending) (w' : World) : Prop :=
  ∃ rv rows v, D rv rows ∧ e = .returned v ∧ Below w0.heap.size w0 w' ∧ Res fb w0.heap.size w' rows rv v

/-- A body that runs its activation. -/
abbrev AWB (P : Program) (w0 : World) (fb : Nat → Prop) (fn : Func) (D : AV → List Row → Prop) (k : List It) (s : AS) : Prop :=
  AW P w0 ⟨fun _ => False, fb, fun _ => none⟩ (bodyPost P fn (PCpost w0 fb D)) k s
abbrev RWB (P : Program) (w0 : World) (fb : Nat → Prop) (fn : Func) (D : AV → List Row → Prop) (r : R) : Prop :=
  RWp P w0 ⟨fun _ => False, fb, fun _ => none⟩ (bodyPost P fn (PCpost w0 fb D)) r

theorem ret_post {fn : Func} {fb : Nat → Prop} {D : AV → List Row → Prop} (hR : Rel w0 ⟨fun _ => False, fb, fun _ => none⟩ s loc a w) {rv : AV} {rows : List Row} (h : retR P fn.results.toList s = some (rv, rows)) (hd : D rv rows) :
    a.defers = [] ∧ ∃ v, (results fn a.tmps).run P w = .ok v w ∧ PCpost w0 fb D (.returned v) w := by
  unfold retR at h
  split at h
  · rename_i l hl
    split at h
    · rename_i hn
      rw [Option.map_eq_some_iff] at h
      obtain ⟨rows', hr, he⟩ := h
      cases he
      obtain ⟨v, h1, h2⟩ := retV_ok hR hl
      exact ⟨hR.df, v, h1, _, _, v, hd, rfl, ⟨hR.os, hR.tape, hR.output, hR.size, fun b hb => hR.keep b hb (fun h => h)⟩, close_ok hR (fun _ h => h) h2 hn hr⟩
    · cases h
  · cases h
theorem ret_rule {fn : Func} {fb : Nat → Prop} {D : AV → List Row → Prop} {rv : AV} {rows : List Row} (h : retR P fn.results.toList s = some (rv, rows)) (hd : D rv rows) : RWB P w0 fb fn D (.ret s) :=
  fun _ _ _ hR => ret_post hR h hd
theorem pc_enter {f : FuncId} {fn : Func} {c : Code} {args : List AV} {D : AV → List Row → Prop} (hf : P.funcs[f]? = some fn) (hn : (fn.name == "runtime.NumGoroutine") = false) (hb : fn.body = some c)
    (h : ∀ w0 fb, AWB P w0 fb fn D [.code c] ⟨args ++ List.replicate (fn.ntmps - args.length) .any, []⟩) : PC P f args D := by
  have hn' : ¬ fn.name = "runtime.NumGoroutine" := by simpa using hn
  refine ⟨fun vs W => by simp [callFunc, hf, hn', hb], fun w fb vs hfb hs hg => ?_⟩
  refine calls_of_wp hf hb ?_
  refine h w fb ⟨fun _ => none, fb⟩ _ w ⟨?_, fun i x hx => ?_, rfl, fun r row hr => (by cases hr), fun r r' row row' b c c' hr => (by cases hr), fun r row b c hr => (by cases hr), rfl, rfl, rfl, Nat.le_refl _, fun _ _ _ => rfl, rfl, fun b hb => ⟨hfb b hb, fun h => h⟩, fun r p h => (by cases h), fun r p h => (by cases h)⟩
  · simp [hs]
  · by_cases hi : i < args.length
    · simp only at hx
      rw [List.getElem?_append_left hi] at hx
      refine .cl ?_
      have := hg i x hx
      have e : (vs ++ Array.replicate (fn.ntmps - vs.size) undef).getD i undef = vs.getD i undef := by
        rw [Array.getD_eq_getD_getElem?, Array.getElem?_append, if_pos (by omega), ← Array.getD_eq_getD_getElem?]
      rw [e]
      exact this.mono (Nat.le_refl _) (Nat.le_refl _) fun b _ _ hnl => ⟨fun h => by
        rcases h with ⟨r, row, c, h1, _⟩ | h
        · cases h1
        · exact hnl h, rfl⟩
    · simp only at hx
      rw [List.getElem?_append_right (by omega), List.getElem?_replicate] at hx
      split at hx
      · cases hx; exact .cl .any
      · cases hx
end

end Go.Proofs.YtccifbbjbnjcfaaGreatDoor
/- What is used of the types of this translation. Printed by gen_ty.sh. -/
namespace Go.Proofs.YtccifbbjbnjcfaaGreatDoor
open Go Go.RowKit Go.Proofs

theorem ty0 : tyOf Tryz.prog 0 = some (Ty.mk 1 0 TD.other [Value.tuple #[]]) := by kernel_rfl
theorem ty1 : tyOf Tryz.prog 1 = some (Ty.mk 1 8 TD.other [Value.nilFunc]) := by kernel_rfl
theorem ty2 : tyOf Tryz.prog 2 = some (Ty.mk 1 8 (TD.int IntKind.i64) [Value.int IntKind.i64 0]) := by kernel_rfl
theorem ty3 : tyOf Tryz.prog 3 = some (Ty.mk 1 8 (TD.int IntKind.i64) [Value.int IntKind.i64 0]) := by kernel_rfl
theorem ty4 : tyOf Tryz.prog 4 = some (Ty.mk 1 1 TD.bool [Value.bool false]) := by kernel_rfl
theorem ty5 : tyOf Tryz.prog 5 = some (Ty.mk 1 1 (TD.int IntKind.u8) [Value.int IntKind.u8 0]) := by kernel_rfl
theorem ty6 : tyOf Tryz.prog 6 = some (Ty.mk 1 1 (TD.int IntKind.u8) [Value.int IntKind.u8 0]) := by kernel_rfl
theorem ty7 : tyOf Tryz.prog 7 = some (Ty.mk 4 24 (TD.struct [(0, 2), (1, 3), (2, 4), (3, 6)]) [Value.int IntKind.i64 0, Value.int IntKind.i64 0, Value.bool false, Value.int IntKind.u8 0]) := by kernel_rfl
theorem ty8 : tyOf Tryz.prog 8 = some (Ty.mk 4 24 (TD.struct [(0, 2), (1, 3), (2, 4), (3, 6)]) [Value.int IntKind.i64 0, Value.int IntKind.i64 0, Value.bool false, Value.int IntKind.u8 0]) := by kernel_rfl
theorem ty9 : tyOf Tryz.prog 9 = some (Ty.mk 1 16 TD.string [Value.string (ByteArray.mk #[])]) := by kernel_rfl
theorem ty10 : tyOf Tryz.prog 10 = some (Ty.mk 1 16 TD.string [Value.string (ByteArray.mk #[])]) := by kernel_rfl
theorem ty11 : tyOf Tryz.prog 11 = some (Ty.mk 1 16 TD.string [Value.string (ByteArray.mk #[])]) := by kernel_rfl
theorem ty12 : tyOf Tryz.prog 12 = some (Ty.mk 1 8 (TD.int IntKind.u64) [Value.int IntKind.u64 0]) := by kernel_rfl
theorem ty13 : tyOf Tryz.prog 13 = some (Ty.mk 2 24 (TD.struct [(0, 9), (1, 12)]) [Value.string (ByteArray.mk #[]), Value.int IntKind.u64 0]) := by kernel_rfl
theorem ty14 : tyOf Tryz.prog 14 = some (Ty.mk 2 24 (TD.struct [(0, 9), (1, 12)]) [Value.string (ByteArray.mk #[]), Value.int IntKind.u64 0]) := by kernel_rfl
theorem ty15 : tyOf Tryz.prog 15 = some (Ty.mk 1 8 TD.other [Value.pointer none]) := by kernel_rfl
theorem ty16 : tyOf Tryz.prog 16 = some (Ty.mk 1 8 TD.other [Value.pointer none]) := by kernel_rfl
theorem ty17 : tyOf Tryz.prog 17 = some (Ty.mk 1 8 TD.other [Value.pointer none]) := by kernel_rfl
theorem ty18 : tyOf Tryz.prog 18 = some (Ty.mk 1 8 (TD.struct [(0, 17)]) [Value.pointer none]) := by kernel_rfl
theorem ty19 : tyOf Tryz.prog 19 = some (Ty.mk 1 8 (TD.struct [(0, 17)]) [Value.pointer none]) := by kernel_rfl
theorem ty20 : tyOf Tryz.prog 20 = some (Ty.mk 1 16 TD.other [Value.nilIface]) := by kernel_rfl
theorem ty21 : tyOf Tryz.prog 21 = some (Ty.mk 1 4 (TD.int IntKind.i32) [Value.int IntKind.i32 0]) := by kernel_rfl
theorem ty22 : tyOf Tryz.prog 22 = some (Ty.mk 1 24 (TD.slice 70) [Value.slice none 0 0]) := by kernel_rfl
theorem ty23 : tyOf Tryz.prog 23 = some (Ty.mk 2 16 (TD.struct [(0, 3), (1, 3)]) [Value.int IntKind.i64 0, Value.int IntKind.i64 0]) := by kernel_rfl
theorem ty24 : tyOf Tryz.prog 24 = some (Ty.mk 2 16 (TD.struct [(0, 3), (1, 3)]) [Value.int IntKind.i64 0, Value.int IntKind.i64 0]) := by kernel_rfl
theorem ty25 : tyOf Tryz.prog 25 = some (Ty.mk 5 48 (TD.struct [(0, 9), (1, 24), (3, 24)]) [Value.string (ByteArray.mk #[]), Value.int IntKind.i64 0, Value.int IntKind.i64 0, Value.int IntKind.i64 0, Value.int IntKind.i64 0]) := by kernel_rfl
theorem ty26 : tyOf Tryz.prog 26 = some (Ty.mk 5 48 (TD.struct [(0, 9), (1, 24), (3, 24)]) [Value.string (ByteArray.mk #[]), Value.int IntKind.i64 0, Value.int IntKind.i64 0, Value.int IntKind.i64 0, Value.int IntKind.i64 0]) := by kernel_rfl
theorem ty27 : tyOf Tryz.prog 27 = some (Ty.mk 1 8 TD.other [Value.nilFunc]) := by kernel_rfl
theorem ty28 : tyOf Tryz.prog 28 = some (Ty.mk 1 8 TD.other [Value.nilFunc]) := by kernel_rfl
theorem ty29 : tyOf Tryz.prog 29 = some (Ty.mk 1 24 (TD.slice 79) [Value.slice none 0 0]) := by kernel_rfl
theorem ty30 : tyOf Tryz.prog 30 = some (Ty.mk 1 0 TD.other [Value.tuple (Array.mk [Value.slice none 0 0, Value.bool false])]) := by kernel_rfl
theorem ty31 : tyOf Tryz.prog 31 = some (Ty.mk 1 8 TD.other [Value.nilFunc]) := by kernel_rfl
theorem ty32 : tyOf Tryz.prog 32 = some (Ty.mk 1 8 TD.other [Value.nilFunc]) := by kernel_rfl
theorem ty33 : tyOf Tryz.prog 33 = some (Ty.mk 2 16 (TD.struct [(0, 3), (1, 3)]) [Value.int IntKind.i64 0, Value.int IntKind.i64 0]) := by kernel_rfl
theorem ty34 : tyOf Tryz.prog 34 = some (Ty.mk 5 48 (TD.struct [(0, 9), (1, 33), (3, 33)]) [Value.string (ByteArray.mk #[]), Value.int IntKind.i64 0, Value.int IntKind.i64 0, Value.int IntKind.i64 0, Value.int IntKind.i64 0]) := by kernel_rfl
theorem ty35 : tyOf Tryz.prog 35 = some (Ty.mk 5 48 (TD.struct [(0, 9), (1, 33), (3, 33)]) [Value.string (ByteArray.mk #[]), Value.int IntKind.i64 0, Value.int IntKind.i64 0, Value.int IntKind.i64 0, Value.int IntKind.i64 0]) := by kernel_rfl
theorem ty36 : tyOf Tryz.prog 36 = some (Ty.mk 1 8 TD.other [Value.nilFunc]) := by kernel_rfl
theorem ty37 : tyOf Tryz.prog 37 = some (Ty.mk 1 8 TD.other [Value.nilFunc]) := by kernel_rfl
theorem ty38 : tyOf Tryz.prog 38 = some (Ty.mk 1 8 TD.other [Value.nilFunc]) := by kernel_rfl
theorem ty39 : tyOf Tryz.prog 39 = some (Ty.mk 1 8 TD.other [Value.nilFunc]) := by kernel_rfl
theorem ty40 : tyOf Tryz.prog 40 = some (Ty.mk 1 24 (TD.slice 26) [Value.slice none 0 0]) := by kernel_rfl
theorem ty41 : tyOf Tryz.prog 41 = some (Ty.mk 2 32 (TD.struct [(0, 3), (1, 40)]) [Value.int IntKind.i64 0, Value.slice none 0 0]) := by kernel_rfl
theorem ty42 : tyOf Tryz.prog 42 = some (Ty.mk 2 32 (TD.struct [(0, 3), (1, 40)]) [Value.int IntKind.i64 0, Value.slice none 0 0]) := by kernel_rfl
theorem ty43 : tyOf Tryz.prog 43 = some (Ty.mk 1 8 TD.other [Value.nilFunc]) := by kernel_rfl
theorem ty44 : tyOf Tryz.prog 44 = some (Ty.mk 1 24 (TD.slice 29) [Value.slice none 0 0]) := by kernel_rfl
theorem ty45 : tyOf Tryz.prog 45 = some (Ty.mk 1 0 TD.other [Value.tuple (Array.mk [Value.slice none 0 0, Value.bool false])]) := by kernel_rfl
theorem ty46 : tyOf Tryz.prog 46 = some (Ty.mk 1 8 TD.other [Value.nilFunc]) := by kernel_rfl
theorem ty47 : tyOf Tryz.prog 47 = some (Ty.mk 1 24 (TD.slice 35) [Value.slice none 0 0]) := by kernel_rfl
theorem ty48 : tyOf Tryz.prog 48 = some (Ty.mk 2 32 (TD.struct [(0, 3), (1, 47)]) [Value.int IntKind.i64 0, Value.slice none 0 0]) := by kernel_rfl
theorem ty49 : tyOf Tryz.prog 49 = some (Ty.mk 2 32 (TD.struct [(0, 3), (1, 47)]) [Value.int IntKind.i64 0, Value.slice none 0 0]) := by kernel_rfl
theorem ty50 : tyOf Tryz.prog 50 = some (Ty.mk 1 8 TD.other [Value.nilFunc]) := by kernel_rfl
theorem ty51 : tyOf Tryz.prog 51 = some (Ty.mk 1 8 TD.other [Value.nilFunc]) := by kernel_rfl
theorem ty52 : tyOf Tryz.prog 52 = some (Ty.mk 1 8 TD.other [Value.nilFunc]) := by kernel_rfl
theorem ty53 : tyOf Tryz.prog 53 = some (Ty.mk 1 8 TD.other [Value.nilFunc]) := by kernel_rfl
theorem ty54 : tyOf Tryz.prog 54 = some (Ty.mk 1 8 TD.other [Value.nilFunc]) := by kernel_rfl
theorem ty55 : tyOf Tryz.prog 55 = some (Ty.mk 1 8 TD.other [Value.nilFunc]) := by kernel_rfl
theorem ty56 : tyOf Tryz.prog 56 = some (Ty.mk 1 24 (TD.slice 5) [Value.slice none 0 0]) := by kernel_rfl
theorem ty57 : tyOf Tryz.prog 57 = some (Ty.mk 1 0 TD.other [Value.tuple (Array.mk [Value.slice none 0 0, Value.agg (Array.mk [Value.int IntKind.i64 0, Value.slice none 0 0])])]) := by kernel_rfl
theorem ty58 : tyOf Tryz.prog 58 = some (Ty.mk 1 8 TD.other [Value.nilFunc]) := by kernel_rfl
theorem ty59 : tyOf Tryz.prog 59 = some (Ty.mk 1 0 TD.other [Value.tuple (Array.mk [Value.agg (Array.mk [Value.int IntKind.i64 0, Value.slice none 0 0]), Value.bool false])]) := by kernel_rfl
theorem ty60 : tyOf Tryz.prog 60 = some (Ty.mk 1 8 TD.other [Value.nilFunc]) := by kernel_rfl
theorem ty61 : tyOf Tryz.prog 61 = some (Ty.mk 1 8 TD.other [Value.nilFunc]) := by kernel_rfl
theorem ty62 : tyOf Tryz.prog 62 = some (Ty.mk 1 24 (TD.slice 3) [Value.slice none 0 0]) := by kernel_rfl
theorem ty63 : tyOf Tryz.prog 63 = some (Ty.mk 1 8 TD.other [Value.nilFunc]) := by kernel_rfl
theorem ty64 : tyOf Tryz.prog 64 = some (Ty.mk 1 8 TD.other [Value.nilFunc]) := by kernel_rfl
theorem ty65 : tyOf Tryz.prog 65 = some (Ty.mk 1 0 TD.other [Value.tuple (Array.mk [Value.slice none 0 0, Value.agg (Array.mk [Value.string (ByteArray.mk #[]), Value.int IntKind.i64 0, Value.int IntKind.i64 0, Value.int IntKind.i64 0, Value.int IntKind.i64 0])])]) := by kernel_rfl
theorem ty66 : tyOf Tryz.prog 66 = some (Ty.mk 1 8 TD.other [Value.nilFunc]) := by kernel_rfl
theorem ty67 : tyOf Tryz.prog 67 = some (Ty.mk 1 8 TD.other [Value.nilFunc]) := by kernel_rfl
theorem ty68 : tyOf Tryz.prog 68 = some (Ty.mk 1 8 TD.other [Value.nilFunc]) := by kernel_rfl
theorem ty69 : tyOf Tryz.prog 69 = some (Ty.mk 3 56 (TD.struct [(0, 3), (1, 62), (2, 62)]) [Value.int IntKind.i64 0, Value.slice none 0 0, Value.slice none 0 0]) := by kernel_rfl
theorem ty70 : tyOf Tryz.prog 70 = some (Ty.mk 3 56 (TD.struct [(0, 3), (1, 62), (2, 62)]) [Value.int IntKind.i64 0, Value.slice none 0 0, Value.slice none 0 0]) := by kernel_rfl
theorem ty71 : tyOf Tryz.prog 71 = some (Ty.mk 1 8 TD.other [Value.nilFunc]) := by kernel_rfl
theorem ty72 : tyOf Tryz.prog 72 = some (Ty.mk 1 0 TD.other [Value.tuple (Array.mk [Value.slice none 0 0, Value.bool false])]) := by kernel_rfl
theorem ty73 : tyOf Tryz.prog 73 = some (Ty.mk 1 8 TD.other [Value.nilFunc]) := by kernel_rfl
theorem ty74 : tyOf Tryz.prog 74 = some (Ty.mk 1 8 TD.other [Value.nilFunc]) := by kernel_rfl
theorem ty75 : tyOf Tryz.prog 75 = some (Ty.mk 1 8 TD.other [Value.nilFunc]) := by kernel_rfl
theorem ty76 : tyOf Tryz.prog 76 = some (Ty.mk 1 8 TD.other [Value.nilFunc]) := by kernel_rfl
theorem ty77 : tyOf Tryz.prog 77 = some (Ty.mk 1 8 TD.other [Value.nilFunc]) := by kernel_rfl
theorem ty78 : tyOf Tryz.prog 78 = some (Ty.mk 1 8 TD.other [Value.nilFunc]) := by kernel_rfl
theorem ty79 : tyOf Tryz.prog 79 = some (Ty.mk 3 56 (TD.struct [(0, 3), (1, 62), (2, 62)]) [Value.int IntKind.i64 0, Value.slice none 0 0, Value.slice none 0 0]) := by kernel_rfl
theorem ty80 : tyOf Tryz.prog 80 = some (Ty.mk 1 8 TD.other [Value.nilFunc]) := by kernel_rfl
theorem ty81 : tyOf Tryz.prog 81 = some (Ty.mk 1 8 TD.other [Value.nilFunc]) := by kernel_rfl
theorem ty82 : tyOf Tryz.prog 82 = some (Ty.mk 1 8 TD.other [Value.nilFunc]) := by kernel_rfl
theorem ty83 : tyOf Tryz.prog 83 = some (Ty.mk 1 8 TD.other [Value.nilFunc]) := by kernel_rfl
theorem ty84 : tyOf Tryz.prog 84 = some (Ty.mk 1 8 TD.other [Value.nilFunc]) := by kernel_rfl
theorem ty85 : tyOf Tryz.prog 85 = some (Ty.mk 1 8 TD.other [Value.nilFunc]) := by kernel_rfl
theorem ty86 : tyOf Tryz.prog 86 = some (Ty.mk 1 8 TD.other [Value.nilFunc]) := by kernel_rfl
theorem ty87 : tyOf Tryz.prog 87 = some (Ty.mk 1 8 TD.other [Value.nilFunc]) := by kernel_rfl
theorem ty88 : tyOf Tryz.prog 88 = some (Ty.mk 1 8 TD.other [Value.nilFunc]) := by kernel_rfl
theorem ty89 : tyOf Tryz.prog 89 = some (Ty.mk 1 8 TD.other [Value.nilFunc]) := by kernel_rfl
theorem ty90 : tyOf Tryz.prog 90 = some (Ty.mk 1 8 TD.other [Value.nilFunc]) := by kernel_rfl
theorem ty91 : tyOf Tryz.prog 91 = some (Ty.mk 1 8 TD.other [Value.nilFunc]) := by kernel_rfl
theorem ty92 : tyOf Tryz.prog 92 = some (Ty.mk 1 8 TD.other [Value.nilFunc]) := by kernel_rfl
theorem ty93 : tyOf Tryz.prog 93 = some (Ty.mk 1 8 TD.other [Value.nilFunc]) := by kernel_rfl
theorem ty94 : tyOf Tryz.prog 94 = some (Ty.mk 1 8 TD.other [Value.pointer none]) := by kernel_rfl
theorem ty95 : tyOf Tryz.prog 95 = some (Ty.mk 1 8 TD.other [Value.nilFunc]) := by kernel_rfl
theorem ty96 : tyOf Tryz.prog 96 = some (Ty.mk 1 8 TD.other [Value.nilFunc]) := by kernel_rfl
theorem ty97 : tyOf Tryz.prog 97 = some (Ty.mk 1 8 TD.other [Value.nilFunc]) := by kernel_rfl
theorem ty98 : tyOf Tryz.prog 98 = some (Ty.mk 1 8 TD.other [Value.nilFunc]) := by kernel_rfl
theorem ty99 : tyOf Tryz.prog 99 = some (Ty.mk 1 8 TD.other [Value.nilFunc]) := by kernel_rfl
theorem ty100 : tyOf Tryz.prog 100 = some (Ty.mk 1 8 TD.other [Value.nilFunc]) := by kernel_rfl
theorem ty101 : tyOf Tryz.prog 101 = some (Ty.mk 1 8 TD.other [Value.nilFunc]) := by kernel_rfl
theorem ty102 : tyOf Tryz.prog 102 = some (Ty.mk 1 8 TD.other [Value.nilFunc]) := by kernel_rfl
theorem ty103 : tyOf Tryz.prog 103 = some (Ty.mk 1 8 TD.other [Value.nilFunc]) := by kernel_rfl
theorem ty104 : tyOf Tryz.prog 104 = some (Ty.mk 1 24 (TD.slice 146) [Value.slice none 0 0]) := by kernel_rfl
theorem ty105 : tyOf Tryz.prog 105 = some (Ty.mk 1 8 TD.other [Value.nilFunc]) := by kernel_rfl
theorem ty106 : tyOf Tryz.prog 106 = some (Ty.mk 1 8 TD.other [Value.nilFunc]) := by kernel_rfl
theorem ty107 : tyOf Tryz.prog 107 = some (Ty.mk 1 8 TD.other [Value.nilFunc]) := by kernel_rfl
theorem ty108 : tyOf Tryz.prog 108 = some (Ty.mk 1 8 TD.other [Value.nilFunc]) := by kernel_rfl
theorem ty109 : tyOf Tryz.prog 109 = some (Ty.mk 1 8 TD.other [Value.nilFunc]) := by kernel_rfl
theorem ty110 : tyOf Tryz.prog 110 = some (Ty.mk 1 8 TD.other [Value.nilFunc]) := by kernel_rfl
theorem ty111 : tyOf Tryz.prog 111 = some (Ty.mk 1 8 TD.other [Value.nilFunc]) := by kernel_rfl
theorem ty112 : tyOf Tryz.prog 112 = some (Ty.mk 1 8 TD.other [Value.nilFunc]) := by kernel_rfl
theorem ty113 : tyOf Tryz.prog 113 = some (Ty.mk 1 8 TD.other [Value.nilFunc]) := by kernel_rfl
theorem ty114 : tyOf Tryz.prog 114 = some (Ty.mk 1 8 TD.other [Value.nilFunc]) := by kernel_rfl
theorem ty115 : tyOf Tryz.prog 115 = some (Ty.mk 1 8 TD.other [Value.nilFunc]) := by kernel_rfl
theorem ty116 : tyOf Tryz.prog 116 = some (Ty.mk 1 8 TD.other [Value.nilFunc]) := by kernel_rfl
theorem ty117 : tyOf Tryz.prog 117 = some (Ty.mk 1 8 TD.other [Value.nilFunc]) := by kernel_rfl
theorem ty118 : tyOf Tryz.prog 118 = some (Ty.mk 1 8 TD.other [Value.nilFunc]) := by kernel_rfl
theorem ty119 : tyOf Tryz.prog 119 = some (Ty.mk 2 32 (TD.struct [(0, 56), (1, 3)]) [Value.slice none 0 0, Value.int IntKind.i64 0]) := by kernel_rfl
theorem ty120 : tyOf Tryz.prog 120 = some (Ty.mk 2 32 (TD.struct [(0, 56), (1, 3)]) [Value.slice none 0 0, Value.int IntKind.i64 0]) := by kernel_rfl
theorem ty121 : tyOf Tryz.prog 121 = some (Ty.mk 1 8 TD.other [Value.nilFunc]) := by kernel_rfl
theorem ty122 : tyOf Tryz.prog 122 = some (Ty.mk 1 8 TD.other [Value.nilFunc]) := by kernel_rfl
theorem ty123 : tyOf Tryz.prog 123 = some (Ty.mk 1 8 TD.other [Value.nilFunc]) := by kernel_rfl
theorem ty124 : tyOf Tryz.prog 124 = some (Ty.mk 1 8 TD.other [Value.nilFunc]) := by kernel_rfl
theorem ty125 : tyOf Tryz.prog 125 = some (Ty.mk 1 0 TD.other [Value.tuple (Array.mk [Value.slice none 0 0, Value.int IntKind.i64 0])]) := by kernel_rfl
theorem ty126 : tyOf Tryz.prog 126 = some (Ty.mk 1 8 TD.other [Value.nilFunc]) := by kernel_rfl
theorem ty127 : tyOf Tryz.prog 127 = some (Ty.mk 1 8 TD.other [Value.nilFunc]) := by kernel_rfl
theorem ty128 : tyOf Tryz.prog 128 = some (Ty.mk 1 24 (TD.slice 62) [Value.slice none 0 0]) := by kernel_rfl
theorem ty129 : tyOf Tryz.prog 129 = some (Ty.mk 1 8 TD.other [Value.nilFunc]) := by kernel_rfl
theorem ty130 : tyOf Tryz.prog 130 = some (Ty.mk 1 8 TD.other [Value.nilFunc]) := by kernel_rfl
theorem ty131 : tyOf Tryz.prog 131 = some (Ty.mk 1 8 TD.other [Value.nilFunc]) := by kernel_rfl
theorem ty132 : tyOf Tryz.prog 132 = some (Ty.mk 1 8 TD.other [Value.nilFunc]) := by kernel_rfl
theorem ty133 : tyOf Tryz.prog 133 = some (Ty.mk 1 0 TD.other [Value.tuple (Array.mk [Value.slice none 0 0, Value.int IntKind.i64 0])]) := by kernel_rfl
theorem ty134 : tyOf Tryz.prog 134 = some (Ty.mk 1 8 TD.other [Value.nilFunc]) := by kernel_rfl
theorem ty135 : tyOf Tryz.prog 135 = some (Ty.mk 1 8 TD.other [Value.nilFunc]) := by kernel_rfl
theorem ty136 : tyOf Tryz.prog 136 = some (Ty.mk 1 24 (TD.slice 9) [Value.slice none 0 0]) := by kernel_rfl
theorem ty137 : tyOf Tryz.prog 137 = some (Ty.mk 1 8 TD.other [Value.nilFunc]) := by kernel_rfl
theorem ty138 : tyOf Tryz.prog 138 = some (Ty.mk 1 8 TD.other [Value.nilFunc]) := by kernel_rfl
theorem ty139 : tyOf Tryz.prog 139 = some (Ty.mk 1 8 TD.other [Value.nilFunc]) := by kernel_rfl
theorem ty140 : tyOf Tryz.prog 140 = some (Ty.mk 1 8 TD.other [Value.nilFunc]) := by kernel_rfl
theorem ty141 : tyOf Tryz.prog 141 = some (Ty.mk 1 0 TD.other [Value.tuple (Array.mk [Value.slice none 0 0, Value.bool false])]) := by kernel_rfl
theorem ty142 : tyOf Tryz.prog 142 = some (Ty.mk 1 8 TD.other [Value.nilFunc]) := by kernel_rfl
theorem ty143 : tyOf Tryz.prog 143 = some (Ty.mk 1 0 TD.other [Value.tuple (Array.mk [Value.agg (Array.mk [Value.string (ByteArray.mk #[]), Value.int IntKind.i64 0, Value.int IntKind.i64 0, Value.int IntKind.i64 0, Value.int IntKind.i64 0]), Value.bool false])]) := by kernel_rfl
theorem ty144 : tyOf Tryz.prog 144 = some (Ty.mk 1 8 TD.other [Value.nilFunc]) := by kernel_rfl
theorem ty145 : tyOf Tryz.prog 145 = some (Ty.mk 3 32 (TD.struct [(0, 9), (1, 33)]) [Value.string (ByteArray.mk #[]), Value.int IntKind.i64 0, Value.int IntKind.i64 0]) := by kernel_rfl
theorem ty146 : tyOf Tryz.prog 146 = some (Ty.mk 3 32 (TD.struct [(0, 9), (1, 33)]) [Value.string (ByteArray.mk #[]), Value.int IntKind.i64 0, Value.int IntKind.i64 0]) := by kernel_rfl
theorem ty147 : tyOf Tryz.prog 147 = some (Ty.mk 1 8 TD.other [Value.nilFunc]) := by kernel_rfl
theorem ty148 : tyOf Tryz.prog 148 = some (Ty.mk 1 8 TD.other [Value.nilFunc]) := by kernel_rfl
theorem ty149 : tyOf Tryz.prog 149 = some (Ty.mk 1 8 TD.other [Value.nilFunc]) := by kernel_rfl
theorem ty150 : tyOf Tryz.prog 150 = some (Ty.mk 1 8 TD.other [Value.nilFunc]) := by kernel_rfl
theorem ty151 : tyOf Tryz.prog 151 = some (Ty.mk 1 8 TD.other [Value.nilFunc]) := by kernel_rfl
theorem ty152 : tyOf Tryz.prog 152 = some (Ty.mk 1 8 TD.other [Value.nilFunc]) := by kernel_rfl
theorem ty153 : tyOf Tryz.prog 153 = some (Ty.mk 1 8 (TD.int IntKind.u64) [Value.int IntKind.u64 0]) := by kernel_rfl
theorem ty154 : tyOf Tryz.prog 154 = some (Ty.mk 1 8 TD.other [Value.nilFunc]) := by kernel_rfl
theorem ty155 : tyOf Tryz.prog 155 = some (Ty.mk 1 8 TD.other [Value.nilFunc]) := by kernel_rfl
theorem ty156 : tyOf Tryz.prog 156 = some (Ty.mk 1 8 TD.other [Value.nilFunc]) := by kernel_rfl
theorem ty157 : tyOf Tryz.prog 157 = some (Ty.mk 1 8 TD.other [Value.nilFunc]) := by kernel_rfl
theorem ty158 : tyOf Tryz.prog 158 = some (Ty.mk 1 8 TD.other [Value.nilFunc]) := by kernel_rfl
theorem ty159 : tyOf Tryz.prog 159 = some (Ty.mk 1 8 TD.other [Value.nilFunc]) := by kernel_rfl
theorem ty160 : tyOf Tryz.prog 160 = some (Ty.mk 1 8 (TD.int IntKind.i64) [Value.int IntKind.i64 0]) := by kernel_rfl
theorem ty161 : tyOf Tryz.prog 161 = some (Ty.mk 1 0 TD.other [Value.tuple (Array.mk [Value.int IntKind.i64 0, Value.int IntKind.i64 0])]) := by kernel_rfl
theorem ty162 : tyOf Tryz.prog 162 = some (Ty.mk 1 8 TD.other [Value.nilFunc]) := by kernel_rfl
theorem ty163 : tyOf Tryz.prog 163 = some (Ty.mk 1 8 TD.other [Value.nilFunc]) := by kernel_rfl
theorem ty164 : tyOf Tryz.prog 164 = some (Ty.mk 1 8 TD.other [Value.nilFunc]) := by kernel_rfl
theorem ty165 : tyOf Tryz.prog 165 = some (Ty.mk 1 0 TD.other [Value.tuple (Array.mk [Value.int IntKind.i64 0, Value.bool false])]) := by kernel_rfl
theorem ty166 : tyOf Tryz.prog 166 = some (Ty.mk 1 8 TD.other [Value.nilFunc]) := by kernel_rfl
theorem ty167 : tyOf Tryz.prog 167 = some (Ty.mk 1 8 TD.other [Value.nilFunc]) := by kernel_rfl
theorem ty168 : tyOf Tryz.prog 168 = some (Ty.mk 1 4 (TD.int IntKind.u32) [Value.int IntKind.u32 0]) := by kernel_rfl
theorem ty169 : tyOf Tryz.prog 169 = some (Ty.mk 1 8 TD.other [Value.nilFunc]) := by kernel_rfl
theorem ty170 : tyOf Tryz.prog 170 = some (Ty.mk 1 8 (TD.int IntKind.u64) [Value.int IntKind.u64 0]) := by kernel_rfl
theorem ty171 : tyOf Tryz.prog 171 = some (Ty.mk 1 8 TD.other [Value.nilFunc]) := by kernel_rfl
theorem ty172 : tyOf Tryz.prog 172 = some (Ty.mk 1 8 TD.other [Value.nilFunc]) := by kernel_rfl
theorem ty173 : tyOf Tryz.prog 173 = some (Ty.mk 1 0 TD.other [Value.tuple (Array.mk [Value.int IntKind.i32 0, Value.int IntKind.i64 0])]) := by kernel_rfl
theorem ty174 : tyOf Tryz.prog 174 = some (Ty.mk 1 8 TD.other [Value.nilFunc]) := by kernel_rfl
theorem ty175 : tyOf Tryz.prog 175 = some (Ty.mk 1 8 TD.other [Value.nilFunc]) := by kernel_rfl
theorem ty176 : tyOf Tryz.prog 176 = some (Ty.mk 1 8 TD.other [Value.nilFunc]) := by kernel_rfl
theorem ty177 : tyOf Tryz.prog 177 = some (Ty.mk 1 8 (TD.int IntKind.u64) [Value.int IntKind.u64 0]) := by kernel_rfl
theorem ty178 : tyOf Tryz.prog 178 = some (Ty.mk 1 8 TD.other [Value.nilFunc]) := by kernel_rfl
theorem ty179 : tyOf Tryz.prog 179 = some (Ty.mk 1 8 TD.other [Value.nilFunc]) := by kernel_rfl
theorem ty180 : tyOf Tryz.prog 180 = some (Ty.mk 1 8 TD.other [Value.nilFunc]) := by kernel_rfl
theorem ty181 : tyOf Tryz.prog 181 = some (Ty.mk 1 8 TD.other [Value.pointer none]) := by kernel_rfl
theorem ty182 : tyOf Tryz.prog 182 = some (Ty.mk 1 8 TD.other [Value.nilFunc]) := by kernel_rfl
theorem ty183 : tyOf Tryz.prog 183 = some (Ty.mk 1 8 TD.other [Value.pointer none]) := by kernel_rfl
theorem ty184 : tyOf Tryz.prog 184 = some (Ty.mk 1 0 TD.other [Value.tuple (Array.mk [Value.int IntKind.i64 0, Value.int IntKind.i64 0])]) := by kernel_rfl
theorem ty185 : tyOf Tryz.prog 185 = some (Ty.mk 1 8 TD.other [Value.nilFunc]) := by kernel_rfl
theorem ty187 : tyOf Tryz.prog 187 = some (Ty.mk 2 2 (TD.struct [(0, 5), (1, 5)]) [Value.int IntKind.u8 0, Value.int IntKind.u8 0]) := by kernel_rfl
theorem ty188 : tyOf Tryz.prog 188 = some (Ty.mk 2 2 (TD.struct [(0, 5), (1, 5)]) [Value.int IntKind.u8 0, Value.int IntKind.u8 0]) := by kernel_rfl
theorem ty189 : tyOf Tryz.prog 189 = some (Ty.mk 32 32 TD.array [Value.int IntKind.u8 0, Value.int IntKind.u8 0, Value.int IntKind.u8 0, Value.int IntKind.u8 0, Value.int IntKind.u8 0, Value.int IntKind.u8 0, Value.int IntKind.u8 0, Value.int IntKind.u8 0, Value.int IntKind.u8 0, Value.int IntKind.u8 0, Value.int IntKind.u8 0, Value.int IntKind.u8 0, Value.int IntKind.u8 0, Value.int IntKind.u8 0, Value.int IntKind.u8 0, Value.int IntKind.u8 0, Value.int IntKind.u8 0, Value.int IntKind.u8 0, Value.int IntKind.u8 0, Value.int IntKind.u8 0, Value.int IntKind.u8 0, Value.int IntKind.u8 0, Value.int IntKind.u8 0, Value.int IntKind.u8 0, Value.int IntKind.u8 0, Value.int IntKind.u8 0, Value.int IntKind.u8 0, Value.int IntKind.u8 0, Value.int IntKind.u8 0, Value.int IntKind.u8 0, Value.int IntKind.u8 0, Value.int IntKind.u8 0]) := by kernel_rfl
theorem ty190 : tyOf Tryz.prog 190 = some (Ty.mk 1 0 TD.other [Value.tuple (Array.mk [Value.int IntKind.u32 0, Value.int IntKind.u32 0])]) := by kernel_rfl
theorem ty191 : tyOf Tryz.prog 191 = some (Ty.mk 1 8 TD.other [Value.nilFunc]) := by kernel_rfl
theorem ty192 : tyOf Tryz.prog 192 = some (Ty.mk 1 8 TD.other [Value.nilFunc]) := by kernel_rfl
theorem ty193 : tyOf Tryz.prog 193 = some (Ty.mk 4 40 (TD.struct [(0, 17), (1, 17), (2, 17), (3, 9)]) [Value.pointer none, Value.pointer none, Value.pointer none, Value.string (ByteArray.mk #[])]) := by kernel_rfl
theorem ty194 : tyOf Tryz.prog 194 = some (Ty.mk 4 40 (TD.struct [(0, 17), (1, 17), (2, 17), (3, 9)]) [Value.pointer none, Value.pointer none, Value.pointer none, Value.string (ByteArray.mk #[])]) := by kernel_rfl
theorem ty195 : tyOf Tryz.prog 195 = some (Ty.mk 0 0 TD.array []) := by kernel_rfl
theorem ty196 : tyOf Tryz.prog 196 = some (Ty.mk 0 0 TD.array []) := by kernel_rfl
theorem ty197 : tyOf Tryz.prog 197 = some (Ty.mk 0 0 TD.array []) := by kernel_rfl
theorem ty198 : tyOf Tryz.prog 198 = some (Ty.mk 1 8 TD.other [Value.nilFunc]) := by kernel_rfl
theorem ty199 : tyOf Tryz.prog 199 = some (Ty.mk 1 1 (TD.int IntKind.u8) [Value.int IntKind.u8 0]) := by kernel_rfl
theorem ty200 : tyOf Tryz.prog 200 = some (Ty.mk 1 1 (TD.int IntKind.u8) [Value.int IntKind.u8 0]) := by kernel_rfl
theorem ty201 : tyOf Tryz.prog 201 = some (Ty.mk 1 8 TD.other [Value.nilFunc]) := by kernel_rfl
theorem ty202 : tyOf Tryz.prog 202 = some (Ty.mk 1 8 TD.other [Value.pointer none]) := by kernel_rfl
theorem ty203 : tyOf Tryz.prog 203 = some (Ty.mk 1 4 (TD.int IntKind.i32) [Value.int IntKind.i32 0]) := by kernel_rfl
theorem ty204 : tyOf Tryz.prog 204 = some (Ty.mk 1 4 (TD.int IntKind.i32) [Value.int IntKind.i32 0]) := by kernel_rfl
theorem ty205 : tyOf Tryz.prog 205 = some (Ty.mk 11 48 (TD.struct [(0, 12), (1, 12), (2, 168), (3, 199), (4, 5), (5, 5), (6, 200), (7, 201), (8, 202), (9, 203), (10, 204)]) [Value.int IntKind.u64 0, Value.int IntKind.u64 0, Value.int IntKind.u32 0, Value.int IntKind.u8 0, Value.int IntKind.u8 0, Value.int IntKind.u8 0, Value.int IntKind.u8 0, Value.nilFunc, Value.pointer none, Value.int IntKind.i32 0, Value.int IntKind.i32 0]) := by kernel_rfl
theorem ty206 : tyOf Tryz.prog 206 = some (Ty.mk 11 48 (TD.struct [(0, 12), (1, 12), (2, 168), (3, 199), (4, 5), (5, 5), (6, 200), (7, 201), (8, 202), (9, 203), (10, 204)]) [Value.int IntKind.u64 0, Value.int IntKind.u64 0, Value.int IntKind.u32 0, Value.int IntKind.u8 0, Value.int IntKind.u8 0, Value.int IntKind.u8 0, Value.int IntKind.u8 0, Value.nilFunc, Value.pointer none, Value.int IntKind.i32 0, Value.int IntKind.i32 0]) := by kernel_rfl
theorem ty207 : tyOf Tryz.prog 207 = some (Ty.mk 1 8 TD.other [Value.nilFunc]) := by kernel_rfl
theorem ty208 : tyOf Tryz.prog 208 = some (Ty.mk 1 8 TD.other [Value.pointer none]) := by kernel_rfl
attribute [push_cast] ty0 ty1 ty2 ty3 ty4 ty5 ty6 ty7 ty8 ty9 ty10 ty11 ty12 ty13 ty14 ty15 ty16 ty17 ty18 ty19 ty20 ty21 ty22 ty23 ty24 ty25 ty26 ty27 ty28 ty29 ty30 ty31 ty32 ty33 ty34 ty35 ty36 ty37 ty38 ty39 ty40 ty41 ty42 ty43 ty44 ty45 ty46 ty47 ty48 ty49 ty50 ty51 ty52 ty53 ty54 ty55 ty56 ty57 ty58 ty59 ty60 ty61 ty62 ty63 ty64 ty65 ty66 ty67 ty68 ty69 ty70 ty71 ty72 ty73 ty74 ty75 ty76 ty77 ty78 ty79 ty80 ty81 ty82 ty83 ty84 ty85 ty86 ty87 ty88 ty89 ty90 ty91 ty92 ty93 ty94 ty95 ty96 ty97 ty98 ty99 ty100 ty101 ty102 ty103 ty104 ty105 ty106 ty107 ty108 ty109 ty110 ty111 ty112 ty113 ty114 ty115 ty116 ty117 ty118 ty119 ty120 ty121 ty122 ty123 ty124 ty125 ty126 ty127 ty128 ty129 ty130 ty131 ty132 ty133 ty134 ty135 ty136 ty137 ty138 ty139 ty140 ty141 ty142 ty143 ty144 ty145 ty146 ty147 ty148 ty149 ty150 ty151 ty152 ty153 ty154 ty155 ty156 ty157 ty158 ty159 ty160 ty161 ty162 ty163 ty164 ty165 ty166 ty167 ty168 ty169 ty170 ty171 ty172 ty173 ty174 ty175 ty176 ty177 ty178 ty179 ty180 ty181 ty182 ty183 ty184 ty185 ty187 ty188 ty189 ty190 ty191 ty192 ty193 ty194 ty195 ty196 ty197 ty198 ty199 ty200 ty201 ty202 ty203 ty204 ty205 ty206 ty207 ty208

end Go.Proofs.YtccifbbjbnjcfaaGreatDoor
/-
  The abstract machine: forgetting; rules for the stops.
-/
namespace Go.Proofs.YtccifbbjbnjcfaaGreatDoor
open Go Go.RowKit

def leL : List AV → List AV → Prop
  | [], [] => True
  | x :: l, y :: l' => (y = .any ∨ x = y) ∧ leL l l'
  | _, _ => False
def inH (h : Hp) (r : Nat) : Bool := match hget h r with | some _ => true | none => false
def sameRow (row row' : Row) : Prop := row'.E = row.E ∧ row'.sz = row.sz ∧ row'.es = row.es ∧ (row'.cl = true → (row.cl || row.es.all (·.all isC)) = true)
def leH (h : Hp) : Hp → Prop
  | [] => True
  | (r, row') :: l => (match hget h r with | some row => sameRow row row' | none => False) ∧ leH h l
def idsR (h : Hp) : Hp → Bool
  | [] => true
  | (_, row) :: l => (row.cl || row.es.all fun e => (idsL e).all (inH h)) && idsR h l

theorem leL_get : ∀ {l l' : List AV}, leL l l' → l.length = l'.length ∧ ∀ (i : Nat) y, l'[i]? = some y → y = .any ∨ l[i]? = some y
  | [], [], _ => ⟨rfl, fun i y h => by simp at h⟩
  | x :: l, y :: l', h => by
    obtain ⟨h1, h2⟩ := h
    obtain ⟨g1, g2⟩ := leL_get h2
    refine ⟨by simp [g1], fun i z hz => ?_⟩
    cases i with
    | zero =>
      simp at hz
      subst hz
      exact h1.imp id fun e => by simp [e]
    | succ i => simpa using g2 i z (by simpa using hz)
theorem leH_get {h : Hp} : ∀ {h' : Hp}, leH h h' → ∀ r row', hget h' r = some row' → ∃ row, hget h r = some row ∧ sameRow row row'
  | [], _, r, row', hr => by cases hr
  | (k, x) :: l, hl, r, row', hr => by
    simp only [leH] at hl
    simp only [hget] at hr
    split at hr
    · rename_i hk
      subst hk
      cases hr
      cases hh : hget h k with
      | none => rw [hh] at hl; exact hl.1.elim
      | some row => rw [hh] at hl; exact ⟨row, rfl, hl.1⟩
    · exact leH_get hl.2 r row' hr
theorem idsR_get {h : Hp} : ∀ {h' : Hp}, idsR h h' = true → ∀ r row, hget h' r = some row → row.cl = true ∨ ∀ e ∈ row.es, (idsL e).all (inH h) = true
  | [], _, r, row, hr => by cases hr
  | (k, x) :: l, hi, r, row, hr => by
    simp only [idsR, Bool.and_eq_true, Bool.or_eq_true, List.all_eq_true] at hi
    simp only [hget] at hr
    split at hr
    · cases hr
      exact hi.1.imp id fun h e he => by simpa using h e he
    · exact idsR_get (by simpa [List.all_eq_true] using hi.2) r row hr

theorem idsL_mem : ∀ {l : List AV} {i : Nat} {y : AV}, l[i]? = some y → ∀ r ∈ idsA y, r ∈ idsL l
  | [], i, y, h, _, _ => by simp at h
  | z :: l, 0, y, h, r, hr => by
    simp at h
    subst h
    simp only [idsL, List.mem_append]
    exact .inl hr
  | z :: l, i + 1, y, h, r, hr => by
    simp only [idsL, List.mem_append]
    exact .inr (idsL_mem (l := l) (i := i) (by simpa using h) r hr)

theorem G.sub {h h' : Hp} {loc : Loc} {w : World} {x : AV} {u : Value} (hg : G h loc w x u) (hs : ∀ r ∈ idsA x, inH h' r = true) (hh : leH h h') (hC : ∀ x u, C (Live h loc) 0 w x u → C (Live h' loc) 0 w x u) : G h' loc w x u := by
  have hrow : ∀ r row, inH h' r = true → hget h r = some row → ∃ row', hget h' r = some row' ∧ sameRow row row' := fun r row hi hr => by
    unfold inH at hi
    split at hi
    · rename_i row' hr'
      obtain ⟨row2, h1, h2⟩ := leH_get hh r row' hr'
      rw [hr] at h1
      cases h1
      exact ⟨row', hr', h2⟩
    · cases hi
  induction hg with
  | cl hc => exact .cl (hC _ _ hc)
  | @o r n row b c hr hl hn =>
    obtain ⟨row', h1, h2, h3, h4, _⟩ := hrow r row (hs r (by simp [idsA])) hr
    exact .o h1 hl (by rw [h4]; exact hn)
  | @onil r row hr hl =>
    obtain ⟨row', h1, _⟩ := hrow r row (hs r (by simp [idsA])) hr
    exact .onil h1 hl
  | @p r k off row b c hr hl =>
    obtain ⟨row', h1, h2, h3, h4, _⟩ := hrow r row (hs r (by simp [idsA])) hr
    rw [← h3]
    exact .p h1 hl
  | @q r lo z n row b c A c' hr hl hn =>
    obtain ⟨row', h1, h2, h3, h4, _⟩ := hrow r row (hs r (by simp [idsA])) hr
    exact .q h1 hl hn
  | fn vs hvs hg ih => exact .fn vs hvs fun j a ha => ih j a ha fun r hr => hs r (by simp only [idsA]; exact idsL_mem ha r hr)
  | agg vs hvs hg ih => exact .agg vs hvs fun j a ha => ih j a ha fun r hr => hs r (by simp only [idsA]; exact idsL_mem ha r hr)
  | tup vs hvs hg ih => exact .tup vs hvs fun j a ha => ih j a ha fun r hr => hs r (by simp only [idsA]; exact idsL_mem ha r hr)

theorem wk_ok {s s' : AS} (ht : leL s.t s'.t) (hh : leH s.h s'.h) (hi : (idsL s'.t).all (inH s'.h) = true) (hr : idsR s'.h s'.h = true) : Wk s s' := by
  intro w0 lent loc a w hR
  obtain ⟨g1, g2⟩ := leL_get ht
  have hlive : ∀ b, Live s'.h loc b → Live s.h loc b := by
    rintro b (⟨r, row', c, h1, h2⟩ | hf)
    · obtain ⟨row, h3, _⟩ := leH_get hh r row' h1
      exact .inl ⟨r, row, c, h3, h2⟩
    · exact .inr hf
  have hC : ∀ x u, C (Live s.h loc) 0 w x u → C (Live s'.h loc) 0 w x u := fun x u hx => hx.mono (Nat.le_refl _) (Nat.le_refl _) fun b _ _ hnl => ⟨fun h => hnl (hlive b h), rfl⟩
  refine ⟨loc, hR.tsz.trans g1, fun i y hy => ?_, hR.df, fun r row' h1 => ?_, fun r r' row row' b c c' h1 h2 h3 h4 => ?_, fun r row' b c h1 h2 => ?_, hR.os, hR.tape, hR.output, hR.size, hR.keep, hR.fbe, hR.fbl, hR.pn, hR.pl⟩
  · rcases g2 i y hy with rfl | h
    · exact .cl .any
    · exact (hR.tm i y h).sub (fun r hr => List.all_eq_true.1 hi r (idsL_mem hy r hr)) hh hC
  · obtain ⟨row, h2, e1, e2, e3, e4⟩ := leH_get hh r row' h1
    obtain ⟨q1, xs, q2, q3⟩ := hR.rw r row h2
    refine ⟨fun k e he => ?_, xs, ?_, fun k e j x he hx => ?_⟩
    · rw [e3] at he; rw [e2]; exact q1 k e he
    · rw [e1, e2, e3]; exact q2
    · rw [e3] at he
      obtain ⟨u, p1, p2, p3, p4⟩ := q3 k e j x he hx
      refine ⟨u, by rw [e2]; exact p1, p2, ?_, fun hc => ?_⟩
      · rcases idsR_get hr r row' h1 with hc | hc
        · have := e4 hc
          rw [Bool.or_eq_true] at this
          rcases this with h | h
          · exact .cl (hC _ _ (p4 h))
          · exact .cl (hC _ _ (isC_ok p3 (List.all_eq_true.1 (List.all_eq_true.1 h e (List.mem_of_getElem? he)) x (List.mem_of_getElem? hx))))
        · refine p3.sub (fun r' hr' => ?_) hh hC
          have := hc e (by rw [e3]; exact List.mem_of_getElem? he)
          exact List.all_eq_true.1 this r' (idsL_mem hx r' hr')
      · have := e4 hc
        rw [Bool.or_eq_true] at this
        rcases this with h | h
        · exact hC _ _ (p4 h)
        · exact hC _ _ (isC_ok p3 (List.all_eq_true.1 (List.all_eq_true.1 h e (List.mem_of_getElem? he)) x (List.mem_of_getElem? hx)))
  · obtain ⟨row1, g3, _⟩ := leH_get hh r row h1
    obtain ⟨row2, g4, _⟩ := leH_get hh r' row' h2
    exact hR.inj r r' row1 row2 b c c' g3 g4 h3 h4
  · obtain ⟨row1, g3, _⟩ := leH_get hh r row' h1
    exact hR.own r row1 b c g3 h2

/-- The slots that code writes. -/
def dstO : List Oper → List Nat
  | [] => []
  | o :: l => match o.dst with
    | some d => d :: dstO l
    | none => dstO l
def dsts : Code → List Nat
  | .region _ ops _ => dstO ops.toList
  | .seq a b => dsts a ++ dsts b
  | .cond _ a b => dsts a ++ dsts b
  | .block _ c => dsts c
  | .loop c => dsts c
  | _ => []
def hvA : List AV → List Nat → List AV
  | t, [] => t
  | t, d :: l => hvA (setA t d .any) l
def upA : List AV → List (Nat × AV) → List AV
  | t, [] => t
  | t, (d, x) :: l => upA (setA t d x) l

section
variable {P : Program} {w0 : World} {lent : Lent} {Q : Exit → Act → World → Prop}
theorem go_on {k : List It} {s : AS} (h : RWp P w0 lent Q (run P 400 k s)) : AW P w0 lent Q k s := run_sound 400 k s h
theorem at_b {go : List It → AS → R} {k1 k2 : List It} {s1 s2 : AS} {b : Bool} (h1 : b = true → RWp P w0 lent Q (go k1 s1)) (h2 : b = false → RWp P w0 lent Q (go k2 s2)) : RWp P w0 lent Q (br go k1 s1 k2 s2 b) := by
  cases b
  · exact h2 rfl
  · exact h1 rfl
theorem at_chk {φ : Prop} {r : R} (h1 : φ) (h2 : RWp P w0 lent Q r) : RWp P w0 lent Q (.chk φ r) := ⟨h1, h2⟩
theorem at_more {k : List It} {s : AS} (h : AW P w0 lent Q k s) : RWp P w0 lent Q (.more k s) := h
theorem at_fin {K : AS → Prop} {s : AS} (h : K s) : RWp P w0 lent Q (.fin K s) := h
/-- A loop: the slots that it writes and that are read later, by f; the rows that stay, by g. -/
theorem at_loop {c : Code} {k : List It} {s : AS} {X : Type} (f : X → List (Nat × AV)) (g : X → Hp) (J : X → Prop) (μ : X → Nat) (x0 : X) (hj : J x0) (h0 : Wk s ⟨upA (hvA s.t (dsts c)) (f x0), g x0⟩)
    (hr : ∀ x, J x → AW P w0 lent Q (.code c :: .fin (fun s' => ∃ y, J y ∧ μ y < μ x ∧ Wk s' ⟨upA (hvA s.t (dsts c)) (f y), g y⟩) :: k) ⟨upA (hvA s.t (dsts c)) (f x), g x⟩) : RWp P w0 lent Q (.loop c k s) :=
  loop_rule (fun x => ⟨upA (hvA s.t (dsts c)) (f x), g x⟩) J μ x0 hj h0 hr
end
section
variable {P : Program} {w0 : World} {fb : Nat → Prop} {fn : Func} {D : AV → List Row → Prop}
theorem at_ret {s : AS} (h : match retR P fn.results.toList s with | some (rv, rows) => D rv rows | none => False) : RWB P w0 fb fn D (.ret s) := by
  split at h
  · rename_i rv rows hr; exact ret_rule hr h
  · exact h.elim
end

end Go.Proofs.YtccifbbjbnjcfaaGreatDoor
/-
  The abstract machine: its steps as rules, all by definition.
-/
namespace Go.Proofs.YtccifbbjbnjcfaaGreatDoor
open Go Go.RowKit

section
variable (P : Program) (n : Nat) (k : List It) (s : AS) (h : Hp) (ρ : Operand → AV) (d : Option Tmp) (ty : TypeId) (g : Option (Option Tmp × Bool)) (l : List SO) (go : AS → R) (o : SO)
theorem run_nil : run P (n + 1) [] s = .fall s := rfl
theorem run_skip : run P (n + 1) (.code .skip :: k) s = run P n k s := rfl
theorem run_seq (a b : Code) : run P (n + 1) (.code (.seq a b) :: k) s = run P n (.code a :: .code b :: k) s := rfl
theorem run_regf (id : Nat) (ops : List Oper) : run P (n + 1) (.code (.region id ⟨ops⟩ false) :: k) s = run P n (.ops (ops.map (cmpO ops)) :: k) s := rfl
theorem run_regt (id : Nat) (ops : Array Oper) : run P (n + 1) (.code (.region id ops true) :: k) s = .draw id ops k s := rfl
theorem run_cond (c : Operand) (a b : Code) : run P (n + 1) (.code (.cond c a b) :: k) s = gd (run P n) (.code a :: k) s (.code b :: k) s (evA s.t c) := rfl
theorem run_block (id : Nat) (c : Code) : run P (n + 1) (.code (.block id c) :: k) s = run P n (.code c :: .inBlock id :: k) s := rfl
theorem run_loop (c : Code) : run P (n + 1) (.code (.loop c) :: k) s = .loop c k s := rfl
theorem run_exit (id : Nat) : run P (n + 1) (.code (.exit id) :: k) s = (match exitTo' id k with | some k' => run P n k' s | none => .stuck k s) := rfl
theorem run_ret : run P (n + 1) (.code .ret :: k) s = .ret s := rfl
theorem run_inBlock (id : Nat) : run P (n + 1) (.inBlock id :: k) s = run P n k s := rfl
theorem run_fin (K : AS → Prop) : run P (n + 1) (.fin K :: k) s = .fin K s := rfl
theorem run_ops : run P (n + 1) (.ops [] :: k) s = run P n k s := rfl
theorem run_op (op : Op) : run P (n + 1) (.ops (⟨d, op, ty, none⟩ :: l) :: k) s = kPe P ⟨d, op, ty, none⟩ (.ops l :: k) s (run P n (.ops l :: k)) (pe P s.h (evA s.t) (SO.oper ⟨d, op, ty, none⟩)) := rfl
theorem run_opt (op : Op) (j : Tmp) : run P (n + 1) (.ops (⟨d, op, ty, some (some j, true)⟩ :: l) :: k) s = gu (run P n) (.ops (⟨d, op, ty, none⟩ :: l) :: k) s (.ops l :: k) (s.put d (.v undef)) (.ops l :: k) (s.put d (.v undef)) (getA s.t j) := rfl
theorem run_opf (op : Op) (j : Tmp) : run P (n + 1) (.ops (⟨d, op, ty, some (some j, false)⟩ :: l) :: k) s = gu (run P n) (.ops l :: k) (s.put d (.v undef)) (.ops (⟨d, op, ty, none⟩ :: l) :: k) s (.ops l :: k) (s.put d (.v undef)) (getA s.t j) := rfl
theorem gd_b (go : List It → AS → R) (k1 : List It) (s1 : AS) (k2 : List It) (s2 : AS) (b : Bool) : gd go k1 s1 k2 s2 (.v (.bool b)) = br go k1 s1 k2 s2 b := rfl
theorem gu_b (go : List It → AS → R) (k1 : List It) (s1 : AS) (k2 : List It) (s2 : AS) (k3 : List It) (s3 : AS) (b : Bool) : gu go k1 s1 k2 s2 k3 s3 (.v (.bool b)) = br go k1 s1 k2 s2 b := rfl
theorem gu_u (go : List It → AS → R) (k1 : List It) (s1 : AS) (k2 : List It) (s2 : AS) (k3 : List It) (s3 : AS) : gu go k1 s1 k2 s2 k3 s3 (.v undef) = go k3 s3 := rfl
theorem br_t (go : List It → AS → R) (k1 : List It) (s1 : AS) (k2 : List It) (s2 : AS) : br go k1 s1 k2 s2 true = go k1 s1 := rfl
theorem br_f (go : List It → AS → R) (k1 : List It) (s1 : AS) (k2 : List It) (s2 : AS) : br go k1 s1 k2 s2 false = go k2 s2 := rfl
theorem kPe_val (x : AV) (t : List AV) (dd : Tmp) (op : Op) : kPe P ⟨some dd, op, ty, g⟩ k ⟨t, h⟩ go (.val x) = go ⟨setA t dd x, h⟩ := rfl
theorem kPe_newp (row : Row) : kPe P o k s go (.newp row) = layA k s go o.dst row fun d => .p d 0 0 := rfl
theorem kPe_news (row : Row) : kPe P o k s go (.news row) = layA k s go o.dst row fun d => .o d row.es.length := rfl
theorem kPe_nil (row : Row) : kPe P o k s go (.nil row) = layA k s go o.dst row fun d => .o d 0 := rfl
theorem kPe_mks (φ : Prop) (row : Row) : kPe P o k s go (.mks φ row) = .chk φ (layA k s go o.dst row fun d => .o d row.es.length) := rfl
theorem kPe_no (op : Op) : kPe P ⟨d, op, ty, g⟩ k s go .no = effA P k s go d op := rfl
theorem pe_move (x : Operand) : pe P h ρ (SO.oper ⟨d, .move x, ty, g⟩) = mvA P ty (ρ x) := rfl
theorem pe_assign (x : Operand) : pe P h ρ (SO.oper ⟨d, .assign x, ty, g⟩) = mvA P ty (ρ x) := rfl
def pkA (a b : AV) : AV → PeR
  | .v (.bool c') => .val (sel c' a b)
  | _ => .no
theorem pe_pick (c a b : Operand) : pe P h ρ (SO.oper ⟨d, .pick c a b, ty, g⟩) = pkA (ρ a) (ρ b) (ρ c) := rfl
theorem pkA_b (a b : AV) (c : Bool) : pkA a b (.v (.bool c)) = .val (sel c a b) := rfl
theorem sel_t (a b : AV) : sel true a b = a := rfl
theorem sel_f (a b : AV) : sel false a b = b := rfl
theorem pe_alloc (t : TypeId) : pe P h ρ (SO.oper ⟨d, .alloc t, ty, g⟩) = .ofP (alA P t) := rfl
theorem pe_box (t : TypeId) (x : Operand) : pe P h ρ (SO.oper ⟨d, .box t x, ty, g⟩) = .ofP (bxA t (ρ x)) := rfl
theorem pe_build (t : TypeId) (ps : List (Nat × Operand)) : pe P h ρ (SO.oper ⟨d, .build t ⟨ps⟩, ty, g⟩) = .ofV (bsA P t ρ ps) := rfl
theorem pe_buildSlice (t : TypeId) (m : Nat) (ps : List (Nat × Operand)) : pe P h ρ (SO.oper ⟨d, .buildSlice t m ⟨ps⟩, ty, g⟩) = .ofS (bslA P t m ρ ps) := rfl
theorem pe_load (t : TypeId) (x : Operand) : pe P h ρ (SO.oper ⟨d, .load t x, ty, g⟩) = .ofV (ldA P h t (ρ x)) := rfl
theorem pe_bin (b : BinOp) (t u : TypeId) (x y : Operand) : pe P h ρ (SO.oper ⟨d, .binOp b t x y u, ty, g⟩) = .ofV (bnA P b t (ρ x) (ρ y)) := rfl
def unA (u : UnOp) (x : AV) : PeR := match u, x with
    | .not, .v (.bool b) => .val (.v (.bool (!b)))
    | .neg, .v (.int k n) => .val (.v (.int k (k.wrap (0 - n))))
    | _, _ => .no
theorem pe_un (u : UnOp) (t : TypeId) (x : Operand) : pe P h ρ (SO.oper ⟨d, .unOp u t x, ty, g⟩) = unA u (ρ x) := rfl
theorem unA_not (b : Bool) : unA .not (.v (.bool b)) = .val (.v (.bool (!b))) := rfl
theorem unA_neg (k : IntKind) (n : Int) : unA .neg (.v (.int k n)) = .val (.v (.int k (k.wrap (0 - n)))) := rfl
def cvA (P : Program) (h : Hp) (a b : TypeId) (x : AV) : PeR := match tyOf P a, tyOf P b, x with
    | some _, some ⟨_, _, .int k, _⟩, .v (.int _ n) => .val (.v (.int k (k.wrap n)))
    | _, _, _ => .ofV (cvS P h a b x)
theorem pe_conv (a b : TypeId) (x : Operand) : pe P h ρ (SO.oper ⟨d, .convert a b x, ty, g⟩) = cvA P h a b (ρ x) := rfl
theorem pe_nilCheck (x : Operand) : pe P h ρ (SO.oper ⟨d, .nilCheck x, ty, g⟩) = .ofV (ncA (ρ x)) := rfl
theorem pe_makeSlice (t : TypeId) (x y : Operand) : pe P h ρ (SO.oper ⟨d, .makeSlice t x y, ty, g⟩) = mkA P t (ρ x) (ρ y) := rfl
theorem pe_func (f : FuncId) (cs : List Operand) : pe P h ρ (SO.oper ⟨d, .makeFunc (.func f) #[] ⟨cs⟩, ty, g⟩) = .val (.fn f (cs.map ρ)) := rfl
theorem pe_bm (f : FuncId) (x : Operand) (xs cs : List Operand) : pe P h ρ (SO.oper ⟨d, .makeFunc (.func f) ⟨x :: xs⟩ ⟨cs⟩, ty, g⟩) = bmA f (valFs ((x :: xs).map ρ)) (valFs (cs.map ρ)) := rfl
theorem pe_slice (t : TypeId) (x : Operand) (lo hi : Option Operand) : pe P h ρ (SO.oper ⟨d, .slice t x lo hi none, ty, g⟩) = .ofV (slA P t (ρ x) (lo.map ρ) (hi.map ρ)) := rfl
theorem pe_fieldAddr (t : TypeId) (x : Operand) (f : Nat) : pe P h ρ (SO.oper ⟨d, .fieldAddr t x f, ty, g⟩) = .ofV (faA P t (ρ x) f) := rfl
theorem pe_field (t : TypeId) (x : Operand) (f : Nat) : pe P h ρ (SO.oper ⟨d, .field t x f, ty, g⟩) = .ofV (fdA P t (ρ x) f) := rfl
theorem pe_indexAddr (t : TypeId) (x i : Operand) : pe P h ρ (SO.oper ⟨d, .indexAddr t x i, ty, g⟩) = .ofV (ixA P h t (ρ x) (ρ i)) := rfl
def isA (P : Program) (t : TypeId) (x i : AV) : PeR := match tyOf P t, x, i with
    | some ⟨_, _, .string, _⟩, .v (.string s), .v (.int _ n) => if 0 ≤ n then (match s[n.toNat]? with
      | some b => .val (.v (.int .u8 b.toNat))
      | none => .no) else .no
    | _, _, _ => .no
theorem pe_index (t : TypeId) (x i : Operand) : pe P h ρ (SO.oper ⟨d, .index t x i, ty, g⟩) = isA P t (ρ x) (ρ i) := rfl
def exA (i : Nat) : AV → PeR
    | .tup vs => .ofV vs[i]?
    | _ => .no
theorem pe_extract (x : Operand) (i : Nat) : pe P h ρ (SO.oper ⟨d, .extract x i, ty, g⟩) = exA i (ρ x) := rfl
theorem exA_tup (i : Nat) (vs : List AV) : exA i (.tup vs) = .ofV vs[i]? := rfl
theorem pe_len (x : Operand) (t : TypeId) : pe P h ρ (SO.oper ⟨d, .call ⟨.builtin .len, ⟨[x]⟩, ⟨[t]⟩⟩, ty, g⟩) = .ofV (lnA P t (ρ x)) := rfl
theorem pe_append (xs : List Operand) (ts : List TypeId) : pe P h ρ (SO.oper ⟨d, .call ⟨.builtin .append, ⟨xs⟩, ⟨ts⟩⟩, ty, g⟩) = .no := rfl
def mnA (x y : AV) : PeR := match x, y with
      | .v (.int k a), .v (.int _ b) => .val (.v (.int k (if b < a then b else a)))
      | _, _ => .no
theorem pe_min (x y : Operand) (ts : List TypeId) : pe P h ρ (SO.oper ⟨d, .call ⟨.builtin .min, ⟨[x, y]⟩, ⟨ts⟩⟩, ty, g⟩) = mnA (ρ x) (ρ y) := rfl
theorem pe_call (f : Operand) (xs : List Operand) (ts : List TypeId) : pe P h ρ (SO.oper ⟨d, .call ⟨.value f, ⟨xs⟩, ⟨ts⟩⟩, ty, g⟩) = .no := rfl
theorem pe_store (t : TypeId) (x y : Operand) : pe P h ρ (SO.oper ⟨d, .store t x y, ty, g⟩) = .no := rfl
def efS (k : List It) (s : AS) (go : AS → R) : Option Hp → R
  | some h' => go ⟨s.t, h'⟩
  | none => .stuck k s
theorem eff_store (t : TypeId) (x y : Operand) : effA P k s go none (.store t x y) = efS k s go (stA P s.h t (evA s.t x) (evA s.t y)) := by
  simp only [effA, efS]
  cases stA P s.h t (evA s.t x) (evA s.t y) <;> rfl
theorem efS_some (t : List AV) (h h' : Hp) : efS k ⟨t, h⟩ go (some h') = go ⟨t, h'⟩ := rfl
def efF (k : List It) (s : AS) (d : Option Tmp) (xs : List AV) : AV → R
  | .fn g caps => .call g (xs ++ caps) d k s
  | .v (.func (.func g) fs cs) => .call g (fs.toList.map .v ++ (xs ++ cs.toList.map .v)) d k s
  | _ => .stuck k s
theorem eff_call (f : Operand) (xs : List Operand) (ts : List TypeId) : effA P k s go d (.call ⟨.value f, ⟨xs⟩, ⟨ts⟩⟩) = efF k s d (xs.map (evA s.t)) (evA s.t f) := by
  simp only [effA]
  generalize evA s.t f = v
  unfold efF
  split <;> first | rfl | (split <;> simp_all)
theorem efF_v (xs : List AV) (f : FuncId) (fs cs : Array Value) : efF k s d xs (.v (.func (.func f) fs cs)) = .call f (fs.toList.map .v ++ (xs ++ cs.toList.map .v)) d k s := rfl
theorem efF_fn (xs caps : List AV) (f : FuncId) : efF k s d xs (.fn f caps) = .call f (xs ++ caps) d k s := rfl
def efP (k : List It) (s : AS) (go : AS → R) : Option (Prop × AS) → R
  | some (φ, s') => .chk φ (go s')
  | none => .stuck k s
theorem eff_append (x y : Operand) (t : TypeId) : effA P k s go d (.call ⟨.builtin .append, ⟨[x, y]⟩, ⟨[t, t]⟩⟩) = efP k s go (apR P s d t (evA s.t x) (evA s.t y)) := by
  simp only [effA, if_true]
  unfold efP
  cases apR P s d t (evA s.t x) (evA s.t y) <;> rfl
theorem efP_some (φ : Prop) (s' : AS) : efP k s go (some (φ, s')) = .chk φ (go s') := rfl
end
theorem ev_tmp (t : List AV) (i : Nat) : evA t (.tmp i) = getA t i := rfl
theorem ev_const (t : List AV) (x : Value) : evA t (.const x) = .v x := rfl
theorem ev_func (t : List AV) (f : FuncId) : evA t (.func f) = .fn f [] := rfl
theorem getA_0 (x : AV) (l : List AV) : getA (x :: l) 0 = x := rfl
theorem getA_1 (x : AV) (l : List AV) (n : Nat) : getA (x :: l) (n + 1) = getA l n := rfl
theorem getA_8 (a b c d e f g h : AV) (l : List AV) (n : Nat) : getA (a :: b :: c :: d :: e :: f :: g :: h :: l) (n + 8) = getA l n := rfl
theorem setA_0 (x y : AV) (l : List AV) : setA (x :: l) 0 y = y :: l := rfl
theorem setA_1 (x y : AV) (l : List AV) (n : Nat) : setA (x :: l) (n + 1) y = x :: setA l n y := rfl
theorem setA_8 (a b c d e f g h y : AV) (l : List AV) (n : Nat) : setA (a :: b :: c :: d :: e :: f :: g :: h :: l) (n + 8) y = a :: b :: c :: d :: e :: f :: g :: h :: setA l n y := rfl

end Go.Proofs.YtccifbbjbnjcfaaGreatDoor
/-
  The abstract machine: calls in steps; facts on places and numbers.
-/
namespace Go.Proofs.YtccifbbjbnjcfaaGreatDoor
open Go Go.RowKit

section
variable {P : Program} {w0 : World} {lent : Lent} {Q : Exit → Act → World → Prop}
/-- A call, its arguments as the callee reads them. -/
def RWC (P : Program) (w0 : World) (lent : Lent) (Q : Exit → Act → World → Prop) (f : FuncId) (vargs : List AV) (dst : Option Tmp) (k : List It) (s : AS) : Prop :=
  ∃ D, PC P f vargs D ∧ ∀ rv rows, D rv rows → flatV rv = true ∧ FlatR rows ∧ frB s.h (baseOf dst) rows.length = true ∧ AW P w0 lent Q k (backTo s dst rv rows)
theorem at_call {f : FuncId} {args : List AV} {dst : Option Tmp} {k : List It} {s : AS} (h : RWC P w0 lent Q f (args.map (viewN 3 s.h)) dst k s) : RWp P w0 lent Q (.call f args dst k s) := by
  obtain ⟨D, h1, h2⟩ := h
  exact call_rule h1 h2
theorem frB_0 (h : Hp) (b : Nat) : frB h b 0 = true := by
  simp [frB]

/-- One thing alone comes back. -/
def vX (x : AV) (rv : AV) (rows : List Row) : Prop := rv = x ∧ rows = []
theorem rwc_v {f : FuncId} {vargs : List AV} {dst : Option Tmp} {k : List It} {s : AS} {x : Value} (hpc : PC P f vargs (vX (.v x))) (hk : AW P w0 lent Q k (s.put dst (.v x))) : RWC P w0 lent Q f vargs dst k s := by
  refine ⟨_, hpc, ?_⟩
  rintro rv rows ⟨rfl, rfl⟩
  refine ⟨rfl, fun row h => (by cases h), frB_0 _ _, ?_⟩
  unfold backTo
  simpa only [hpOf, List.append_nil, ren] using hk
/-- What comes back is known, new rows and all. -/
def rX (x : AV) (rs : List Row) (rv : AV) (rows : List Row) : Prop := rv = x ∧ rows = rs
theorem rwc_r {f : FuncId} {vargs : List AV} {dst : Option Tmp} {k : List It} {s : AS} {x : AV} {rs : List Row} (hpc : PC P f vargs (rX x rs)) (hx : flatV x = true) (hf : FlatR rs) (hfr : frB s.h (baseOf dst) rs.length = true)
    (hk : AW P w0 lent Q k (backTo s dst x rs)) : RWC P w0 lent Q f vargs dst k s := by
  refine ⟨_, hpc, ?_⟩
  rintro rv rows ⟨rfl, rfl⟩
  exact ⟨hx, hf, hfr, hk⟩
end

theorem wr (x : Int) (h : -9223372036854775808 ≤ x ∧ x ≤ 9223372036854775807) : IntKind.i64.wrap x = x := IntWalk.i64_in x (by omega)

end Go.Proofs.YtccifbbjbnjcfaaGreatDoor
/-
  A region that draws its order, by assertions: each operation has a fact F of its own result, which lasts while memory only grows; whatever the order, all the facts hold at its end.
-/
namespace Go.Proofs.YtccifbbjbnjcfaaGreatDoor
open Go Go.RowKit

/-- a is a0 but for the slots that the region's operations write. -/
structure Agree (ops : Array Oper) (a0 a : Act) : Prop where
  size : a.tmps.size = a0.tmps.size
  defers : a.defers = a0.defers
  slot : ∀ t, (∀ (i : Nat) (o : Oper), ops[i]? = some o → o.dst ≠ some t) → a.tmps.getD t undef = a0.tmps.getD t undef

theorem getElem?_lt {α : Type} {xs : Array α} {i : Nat} {x : α} (h : xs[i]? = some x) : i < xs.size := by
  rcases Nat.lt_or_ge i xs.size with h1 | h1
  · exact h1
  · rw [Array.getElem?_eq_none h1] at h; cases h

theorem put_getD_other (a : Act) (x : Option Nat) (t : Nat) (v : Value) (h : x ≠ some t) : (a.put x v).tmps.getD t undef = a.tmps.getD t undef := by
  cases x with
  | none => rfl
  | some d =>
    have hne : d ≠ t := fun e => h (by rw [e])
    simp only [Act.put, Array.getD_eq_getD_getElem?, Array.getElem?_setIfInBounds]
    rw [if_neg hne]

theorem Agree.put {ops : Array Oper} {a0 a : Act} (h : Agree ops a0 a) {i : Nat} {o : Oper} (hi : ops[i]? = some o) (v : Value) : Agree ops a0 (a.put o.dst v) where
  size := by rw [← h.size]; cases o.dst <;> simp [Act.put]
  defers := by rw [← h.defers]; cases o.dst <;> rfl
  slot t ht := by rw [put_getD_other a o.dst t v (ht i o hi)]; exact h.slot t ht

def writesTo (ops : Array Oper) (t : Nat) : Bool := ops.any fun o => o.dst == some t
theorem Agree.eta {ops : Array Oper} {a0 a : Act} (h : Agree ops a0 a) :
    a = ⟨((List.range a0.tmps.size).map fun t => if writesTo ops t = true then a.tmps.getD t undef else a0.tmps.getD t undef).toArray, a0.defers⟩ := by
  obtain ⟨ts, ds⟩ := a
  have hs := h.size
  have hd := h.defers
  simp only at hs hd
  subst hd
  congr 1
  refine Array.ext (by simp [hs]) fun i h1 h2 => ?_
  simp only [List.getElem_toArray, List.getElem_map, List.getElem_range]
  by_cases hw : writesTo ops i = true
  · rw [if_pos hw]
    simp [Array.getD, h1]
  · rw [if_neg hw, ← h.slot i fun j o ho hdst => hw ?_]
    · simp [Array.getD, h1]
    · simp only [writesTo, Array.any_eq_true]
      exact ⟨j, getElem?_lt ho, by rw [Array.getElem?_eq_some_iff] at ho; obtain ⟨_, rfl⟩ := ho; simp [hdst]⟩

end Go.Proofs.YtccifbbjbnjcfaaGreatDoor
/-
  The same, for a region whose last operation waits for all others (a store, an append in place): it is carried out last, and may write.
-/
namespace Go.Proofs.YtccifbbjbnjcfaaGreatDoor
open Go Go.RowKit

/-- What operation i waits for. -/
def waitsFor (ops : List Oper) (i : Nat) : List Nat := match ops[i]? with
  | none => []
  | some o => (o.after.toList.filter fun e => Region.binds .any e).map (·.on)
where
  wpAny_done' {P : Program} {ops : Array Oper} {Q : Exit → Act → World → Prop} {md : Region.Mode} {listed : Array Bool} {a : Act} {w : World} (hr : Region.ready md ops listed = []) (h : Q .normal a w) :
      ∀ fuel, wpAny P md ops Q fuel listed a w
    | 0 => ⟨hr, h⟩
    | _ + 1 => ⟨fun _ => h, by rw [hr]; simp⟩

theorem Agree.at_ {ops : Array Oper} {a0 a : Act} (h : Agree ops a0 a) (t : Nat) (hw : writesTo ops t = false) : a.tmps[t]?.getD undef = a0.tmps.getD t undef := by
  rw [← Array.getD_eq_getD_getElem?]
  refine h.slot t fun i o ho hd => ?_
  have h1 : writesTo ops t = true := by
    simp only [writesTo, Array.any_eq_true]
    exact ⟨i, getElem?_lt ho, by rw [Array.getElem?_eq_some_iff] at ho; obtain ⟨_, rfl⟩ := ho; simp [hd]⟩
  rw [hw] at h1
  cases h1

/-- The frame behind the region, slot by slot; ds: the slots that the region writes. -/
theorem Agree.lit {ops : Array Oper} {a0 a : Act} (h : Agree ops a0 a) (ds : List Nat) (hds : (ops.toList.filterMap (·.dst)) = ds) :
    a = ⟨((List.range a0.tmps.size).map fun t => if ds.contains t = true then a.tmps[t]?.getD undef else a0.tmps[t]?.getD undef).toArray, a0.defers⟩ := by
  have h1 := h.eta
  have h2 : ∀ t, writesTo ops t = ds.contains t := by
    intro t
    rw [← hds, Bool.eq_iff_iff]
    simp only [writesTo, Array.any_eq_true, List.contains_iff_mem, List.mem_filterMap, Array.mem_toList_iff, beq_iff_eq]
    constructor
    · rintro ⟨i, hi, hd⟩; exact ⟨ops[i], Array.getElem_mem hi, hd⟩
    · rintro ⟨o, ho, hd⟩; obtain ⟨i, hi, rfl⟩ := Array.getElem_of_mem ho; exact ⟨i, hi, hd⟩
  simp only [h2, Array.getD_eq_getD_getElem?] at h1
  exact h1

section
variable {P : Program} {ops : Array Oper} {Q : Exit → Act → World → Prop} {i : Nat} {o : Oper} {a : Act} {w : World} {R : Act → World → Prop} {G : Value → World → Prop}
end

theorem setRow_other {w : World} {g k : Nat} {cs : Array Value} (h : k ≠ g) : (w.setRow g cs).heap[k]? = w.heap[k]? := by
  simp only [World.setRow, Array.getElem?_modify]
  rw [if_neg (fun e => h e.symm)]
theorem Below.setRow {B : Nat} {a w : World} (h : Below B a w) {g : Nat} (hg : B ≤ g) (cs : Array Value) : Below B a (w.setRow g cs) :=
  ⟨h.os, h.tape, h.output, by simpa using h.size, fun k hk => (setRow_other (by omega)).trans (h.block k hk)⟩

end Go.Proofs.YtccifbbjbnjcfaaGreatDoor
/-
  The abstract machine: regions that draw their order. Each operation leaves an event; what lies apart may be done in any order.
-/
namespace Go.Proofs.YtccifbbjbnjcfaaGreatDoor
open Go Go.RowKit

/-- What an operation does to a state, and what it read. -/
structure E where
  d : Option Tmp
  x : AV
  kill : Option Nat
  add : List (Nat × Row)
  rd : List Nat
  vals : List AV

def hsets : Hp → List (Nat × Row) → Hp
  | h, [] => h
  | h, (r, row) :: l => hsets (hset h r row) l
def kT : Option Nat → List AV → List AV
  | none, t => t
  | some r, t => t.map (killA r)
def kH : Option Nat → Hp → Hp
  | none, h => h
  | some r, h => killH r h
def E.ap (e : E) (s : AS) : AS := AS.put ⟨kT e.kill s.t, hsets (kH e.kill s.h) e.add⟩ e.d e.x
def E.names (e : E) : List Nat := e.add.map (·.1)

/-- The row that a list of rows lays under a name. -/
def lastR : List (Nat × Row) → Nat → Option Row
  | [], _ => none
  | (r, row) :: l, q => match lastR l q with
    | some x => some x
    | none => if r = q then some row else none
theorem hget_hsets : ∀ (l : List (Nat × Row)) (h : Hp) (q : Nat), hget (hsets h l) q = match lastR l q with | some x => some x | none => hget h q
  | [], h, q => rfl
  | (r, row) :: l, h, q => by
    simp only [hsets, hget_hsets l, hget_hset, lastR]
    cases lastR l q with
    | some x => rfl
    | none => simp only; split <;> rfl
theorem lastR_names : ∀ (l : List (Nat × Row)) (q : Nat), q ∉ l.map (·.1) → lastR l q = none
  | [], q, _ => rfl
  | (r, row) :: l, q, h => by
    simp only [List.map_cons, List.mem_cons, not_or] at h
    simp only [lastR, lastR_names l q h.2]
    rw [if_neg (fun e => h.1 e.symm)]
theorem lastR_some : ∀ (l : List (Nat × Row)) (q : Nat) (row : Row), lastR l q = some row → (q, row) ∈ l
  | [], q, row, h => by cases h
  | (r, x) :: l, q, row, h => by
    simp only [lastR] at h
    split at h
    · rename_i y hy
      cases h
      exact List.mem_cons_of_mem _ (lastR_some l q _ hy)
    · split at h
      · rename_i e
        cases h; subst e
        exact List.mem_cons_self
      · cases h

/-- The same state: slots, and rows under their names. -/
def Eqv (s s' : AS) : Prop := s.t = s'.t ∧ ∀ r, hget s.h r = hget s'.h r
theorem Eqv.refl (s : AS) : Eqv s s := ⟨rfl, fun _ => rfl⟩
theorem Eqv.symm {s s' : AS} (h : Eqv s s') : Eqv s' s := ⟨h.1.symm, fun r => (h.2 r).symm⟩
theorem Eqv.trans {s s' s2 : AS} (h : Eqv s s') (h' : Eqv s' s2) : Eqv s s2 := ⟨h.1.trans h'.1, fun r => (h.2 r).trans (h'.2 r)⟩
def killO : Option Nat → Row → Row
  | none, row => row
  | some r, row => killRow r row
theorem hget_kH (k : Option Nat) (h : Hp) (q : Nat) : hget (kH k h) q = (hget h q).map (killO k) := by
  cases k with
  | none => simp [kH, killO]; cases hget h q <;> rfl
  | some r => exact hget_killH r h q
theorem ap_t (e : E) (s : AS) : (e.ap s).t = match e.d with | some d => setA (kT e.kill s.t) d e.x | none => kT e.kill s.t := by
  unfold E.ap AS.put
  cases e.d <;> rfl
theorem ap_h (e : E) (s : AS) (q : Nat) : hget (e.ap s).h q = match lastR e.add q with | some x => some x | none => (hget s.h q).map (killO e.kill) := by
  unfold E.ap
  rw [AS.put_h, hget_hsets]
  cases lastR e.add q with
  | some x => rfl
  | none => exact hget_kH _ _ _
theorem Eqv.ap {s s' : AS} (e : E) (h : Eqv s s') : Eqv (e.ap s) (e.ap s') := by
  refine ⟨?_, fun r => ?_⟩
  · rw [ap_t, ap_t, h.1]
  · rw [ap_h, ap_h, h.2]

mutual
theorem killA_comm (r q : Nat) : ∀ x : AV, killA r (killA q x) = killA q (killA r x)
  | .any => by simp [killA]
  | .v _ => by simp [killA]
  | .sl _ _ => by simp [killA]
  | .ip _ => by simp [killA]
  | .o k n => by
    by_cases h1 : k = q
    · by_cases h2 : k = r
      · subst h1; subst h2; rfl
      · subst h1; simp [killA, h2]
    · by_cases h2 : k = r
      · subst h2; simp [killA, h1]
      · simp [killA, h1, h2]
  | .p k n off => by
    by_cases h1 : k = q
    · by_cases h2 : k = r
      · subst h1; subst h2; rfl
      · subst h1; simp [killA, h2]
    · by_cases h2 : k = r
      · subst h2; simp [killA, h1]
      · simp [killA, h1, h2]
  | .q k n z off => by
    by_cases h1 : k = q
    · by_cases h2 : k = r
      · subst h1; subst h2; rfl
      · subst h1; simp [killA, h2]
    · by_cases h2 : k = r
      · subst h2; simp [killA, h1]
      · simp [killA, h1, h2]
  | .fn f l => by simp only [killA, List.map_map]; congr 1; exact killL_comm r q l
  | .agg l => by simp only [killA, List.map_map]; congr 1; exact killL_comm r q l
  | .tup l => by simp only [killA, List.map_map]; congr 1; exact killL_comm r q l
theorem killL_comm (r q : Nat) : ∀ l : List AV, l.map (killA r ∘ killA q) = l.map (killA q ∘ killA r)
  | [] => rfl
  | x :: l => by simp only [List.map_cons, Function.comp, killA_comm r q x]; congr 1; exact killL_comm r q l
end
mutual
theorem killA_id (r : Nat) : ∀ x : AV, r ∉ idsA x → killA r x = x
  | .any, _ => by simp [killA]
  | .v _, _ => by simp [killA]
  | .sl _ _, _ => by simp [killA]
  | .ip _, _ => by simp [killA]
  | .o k n, h => by simp only [idsA, List.mem_singleton] at h; simp only [killA, if_neg (fun e : k = r => h e.symm)]
  | .p k n off, h => by simp only [idsA, List.mem_singleton] at h; simp only [killA, if_neg (fun e : k = r => h e.symm)]
  | .q k n z off, h => by simp only [idsA, List.mem_singleton] at h; simp only [killA, if_neg (fun e : k = r => h e.symm)]
  | .fn f l, h => by simp only [killA]; rw [killL_id r l (by simpa only [idsA] using h)]
  | .agg l, h => by simp only [killA]; rw [killL_id r l (by simpa only [idsA] using h)]
  | .tup l, h => by simp only [killA]; rw [killL_id r l (by simpa only [idsA] using h)]
theorem killL_id (r : Nat) : ∀ l : List AV, r ∉ idsL l → l.map (killA r) = l
  | [], _ => rfl
  | x :: l, h => by
    simp only [idsL, List.mem_append, not_or] at h
    rw [List.map_cons, killA_id r x h.1, killL_id r l h.2]
end
mutual
/-- Nothing unknown in it. -/
def naA : AV → Bool
  | .any => false
  | .fn _ l => naL l
  | .agg l => naL l
  | .tup l => naL l
  | _ => true
def naL : List AV → Bool
  | [] => true
  | x :: l => naA x && naL l
end
mutual
theorem killA_na (r : Nat) : ∀ x : AV, naA (killA r x) = true → killA r x = x
  | .any, h => by simp [killA]
  | .v _, _ => by simp [killA]
  | .sl _ _, _ => by simp [killA]
  | .ip _, _ => by simp [killA]
  | .o k n, h => by
    simp only [killA] at h ⊢
    split
    · rename_i e; rw [if_pos e] at h; simp [naA] at h
    · rfl
  | .p k n off, h => by
    simp only [killA] at h ⊢
    split
    · rename_i e; rw [if_pos e] at h; simp [naA] at h
    · rfl
  | .q k n z off, h => by
    simp only [killA] at h ⊢
    split
    · rename_i e; rw [if_pos e] at h; simp [naA] at h
    · rfl
  | .fn f l, h => by simp only [killA, naA] at h ⊢; rw [killL_na r l h]
  | .agg l, h => by simp only [killA, naA] at h ⊢; rw [killL_na r l h]
  | .tup l, h => by simp only [killA, naA] at h ⊢; rw [killL_na r l h]
theorem killL_na (r : Nat) : ∀ l : List AV, naL (l.map (killA r)) = true → l.map (killA r) = l
  | [], _ => rfl
  | x :: l, h => by
    simp only [List.map_cons, naL, Bool.and_eq_true] at h
    rw [List.map_cons, killA_na r x h.1, killL_na r l h.2]
end

theorem setA_comm (l : List AV) {i j : Nat} (h : i ≠ j) (x y : AV) : setA (setA l i x) j y = setA (setA l j y) i x := by
  simp only [setA_eq]
  exact List.set_comm _ _ (fun e => h e)
theorem kT_setA (k : Option Nat) (t : List AV) (d : Nat) (x : AV) : kT k (setA t d x) = setA (kT k t) d (match k with | some r => killA r x | none => x) := by
  cases k with
  | none => rfl
  | some r => simp only [kT, setA_eq, List.map_set]
theorem kT_comm (k q : Option Nat) (t : List AV) : kT k (kT q t) = kT q (kT k t) := by
  cases k <;> cases q <;> simp only [kT, List.map_map]
  exact killL_comm _ _ t
theorem killO_comm (k q : Option Nat) (row : Row) : killO k (killO q row) = killO q (killO k row) := by
  cases k <;> cases q <;> simp only [killO]
  rename_i r q
  unfold killRow
  by_cases hc : row.cl = true
  · simp [hc]
  · simp only [hc, Bool.false_eq_true, if_false, List.map_map]
    congr 2
    funext e
    simp only [Function.comp, List.map_map]
    exact killL_comm r q e

/-- One event and another one lie apart. -/
def apB (e f : E) : Bool := (match e.kill with | none => true | some r => !(idsA f.x).contains r && f.add.all (·.2.cl))
def okE (e f : E) : Bool := (match e.d, f.d with | some a, some b => decide (a ≠ b) | _, _ => true) && e.names.all (fun r => !f.names.contains r) && apB e f && apB f e
theorem apB_x {e f : E} (h : apB e f = true) : (match e.kill with | some r => killA r f.x | none => f.x) = f.x := by
  unfold apB at h
  split at h
  · rename_i hk; rw [hk]
  · rename_i r hk
    rw [hk]
    simp only [Bool.and_eq_true, Bool.not_eq_true', List.contains_eq_mem, decide_eq_false_iff_not] at h
    exact killA_id r _ h.1
theorem apB_add {e f : E} (h : apB e f = true) : ∀ r row, lastR f.add r = some row → killO e.kill row = row := by
  intro r row hr
  unfold apB at h
  split at h
  · rename_i hk; rw [hk]; rfl
  · rename_i q hk
    rw [hk]
    simp only [Bool.and_eq_true, List.all_eq_true] at h
    have := h.2 _ (lastR_some _ _ _ hr)
    simp only at this
    simp only [killO, killRow, this, if_true]
theorem E.comm {e f : E} (s : AS) (h : okE e f = true) : Eqv (e.ap (f.ap s)) (f.ap (e.ap s)) := by
  unfold okE at h
  simp only [Bool.and_eq_true, List.all_eq_true, Bool.not_eq_true', List.contains_eq_mem, decide_eq_false_iff_not] at h
  obtain ⟨⟨⟨h1, h2⟩, h3⟩, h4⟩ := h
  refine ⟨?_, fun r => ?_⟩
  · rw [ap_t, ap_t f, ap_t f, ap_t e]
    have hx := apB_x h3
    have hy := apB_x h4
    cases hd : e.d with
    | none =>
      cases hf : f.d with
      | none => exact kT_comm _ _ _
      | some b => simp only [kT_setA, hx, kT_comm e.kill]
    | some a =>
      cases hf : f.d with
      | none => simp only [kT_setA, hy, kT_comm e.kill]
      | some b =>
        rw [hd, hf] at h1
        simp only [decide_eq_true_eq] at h1
        simp only [kT_setA, hx, hy, kT_comm e.kill]
        rw [setA_comm _ (fun e => h1 e.symm)]
  · rw [ap_h, ap_h f, ap_h f, ap_h e]
    cases he : lastR e.add r with
    | some x =>
      have hne : r ∉ f.names := h2 r (List.mem_map.2 ⟨_, lastR_some _ _ _ he, rfl⟩)
      rw [lastR_names f.add r hne]
      simp only [Option.map_some, apB_add h4 r x he]
    | none =>
      cases hf : lastR f.add r with
      | some y => simp only [Option.map_some, apB_add h3 r y hf]
      | none => simp only [Option.map_map]; congr 1; funext row; exact killO_comm _ _ row

/-! ### What an operation reads -/
def slO : List Operand → List Nat
  | [] => []
  | .tmp t :: l => t :: slO l
  | _ :: l => slO l
def rdO (o : SO) : List Nat := slO o.op.operands.toList ++ (match o.g with | some (some d, _) => [d] | _ => [])
def idsE (e : E) : List Nat := idsL e.vals ++ e.names
/-- Two states, the same for an event. -/
def Sees (e : E) (s s' : AS) : Prop := (∀ q ∈ e.rd, getA s.t q = getA s'.t q) ∧ ∀ r ∈ idsE e, hget s.h r = hget s'.h r
/-- An event that another one does not see. -/
def siB (f e : E) : Bool := (match f.d with | some d => !e.rd.contains d | none => true) && f.names.all (fun r => !(idsE e).contains r) && (match f.kill with | none => true | some r => !(idsL e.vals).contains r && naL e.vals)

theorem getA_setA (t : List AV) (d q : Nat) (x : AV) (h : d ≠ q) : getA (setA t d x) q = getA t q := by
  rw [getA_eq, getA_eq, setA_eq, List.getElem?_set_ne h]
theorem getA_kT (k : Option Nat) (t : List AV) (q : Nat) : getA (kT k t) q = match k with | some r => killA r (getA t q) | none => getA t q := by
  cases k with
  | none => rfl
  | some r =>
    simp only [kT, getA_eq, List.getElem?_map]
    cases t[q]? <;> simp [killA]
/-- All rows hold closed data. -/
def clH (h : Hp) : Prop := ∀ r row, hget h r = some row → row.cl = true
theorem killO_cl (k : Option Nat) (row : Row) (h : row.cl = true) : killO k row = row := by
  cases k with
  | none => rfl
  | some r => simp [killO, killRow, h]

/-- Behind an event that is not seen, what is read is as it was. -/
theorem Sees.fwd {e f : E} {s : AS} (hv : e.vals = e.rd.map (getA s.t)) (hs : siB f e = true) (hc : f.kill ≠ none → clH s.h) : Sees e s (f.ap s) := by
  unfold siB at hs
  simp only [Bool.and_eq_true, List.all_eq_true, Bool.not_eq_true', List.contains_eq_mem, decide_eq_false_iff_not] at hs
  obtain ⟨⟨h1, h2⟩, h3⟩ := hs
  refine ⟨fun q hq => ?_, fun r hr => ?_⟩
  · have hk : (match f.kill with | some r => killA r (getA s.t q) | none => getA s.t q) = getA s.t q := by
      split
      · rename_i r hr
        rw [hr] at h3
        simp only [Bool.and_eq_true, Bool.not_eq_true', List.contains_eq_mem, decide_eq_false_iff_not] at h3
        refine killA_id r _ fun hm => h3.1 ?_
        rw [hv]
        obtain ⟨i, hi⟩ := List.getElem?_of_mem hq
        exact idsL_mem (l := e.rd.map (getA s.t)) (i := i) (by rw [List.getElem?_map, hi]; rfl) r hm
      · rfl
    rw [ap_t]
    cases hd : f.d with
    | none => simp only [getA_kT, hk]
    | some d =>
      rw [hd] at h1
      simp only [Bool.not_eq_true', List.contains_eq_mem, decide_eq_false_iff_not] at h1
      simp only
      rw [getA_setA _ _ _ _ (fun h' : d = q => h1 (h' ▸ hq)), getA_kT, hk]
  · rw [ap_h, lastR_names f.add r (fun hm => h2 r hm hr)]
    cases hg : hget s.h r with
    | none => rfl
    | some row =>
      simp only [Option.map_some]
      cases hk : f.kill with
      | none => rfl
      | some q => rw [killO_cl _ _ (hc (by rw [hk]; simp) r row hg)]
/-- The same, where what is read is known behind it. -/
theorem Sees.bwd {e f : E} {s : AS} (hv : e.vals = e.rd.map (getA (f.ap s).t)) (hs : siB f e = true) (hc : f.kill ≠ none → clH s.h) : Sees e s (f.ap s) := by
  have hs0 := hs
  unfold siB at hs
  simp only [Bool.and_eq_true, List.all_eq_true, Bool.not_eq_true', List.contains_eq_mem, decide_eq_false_iff_not] at hs
  obtain ⟨⟨h1, h2⟩, h3⟩ := hs
  refine Sees.fwd (e := e) ?_ hs0 hc
  rw [hv]
  refine List.map_congr_left fun q hq => ?_
  rw [ap_t]
  have hk : naA (match f.kill with | some r => killA r (getA s.t q) | none => .v undef) = true → (match f.kill with | some r => killA r (getA s.t q) | none => getA s.t q) = getA s.t q := by
    split
    · exact fun h => killA_na _ _ h
    · exact fun _ => rfl
  have hval : getA (kT f.kill s.t) q ∈ e.vals := by
    rw [hv, List.mem_map]
    refine ⟨q, hq, ?_⟩
    rw [ap_t]
    cases hd : f.d with
    | none => rfl
    | some d =>
      rw [hd] at h1
      simp only [Bool.not_eq_true', List.contains_eq_mem, decide_eq_false_iff_not] at h1
      simp only
      rw [getA_setA _ _ _ _ (fun h' : d = q => h1 (h' ▸ hq))]
  have hna : ∀ (l : List AV) (x : AV), x ∈ l → naL l = true → naA x = true := by
    intro l
    induction l with
    | nil => intro x hx; cases hx
    | cons y l ih =>
      intro x hx hn
      simp only [naL, Bool.and_eq_true] at hn
      cases hx with
      | head => exact hn.1
      | tail _ hx => exact ih x hx hn.2
  have hfin : getA (kT f.kill s.t) q = getA s.t q := by
    rw [getA_kT]
    apply hk
    split
    · rename_i r hr
      rw [hr] at h3
      simp only [Bool.and_eq_true] at h3
      have := hna _ _ hval h3.2
      rw [getA_kT, hr] at this
      exact this
    · rfl
  cases hd : f.d with
  | none => exact hfin
  | some d =>
    rw [hd] at h1
    simp only [Bool.not_eq_true', List.contains_eq_mem, decide_eq_false_iff_not] at h1
    simp only
    rw [getA_setA _ _ _ _ (fun h' : d = q => h1 (h' ▸ hq)), hfin]

end Go.Proofs.YtccifbbjbnjcfaaGreatDoor
/-
  The abstract machine: one operation's event; it hangs on what is read alone; it is what happens.
-/
namespace Go.Proofs.YtccifbbjbnjcfaaGreatDoor
open Go Go.RowKit
/-- No row is named, in a struct neither. -/
@[simp] def isC1 : AV → Bool
  | .agg cs => cs.all isC
  | x => isC x
def isC2 : AV → Bool
  | .agg cs => cs.all isC1
  | x => isC x
theorem isC1_ok {h : Hp} {loc : Loc} {w : World} {x : AV} {u : Value} (hx : G h loc w x u) (hc : isC1 x = true) : C (Live h loc) 0 w x u := by
  cases hx with
  | cl h => exact h
  | agg vs hs hg => exact .agg vs hs fun j a ha => isC_ok (hg j a ha) (List.all_eq_true.1 hc a (List.mem_of_getElem? ha))
  | _ => simp [isC] at hc
theorem isC2_ok {h : Hp} {loc : Loc} {w : World} {x : AV} {u : Value} (hx : G h loc w x u) (hc : isC2 x = true) : C (Live h loc) 0 w x u := by
  cases hx with
  | cl h => exact h
  | agg vs hs hg => exact .agg vs hs fun j a ha => isC1_ok (hg j a ha) (List.all_eq_true.1 hc a (List.mem_of_getElem? ha))
  | _ => simp [isC2, isC] at hc

def clB (h : Hp) (ids : List Nat) : Bool := ids.all fun r => match hget h r with | some row => row.cl | none => true
/-- A store's row. -/
def stR (P : Program) (h : Hp) (t : TypeId) (x y : AV) : Option (Nat × Row) :=
  match x, clA (nilFix P t y), tyOf P t with
  | .p r k off, some cs, some ty =>
    if ty.size = cs.length then (match hget h r with
      | some row => (match row.es[k]? with
        | some e => if off + cs.length ≤ e.length then some (r, ⟨row.E, row.sz, row.es.set k (spl e off cs), row.cl && cs.all isC⟩) else none
        | none => none)
      | none => none) else none
  | _, _, _ => none
theorem stA_stR (P : Program) (h : Hp) (t : TypeId) (x y : AV) : stA P h t x y = (stR P h t x y).map fun z => hset h z.1 z.2 := by
  unfold stA stR
  cases x with
  | p r k off =>
    cases clA (nilFix P t y) with
    | none => rfl
    | some cs =>
      cases tyOf P t with
      | none => rfl
      | some ty =>
        simp only
        split
        · cases hget h r with
          | none => rfl
          | some row =>
            simp only
            cases row.es[k]? with
            | none => rfl
            | some e => simp only; split <;> rfl
        · rfl
  | _ => rfl
/-- An append: its row, whether the row is new, what it asks. -/
def apE (P : Program) (s : AS) (dst : Option Tmp) (t : TypeId) (x y : AV) : Option (Prop × Nat × Nat × Row × Nat × List (List AV) × Bool) :=
  match tyOf P t with
  | some ⟨_, _, .slice e, _⟩ => (match tyOf P e with
    | some te => if te.zero.length = te.size ∧ 0 < te.size ∧ 0 < te.bytes then (match x with
        | .o r n => (match hget s.h r, newsA s.h y with
          | some row, some (news, sz, c, _) => if row.E = e ∧ row.sz = te.size ∧ sz = te.size then
              some ((n + news.length) * te.bytes ≤ 140737488355328, r, n, row, n + news.length, news, c) else none
          | _, _ => none)
        | _ => none) else none
    | none => none)
  | _ => none

/-- What an operation does at a state. -/
inductive Ex (P : Program) (s : AS) (o : SO) : E → Prop
  | val {x : AV} (h : pe P s.h (evA s.t) o.oper = .val x) : Ex P s o ⟨o.dst, x, none, [], rdO o, (rdO o).map (getA s.t)⟩
  | newp {d : Nat} {row : Row} (hd : o.dst = some d) (h : pe P s.h (evA s.t) o.oper = .newp row) (hn : hget s.h d = none) (h5 : d < 500000) : Ex P s o ⟨some d, .p d 0 0, none, [(d, row)], rdO o, (rdO o).map (getA s.t)⟩
  | news {d : Nat} {row : Row} (hd : o.dst = some d) (h : pe P s.h (evA s.t) o.oper = .news row) (hn : hget s.h d = none) (h5 : d < 500000) : Ex P s o ⟨some d, .o d row.es.length, none, [(d, row)], rdO o, (rdO o).map (getA s.t)⟩
  | nil {d : Nat} {row : Row} (hd : o.dst = some d) (h : pe P s.h (evA s.t) o.oper = .nil row) (hn : hget s.h d = none) (h5 : d < 500000) : Ex P s o ⟨some d, .o d 0, none, [(d, row)], rdO o, (rdO o).map (getA s.t)⟩
  | sto {t : TypeId} {x y : Operand} {r : Nat} {row : Row} (hd : o.dst = none) (hp : pe P s.h (evA s.t) o.oper = .no) (ho : o.op = .store t x y) (h : stR P s.h t (evA s.t x) (evA s.t y) = some (r, row)) :
      Ex P s o ⟨none, .any, none, [(r, row)], rdO o, (rdO o).map (getA s.t)⟩
  | app {t : TypeId} {x y : Operand} {φ : Prop} {r n m : Nat} {row : Row} {news : List (List AV)} {c : Bool} (hp : pe P s.h (evA s.t) o.oper = .no) (ho : o.op = .call ⟨.builtin .append, #[x, y], #[t, t]⟩)
      (h : apE P s o.dst t (evA s.t x) (evA s.t y) = some (φ, r, n, row, m, news, c)) (hφ : φ) (hcl : (row.cl && c) = true) (h5 : r < 500000 ∨ 600000 ≤ r) :
      Ex P s o ⟨o.dst, .o r m, some r, [(r, ⟨row.E, row.sz, row.es.take n ++ news, true⟩)], rdO o, (rdO o).map (getA s.t)⟩
  | call {f : Operand} {xs : List Operand} {ts : Array TypeId} {g : FuncId} {caps : List AV} {x : AV} {rows : List Row} (hp : pe P s.h (evA s.t) o.oper = .no) (ho : o.op = .call ⟨.value f, ⟨xs⟩, ts⟩) (hf : evA s.t f = .fn g caps)
      (hcl : clB s.h (idsL (xs.map (evA s.t) ++ caps)) = true) (hpc : PC P g ((xs.map (evA s.t) ++ caps).map (viewN 3 s.h)) fun rv rs => rv = x ∧ rs = rows) (hx : flatV x = true) (hr : FlatR rows) (hfr : frB s.h (baseOf o.dst) rows.length = true) :
      Ex P s o ⟨o.dst, ren (baseOf o.dst) x, none, hpOf (baseOf o.dst) rows, rdO o, (rdO o).map (getA s.t)⟩
  | callS {f : Operand} {xs : List Operand} {ts : Array TypeId} {g : FuncId} {caps : List AV} {x : AV} {rows : List Row} (hp : pe P s.h (evA s.t) o.oper = .no) (ho : o.op = .call ⟨.value f, ⟨xs⟩, ts⟩) (hf : evA s.t f = .fn g caps)
      (hcl : (xs.map (evA s.t) ++ caps).all isC2 = true) (hpc : PC P g (xs.map (evA s.t) ++ caps) fun rv rs => rv = x ∧ rs = rows) (hfr : frB s.h (baseOf o.dst) rows.length = true) :
      Ex P s o ⟨o.dst, ren (baseOf o.dst) x, none, hpOf (baseOf o.dst) rows, rdO o, (rdO o).map (getA s.t)⟩

/-! ### It hangs on what is read -/
theorem mem_slO {l : List Operand} {t : Nat} : t ∈ slO l ↔ .tmp t ∈ l := by
  induction l with
  | nil => simp [slO]
  | cons x l ih =>
    cases x <;> simp [slO, ih]
section
variable {P : Program} {s s' : AS} {o : SO}
theorem evA_see {rd : List Nat} (h : ∀ q ∈ rd, getA s.t q = getA s'.t q) {y : Operand} (hy : ∀ q, y = .tmp q → q ∈ rd) : evA s'.t y = evA s.t y := by
  cases y with
  | tmp q => exact (h q (hy q rfl)).symm
  | _ => rfl
theorem ids_ev {y : Operand} {rd : List Nat} (hy : ∀ q, y = .tmp q → q ∈ rd) {r : Nat} (hr : r ∈ idsA (evA s.t y)) : r ∈ idsL (rd.map (getA s.t)) := by
  cases y with
  | tmp q =>
    obtain ⟨i, hi⟩ := List.getElem?_of_mem (hy q rfl)
    exact idsL_mem (l := rd.map (getA s.t)) (i := i) (by rw [List.getElem?_map, hi]; rfl) r hr
  | const x => simp [evA, idsA] at hr
  | global g => simp [evA, idsA] at hr
  | func f => simp [evA, idsA, idsL] at hr

theorem cellsAt_see {h h' : Hp} {x : AV} (hx : ∀ r ∈ idsA x, hget h r = hget h' r) : cellsAt h' x = cellsAt h x := by
  cases x with
  | p r k off => simp only [cellsAt]; rw [hx r (by simp [idsA])]
  | _ => rfl
theorem rowsA_see {h h' : Hp} {x : AV} (hx : ∀ r ∈ idsA x, hget h r = hget h' r) : rowsA h' x = rowsA h x := by
  cases x with
  | o r n => simp only [rowsA]; rw [hx r (by simp [idsA])]
  | _ => rfl
theorem cvS_see {h h' : Hp} {a b : TypeId} {x : AV} (hx : ∀ r ∈ idsA x, hget h r = hget h' r) : cvS P h' a b x = cvS P h a b x := by
  unfold cvS
  rw [rowsA_see hx]
theorem ixA_see {h h' : Hp} {t : TypeId} {x i : AV} (hx : ∀ r ∈ idsA x, hget h r = hget h' r) : ixA P h' t x i = ixA P h t x i := by
  have key : (∀ r m, x ≠ .o r m) → ixA P h' t x i = ixA P h t x i := fun hne => by
    unfold ixA
    cases tyOf P t with
    | none => rfl
    | some ty =>
      obtain ⟨a, b, c, d⟩ := ty
      cases c <;> (try rfl)
      cases i with
      | v u => cases u <;> (try rfl) <;> cases x <;> first | rfl | exact absurd rfl (hne _ _)
      | _ => rfl
  cases x with
  | o r m =>
    unfold ixA
    cases tyOf P t with
    | none => rfl
    | some ty =>
      obtain ⟨a, b, c, d⟩ := ty
      cases c <;> (try rfl)
      cases i with
      | v u =>
        cases u <;> (try rfl)
        dsimp only
        rw [hx r (by simp [idsA])]
      | _ => rfl
  | _ => exact key fun r m e => by cases e
theorem bldA_see {fs : List (Nat × TypeId)} {ρ ρ' : Operand → AV} : ∀ (ps : List (Nat × Operand)) (cs : List AV), (∀ p ∈ ps, ρ' p.2 = ρ p.2) → bldA P fs ρ' cs ps = bldA P fs ρ cs ps
  | [], cs, _ => rfl
  | (f, y) :: ps, cs, h => by
    have h1 := h (f, y) List.mem_cons_self
    have ih := fun cs => bldA_see (fs := fs) ps cs fun p hp => h p (List.mem_cons_of_mem _ hp)
    simp only at h1
    simp only [bldA, h1, ih]
theorem belA_see {sz : Nat} {ρ ρ' : Operand → AV} : ∀ (ps : List (Nat × Operand)) (cs : List (List AV)), (∀ p ∈ ps, ρ' p.2 = ρ p.2) → belA ρ' sz cs ps = belA ρ sz cs ps
  | [], cs, _ => rfl
  | (f, y) :: ps, cs, h => by
    have h1 := h (f, y) List.mem_cons_self
    have ih := fun cs => belA_see (sz := sz) ps cs fun p hp => h p (List.mem_cons_of_mem _ hp)
    simp only at h1
    simp only [belA, h1, ih]
theorem pe_see {h h' : Hp} {ρ ρ' : Operand → AV} (o : Oper) (hρ : ∀ y ∈ o.op.operands.toList, ρ' y = ρ y) (hh : ∀ y ∈ o.op.operands.toList, ∀ r ∈ idsA (ρ y), hget h r = hget h' r) : pe P h' ρ' o = pe P h ρ o := by
  obtain ⟨dst, op, type, pos, after, guard⟩ := o
  unfold pe
  simp only at hρ hh ⊢
  cases op <;> simp only [Op.operands] at hρ hh ⊢ <;> (try rfl)
  case move x => rw [hρ x (by simp)]
  case assign x => rw [hρ x (by simp)]
  case pick c a b => rw [hρ c (by simp), hρ a (by simp), hρ b (by simp)]
  case box t x => rw [hρ x (by simp)]
  case build t ps => unfold bsA; simp only [bldA_see ps.toList _ fun p hp => hρ p.2 (by simp only [List.toList_toArray, List.mem_map]; exact ⟨p, hp, rfl⟩)]
  case buildSlice t n ps => unfold bslA; simp only [belA_see ps.toList _ fun p hp => hρ p.2 (by simp only [List.toList_toArray, List.mem_map]; exact ⟨p, hp, rfl⟩)]
  case load t x =>
    rw [hρ x (by simp)]
    unfold ldA
    rw [cellsAt_see (hh x (by simp))]
  case binOp bop t x y t' => rw [hρ x (by simp), hρ y (by simp)]
  case unOp u t x => rw [hρ x (by simp)]
  case convert a b x =>
    rw [hρ x (by simp), cvS_see (hh x (by simp))]
  case nilCheck x => rw [hρ x (by simp)]
  case makeSlice t l c => rw [hρ l (by simp), hρ c (by simp)]
  case makeFunc f first caps =>
    cases f with
    | func g =>
      simp only
      split
      · congr 2
        refine List.map_congr_left fun y hy => hρ y (by simp [hy])
      · rw [List.map_congr_left fun y hy => hρ y (by simp at hy; simp [hy]), List.map_congr_left (l := caps.toList) fun y hy => hρ y (by simp at hy; simp [hy])]
    | _ => rfl
  case slice t x lo hi m =>
    cases m with
    | none =>
      simp only
      have h1 : lo.map ρ' = lo.map ρ := by cases lo with
        | none => rfl
        | some y => simp only [Option.map_some]; rw [hρ y (by simp)]
      have h2 : hi.map ρ' = hi.map ρ := by cases hi with
        | none => rfl
        | some y => simp only [Option.map_some]; rw [hρ y (by simp)]
      rw [hρ x (by simp), h1, h2]
    | some z => rfl
  case fieldAddr t x f => rw [hρ x (by simp)]
  case field t x f => rw [hρ x (by simp)]
  case indexAddr t x i =>
    rw [hρ x (by simp), hρ i (by simp)]
    rw [ixA_see (hh x (by simp))]
  case index t x i => rw [hρ x (by simp), hρ i (by simp)]
  case extract x i => rw [hρ x (by simp)]
  case call c =>
    obtain ⟨callee, args, ats⟩ := c
    simp only [Call.operands] at hρ
    simp only
    unfold pcA
    cases callee with
    | builtin b =>
      cases b <;> (try rfl)
      all_goals
        split <;> (try rfl)
      all_goals simp_all
    | value f => rfl
    | invoke r m => rfl
theorem view_see {h h' : Hp} : ∀ (d : Nat) (x : AV), (∀ r ∈ idsA x, hget h r = hget h' r ∧ ∀ row, hget h r = some row → row.cl = true) → viewN d h' x = viewN d h x
  | 0, x, _ => rfl
  | d + 1, x, hx => by
    have hl : ∀ (l : List AV), (∀ r ∈ idsL l, hget h r = hget h' r ∧ ∀ row, hget h r = some row → row.cl = true) → l.map (viewN d h') = l.map (viewN d h) := fun l hl => by
      refine List.map_congr_left fun y hy => view_see d y fun r hr => ?_
      obtain ⟨i, hi⟩ := List.getElem?_of_mem hy
      exact hl r (idsL_mem hi r hr)
    cases x with
    | o r n =>
      obtain ⟨h1, h2⟩ := hx r (by simp [idsA])
      simp only [viewN, ← h1]
      cases hg : hget h r with
      | none => rfl
      | some row => simp only [h2 row hg, if_true]
    | p r k off =>
      obtain ⟨h1, h2⟩ := hx r (by simp [idsA])
      simp only [viewN, ← h1]
      cases hg : hget h r with
      | none => rfl
      | some row => simp only [h2 row hg, if_true]
    | fn f l => simp only [viewN]; rw [hl l (by simpa only [idsA] using hx)]
    | agg l => simp only [viewN]; rw [hl l (by simpa only [idsA] using hx)]
    | tup l => simp only [viewN]; rw [hl l (by simpa only [idsA] using hx)]
    | _ => rfl
theorem ids_map {l : List AV} {r : Nat} : r ∈ idsL l ↔ ∃ x ∈ l, r ∈ idsA x := by
  induction l with
  | nil => simp [idsL]
  | cons x l ih => simp [idsL, ih]
theorem newsA_see {h h' : Hp} {x : AV} (hx : ∀ r ∈ idsA x, hget h r = hget h' r) : newsA h' x = newsA h x := by
  cases x with
  | o r n => simp only [newsA]; rw [hx r (by simp [idsA])]
  | q r lo z n => simp only [newsA]; rw [hx r (by simp [idsA])]
  | _ => rfl
end

end Go.Proofs.YtccifbbjbnjcfaaGreatDoor
/-
  The abstract machine: an event happens wherever what it reads is the same.
-/
namespace Go.Proofs.YtccifbbjbnjcfaaGreatDoor
open Go Go.RowKit

section
variable {P : Program} {s s' : AS} {o : SO} {e : E}
theorem apE_see {dst : Option Tmp} {t : TypeId} {x y : AV} (hx : ∀ r ∈ idsA x, hget s.h r = hget s'.h r) (hy : ∀ r ∈ idsA y, hget s.h r = hget s'.h r) : apE P s' dst t x y = apE P s dst t x y := by
  have h2 := newsA_see hy
  unfold apE
  rw [h2]
  cases tyOf P t with
  | none => rfl
  | some ty =>
    obtain ⟨a, b, c, d⟩ := ty
    cases c <;> (try rfl)
    rename_i e
    dsimp only
    cases tyOf P e with
    | none => rfl
    | some te =>
      dsimp only
      cases x with
      | o r n => dsimp only; rw [hx r (by simp [idsA])]
      | _ => rfl
theorem stR_see {t : TypeId} {x y : AV} (hx : ∀ r ∈ idsA x, hget s.h r = hget s'.h r) : stR P s'.h t x y = stR P s.h t x y := by
  cases x with
  | p r k off =>
    unfold stR
    cases clA (nilFix P t y) with
    | none => rfl
    | some cs =>
      cases tyOf P t with
      | none => rfl
      | some ty => dsimp only; rw [hx r (by simp [idsA])]
  | _ => rfl
theorem Ex.frame (h : Ex P s o e) (hs : Sees e s s') : Ex P s' o e := by
  have hvals : ∀ rd, rd = rdO o → (∀ q ∈ rd, getA s.t q = getA s'.t q) → (rdO o).map (getA s'.t) = (rdO o).map (getA s.t) := fun rd hr h => List.map_congr_left fun q hq => (h q (hr ▸ hq)).symm
  have hop : ∀ y ∈ o.op.operands.toList, ∀ q, y = .tmp q → q ∈ rdO o := fun y hy q e => by
    subst e
    unfold rdO
    exact List.mem_append_left _ (mem_slO.2 hy)
  have hpe : ∀ (rd : List Nat), rd = rdO o → (∀ q ∈ rd, getA s.t q = getA s'.t q) → (∀ r ∈ idsL ((rdO o).map (getA s.t)), hget s.h r = hget s'.h r) → pe P s'.h (evA s'.t) o.oper = pe P s.h (evA s.t) o.oper := fun rd hrd h1 h2 => by
    subst hrd
    exact pe_see o.oper (fun y hy => evA_see h1 (hop y hy)) fun y hy r hr => h2 r (ids_ev (hop y hy) hr)
  cases h with
  | @val x h =>
    obtain ⟨h1, h2⟩ := hs
    have h2' : ∀ r ∈ idsL ((rdO o).map (getA s.t)), hget s.h r = hget s'.h r := fun r hr => h2 r (List.mem_append_left _ hr)
    rw [← hvals _ rfl h1]
    exact .val ((hpe _ rfl h1 h2').trans h)
  | @newp d row hd h hn h5 =>
    obtain ⟨h1, h2⟩ := hs
    have h2' : ∀ r ∈ idsL ((rdO o).map (getA s.t)), hget s.h r = hget s'.h r := fun r hr => h2 r (List.mem_append_left _ hr)
    rw [← hvals _ rfl h1]
    exact .newp hd ((hpe _ rfl h1 h2').trans h) (by rw [← h2 d (List.mem_append_right _ (by simp [E.names]))]; exact hn) h5
  | @news d row hd h hn h5 =>
    obtain ⟨h1, h2⟩ := hs
    have h2' : ∀ r ∈ idsL ((rdO o).map (getA s.t)), hget s.h r = hget s'.h r := fun r hr => h2 r (List.mem_append_left _ hr)
    rw [← hvals _ rfl h1]
    exact .news hd ((hpe _ rfl h1 h2').trans h) (by rw [← h2 d (List.mem_append_right _ (by simp [E.names]))]; exact hn) h5
  | @nil d row hd h hn h5 =>
    obtain ⟨h1, h2⟩ := hs
    have h2' : ∀ r ∈ idsL ((rdO o).map (getA s.t)), hget s.h r = hget s'.h r := fun r hr => h2 r (List.mem_append_left _ hr)
    rw [← hvals _ rfl h1]
    exact .nil hd ((hpe _ rfl h1 h2').trans h) (by rw [← h2 d (List.mem_append_right _ (by simp [E.names]))]; exact hn) h5
  | @sto t x y r row hd hp ho h =>
    obtain ⟨h1, h2⟩ := hs
    have h2' : ∀ r ∈ idsL ((rdO o).map (getA s.t)), hget s.h r = hget s'.h r := fun r hr => h2 r (List.mem_append_left _ hr)
    have hx : x ∈ o.op.operands.toList := by rw [ho]; simp [Op.operands]
    have hy : y ∈ o.op.operands.toList := by rw [ho]; simp [Op.operands]
    rw [← hvals _ rfl h1]
    refine .sto hd ((hpe _ rfl h1 h2').trans hp) ho ?_
    rw [evA_see h1 (hop x hx), evA_see h1 (hop y hy), stR_see fun r hr => h2' r (ids_ev (hop x hx) hr)]
    exact h
  | @app t x y φ r n m row news c hp ho h hφ hcl h5 =>
    obtain ⟨h1, h2⟩ := hs
    have h2' : ∀ r ∈ idsL ((rdO o).map (getA s.t)), hget s.h r = hget s'.h r := fun r hr => h2 r (List.mem_append_left _ hr)
    have hx : x ∈ o.op.operands.toList := by rw [ho]; simp [Op.operands, Call.operands]
    have hy : y ∈ o.op.operands.toList := by rw [ho]; simp [Op.operands, Call.operands]
    rw [← hvals _ rfl h1]
    refine .app ((hpe _ rfl h1 h2').trans hp) ho ?_ hφ hcl h5
    rw [evA_see h1 (hop x hx), evA_see h1 (hop y hy), apE_see (fun r hr => h2' r (ids_ev (hop x hx) hr)) fun r hr => h2' r (ids_ev (hop y hy) hr)]
    exact h
  | @call f xs ts g caps x rows hp ho hf hcl hpc hx hr hfr =>
    obtain ⟨h1, h2⟩ := hs
    have h2' : ∀ r ∈ idsL ((rdO o).map (getA s.t)), hget s.h r = hget s'.h r := fun r hr => h2 r (List.mem_append_left _ hr)
    have hof : f ∈ o.op.operands.toList := by rw [ho]; simp [Op.operands, Call.operands]
    have hox : ∀ y ∈ xs, y ∈ o.op.operands.toList := fun y hy => by rw [ho]; simp only [Op.operands, Call.operands, Array.toList_append, List.mem_append]; exact .inr hy
    have hxs : xs.map (evA s'.t) = xs.map (evA s.t) := List.map_congr_left fun y hy => evA_see h1 (hop y (hox y hy))
    have hids : ∀ r ∈ idsL (xs.map (evA s.t) ++ caps), hget s.h r = hget s'.h r := fun r hr' => by
      obtain ⟨z, hz, hrz⟩ := ids_map.1 hr'
      rcases List.mem_append.1 hz with hz | hz
      · obtain ⟨y, hy, rfl⟩ := List.mem_map.1 hz
        exact h2' r (ids_ev (hop y (hox y hy)) hrz)
      · refine h2' r (ids_ev (hop f hof) ?_)
        rw [hf, idsA]
        exact ids_map.2 ⟨z, hz, hrz⟩
    have hrow : ∀ r ∈ idsL (xs.map (evA s.t) ++ caps), ∀ row, hget s.h r = some row → row.cl = true := fun r hr' row hg => by
      have := List.all_eq_true.1 hcl r hr'
      rw [hg] at this
      exact this
    rw [← hvals _ rfl h1]
    refine .call ((hpe _ rfl h1 h2').trans hp) ho (by rw [evA_see h1 (hop f hof)]; exact hf) ?_ ?_ hx hr ?_
    · rw [hxs]
      refine List.all_eq_true.2 fun r hr' => ?_
      rw [← hids r hr']
      exact List.all_eq_true.1 hcl r hr'
    · rw [hxs]
      have : (xs.map (evA s.t) ++ caps).map (viewN 3 s'.h) = (xs.map (evA s.t) ++ caps).map (viewN 3 s.h) := List.map_congr_left fun z hz => view_see 3 z fun r hrz => ⟨hids r (ids_map.2 ⟨z, hz, hrz⟩), hrow r (ids_map.2 ⟨z, hz, hrz⟩)⟩
      rw [this]
      exact hpc
    · exact frB_of (frB_le hfr) fun q hq1 hq2 => by
        rw [← h2 q (List.mem_append_right _ (names_hpOf rows _ q hq1 hq2))]
        exact frB_ok hfr q hq1 hq2
  | @callS f xs ts g caps x rows hp ho hf hcl hpc hfr =>
    obtain ⟨h1, h2⟩ := hs
    have h2' : ∀ r ∈ idsL ((rdO o).map (getA s.t)), hget s.h r = hget s'.h r := fun r hr => h2 r (List.mem_append_left _ hr)
    have hof : f ∈ o.op.operands.toList := by rw [ho]; simp [Op.operands, Call.operands]
    have hox : ∀ y ∈ xs, y ∈ o.op.operands.toList := fun y hy => by rw [ho]; simp only [Op.operands, Call.operands, Array.toList_append, List.mem_append]; exact .inr hy
    have hxs : xs.map (evA s'.t) = xs.map (evA s.t) := List.map_congr_left fun y hy => evA_see h1 (hop y (hox y hy))
    rw [← hvals _ rfl h1]
    refine .callS ((hpe _ rfl h1 h2').trans hp) ho (by rw [evA_see h1 (hop f hof)]; exact hf) (by rw [hxs]; exact hcl) (by rw [hxs]; exact hpc) ?_
    exact frB_of (frB_le hfr) fun q hq1 hq2 => by
      rw [← h2 q (List.mem_append_right _ (names_hpOf rows _ q hq1 hq2))]
      exact frB_ok hfr q hq1 hq2
where
  names_hpOf : ∀ (rows : List Row) (b q : Nat), b ≤ q → q < b + rows.length → q ∈ (hpOf b rows).map (·.1)
    | [], b, q, h1, h2 => by simp at h2; omega
    | r :: l, b, q, h1, h2 => by
      simp only [hpOf, List.map_cons, List.mem_cons]
      by_cases h : q = b
      · exact .inl h
      · exact .inr (names_hpOf l (b + 1) q (by omega) (by simp at h2; omega))
  hget_mem : ∀ (h : Hp) (k : Nat) (x : Row), (k, x) ∈ h → ∃ y, hget h k = some y
    | [], k, x, hm => by cases hm
    | (j, y) :: l, k, x, hm => by
      simp only [hget]
      split
      · exact ⟨y, rfl⟩
      · rename_i hne
        cases hm with
        | head => exact absurd rfl hne
        | tail _ hm => exact hget_mem l k x hm
  frB_of {h : Hp} {b n : Nat} (hle : n = 0 ∨ b + n ≤ 500000) (hf : ∀ q, b ≤ q → q < b + n → hget h q = none) : frB h b n = true := by
    unfold frB
    rw [Bool.or_eq_true, Bool.and_eq_true, decide_eq_true_eq, decide_eq_true_eq]
    refine hle.imp id fun h5 => ⟨h5, List.all_eq_true.2 fun z hz => ?_⟩
    obtain ⟨k, x⟩ := z
    simp only [Bool.or_eq_true, decide_eq_true_eq]
    rcases Nat.lt_or_ge k b with h1 | h1
    · exact .inl h1
    · rcases Nat.lt_or_ge k (b + n) with h2 | h2
      · obtain ⟨y, hy⟩ := hget_mem h k x hz
        rw [hf k h1 h2] at hy; cases hy
      · exact .inr h2
end

/-! ### It is what happens -/
section
variable {P : Program} {w0 : World} {lent : Lent} {s : AS} {loc : Loc} {a : Act} {w : World} {o : SO} {e : E} {N : Act → World → Prop} {Qx : Exit → Act → World → Prop}
theorem Rel.eqv {s' : AS} (h : Eqv s s') (hR : Rel w0 lent s loc a w) : Rel w0 lent s' loc a w := by
  obtain ⟨h1, h2⟩ := h
  have hlive : ∀ b, Live s'.h loc b ↔ Live s.h loc b := fun b => by simp only [Live, LiveR, h2]
  have hC : ∀ x u, C (Live s.h loc) 0 w x u → C (Live s'.h loc) 0 w x u := fun x u hx => hx.mono (Nat.le_refl _) (Nat.le_refl _) fun b _ _ hnl => ⟨fun h => hnl ((hlive b).1 h), rfl⟩
  have hG : ∀ x u, G s.h loc w x u → G s'.h loc w x u := fun x u hx => hx.mono (Nat.le_refl _) (fun q row hq => ⟨rfl, row, by rw [← h2]; exact hq, rfl, Nat.le_refl _⟩) fun b _ hnl => ⟨fun h => hnl ((hlive b).1 h), rfl⟩
  refine ⟨hR.tsz.trans (by rw [h1]), fun i x hx => hG _ _ (hR.tm i x (by rw [h1]; exact hx)), hR.df, fun r row hr => ?_, fun r r' row row' b c c' g1 g2 => hR.inj r r' row row' b c c' (by rw [h2]; exact g1) (by rw [h2]; exact g2), fun r row b c g1 => hR.own r row b c (by rw [h2]; exact g1), hR.os, hR.tape, hR.output, hR.size, hR.keep, hR.fbe, hR.fbl, hR.pn, hR.pl⟩
  obtain ⟨q1, xs, q2, q3⟩ := hR.rw r row (by rw [h2]; exact hr)
  exact ⟨q1, xs, q2, fun k e j x he hx => by
    obtain ⟨u, p1, p2, p3, p4⟩ := q3 k e j x he hx
    exact ⟨u, p1, p2, hG _ _ p3, fun hc => hC _ _ (p4 hc)⟩⟩

theorem Ex.sound (hR : Rel w0 lent s loc a w) (h : Ex P s o e) (hN : ∀ loc' a' w', Rel w0 lent (e.ap s) loc' a' w' → N a' w') : o.oper.wp P a w N Qx := by
  have hp := pe_ok (P := P) (h := s.h) (loc := loc) (w := w) (ρ := evA s.t) (ev := a.eval) (o := o.oper) (fun y _ => evA_ok hR y) hR.rw
  unfold Oper.wp
  cases h with
  | @val x h =>
    rw [h] at hp
    obtain ⟨u, hr, hu⟩ := hp
    rw [hr]
    exact hN loc _ w (hR.put o.dst hu)
  | @newp d row hd h hn h5 =>
    rw [h] at hp
    obtain ⟨cs, hr, hnr, hl⟩ := hp
    rw [hr]
    obtain ⟨g1, g2, g3⟩ := hR.lay d row cs hn hnr (by rw [hl]; unfold maxLen; omega) (pin_lo hR (.inl h5))
    refine hN (locSet loc d (some (w.heap.size, row.es.length))) _ _ ?_
    rw [show o.oper.dst = some d from hd]
    have := G.p (h := hset s.h d row) (loc := locSet loc d (some (w.heap.size, row.es.length))) (w := w.alloc (.cells cs row.E)) (k := 0) (off := 0) g2 g3
    simp only [Nat.zero_mul, Nat.add_zero] at this
    exact g1.put (some d) this
  | @news d row hd h hn h5 =>
    rw [h] at hp
    obtain ⟨cs, hr, hnr, hl⟩ := hp
    rw [hr]
    obtain ⟨g1, g2, g3⟩ := hR.lay d row cs hn hnr hl (pin_lo hR (.inl h5))
    refine hN (locSet loc d (some (w.heap.size, row.es.length))) _ _ ?_
    rw [show o.oper.dst = some d from hd]
    exact g1.put (some d) (.o g2 g3 (Nat.le_refl _))
  | @nil d row hd h hn h5 =>
    rw [h] at hp
    obtain ⟨hr, he⟩ := hp
    rw [hr]
    obtain ⟨g1, g2, g3⟩ := hR.layNil d row hn he (pin_lo hR (.inl h5))
    refine hN (locSet loc d none) _ _ ?_
    rw [show o.oper.dst = some d from hd]
    exact g1.put (some d) (.onil g2 g3)
  | @sto t x y r row hd hpe ho h =>
    have hst : stA P s.h t (evA s.t x) (evA s.t y) = some (hset s.h r row) := by rw [stA_stR, h]; rfl
    obtain ⟨w', hr, hR'⟩ := stA_ok hR (evA_ok hR x) (evA_ok hR y) hst
    have : (execOp a.eval o.oper).run P w = .ok .skip w' := by simp [execOp, SO.oper, ho, hr]
    rw [this]
    show N (a.put o.dst undef) w'
    rw [hd]
    exact hN _ _ _ hR'
  | @app t x y φ r n m row news c hpe ho h hφ hcl h5 =>
    unfold apE at h
    split at h
    · rename_i e z ht
      split at h
      · rename_i te hte
        split at h
        · rename_i hz
          obtain ⟨hz1, hz2, hz3⟩ := hz
          split at h
          · rename_i r' n' hx
            split at h
            · rename_i row' news' sz c' r2 hrow hnews
              split at h
              · rename_i hsz
                obtain ⟨hs1, hs2, hs3⟩ := hsz
                subst hs3
                simp only [Option.some.injEq, Prod.mk.injEq] at h
                obtain ⟨rfl, rfl, rfl, rfl, rfl, rfl, rfl⟩ := h
                have hu := evA_ok hR x
                rw [hx] at hu
                have hmx : n' + news'.length ≤ maxLen := by
                  have : (n' + news'.length) * 1 ≤ (n' + news'.length) * te.bytes := Nat.mul_le_mul_left _ hz3
                  unfold maxLen; omega
                obtain ⟨v', w', loc', hr, hR', hv⟩ := append_ok (P := P) (ty := o.type) hR ht rfl hte hz1 hz2 hrow hs1 hs2 hu (evA_ok hR y) hnews hφ hmx (pin_lo hR h5)
                have hrun : (execOp a.eval o.oper).run P w = .ok (.value v') w' := by
                  simp [execOp, SO.oper, ho, resolve, invoke, builtin, hr]
                rw [hrun]
                refine hN loc' _ w' ?_
                have := hR'.put o.dst hv
                have e1 : apH s.h r' n' row' news' c' = hsets (kH (some r') s.h) [(r', ⟨row'.E, row'.sz, row'.es.take n' ++ news', true⟩)] := by
                  unfold apH
                  rw [hcl]; rfl
                rw [e1] at this
                exact this
              · cases h
            · cases h
          · cases h
        · cases h
      · cases h
    · cases h
  | @call f xs ts g caps x rows hpe ho hf hcl hpc hx hr hfr =>
    have hff := evA_ok hR f
    rw [hf] at hff
    obtain ⟨cs, hv, hs, hgc⟩ := hff.fn_inv
    obtain ⟨h1, h2⟩ := evA_args hR xs caps cs hs hgc
    have hrun : (execOp a.eval o.oper).run P w = .ok (.enter g ((xs.map a.eval).toArray ++ cs)) w := by
      simp only [execOp, SO.oper, ho, resolve, hv, Deferred.ofValue, Sem.run_bind, Sem.run_pure, Result.andThen_ok, invoke, Array.empty_append, List.map_toArray]
      exact hpc.1 ((xs.map a.eval).toArray ++ cs) w
    rw [hrun]
    refine ((hpc.2 w loc.fb _ (fun b hb => ?_) (by rw [List.length_map]; exact h1) fun j z hz => ?_).mono ?_ : Calls P g _ w _)
    · rw [hR.fbe] at hb
      exact Nat.lt_of_lt_of_le (hR.fbl b hb).1 hR.size
    · rw [List.getElem?_map, Option.map_eq_some_iff] at hz
      obtain ⟨y, hy, rfl⟩ := hz
      exact view_ok hR 3 y _ (h2 j y hy)
    · rintro e w' ⟨rv, rs, v, ⟨rfl, rfl⟩, rfl, hb, hres⟩
      obtain ⟨loc', hR', hv'⟩ := Rel.join false (baseOf o.dst) hR hb hres hfr (fun h => by cases h) (.inr ⟨hx, hr⟩)
      refine hN loc' _ w' (Rel.eqv ?_ (hR'.put o.dst hv'))
      exact apd_eqv s o.dst _ _ (fun q hq => frB_ok hfr q hq)
  | @callS f xs ts g caps x rows hpe ho hf hcl hpc hfr =>
    have hff := evA_ok hR f
    rw [hf] at hff
    obtain ⟨cs, hv, hs, hgc⟩ := hff.fn_inv
    obtain ⟨h1, h2⟩ := evA_args hR xs caps cs hs hgc
    have hrun : (execOp a.eval o.oper).run P w = .ok (.enter g ((xs.map a.eval).toArray ++ cs)) w := by
      simp only [execOp, SO.oper, ho, resolve, hv, Deferred.ofValue, Sem.run_bind, Sem.run_pure, Result.andThen_ok, invoke, Array.empty_append, List.map_toArray]
      exact hpc.1 ((xs.map a.eval).toArray ++ cs) w
    rw [hrun]
    refine ((hpc.2 w (Live s.h loc) _ (fun b hb => ?_) h1 fun j z hz => ?_).mono ?_ : Calls P g _ w _)
    · rcases hb with hb | hb
      · exact Live.lt hR.rw hb
      · rw [hR.fbe] at hb
        exact Nat.lt_of_lt_of_le (hR.fbl b hb).1 hR.size
    · exact isC2_ok (h2 j z hz) (List.all_eq_true.1 hcl z (List.mem_of_getElem? hz))
    · rintro e w' ⟨rv, rs, v, ⟨rfl, rfl⟩, rfl, hb, hres⟩
      obtain ⟨loc', hR', hv'⟩ := Rel.join true (baseOf o.dst) hR hb hres hfr (fun _ q hq => hq) (.inl rfl)
      refine hN loc' _ w' (Rel.eqv ?_ (hR'.put o.dst hv'))
      exact apd_eqv s o.dst _ _ (fun q hq => frB_ok hfr q hq)
where
  lastR_hpOf : ∀ (rows : List Row) (b q : Nat), lastR (hpOf b rows) q = hget (hpOf b rows) q
    | [], b, q => rfl
    | r :: l, b, q => by
      simp only [hpOf, lastR, hget, lastR_hpOf l (b + 1) q]
      cases hg : hget (hpOf (b + 1) l) q with
      | some y =>
        rw [hget_hpOf] at hg
        split at hg
        · have : ¬ b = q := by omega
          simp only [this, if_false]
        · cases hg
      | none => rfl
  apd_eqv (s : AS) (d : Option Tmp) (x : AV) (rows : List Row) (hfr : ∀ q, baseOf d ≤ q → q < baseOf d + rows.length → hget s.h q = none) : Eqv (AS.put ⟨s.t, s.h ++ hpOf (baseOf d) rows⟩ d x) (E.ap ⟨d, x, none, hpOf (baseOf d) rows, rdO o, (rdO o).map (getA s.t)⟩ s) := by
    refine ⟨by cases d <;> rfl, fun r => ?_⟩
    rw [AS.put_h, ap_h, hget_append]
    simp only
    rw [lastR_hpOf]
    cases hq : hget (hpOf (baseOf d) rows) r with
    | some z =>
      rw [hget_hpOf] at hq
      split at hq
      · rename_i h1
        have := lt_of_some hq
        rw [hfr r h1 (by omega)]
      · cases hq
    | none => cases hget s.h r <;> rfl
end

end Go.Proofs.YtccifbbjbnjcfaaGreatDoor
/-
  The abstract machine: a region that draws its order does what its text does in order.
-/
namespace Go.Proofs.YtccifbbjbnjcfaaGreatDoor
open Go Go.RowKit

/-- What an operation waits for, by whatever road. -/
inductive Anc (ops : List Oper) : Nat → Nat → Prop
  | dir {i k : Nat} (h : k ∈ waitsFor ops i) : Anc ops i k
  | tr {i k j : Nat} (h : k ∈ waitsFor ops i) (h2 : Anc ops k j) : Anc ops i j
theorem Anc.trans {ops : List Oper} {i j k : Nat} (h : Anc ops i j) (h2 : Anc ops j k) : Anc ops i k := by
  induction h with
  | dir h => exact .tr h h2
  | tr h _ ih => exact .tr h (ih h2)
def mk1 (acc : List Nat) : List Edge → Nat
  | [] => 0
  | e :: r => if Region.binds .any e = true then (2 ^ e.on ||| acc.getD e.on 0) ||| mk1 acc r else mk1 acc r
def mks : List Oper → List Nat → List Nat
  | [], acc => acc
  | o :: l, acc => mks l (acc ++ [mk1 acc o.after.toList])
theorem mk1_bit (acc : List Nat) (k : Nat) : ∀ (l : List Edge), (mk1 acc l).testBit k = true → ∃ e ∈ l, Region.binds .any e = true ∧ (k = e.on ∨ (acc.getD e.on 0).testBit k = true)
  | [], h => by simp [mk1] at h
  | e :: r, h => by
    simp only [mk1] at h
    split at h
    · rename_i hb
      rw [Nat.testBit_or, Nat.testBit_or, Nat.testBit_two_pow, Bool.or_eq_true, Bool.or_eq_true, decide_eq_true_eq] at h
      rcases h with (h | h) | h
      · exact ⟨e, List.mem_cons_self, hb, .inl h.symm⟩
      · exact ⟨e, List.mem_cons_self, hb, .inr h⟩
      · obtain ⟨e', h1, h2⟩ := mk1_bit acc k r h
        exact ⟨e', List.mem_cons_of_mem _ h1, h2⟩
    · obtain ⟨e', h1, h2⟩ := mk1_bit acc k r h
      exact ⟨e', List.mem_cons_of_mem _ h1, h2⟩
theorem waits_mem {ops : List Oper} {i : Nat} {o : Oper} (ho : ops[i]? = some o) (j : Nat) : j ∈ waitsFor ops i ↔ ∃ e ∈ o.after, Region.binds .any e = true ∧ e.on = j := by
  unfold waitsFor
  rw [ho]
  simp [and_assoc]
theorem mks_spec (ops : List Oper) : ∀ (l : List Oper) (acc : List Nat), (∀ (i : Nat) o, l[i]? = some o → ops[acc.length + i]? = some o) → (∀ (i k : Nat), (acc.getD i 0).testBit k = true → Anc ops i k) →
    (mks l acc).length = acc.length + l.length ∧ ∀ (i k : Nat), ((mks l acc).getD i 0).testBit k = true → Anc ops i k
  | [], acc, _, h => ⟨by simp [mks], h⟩
  | o :: l, acc, hl, h => by
    have ho := hl 0 o rfl
    rw [Nat.add_zero] at ho
    obtain ⟨h1, h2⟩ := mks_spec ops l (acc ++ [mk1 acc o.after.toList]) (fun i o' hi => by
      have := hl (i + 1) o' (by simpa using hi)
      rw [List.length_append, List.length_singleton, Nat.add_assoc, Nat.add_comm 1 i]; exact this) (fun i k hk => by
      rw [List.getD_eq_getElem?_getD] at hk
      by_cases hi : i < acc.length
      · rw [List.getElem?_append_left hi, ← List.getD_eq_getElem?_getD] at hk
        exact h i k hk
      · rw [List.getElem?_append_right (by omega)] at hk
        by_cases hi2 : i = acc.length
        · subst hi2
          simp only [Nat.sub_self, List.getElem?_cons_zero, Option.getD_some] at hk
          obtain ⟨e, he, hb, hk⟩ := mk1_bit acc k _ hk
          have hw : e.on ∈ waitsFor ops acc.length := (waits_mem ho _).2 ⟨e, by simpa using he, hb, rfl⟩
          rcases hk with rfl | hk
          · exact .dir hw
          · exact .tr hw (h _ _ hk)
        · have : i - acc.length = (i - acc.length - 1) + 1 := by omega
          rw [this] at hk
          simp at hk)
    refine ⟨?_, h2⟩
    simp only [mks, h1, List.length_append, List.length_cons, List.length_nil]
    omega

def prJ (m : Nat) (e : E) : Nat → List E → Bool
  | _, [] => true
  | i, f :: l => (m.testBit i || (okE f e && siB f e && siB e f)) && prJ m e (i + 1) l
def prB (all : List E) : List Nat → List E → Nat → Bool
  | m :: ms, e :: es, j => prJ m e 0 (all.take j) && prB all ms es (j + 1)
  | _, _, _ => true
theorem prJ_spec (m : Nat) (e : E) : ∀ (l : List E) (k : Nat), prJ m e k l = true → ∀ (i : Nat) f, l[i]? = some f → m.testBit (k + i) = true ∨ (okE f e = true ∧ siB f e = true ∧ siB e f = true)
  | [], k, _, i, f, h => by simp at h
  | g :: l, k, hp, i, f, h => by
    simp only [prJ, Bool.and_eq_true, Bool.or_eq_true] at hp
    cases i with
    | zero =>
      simp at h; subst h
      exact hp.1.imp id fun h => ⟨h.1.1, h.1.2, h.2⟩
    | succ i =>
      have := prJ_spec m e l (k + 1) hp.2 i f (by simpa using h)
      rwa [show k + 1 + i = k + (i + 1) from by omega] at this
theorem prB_spec (all : List E) : ∀ (ms : List Nat) (es : List E) (j : Nat), prB all ms es j = true → ∀ (q i : Nat) m e f, ms[q]? = some m → es[q]? = some e → i < j + q → all[i]? = some f → m.testBit i = true ∨ (okE f e = true ∧ siB f e = true ∧ siB e f = true)
  | [], es, j, _, q, i, m, e, f, h1, _, _, _ => by simp at h1
  | m0 :: ms, [], j, _, q, i, m, e, f, _, h2, _, _ => by simp at h2
  | m0 :: ms, e0 :: es, j, hp, q, i, m, e, f, h1, h2, hi, hf => by
    simp only [prB, Bool.and_eq_true] at hp
    cases q with
    | zero =>
      simp at h1 h2; subst h1; subst h2
      have := prJ_spec m0 e0 _ 0 hp.1 i f (by rw [List.getElem?_take, if_pos (by omega)]; exact hf)
      rwa [Nat.zero_add] at this
    | succ q => exact prB_spec all ms es (j + 1) hp.2 q i m e f (by simpa using h1) (by simpa using h2) (by omega) hf
/-- The last of n operations waits for all the others. -/
def covB (ops : List Oper) (n : Nat) : Bool := (List.range (n - 1)).all fun i => ((mks ops []).getD (n - 1) 0).testBit i
def kcB (ops : List Oper) (s : AS) (evs : List E) : Bool := evs.all (·.kill.isNone) || (s.h.all (·.2.cl) && ((evs.all fun e => e.add.all (·.2.cl)) || ((evs.dropLast.all fun e => e.add.all (·.2.cl)) && covB ops evs.length)))
def bkB : List Oper → Nat → Bool
  | [], _ => true
  | o :: l, i => o.after.toList.all (fun e => !Region.binds .any e || decide (e.on < i)) && bkB l (i + 1)
theorem bkB_spec : ∀ (l : List Oper) (k : Nat), bkB l k = true → ∀ (i : Nat) o, l[i]? = some o → ∀ e ∈ o.after, Region.binds .any e = true → e.on < k + i
  | [], k, _, i, o, h => by simp at h
  | o' :: l, k, hb, i, o, h => by
    simp only [bkB, Bool.and_eq_true, List.all_eq_true] at hb
    cases i with
    | zero =>
      simp at h; subst h
      exact fun e he hbe => by
        have := hb.1 e (by simpa using he)
        rw [hbe] at this
        simpa using this
    | succ i =>
      have := bkB_spec l (k + 1) hb.2 i o (by simpa using h)
      exact fun e he hbe => by have := this e he hbe; omega

/-! ### Events in order -/
def fo (sel : Nat → Bool) : Nat → List E → AS → AS
  | _, [], s => s
  | k, e :: l, s => fo sel (k + 1) l (if sel k then e.ap s else s)
theorem fo_dl {V : Nat → Bool} : ∀ (l : List E) (k : Nat) (s : AS), V (k + l.length - 1) = false → fo V k l s = fo V k l.dropLast s
  | [], _, _, _ => rfl
  | [e], k, s, h => by
    have h' : V k = false := h
    simp [fo, h']
  | e :: f :: l, k, s, h => by
    rw [List.dropLast_cons_of_ne_nil (by simp)]
    simp only [fo]
    have h' : V (k + 1 + (f :: l).length - 1) = false := by
      rw [← h]; congr 1; simp only [List.length_cons]; omega
    have := fo_dl (f :: l) (k + 1) (if V k = true then e.ap s else s) h'
    simpa only [fo] using this
theorem mem_hget : ∀ (h : Hp) (r : Nat) (row : Row), hget h r = some row → (r, row) ∈ h := by
  intro h
  induction h with
  | nil => intro r row hr; cases hr
  | cons x l ih =>
    intro r row hr
    obtain ⟨k, y⟩ := x
    simp only [hget] at hr
    split at hr
    · rename_i e; cases hr; subst e; exact List.mem_cons_self
    · exact List.mem_cons_of_mem _ (ih r row hr)
theorem kc_cut {ops : List Oper} {s : AS} {evs : List E} (hkc : kcB ops s evs = true) :
    ∃ evs', (∀ (j : Nat) f, evs'[j]? = some f → evs[j]? = some f) ∧ (∀ (V : Nat → Bool) s', (evs' = evs ∨ V (evs.length - 1) = false) → fo V 0 evs s' = fo V 0 evs' s') ∧
      (evs' = evs ∨ ∀ j, j < evs.length - 1 → Anc ops (evs.length - 1) j) ∧ ((∀ f ∈ evs', f.kill = none) ∨ (clH s.h ∧ ∀ f ∈ evs', f.add.all (·.2.cl) = true)) := by
  unfold kcB at hkc
  rw [Bool.or_eq_true, Bool.and_eq_true, Bool.or_eq_true, Bool.and_eq_true] at hkc
  rcases hkc with h | ⟨h1, h2 | ⟨h2, h3⟩⟩
  · refine ⟨evs, fun _ _ h => h, fun _ _ _ => rfl, .inl rfl, .inl fun f hf => ?_⟩
    simpa using List.all_eq_true.1 h f hf
  · exact ⟨evs, fun _ _ h => h, fun _ _ _ => rfl, .inl rfl, .inr ⟨fun r row hr => List.all_eq_true.1 h1 _ (mem_hget _ _ _ hr), fun f hf => List.all_eq_true.1 h2 f hf⟩⟩
  · refine ⟨evs.dropLast, fun j f hf => ?_, fun V s' hV => ?_, .inr fun j hj => ?_, .inr ⟨fun r row hr => List.all_eq_true.1 h1 _ (mem_hget _ _ _ hr), fun f hf => List.all_eq_true.1 h2 f hf⟩⟩
    · rw [List.getElem?_dropLast] at hf
      split at hf
      · exact hf
      · cases hf
    · rcases hV with hV | hV
      · rw [hV]
      · exact fo_dl evs 0 s' (by simpa using hV)
    · have := List.all_eq_true.1 h3 j (List.mem_range.2 hj)
      exact (mks_spec ops ops [] (fun i o h => by simpa using h) (fun i k h => by simp at h)).2 _ _ this
theorem fo_eqv (sel : Nat → Bool) : ∀ (l : List E) (k : Nat) {s s' : AS}, Eqv s s' → Eqv (fo sel k l s) (fo sel k l s')
  | [], k, s, s', h => h
  | e :: l, k, s, s', h => by
    simp only [fo]
    exact fo_eqv sel l (k + 1) (by split; exact h.ap e; exact h)
theorem fo_congr {sel sel' : Nat → Bool} : ∀ (l : List E) (k : Nat) (s : AS), (∀ j, k ≤ j → j < k + l.length → sel j = sel' j) → fo sel k l s = fo sel' k l s
  | [], k, s, _ => rfl
  | e :: l, k, s, h => by
    simp only [fo, h k (Nat.le_refl _) (by simp)]
    exact fo_congr l (k + 1) _ fun j h1 h2 => h j (by omega) (by simp only [List.length_cons]; omega)
theorem fo_push {sel : Nat → Bool} {e : E} : ∀ (l : List E) (k : Nat) (s : AS), (∀ (j : Nat) f, l[j]? = some f → sel (k + j) = true → okE e f = true) → Eqv (fo sel k l (e.ap s)) (e.ap (fo sel k l s))
  | [], k, s, _ => Eqv.refl _
  | f :: l, k, s, h => by
    simp only [fo]
    have ih := fun s => fo_push (sel := sel) (e := e) l (k + 1) s fun j g hg hs => h (j + 1) g (by simpa using hg) (by rwa [show k + (j + 1) = k + 1 + j from by omega])
    split
    · rename_i hk
      have := h 0 f rfl (by simpa using hk)
      exact (fo_eqv sel l (k + 1) (E.comm s this).symm).trans (ih _)
    · exact ih _
/-- One event more. -/
theorem fo_ins {sel sel' : Nat → Bool} {e : E} {i : Nat} : ∀ (l : List E) (k : Nat) (s : AS), k ≤ i → l[i - k]? = some e → sel i = false → (∀ j, sel' j = if j = i then true else sel j) →
    (∀ (j : Nat) f, l[j]? = some f → i < k + j → sel (k + j) = true → okE e f = true) → Eqv (fo sel' k l s) (e.ap (fo sel k l s))
  | [], k, s, _, h, _, _, _ => by simp at h
  | f :: l, k, s, hk, h, hi, hs, hok => by
    simp only [fo]
    by_cases hki : k = i
    · subst hki
      simp only [Nat.sub_self, List.getElem?_cons_zero, Option.some.injEq] at h
      subst h
      rw [hi, hs k, if_pos rfl, if_pos rfl]
      simp only [Bool.false_eq_true, if_false]
      rw [fo_congr (sel := sel') (sel' := sel) l (k + 1) _ fun j h1 _ => by rw [hs, if_neg (by omega)]]
      exact fo_push l (k + 1) s fun j g hg hsj => hok (j + 1) g (by simpa using hg) (by omega) (by rwa [show k + (j + 1) = k + 1 + j from by omega])
    · rw [hs k, if_neg hki]
      refine fo_ins l (k + 1) _ (by omega) ?_ hi hs fun j g hg hj hsj => hok (j + 1) g (by simpa using hg) (by omega) (by rwa [show k + (j + 1) = k + 1 + j from by omega])
      rw [show i - k = (i - (k + 1)) + 1 from by omega, List.getElem?_cons_succ] at h
      exact h
/-- Those apart come last. -/
theorem fo_split {V A : Nat → Bool} : ∀ (l : List E) (k : Nat) (s : AS), (∀ j, A j = true → V j = true) →
    (∀ (i j : Nat) e f, l[i]? = some e → l[j]? = some f → i < j → V (k + i) = true → A (k + i) = false → A (k + j) = true → okE e f = true) → Eqv (fo V k l s) (fo (fun j => V j && !A j) k l (fo A k l s))
  | [], k, s, _, _ => Eqv.refl _
  | e :: l, k, s, hAV, hok => by
    have ih := fun s => fo_split (V := V) (A := A) l (k + 1) s hAV fun i j f g hf hg hij h1 h2 h3 => hok (i + 1) (j + 1) f g (by simpa using hf) (by simpa using hg) (by omega) (by rwa [show k + (i + 1) = k + 1 + i from by omega])
      (by rwa [show k + (i + 1) = k + 1 + i from by omega]) (by rwa [show k + (j + 1) = k + 1 + j from by omega])
    simp only [fo]
    rcases Bool.eq_false_or_eq_true (V k) with hV | hV
    · rcases Bool.eq_false_or_eq_true (A k) with hA | hA
      · simp only [hV, hA, Bool.not_true, Bool.and_false, Bool.false_eq_true, if_false, if_true]
        exact ih _
      · simp only [hV, hA, Bool.not_false, Bool.and_self, if_true, Bool.false_eq_true, if_false]
        refine (ih _).trans (fo_eqv _ l (k + 1) (fo_push l (k + 1) s fun j f hf hj => ?_))
        exact hok 0 (j + 1) e f rfl (by simpa using hf) (by omega) (by simpa using hV) (by simpa using hA) (by rwa [show k + (j + 1) = k + 1 + j from by omega])
    · have hA : A k = false := by
        rcases Bool.eq_false_or_eq_true (A k) with hA | hA
        · rw [hAV k hA] at hV; cases hV
        · exact hA
      simp only [hV, hA, Bool.false_and, Bool.false_eq_true, if_false]
      exact ih s

theorem clH_ap {e : E} {s : AS} (h : clH s.h) (ha : e.add.all (·.2.cl) = true) : clH (e.ap s).h := by
  intro r row hr
  rw [ap_h] at hr
  split at hr
  · rename_i x hx
    cases hr
    rw [List.all_eq_true] at ha
    exact ha _ (lastR_some _ _ _ hx)
  · cases hg : hget s.h r with
    | none => rw [hg] at hr; cases hr
    | some x =>
      rw [hg] at hr
      simp only [Option.map_some, Option.some.injEq] at hr
      have := h r x hg
      rw [killO_cl _ _ this] at hr
      rw [← hr]; exact this
theorem sees_fwd {e : E} {sel : Nat → Bool} : ∀ (l : List E) (k : Nat) (s : AS), e.vals = e.rd.map (getA s.t) → (∀ (j : Nat) f, l[j]? = some f → sel (k + j) = true → siB f e = true) →
    ((∀ f ∈ l, f.kill = none) ∨ (clH s.h ∧ ∀ f ∈ l, f.add.all (·.2.cl) = true)) → Sees e s (fo sel k l s)
  | [], k, s, _, _, _ => ⟨fun _ _ => rfl, fun _ _ => rfl⟩
  | f :: l, k, s, hv, hs, hk => by
    have hs' : ∀ (j : Nat) g, l[j]? = some g → sel (k + 1 + j) = true → siB g e = true := fun j g hg h => hs (j + 1) g (by simpa using hg) (by rwa [show k + (j + 1) = k + 1 + j from by omega])
    simp only [fo]
    split
    · rename_i hsel
      have h1 := Sees.fwd hv (hs 0 f rfl (by simpa using hsel)) (s := s) fun hne => by
        rcases hk with hk | hk
        · exact absurd (hk f List.mem_cons_self) hne
        · exact hk.1
      have hv' : e.vals = e.rd.map (getA (f.ap s).t) := by rw [hv]; exact List.map_congr_left fun q hq => h1.1 q hq
      have h2 := sees_fwd (sel := sel) l (k + 1) (f.ap s) hv' hs' (by
        rcases hk with hk | hk
        · exact .inl fun g hg => hk g (List.mem_cons_of_mem _ hg)
        · exact .inr ⟨clH_ap hk.1 (hk.2 f List.mem_cons_self), fun g hg => hk.2 g (List.mem_cons_of_mem _ hg)⟩)
      exact ⟨fun q hq => (h1.1 q hq).trans (h2.1 q hq), fun r hr => (h1.2 r hr).trans (h2.2 r hr)⟩
    · exact sees_fwd (sel := sel) l (k + 1) s hv hs' (by
        rcases hk with hk | hk
        · exact .inl fun g hg => hk g (List.mem_cons_of_mem _ hg)
        · exact .inr ⟨hk.1, fun g hg => hk.2 g (List.mem_cons_of_mem _ hg)⟩)
theorem sees_bwd {e : E} {sel : Nat → Bool} : ∀ (l : List E) (k : Nat) (s : AS), e.vals = e.rd.map (getA (fo sel k l s).t) → (∀ (j : Nat) f, l[j]? = some f → sel (k + j) = true → siB f e = true) →
    ((∀ f ∈ l, f.kill = none) ∨ (clH s.h ∧ ∀ f ∈ l, f.add.all (·.2.cl) = true)) → Sees e s (fo sel k l s)
  | [], k, s, _, _, _ => ⟨fun _ _ => rfl, fun _ _ => rfl⟩
  | f :: l, k, s, hv, hs, hk => by
    have hs' : ∀ (j : Nat) g, l[j]? = some g → sel (k + 1 + j) = true → siB g e = true := fun j g hg h => hs (j + 1) g (by simpa using hg) (by rwa [show k + (j + 1) = k + 1 + j from by omega])
    simp only [fo] at hv ⊢
    split at hv
    · rename_i hsel
      rw [if_pos hsel]
      have h2 := sees_bwd (sel := sel) l (k + 1) (f.ap s) hv hs' (by
        rcases hk with hk | hk
        · exact .inl fun g hg => hk g (List.mem_cons_of_mem _ hg)
        · exact .inr ⟨clH_ap hk.1 (hk.2 f List.mem_cons_self), fun g hg => hk.2 g (List.mem_cons_of_mem _ hg)⟩)
      have hv' : e.vals = e.rd.map (getA (f.ap s).t) := by rw [hv]; exact List.map_congr_left fun q hq => (h2.1 q hq).symm
      have h1 := Sees.bwd hv' (hs 0 f rfl (by simpa using hsel)) (s := s) fun hne => by
        rcases hk with hk | hk
        · exact absurd (hk f List.mem_cons_self) hne
        · exact hk.1
      exact ⟨fun q hq => (h1.1 q hq).trans (h2.1 q hq), fun r hr => (h1.2 r hr).trans (h2.2 r hr)⟩
    · rename_i hsel
      rw [if_neg hsel]
      exact sees_bwd (sel := sel) l (k + 1) s hv hs' (by
        rcases hk with hk | hk
        · exact .inl fun g hg => hk g (List.mem_cons_of_mem _ hg)
        · exact .inr ⟨hk.1, fun g hg => hk.2 g (List.mem_cons_of_mem _ hg)⟩)

end Go.Proofs.YtccifbbjbnjcfaaGreatDoor
