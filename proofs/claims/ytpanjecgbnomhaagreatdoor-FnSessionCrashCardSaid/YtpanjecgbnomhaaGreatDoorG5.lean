/- A part of the proof of the session laws: texts O1 D1 O2 D2 D3 D4 D5 D6 D7 M31 M32 M34 M33 M35 D9 W14 W15 D10 W16 W17 W18. -/
import Derived.Test.YtpanjecgbnomhaaGreatDoorG4
import Derived.ChangeArms
import Derived.ChangeSame
import Derived.OpenShut
import Derived.Test.YtpanjecgbnomhaaGreatDoorG3
import Derived.Test.YtpanjecgbnomhaaGreatDoorGp
set_option linter.unusedSimpArgs false
set_option linter.unusedVariables false
/-
  Opening a side that a law is handed: what it reads as, in the machine's words.
-/
namespace Go.Proofs.YtpanjecgbnomhaaGreatDoor
open Go Go.RowKit Go.Proofs
set_option maxRecDepth 100000
section
variable {H : Type} {enc : TypeId × Value → H} {W : World} {base : Nat} {sp : Nat → Bool} {held : Bool} {fuel : Nat} {cs : List Value} {x : DataW H × List MemPlace}
theorem two_of {α : Type} {l : List α} (h : l.length = 2) : ∃ a b, l = [a, b] := by
  match l, h with
  | [a, b], _ => exact ⟨a, b, rfl⟩
theorem three_of {α : Type} {l : List α} (h : l.length = 3) : ∃ a b c, l = [a, b, c] := by
  match l, h with
  | [a, b, c], _ => exact ⟨a, b, c, rfl⟩
theorem five_of {α : Type} {l : List α} (h : l.length = 5) : ∃ a b c d e, l = [a, b, c, d, e] := by
  match l, h with
  | [a, b, c, d, e], _ => exact ⟨a, b, c, d, e, rfl⟩
theorem str_of (b : ByteArray) : ∃ s : Str, (⟨s.toArray⟩ : ByteArray) = b ∧ s.length = b.size := ⟨b.data.toList, by simp, by rw [Array.length_toList]; rfl⟩
theorem open_content (h : DataW.trod enc Tryz.prog W base sp held fuel 106 cs = some x) : ∃ c : Ct, cs = [.int .i64 c.k, .int .i64 c.v] := by
  obtain ⟨xs, n, rfl, rfl, hl, hlen, hf⟩ := DataW.trod_struct Tryz.underlying106 h
  rw [show Tryz.prog.cellsOf 106 = 2 by kernel_rfl] at hl
  obtain ⟨a, b, rfl⟩ := two_of hl
  obtain ⟨y0, y1, rfl⟩ := two_of hlen
  have h0 := hf 0 _ rfl
  have h1 := hf 1 _ rfl
  simp only [show Tryz.prog.cellsOf 3 = 1 by kernel_rfl, List.drop, List.take, List.getElem?_cons_zero, List.getElem?_cons_succ] at h0 h1
  obtain ⟨k, e1, _⟩ := DataW.trod_int Tryz.underlying3 h0
  obtain ⟨v, e2, _⟩ := DataW.trod_int Tryz.underlying3 h1
  cases e1
  cases e2
  exact ⟨⟨k, v⟩, rfl⟩
theorem open_node (h : DataW.trod enc Tryz.prog W base sp held fuel 108 cs = some x) : ∃ n : Nd, cs = [.string ⟨n.p.toArray⟩, .int .i64 n.c.k, .int .i64 n.c.v] ∧ n.p.length ≤ maxLen := by
  obtain ⟨xs, n, rfl, rfl, hl, hlen, hf⟩ := DataW.trod_struct Tryz.underlying108 h
  rw [show Tryz.prog.cellsOf 108 = 3 by kernel_rfl] at hl
  obtain ⟨a, b, c, rfl⟩ := three_of hl
  obtain ⟨y0, y1, rfl⟩ := two_of hlen
  have h0 := hf 0 _ rfl
  have h1 := hf 1 _ rfl
  simp only [show Tryz.prog.cellsOf 9 = 1 by kernel_rfl, show Tryz.prog.cellsOf 106 = 2 by kernel_rfl, List.drop, List.take, List.getElem?_cons_zero, List.getElem?_cons_succ] at h0 h1
  obtain ⟨s, e1, _, hs⟩ := DataW.trod_string Tryz.underlying9 h0
  obtain ⟨v, e2⟩ := open_content h1
  obtain ⟨q, rfl, hq⟩ := str_of s
  cases e1
  cases e2
  exact ⟨⟨q, v⟩, rfl, by simpa only [hq] using hs⟩
theorem open_command (h : DataW.trod enc Tryz.prog W base sp held fuel 111 cs = some x) : ∃ n : Cm, cs = [.string ⟨n.p.toArray⟩, .int .i64 n.a.k, .int .i64 n.a.v, .int .i64 n.b.k, .int .i64 n.b.v] ∧ n.p.length ≤ maxLen := by
  obtain ⟨xs, n, rfl, rfl, hl, hlen, hf⟩ := DataW.trod_struct Tryz.underlying111 h
  rw [show Tryz.prog.cellsOf 111 = 5 by kernel_rfl] at hl
  obtain ⟨a, b, c, d, e, rfl⟩ := five_of hl
  obtain ⟨y0, y1, y2, rfl⟩ := three_of hlen
  have h0 := hf 0 _ rfl
  have h1 := hf 1 _ rfl
  have h2 := hf 2 _ rfl
  simp only [show Tryz.prog.cellsOf 9 = 1 by kernel_rfl, show Tryz.prog.cellsOf 106 = 2 by kernel_rfl, List.drop, List.take, List.getElem?_cons_zero, List.getElem?_cons_succ] at h0 h1 h2
  obtain ⟨s, e1, _, hs⟩ := DataW.trod_string Tryz.underlying9 h0
  obtain ⟨v, e2⟩ := open_content h1
  obtain ⟨u, e3⟩ := open_content h2
  obtain ⟨q, rfl, hq⟩ := str_of s
  cases e1
  cases e2
  cases e3
  exact ⟨⟨q, v, u⟩, rfl, by simpa only [hq] using hs⟩
theorem choose_list {α : Type} {n : Nat} {p : Nat → α → Prop} (h : ∀ i, i < n → ∃ a, p i a) : ∃ l : List α, l.length = n ∧ ∀ (i : Nat) a, l[i]? = some a → p i a := by
  induction n with
  | zero => exact ⟨[], rfl, fun i a h => by simp at h⟩
  | succ n ih =>
    obtain ⟨l, h1, h2⟩ := ih fun i hi => h i (by omega)
    obtain ⟨a, ha⟩ := h n (by omega)
    refine ⟨l ++ [a], by simp [h1], fun i b hb => ?_⟩
    by_cases hi : i < l.length
    · rw [List.getElem?_append_left hi] at hb
      exact h2 i b hb
    · rw [List.getElem?_append_right (by omega)] at hb
      by_cases h0 : i - l.length = 0
      · rw [h0] at hb
        cases hb
        obtain rfl : i = n := by omega
        exact ha
      · have := (List.getElem?_eq_some_iff.1 hb).1
        simp at this
        omega
theorem cells_get {a : Addr} {n : Nat} {l : List Value} (h : W.cells? base a n = some l) : l.length = n ∧ ∀ j, j < n → W.cell? (a.add j) = l[j]? := by
  unfold World.cells? at h
  split at h
  · refine ⟨by have := mapM_some_length h; simpa using this, fun j hj => mapM_some_get h j j (by simp [hj])⟩
  · cases h
/-- A slice of structs of plain data. -/
theorem open_sl {α : Type} {K : α → List AV} {V : α → List Value} {Q : α → Prop} {t e sz : Nat} {lv : Nat → Prop} (ht : Tryz.prog.underlying t = some (.slice e)) (hz : Tryz.prog.cellsOf e = sz) (h0 : 0 < sz)
    (hel : ∀ (fuel : Nat) (cs : List Value) (x : DataW H × List MemPlace), DataW.trod enc Tryz.prog W 0 sp held fuel e cs = some x → ∃ a, cs = V a ∧ Q a)
    (hV : ∀ a, (V a).length = sz ∧ (V a).all Value.oneCell' = true ∧ K a = (V a).map AV.v) (hlv : ∀ b, b < W.heap.size → ¬ lv b)
    (h : DataW.trod enc Tryz.prog W 0 sp held fuel t cs = some x) :
    ∃ (l : List α) (v : Value), cs = [v] ∧ C lv 0 W (.sl sz (l.map K)) v ∧ l.length ≤ maxLen ∧ ∀ a ∈ l, Q a := by
  rcases DataW.trod_slice ht h with ⟨rfl, _⟩ | ⟨a, len, cap, elems, rest, n, rfl, rfl, _, _, hl, hm, hlen, hg, _, _⟩
  · refine ⟨[], _, rfl, C.sl [] (fun _ _ => undef) ⟨by simp, fun h => absurd h (by simp)⟩ (fun h => absurd h (by simp)) (by simp) (by omega) ?_ ?_ ?_, by simp, by simp⟩ <;> intro k e <;> simp
  · have hex : ∀ i, i < len → ∃ b, (∀ j, j < sz → W.cell? (a.add (i * sz + j)) = (V b)[j]?) ∧ Q b := by
      intro i hi
      have h1 := hg i hi
      rw [hz] at h1
      obtain ⟨y, hy⟩ : ∃ y, elems[i]? = some y := ⟨_, List.getElem?_eq_getElem (by omega)⟩
      rw [hy, Option.bind_eq_some_iff] at h1
      obtain ⟨cs', hcs, hy'⟩ := h1
      obtain ⟨b, rfl, hb⟩ := hel _ _ _ hy'
      refine ⟨b, fun j hj => ?_, hb⟩
      have h2 := (cells_get hcs).2 j hj
      rw [← h2]
      congr 1
      unfold Addr.add
      by_cases g1 : j = 0
      · subst g1; simp
      · by_cases g2 : i * sz = 0
        · simp [g2]
        · rw [if_neg (by omega), if_neg g1, if_neg g2]
          simp only [Nat.add_assoc]
    obtain ⟨l, hll, hlg⟩ := choose_list hex
    subst hll
    have hcell : ∀ (i : Nat) b j, l[i]? = some b → j < sz → W.cell? (a.add (i * sz + j)) = (V b)[j]? := fun i b j hb hj => (hlg i b hb).1 j hj
    have hQ : ∀ b ∈ l, Q b := fun b hb => by
      obtain ⟨i, hi⟩ := List.getElem?_of_mem hb
      exact (hlg i b hi).2
    have xget : ∀ (l : List α) (i : Nat) b j, l[i]? = some b → j < sz → (l.flatMap V)[i * sz + j]? = (V b)[j]? := by
      intro l
      induction l with
      | nil => intro i b j hb; simp at hb
      | cons c l ih =>
        intro i b j hb hj
        cases i with
        | zero =>
          cases hb
          rw [List.flatMap_cons, Nat.zero_mul, Nat.zero_add, List.getElem?_append_left (by rw [(hV c).1]; exact hj)]
        | succ i =>
          rw [List.flatMap_cons, List.getElem?_append_right (by rw [(hV c).1, Nat.succ_mul]; omega), (hV c).1, show (i + 1) * sz + j - sz = i * sz + j by rw [Nat.succ_mul]; omega]
          exact ih i b j hb hj
    have xlen : ∀ l : List α, (l.flatMap V).length = l.length * sz := by
      intro l
      induction l with
      | nil => simp
      | cons c l ih => rw [List.flatMap_cons, List.length_append, (hV c).1, ih, List.length_cons, Nat.succ_mul]; omega
    have hVj : ∀ b j, j < sz → ∃ u, (V b)[j]? = some u ∧ u.oneCell' = true ∧ (K b)[j]? = some (.v u) := by
      intro b j hj
      obtain ⟨u, hu⟩ : ∃ u, (V b)[j]? = some u := ⟨_, List.getElem?_eq_getElem (by rw [(hV b).1]; exact hj)⟩
      refine ⟨u, hu, ?_, ?_⟩
      · exact List.all_eq_true.1 (hV b).2.1 u (List.mem_of_getElem? hu)
      · rw [(hV b).2.2, List.getElem?_map, hu]; rfl
    have hKl : ∀ b, (K b).length = sz := fun b => by rw [(hV b).2.2, List.length_map, (hV b).1]
    refine ⟨l, _, rfl, ?_, by omega, hQ⟩
    rw [← List.length_map (f := K)]
    refine C.sl (l.flatMap V) (fun i j => ((l.flatMap V)[i * sz + j]?).getD undef) ⟨by rw [xlen, List.length_map], fun hp => ?_⟩ (fun hp ad had => ?_) (by rw [List.length_map]; exact hl) hm (fun k e he => ?_) (fun k e j he hj => ?_) (fun k e j c he hj => ?_)
    · rw [List.length_map] at hp
      obtain ⟨b0, hb0⟩ : ∃ b, l[0]? = some b := ⟨_, List.getElem?_eq_getElem hp⟩
      obtain ⟨u0, hu0, _⟩ := hVj b0 0 h0
      have hc0 := hcell 0 b0 0 hb0 h0
      rw [hu0, Nat.zero_mul, Nat.zero_add] at hc0
      have hs : a.spot = none := by simpa [Addr.add] using World.cell?_spot hc0
      obtain ⟨b, off, spt⟩ := a
      simp only at hs
      subst hs
      refine ⟨b, off, rfl, Nat.zero_le _, ?_, fun j u hj => ?_⟩
      · have hc1 := hc0
        rw [show (⟨b, off, none⟩ : Addr).add 0 = ⟨b, off, none⟩ from rfl] at hc1
        obtain ⟨e', m, hsh, _, _⟩ := World.shape?_of_cell? hc1
        by_cases hb : b < W.heap.size
        · exact hb
        · rw [World.shape?, Array.getElem?_eq_none (by simpa using hb)] at hsh
          cases hsh
      · have hj1 : j < l.length * sz := by have := (List.getElem?_eq_some_iff.1 hj).1; rw [xlen] at this; exact this
        have hq : j / sz < l.length := Nat.div_lt_of_lt_mul (by rw [Nat.mul_comm]; exact hj1)
        obtain ⟨b1, hb1⟩ : ∃ b, l[j / sz]? = some b := ⟨_, List.getElem?_eq_getElem hq⟩
        have hm1 : j % sz < sz := Nat.mod_lt _ h0
        have ej : j / sz * sz + j % sz = j := by rw [Nat.mul_comm]; exact Nat.div_add_mod j sz
        have h3 := hcell _ b1 _ hb1 hm1
        have h4 := xget l _ b1 _ hb1 hm1
        rw [ej] at h3 h4
        rw [← h4, hj] at h3
        rw [← Go.WideShapes.add_plain]
        exact h3
    · rw [List.length_map] at hp
      cases had
      obtain ⟨b0, hb0⟩ : ∃ b, l[0]? = some b := ⟨_, List.getElem?_eq_getElem hp⟩
      obtain ⟨u0, hu0, _⟩ := hVj b0 0 h0
      have hc0 := hcell 0 b0 0 hb0 h0
      rw [hu0, Nat.zero_mul, Nat.zero_add] at hc0
      obtain ⟨e', m, hsh, _, _⟩ := World.shape?_of_cell? hc0
      refine hlv _ ?_
      by_cases hb : a.block < W.heap.size
      · exact hb
      · rw [World.shape?, Array.getElem?_eq_none (by simpa [Addr.add] using hb)] at hsh
        cases hsh
    · rw [List.getElem?_map, Option.map_eq_some_iff] at he
      obtain ⟨b, _, rfl⟩ := he
      exact hKl b
    · rw [List.getElem?_map, Option.map_eq_some_iff] at he
      obtain ⟨b, hb, rfl⟩ := he
      rw [hKl] at hj
      obtain ⟨u, hu, ho, _⟩ := hVj b j hj
      rw [xget l k b j hb hj, hu]
      exact ⟨rfl, ho⟩
    · rw [List.getElem?_map, Option.map_eq_some_iff] at he
      obtain ⟨b, hb, rfl⟩ := he
      have hj2 : j < sz := by have := (List.getElem?_eq_some_iff.1 hj).1; rwa [hKl] at this
      obtain ⟨u, hu, ho, hk⟩ := hVj b j hj2
      rw [hk] at hj
      cases hj
      rw [xget l k b j hb hj2, hu]
      exact C.v
theorem open_nodes {lv : Nat → Prop} (hlv : ∀ b, b < W.heap.size → ¬ lv b) (h : DataW.trod enc Tryz.prog W 0 sp held fuel 34 cs = some x) :
    ∃ (l : List Nd) (v : Value), cs = [v] ∧ C lv 0 W (ndA l) v ∧ l.length ≤ maxLen ∧ ∀ n ∈ l, n.p.length ≤ maxLen :=
  open_sl (V := fun n : Nd => [.string ⟨n.p.toArray⟩, .int .i64 n.c.k, .int .i64 n.c.v]) Tryz.underlying34 (by kernel_rfl) (by omega) (fun _ _ _ h => open_node h) (fun a => ⟨rfl, rfl, rfl⟩) hlv h
theorem open_commands {lv : Nat → Prop} (hlv : ∀ b, b < W.heap.size → ¬ lv b) (h : DataW.trod enc Tryz.prog W 0 sp held fuel 35 cs = some x) :
    ∃ (l : List Cm) (v : Value), cs = [v] ∧ C lv 0 W (cmA l) v ∧ l.length ≤ maxLen ∧ ∀ n ∈ l, n.p.length ≤ maxLen :=
  open_sl (V := fun n : Cm => [.string ⟨n.p.toArray⟩, .int .i64 n.a.k, .int .i64 n.a.v, .int .i64 n.b.k, .int .i64 n.b.v]) Tryz.underlying35 (by kernel_rfl) (by omega) (fun _ _ _ h => open_command h) (fun a => ⟨rfl, rfl, rfl⟩) hlv h
theorem res_bool {fb : Nat → Prop} {b : Bool} {base : Nat} {w' : World} {rows : List Row} {rv : AV} {u : Value} (hd : vB b rv rows) (hr : Res fb base w' rows rv u) : u = .bool b := by
  obtain ⟨rfl, rfl⟩ := hd
  obtain ⟨loc, _, hG, _⟩ := hr
  cases hG with
  | cl hc => cases hc; rfl
theorem open_cmd {lv : Nat → Prop} {cs : Array Value} {d : DataW H × List MemPlace} (h : DataW.trod enc Tryz.prog W 0 sp held fuel 111 cs.toList = some d) :
    ∃ c : Cm, C lv 0 W (cmdA c) (.agg cs) ∧ c.p.length ≤ maxLen := by
  obtain ⟨c, hc, hl⟩ := open_command h
  obtain rfl : cs = #[.string ⟨c.p.toArray⟩, .int .i64 c.a.k, .int .i64 c.a.v, .int .i64 c.b.k, .int .i64 c.b.v] := by cases cs; simp_all
  refine ⟨c, C.agg _ rfl fun j a ha => ?_, hl⟩
  rcases j with _ | _ | _ | _ | _ | j
  · cases ha; exact C.v
  · cases ha; exact C.v
  · cases ha; exact C.v
  · cases ha; exact C.v
  · cases ha; exact C.v
  · simp [cmC] at ha
theorem open_site {lv : Nat → Prop} {cs : Array Value} (hlv : ∀ b, b < W.heap.size → ¬ lv b) (h : DataW.trod enc Tryz.prog W 0 sp held fuel 37 cs.toList = some x) :
    ∃ s : St, C lv 0 W (stA' s) (.agg cs) ∧ SiteOk s := by
  obtain ⟨cs⟩ := cs
  simp only at h
  obtain ⟨xs, n, rfl, rfl, hl, hlen, hf⟩ := DataW.trod_struct Tryz.underlying37 h
  rw [show Tryz.prog.cellsOf 37 = 3 by kernel_rfl] at hl
  obtain ⟨a, b, c, rfl⟩ := three_of hl
  obtain ⟨y0, y1, y2, rfl⟩ := three_of hlen
  have h0 := hf 0 _ rfl
  have h1 := hf 1 _ rfl
  have h2 := hf 2 _ rfl
  simp only [show Tryz.prog.cellsOf 3 = 1 by kernel_rfl, show Tryz.prog.cellsOf 34 = 1 by kernel_rfl, show Tryz.prog.cellsOf 35 = 1 by kernel_rfl, List.drop, List.take, List.getElem?_cons_zero, List.getElem?_cons_succ] at h0 h1 h2
  obtain ⟨ep, e1, _⟩ := DataW.trod_int Tryz.underlying3 h0
  obtain ⟨lb, vb, e2, hb, b1, b2⟩ := open_nodes hlv h1
  obtain ⟨ll, vl, e3, hl', l1, l2⟩ := open_commands hlv h2
  cases e1
  cases e2
  cases e3
  refine ⟨⟨ep, lb, ll⟩, C.agg _ rfl fun j a ha => ?_, ⟨b1, b2, l1, l2⟩⟩
  rcases j with _ | _ | _ | j
  · cases ha; exact C.v
  · cases ha; exact hb
  · cases ha; exact hl'
  · simp [stC] at ha
end
end Go.Proofs.YtpanjecgbnomhaaGreatDoor
/-
  Walks: the draws' reader: a number, a text out of a list.
-/
namespace Go.Proofs.YtpanjecgbnomhaaGreatDoor
open Go Go.RowKit Go.Proofs
def byC (n : Int) : List AV := [.v (.int .u8 n)]
abbrev byA (z : List Int) : AV := .sl 1 (z.map byC)
structure BytesOk (z : List Int) : Prop where
  len : z.length ≤ maxLen
  by_ : ∀ n ∈ z, 0 ≤ n ∧ n ≤ 255
def rdR (z : List Int) (p : Nat) : Row := ⟨100, 2, [[byA z, iA p]], true⟩
/-- What a draw leaves: the reader has gone on by at most c. -/
def RdD (z : List Int) (p c : Nat) (lr' : List Row) : Prop := ∃ p', lr' = [rdR z p'] ∧ p ≤ p' ∧ p' ≤ p + c
structure RdOk (z : List Int) (p : Nat) : Prop where
  by_ : BytesOk z
  l : z.length ≤ 2000
  p : p ≤ 1000000
def rowS (l : List Str) : Row := ⟨9, 1, l.map sC, true⟩
theorem RdOk.le {z : List Int} {p q : Nat} (h : RdOk z q) (hp : p ≤ q) : RdOk z p := ⟨h.by_, h.l, Nat.le_trans hp h.p⟩
theorem wrap_nn {x : Int} (h0 : 0 ≤ x) (h1 : x < 9223372036854775808) : IntKind.i64.wrap x = x := wr x (by omega)
theorem xor_nn {a b : Int} (ha : 0 ≤ a) (ha2 : a < 4611686018427387904) (hb : 0 ≤ b) (hb2 : b < 4611686018427387904) : 0 ≤ bits .xor .i64 a b := by
  obtain ⟨n, rfl⟩ : ∃ n : Nat, a = n := ⟨a.toNat, by omega⟩
  obtain ⟨m, rfl⟩ : ∃ m : Nat, b = m := ⟨b.toNat, by omega⟩
  have hx : n ^^^ m < 2 ^ 62 := Nat.xor_lt_two_pow (by omega) (by omega)
  have e0 : (BitVec.ofInt 64 (n : Int) ^^^ BitVec.ofInt 64 (m : Int)).toNat = n ^^^ m := by
    rw [BitVec.toNat_xor]
    congr 1
    · simp; omega
    · simp; omega
  have e : bits .xor .i64 (n : Int) (m : Int) = IntKind.i64.wrap ((n ^^^ m : Nat) : Int) := by
    rw [← e0]; rfl
  rw [e, wrap_nn (by omega) (by omega)]
  omega
def pdB (e f : Option Tmp × List Nat) : Bool := (match f.1, e.1 with | some a, some b => decide (a ≠ b) | _, _ => true) && (match f.1 with | some d => !e.2.contains d | none => true) && (match e.1 with | some d => !f.2.contains d | none => true)
def pjB (m : Nat) (e : Option Tmp × List Nat) : Nat → List (Option Tmp × List Nat) → Bool
  | _, [] => true
  | i, f :: l => (m.testBit i || pdB e f) && pjB m e (i + 1) l
def prP (all : List (Option Tmp × List Nat)) : List Nat → List (Option Tmp × List Nat) → Nat → Bool
  | m :: ms, e :: es, j => pjB m e 0 (all.take j) && prP all ms es (j + 1)
  | _, _, _ => true
def plB (e : E) : Bool := e.kill.isNone && e.add.isEmpty
theorem pjB_ok (m : Nat) (e : E) (he : plB e = true) : ∀ (l : List E) (i : Nat), (∀ f ∈ l, plB f = true) → pjB m (e.d, e.rd) i (l.map fun e => (e.d, e.rd)) = true → prJ m e i l = true
  | [], i, _, _ => rfl
  | f :: l, i, hl, h => by
    simp only [List.map_cons, pjB, Bool.and_eq_true, Bool.or_eq_true] at h
    simp only [prJ, Bool.and_eq_true, Bool.or_eq_true]
    refine ⟨h.1.imp id fun hp => ?_, pjB_ok m e he l (i + 1) (fun f hf => hl f (List.mem_cons_of_mem _ hf)) h.2⟩
    have hf := hl f List.mem_cons_self
    simp only [plB, Bool.and_eq_true, Option.isNone_iff_eq_none, List.isEmpty_iff] at he hf
    simp only [pdB, Bool.and_eq_true] at hp
    simp only [okE, siB, apB, E.names, he.1, he.2, hf.1, hf.2, List.map_nil, List.all_nil, Bool.and_true, Bool.and_eq_true, Bool.true_and]
    exact ⟨⟨hp.1.1, hp.1.2⟩, hp.2⟩
theorem prP_ok (all : List E) (ha : ∀ f ∈ all, plB f = true) : ∀ (ms : List Nat) (es : List E) (j : Nat), (∀ f ∈ es, plB f = true) → prP (all.map fun e => (e.d, e.rd)) ms (es.map fun e => (e.d, e.rd)) j = true → prB all ms es j = true
  | [], _, _, _, _ => rfl
  | _ :: _, [], _, _, _ => rfl
  | m :: ms, e :: es, j, he, h => by
    simp only [List.map_cons, prP, Bool.and_eq_true] at h
    simp only [prB, Bool.and_eq_true]
    rw [← List.map_take] at h
    exact ⟨pjB_ok m e (he e List.mem_cons_self) _ 0 (fun f hf => ha f (List.mem_of_mem_take hf)) h.1, prP_ok all ha ms es (j + 1) (fun f hf => he f (List.mem_cons_of_mem _ hf)) h.2⟩
/-- The end of a drawn region whose operations write nothing. -/
theorem at_done_p {P : Program} {w0 : World} {lent : Lent} {Q : Exit → Act → World → Prop} {ops : List Oper} {k : List It} {s s' : AS} {evs : List E} (h1 : evs.all plB = true)
    (h2 : prP (evs.map fun e => (e.d, e.rd)) (mks ops []) (evs.map fun e => (e.d, e.rd)) 0 = true) (h : AW P w0 lent Q k s') : RDp P (KD P w0 lent Q ops k s) (.done evs s') := by
  have h0 := List.all_eq_true.1 h1
  refine ⟨prP_ok evs h0 _ _ 0 h0 h2, ?_, h⟩
  simp only [kcB, Bool.or_eq_true]
  refine .inl (List.all_eq_true.2 fun e he => ?_)
  have := h0 e he
  simp only [plB, Bool.and_eq_true] at this
  exact this.1
attribute [local irreducible] RWp AW run kPe pe Kt effA gd gu br retR RDp runD kPeD brW gW effD
set_option maxRecDepth 100000
theorem l6Open_pc (z : List Int) (hz : BytesOk z) : PC Tryz.prog 43 [byA z] (rX (.p 0 0 0) [rdR (z.take 2000) 0]) := by
  refine pc_enter Tryz.func43 rfl rfl fun w0 fb => go_on ?_; (try simp only [Tryz.ntmps43, push_cast, simprocAttr])
  refine at_b (fun hb => ?_) (fun hb => ?_)
  · have h1 := of_ltI_t hb
    have h2 : (2000 : Int) ≤ z.length := by omega
    (try simp only [hb, h2, push_cast, simprocAttr])
    refine at_ret ?_; simp only [Tryz.results43, push_cast, simprocAttr]
    simp [rX, ixOf, rdR]
  · have h1 := of_ltI_f hb
    (try simp only [hb, push_cast, simprocAttr])
    refine at_ret ?_; simp only [Tryz.results43, push_cast, simprocAttr]
    rw [List.take_of_length_le (by omega)]
    simp [rX, ixOf, rdR]
def pickD (z : List Int) (p n : Nat) (rv : AV) (lr' rows : List Row) : Prop := ∃ k : Nat, rv = iA k ∧ (0 < n → k < n) ∧ lr' = [rdR z (p + 1)] ∧ rows = []
theorem pick_pcl (z : List Int) (p n : Nat) (hr : RdOk z p) (hn : n ≤ 1000000) : PCL Tryz.prog 81 [rdR z p] (mvF none) [.p 0 0 0, iA n] (pickD z p n) := by
  have hp := hr.p
  have w1 : IntKind.i64.wrap ((p : Int) + 1) = (p : Int) + 1 := wrap_nn (by omega) (by omega)
  refine pcl_enter Tryz.func81 rfl rfl (by simp) fun w0 fb loc => go_on ?_
  unfold rdR
  (try simp only [Tryz.ntmps81, hpL, nmL, mvF, renL, decide_true, decide_false, w1, push_cast, simprocAttr])
  have hfin : ∀ k : Nat, (0 < n → k < n) → pickD z p n (iA k) [rdR z (p + 1)] [] := fun k h => ⟨k, rfl, h, rfl, rfl⟩
  rcases Nat.eq_zero_or_pos n with hn0 | hn0
  · have i1 : ltI (n : Int) 1 = true := ltI_t (by omega)
    (try simp only [i1, push_cast, simprocAttr])
    refine at_retL ?_
    simp only [Tryz.results81, retL, push_cast, simprocAttr]
    simpa [show List.range 1 = [0] from rfl, nmL, mvF, ndB, ixOf, rowsOf, hget, rdR] using hfin 0 (by omega)
  · have i1 : ltI (n : Int) 1 = false := ltI_f (by omega)
    rcases Nat.eq_zero_or_pos z.length with hz | hz
    · have i2 : eqI (z.length : Int) 0 = true := eqI_t (by omega)
      (try simp only [i1, i2, push_cast, simprocAttr])
      refine at_retL ?_
      simp only [Tryz.results81, retL, push_cast, simprocAttr]
      simpa [show List.range 1 = [0] from rfl, nmL, mvF, ndB, ixOf, rowsOf, hget, rdR] using hfin 0 (fun _ => hn0)
    · have i2 : eqI (z.length : Int) 0 = false := eqI_f (by omega)
      have w2 : IntKind.i64.wrap ((p : Int) + 1 - 1) = (p : Int) := by rw [wrap_nn (by omega) (by omega)]; omega
      have n0 : ((n : Int) = 0) = False := eq_false (by omega)
      have z0 : ((z.length : Int) = 0) = False := eq_false (by omega)
      have tm : ∀ a b : Nat, Int.tmod (a : Int) (b : Int) = ((a % b : Nat) : Int) := fun a b => (Int.ofNat_tmod a b).symm
      have hbyte : ∀ i, i < z.length → ∃ b : Nat, z[i]? = some (b : Int) ∧ b ≤ 255 := fun i hi => by
        obtain ⟨x, hx⟩ := get_of_lt hi
        obtain ⟨h1, h2⟩ := hr.by_.by_ x (mem_of_get hx)
        exact ⟨x.toNat, by rw [hx]; congr 1; omega, by omega⟩
      (try simp only [i1, i2, w2, push_cast, simprocAttr])
      by_cases hlt : p < z.length
      · have i3 : ltI (p : Int) z.length = true := ltI_t (by omega)
        obtain ⟨b, hb, hb2⟩ := hbyte p hlt
        have i4 := ix_n hb
        have i5 := map_get byC hb
        have w3 : IntKind.i64.wrap (b : Int) = b := wrap_nn (by omega) (by omega)
        obtain ⟨u, hu⟩ : ∃ u, u = b % n := ⟨_, rfl⟩
        have t1 : Int.tmod (b : Int) n = (u : Int) := by rw [hu]; exact tm b n
        simp only [byC] at i5
        (try simp only [i3, i4, i5, w3, n0, t1, push_cast, simprocAttr])
        refine at_retL ?_
        simp only [Tryz.results81, retL, push_cast, simprocAttr]
        simpa [show List.range 1 = [0] from rfl, nmL, mvF, ndB, ixOf, rowsOf, hget, rdR] using hfin u (fun h => by rw [hu]; exact Nat.mod_lt _ h)
      · have i3 : ltI (p : Int) z.length = false := ltI_f (by omega)
        have hl := hr.l
        obtain ⟨d, hd0⟩ : ∃ d, d = p / z.length := ⟨_, rfl⟩
        have hd : d ≤ p := by rw [hd0]; exact Nat.div_le_self _ _
        obtain ⟨u1, hu1⟩ : ∃ u, u = p % z.length := ⟨_, rfl⟩
        obtain ⟨u2, hu2⟩ : ∃ u, u = (p * 7 + 3) % z.length := ⟨_, rfl⟩
        obtain ⟨b, hb, hb2⟩ := hbyte u1 (by rw [hu1]; exact Nat.mod_lt _ hz)
        obtain ⟨c, hc, hc2⟩ := hbyte u2 (by rw [hu2]; exact Nat.mod_lt _ hz)
        have i4 := ix_n hb
        have i5 := map_get byC hb
        have i6 := ix_n hc
        have i7 := map_get byC hc
        simp only [byC] at i5 i7
        have t2 : Int.tmod (p : Int) z.length = (u1 : Int) := by rw [hu1]; exact tm p z.length
        have t3 : Int.tmod ((p : Int) * 7 + 3) z.length = (u2 : Int) := by rw [hu2, ← tm]; congr 1
        have t4 : Int.tdiv (p : Int) z.length = (d : Int) := by rw [hd0]; exact (Int.ofNat_tdiv p z.length).symm
        have v1 : IntKind.i64.wrap (b : Int) = b := wrap_nn (by omega) (by omega)
        have v2 : IntKind.i64.wrap (c : Int) = c := wrap_nn (by omega) (by omega)
        have v3 : IntKind.i64.wrap ((b : Int) * 131) = b * 131 := wrap_nn (by omega) (by omega)
        have v4 : IntKind.i64.wrap ((p : Int) * 7) = p * 7 := wrap_nn (by omega) (by omega)
        have v5 : IntKind.i64.wrap ((p : Int) * 7 + 3) = p * 7 + 3 := wrap_nn (by omega) (by omega)
        have v6 : IntKind.i64.wrap ((c : Int) * 1117) = c * 1117 := wrap_nn (by omega) (by omega)
        have v7 : IntKind.i64.wrap ((b : Int) * 131 + c * 1117) = b * 131 + c * 1117 := wrap_nn (by omega) (by omega)
        have v8 : IntKind.i64.wrap ((p : Int) * 29) = p * 29 := wrap_nn (by omega) (by omega)
        have v9 : IntKind.i64.wrap ((b : Int) * 131 + c * 1117 + p * 29) = b * 131 + c * 1117 + p * 29 := wrap_nn (by omega) (by omega)
        have v10 : IntKind.i64.wrap (d : Int) = (d : Int) := wrap_nn (by omega) (by omega)
        have v11 : IntKind.i64.wrap ((d : Int) * 53) = (d : Int) * 53 := wrap_nn (by omega) (by omega)
        obtain ⟨X, hX⟩ : ∃ X : Nat, X = b * 131 + c * 1117 + p * 29 + d * 53 := ⟨_, rfl⟩
        have v12 : IntKind.i64.wrap ((b : Int) * 131 + c * 1117 + p * 29 + (d : Int) * 53) = (X : Int) := by
          rw [wrap_nn (by omega) (by omega), hX]; omega
        have hXb : X < 4611686018427387904 := by omega
        obtain ⟨X2, hX2⟩ : ∃ X2, X2 = X / 64 := ⟨_, rfl⟩
        have v13 : IntKind.i64.wrap (Int.tdiv (X : Int) 64) = (X2 : Int) := by
          rw [show Int.tdiv (X : Int) 64 = ((X / 64 : Nat) : Int) from (Int.ofNat_tdiv X 64).symm, wrap_nn (by omega) (by omega), hX2]
        obtain ⟨Y, hY⟩ : ∃ Y : Nat, bits .xor .i64 (X : Int) (X2 : Int) = (Y : Int) := by
          have := xor_nn (a := (X : Int)) (b := (X2 : Int)) (by omega) (by omega) (by omega) (by omega)
          exact ⟨(bits .xor .i64 (X : Int) (X2 : Int)).toNat, by omega⟩
        obtain ⟨u3, hu3⟩ : ∃ u, u = Y % n := ⟨_, rfl⟩
        have t5 : Int.tmod (Y : Int) n = (u3 : Int) := by rw [hu3]; exact tm Y n
        (try simp only [i3, push_cast, simprocAttr])
        refine at_draw rfl (by kernel_rfl) ?_
        (try simp only [push_cast, simprocAttr])
        (try simp only [z0, t2, push_cast, simprocAttr])
        (try simp only [i4, i5, v1, v3, push_cast, simprocAttr])
        (try simp only [z0, v4, v5, t3, push_cast, simprocAttr])
        (try simp only [i6, i7, v2, v6, v7, v8, v9, push_cast, simprocAttr])
        (try simp only [z0, t4, v10, v11, v12, push_cast, simprocAttr])
        refine at_done_p (by kernel_rfl) (by simp only [List.map_cons, List.map_nil]; kernel_rfl) (go_on_n 4 ?_)
        (try simp only [run_0, show ((64 : Int) = 0) = False from by simp, push_cast, simprocAttr])
        refine at_more (go_on_n 2 ?_)
        (try simp only [run_0, v13, show ((64 : Int) = 0) = False from by simp, push_cast, simprocAttr])
        refine at_more (go_on_n 3 ?_)
        (try simp only [run_0, v13, hY, push_cast, simprocAttr])
        refine at_more (go_on_n 3 ?_)
        (try simp only [run_0, n0, t5, push_cast, simprocAttr])
        refine at_more (go_on_n 3 ?_)
        (try simp only [run_0, n0, t5, push_cast, simprocAttr])
        refine at_more (go_on ?_)
        (try simp only [push_cast, simprocAttr])
        refine at_retL ?_
        simp only [Tryz.results81, retL, push_cast, simprocAttr]
        simpa [show List.range 1 = [0] from rfl, nmL, mvF, ndB, ixOf, rowsOf, hget, rdR] using hfin u3 (fun h => by rw [hu3]; exact Nat.mod_lt _ h)
end Go.Proofs.YtpanjecgbnomhaaGreatDoor
/-
  Opening the bytes that a law is handed.
-/
namespace Go.Proofs.YtpanjecgbnomhaaGreatDoor
open Go Go.RowKit Go.Proofs
set_option maxRecDepth 100000
section
variable {H : Type} {enc : TypeId × Value → H} {W : World} {base : Nat} {sp : Nat → Bool} {held : Bool} {fuel : Nat} {cs : List Value} {x : DataW H × List MemPlace}
theorem open_byte (h : DataW.trod enc Tryz.prog W base sp held fuel 5 cs = some x) : ∃ n : Int, cs = [.int .u8 n] ∧ 0 ≤ n ∧ n ≤ 255 := by
  obtain ⟨n, rfl, _, hw⟩ := DataW.trod_int Tryz.underlying5 h
  refine ⟨n, rfl, ?_⟩
  simp [Lit.wf, IntKind.min, IntKind.max, IntKind.signed, IntKind.bits] at hw
  omega
theorem open_bytes {lv : Nat → Prop} {v : Value} (hlv : ∀ b, b < W.heap.size → ¬ lv b) (h : DataW.trod enc Tryz.prog W 0 sp held fuel 22 [v] = some x) :
    ∃ z : List Int, C lv 0 W (byA z) v ∧ BytesOk z := by
  obtain ⟨l, u, h1, h2, h3, h4⟩ := open_sl (V := fun n : Int => [.int .u8 n]) (K := byC) (Q := fun n => 0 ≤ n ∧ n ≤ 255) (sz := 1) Tryz.underlying22 (by kernel_rfl) (by omega) (fun _ _ _ h => open_byte h) (fun a => ⟨rfl, rfl, rfl⟩) hlv h
  cases h1
  exact ⟨l, h2, h3, h4⟩
end
end Go.Proofs.YtpanjecgbnomhaaGreatDoor
/-
  Walks: the draws: a text, a content.
-/
namespace Go.Proofs.YtpanjecgbnomhaaGreatDoor
open Go Go.RowKit Go.Proofs
def ofD (z : List Int) (p : Nat) (l : List Str) (rv : AV) (lr' rows : List Row) : Prop := ∃ s, s ∈ l ∧ rv = sA s ∧ lr' = [rdR z (p + 1), rowS l] ∧ rows = []
def strD (z : List Int) (p c B : Nat) (rv : AV) (lr' rows : List Row) : Prop := ∃ s : Str, s.length ≤ B ∧ rv = sA s ∧ RdD z p c lr' ∧ rows = []
def ctD (z : List Int) (p c : Nat) (rv : AV) (lr' rows : List Row) : Prop := ∃ x : Ct, rv = ctA x ∧ RdD z p c lr' ∧ rows = []
attribute [local irreducible] RWp AW run kPe pe Kt effA gd gu br retR RDp runD kPeD brW gW effD
set_option maxRecDepth 100000
theorem of_pcl (z : List Int) (p : Nat) (l : List Str) (hr : RdOk z p) (h0 : 0 < l.length) (h1 : l.length ≤ 1000) : PCL Tryz.prog 160 [rdR z p, rowS l] (mvF none) [.p 0 0 0, .o 1 l.length] (ofD z p l) := by
  refine pcl_enter Tryz.func160 rfl rfl (by simp) fun w0 fb loc => go_on ?_; simp only [Tryz.ntmps160, hpL, nmL, mvF, renL, decide_true, decide_false, push_cast, simprocAttr]
  (try simp only [push_cast, simprocAttr]); refine call_lend [500000] none (lr := [rdR z p]) (by simp [ndB]) (by first | rfl | simp [rowsOf, hget, rdR, rowS, rowN, rowC, sC, ndC, cmC]) (by simp [idsL, idsA]) (by simp [mvN]) (by simpa [rnA, ixOf] using pick_pcl z p l.length hr (by omega)) ?_
  rintro rv lr' rows ⟨k, rfl, hk, rfl, rfl⟩
  have hk := hk h0
  obtain ⟨s, hs⟩ := get_of_lt hk
  have i1 := ix_n hs
  have i2 := map_get sC hs
  simp only [sC] at i2
  have hfin : ofD z p l (sA s) [rdR z (p + 1), rowS l] [] := ⟨s, mem_of_get hs, rfl, rfl, rfl⟩
  (refine ⟨by simp [shB, mvF, rdR, rowS, rowN, rowC], by simp [frB, baseOf], go_on ?_⟩; simp only [i1, i2, rowS, killA, killH, killRow, push_cast, simprocAttr])
  (refine at_retL ?_; simp only [Tryz.results160, retL, push_cast, simprocAttr]; simpa [show List.range 1 = [0] from rfl, show List.range 2 = [0, 1] from rfl, show List.range 3 = [0, 1, 2] from rfl, nmL, mvF, ndB, ixOf, rowsOf, hget, rdR, rowS, rowN, rowC] using  hfin)
theorem l91Path_pcl (z : List Int) (p : Nat) (hr : RdOk z (p + 8)) : PCL Tryz.prog 158 [rdR z p] (mvF none) [.p 0 0 0] (strD z p 8 10) := by
  refine pcl_enter Tryz.func158 rfl rfl (by simp) fun w0 fb loc => go_on ?_; simp only [Tryz.ntmps158, hpL, nmL, mvF, renL, decide_true, decide_false, push_cast, simprocAttr]
  (try simp only [push_cast, simprocAttr]); refine call_lend [500000] none (lr := [rdR z p]) (by simp [ndB]) (by first | rfl | simp [rowsOf, hget, rdR, rowS, rowN, rowC, sC, ndC, cmC]) (by simp [idsL, idsA]) (by simp [mvN]) (by simpa [rnA, ixOf] using pick_pcl z p 24 (hr.le (by omega)) (by omega)) ?_
  rintro rv lr' rows ⟨k, rfl, hk, rfl, rfl⟩
  (refine ⟨by simp [shB, mvF, rdR, rowS, rowN, rowC], by simp [frB, baseOf], go_on ?_⟩; simp only [killA, killH, killRow, push_cast, simprocAttr])
  refine at_b (fun hb => ?_) (fun hb => ?_)
  · (try simp only [hb, push_cast, simprocAttr])
    (try simp only [push_cast, simprocAttr]); refine call_lend [500000, 10] none (lr := [rdR z (p + 1), rowS [[], [47], [97], [47, 101], [47, 97, 47], [47, 47, 97], [47, 97, 47, 98, 47, 99, 47, 100, 47, 97], [47, 97, 98]]]) (by simp [ndB]) (by first | rfl | simp [rowsOf, hget, rdR, rowS, rowN, rowC, sC, ndC, cmC]) (by simp [idsL, idsA]) (by simp [mvN]) (by simpa [rnA, ixOf] using of_pcl z (p + 1) [[], [47], [97], [47, 101], [47, 97, 47], [47, 47, 97], [47, 97, 47, 98, 47, 99, 47, 100, 47, 97], [47, 97, 98]] (hr.le (by omega)) (by simp) (by simp)) ?_
    rintro rv lr' rows ⟨s, hs, rfl, rfl, rfl⟩
    have hl : s.length ≤ 10 := by
      simp only [List.mem_cons, List.not_mem_nil, or_false] at hs
      rcases hs with rfl | rfl | rfl | rfl | rfl | rfl | rfl | rfl <;> simp
    have hfin : strD z p 8 10 (sA s) [rdR z (p + 1 + 1)] [] := ⟨s, hl, rfl, ⟨_, rfl, by omega, by omega⟩, rfl⟩
    (refine ⟨by simp [shB, mvF, rdR, rowS, rowN, rowC], by simp [frB, baseOf], go_on ?_⟩; simp only [killA, killH, killRow, push_cast, simprocAttr])
    (refine at_retL ?_; simp only [Tryz.results158, retL, push_cast, simprocAttr]; simpa [show List.range 1 = [0] from rfl, show List.range 2 = [0, 1] from rfl, show List.range 3 = [0, 1, 2] from rfl, nmL, mvF, ndB, ixOf, rowsOf, hget, rdR, rowS, rowN, rowC] using  hfin)
  · (try simp only [hb, push_cast, simprocAttr])
    (try simp only [push_cast, simprocAttr]); refine call_lend [500000] none (lr := [rdR z (p + 1)]) (by simp [ndB]) (by first | rfl | simp [rowsOf, hget, rdR, rowS, rowN, rowC, sC, ndC, cmC]) (by simp [idsL, idsA]) (by simp [mvN]) (by simpa [rnA, ixOf] using pick_pcl z (p + 1) 4 (hr.le (by omega)) (by omega)) ?_
    rintro rv lr' rows ⟨a, rfl, ha, rfl, rfl⟩
    have ha := ha (by omega)
    (refine ⟨by simp [shB, mvF, rdR, rowS, rowN, rowC], by simp [frB, baseOf], go_on ?_⟩; simp only [killA, killH, killRow, push_cast, simprocAttr])
    (try simp only [push_cast, simprocAttr]); refine call_lend [500000] none (lr := [rdR z (p + 1 + 1)]) (by simp [ndB]) (by first | rfl | simp [rowsOf, hget, rdR, rowS, rowN, rowC, sC, ndC, cmC]) (by simp [idsL, idsA]) (by simp [mvN]) (by simpa [rnA, ixOf] using pick_pcl z (p + 1 + 1) 2 (hr.le (by omega)) (by omega)) ?_
    rintro rv lr' rows ⟨b, rfl, hb2, rfl, rfl⟩
    have hb2 := hb2 (by omega)
    obtain ⟨m, hm⟩ : ∃ m, m = a * b := ⟨_, rfl⟩
    have hm3 : m ≤ 3 := by
      have : b = 0 ∨ b = 1 := by omega
      rcases this with rfl | rfl <;> omega
    have v1 : IntKind.i64.wrap ((a : Int) * b) = (m : Int) := by
      have e : (a : Int) * b = (m : Int) := by rw [hm, Int.natCast_mul]
      rw [e, wrap_nn (by omega) (by omega)]
    have v2 : IntKind.i64.wrap (1 + (m : Int)) = ((1 + m : Nat) : Int) := by rw [wrap_nn (by omega) (by omega)]; omega
    obtain ⟨n, hn⟩ : ∃ n, n = 1 + m := ⟨_, rfl⟩
    rw [← hn] at v2
    (refine ⟨by simp [shB, mvF, rdR, rowS, rowN, rowC], by simp [frB, baseOf], go_on ?_⟩; simp only [v1, v2, killA, killH, killRow, push_cast, simprocAttr])
    refine at_loop (X := Nat × Str × Nat) (fun x => [(4, sA x.2.1), (5, iA x.1)]) (fun x => [(500000, rdR z x.2.2)]) (fun x => x.1 ≤ n ∧ x.2.1.length = 2 * x.1 ∧ p ≤ x.2.2 ∧ x.2.2 ≤ p + 3 + x.1) (fun x => n - x.1) (0, [], p + 1 + 1 + 1) ⟨by omega, by simp, by dsimp only; omega, by dsimp only; omega⟩ ?_ ?_
    · (refine wk_ok ?_ ?_ ?_ ?_ <;> simp [rdR, leL, leH, idsL, idsA, idsR, inH, hget, sameRow, upA, hvA, dsts, dstO, setA_0, setA_1, setA_8, List.append, List.cons_append, List.nil_append])
    · rintro ⟨i, out, q⟩ ⟨q1, q2, q3, q4⟩
      simp only at q1 q2 q3 q4
      simp only [upA, hvA, dsts, dstO, setA_0, setA_1, setA_8, List.append, List.cons_append, List.nil_append]
      refine go_on ?_
      (try simp only [push_cast, simprocAttr])
      refine at_b (fun hg => ?_) (fun hg => ?_)
      · have hlt := lt_tt hg
        have c1 : out.length ≤ 9223372036854775806 := by omega
        have c2 := app_l out [47]
        (try simp only [hg, c1, c2, push_cast, simprocAttr])
        (try simp only [push_cast, simprocAttr]); refine call_lend [500000, 26] none (lr := [rdR z q, rowS [[97], [98], [97], [98], [99], [100]]]) (by simp [ndB]) (by first | rfl | simp [rowsOf, hget, rdR, rowS, rowN, rowC, sC, ndC, cmC]) (by simp [idsL, idsA]) (by simp [mvN]) (by simpa [rnA, ixOf] using of_pcl z q [[97], [98], [97], [98], [99], [100]] (hr.le (by omega)) (by simp) (by simp)) ?_
        rintro rv lr' rows ⟨s, hs, rfl, rfl, rfl⟩
        have hl : s.length = 1 := by
          simp only [List.mem_cons, List.not_mem_nil, or_false] at hs
          rcases hs with rfl | rfl | rfl | rfl | rfl | rfl <;> rfl
        have c3 : (out ++ [47]).length + s.length ≤ 9223372036854775807 := by simp; omega
        have c4 := app_l (out ++ [47]) s
        have w1 := wr ((i : Int) + 1) (by omega)
        (refine ⟨by simp [shB, mvF, rdR, rowS, rowN, rowC], by simp [frB, baseOf], go_on ?_⟩; simp only [c3, c4, w1, killA, killH, killRow, push_cast, simprocAttr])
        refine at_fin ⟨(i + 1, out ++ [47] ++ s, q + 1), ⟨by dsimp only; omega, by simp; omega, by dsimp only; omega, by dsimp only; omega⟩, by dsimp only; omega, ?_⟩
        (refine wk_ok ?_ ?_ ?_ ?_ <;> simp [rdR, leL, leH, idsL, idsA, idsR, inH, hget, sameRow, upA, hvA, dsts, dstO, setA_0, setA_1, setA_8, List.append, List.cons_append, List.nil_append])
      · have h3 := lt_ff hg
        have hfin : strD z p 8 10 (sA out) [rdR z q] [] := ⟨out, by omega, rfl, ⟨_, rfl, by omega, by omega⟩, rfl⟩
        (try simp only [hg, push_cast, simprocAttr])
        (refine at_retL ?_; simp only [Tryz.results158, retL, push_cast, simprocAttr]; simpa [show List.range 1 = [0] from rfl, show List.range 2 = [0, 1] from rfl, show List.range 3 = [0, 1, 2] from rfl, nmL, mvF, ndB, ixOf, rowsOf, hget, rdR, rowS, rowN, rowC] using  hfin)
theorem l91Content_pcl (z : List Int) (p : Nat) (hr : RdOk z (p + 4)) : PCL Tryz.prog 159 [rdR z p] (mvF none) [.p 0 0 0] (ctD z p 4) := by
  refine pcl_enter Tryz.func159 rfl rfl (by simp) fun w0 fb loc => go_on ?_; simp only [Tryz.ntmps159, hpL, nmL, mvF, renL, decide_true, decide_false, push_cast, simprocAttr]
  (try simp only [push_cast, simprocAttr]); refine call_lend [500000] none (lr := [rdR z p]) (by simp [ndB]) (by first | rfl | simp [rowsOf, hget, rdR, rowS, rowN, rowC, sC, ndC, cmC]) (by simp [idsL, idsA]) (by simp [mvN]) (by simpa [rnA, ixOf] using pick_pcl z p 6 (hr.le (by omega)) (by omega)) ?_
  rintro rv lr' rows ⟨k, rfl, hk, rfl, rfl⟩
  have hfin : ∀ (x : Ct) (q : Nat), p ≤ q → q ≤ p + 4 → ctD z p 4 (.agg [iA x.k, iA x.v]) [rdR z q] [] := fun x q h1 h2 => ⟨x, rfl, ⟨q, rfl, h1, h2⟩, rfl⟩
  (refine ⟨by simp [shB, mvF, rdR, rowS, rowN, rowC], by simp [frB, baseOf], go_on ?_⟩; simp only [killA, killH, killRow, push_cast, simprocAttr])
  refine at_b (fun hb => ?_) (fun hb => ?_)
  · (try simp only [hb, push_cast, simprocAttr])
    (refine at_retL ?_; simp only [Tryz.results159, retL, push_cast, simprocAttr]; simpa [show List.range 1 = [0] from rfl, show List.range 2 = [0, 1] from rfl, show List.range 3 = [0, 1, 2] from rfl, nmL, mvF, ndB, ixOf, rowsOf, hget, rdR, rowS, rowN, rowC] using  hfin ⟨0, 0⟩ (p + 1) (by omega) (by omega))
  · (try simp only [hb, push_cast, simprocAttr])
    refine at_b (fun h1 => ?_) (fun h1 => ?_)
    · (try simp only [h1, push_cast, simprocAttr])
      (refine at_retL ?_; simp only [Tryz.results159, retL, push_cast, simprocAttr]; simpa [show List.range 1 = [0] from rfl, show List.range 2 = [0, 1] from rfl, show List.range 3 = [0, 1, 2] from rfl, nmL, mvF, ndB, ixOf, rowsOf, hget, rdR, rowS, rowN, rowC] using  hfin ⟨1, 0⟩ (p + 1) (by omega) (by omega))
    · (try simp only [h1, push_cast, simprocAttr])
      refine at_b (fun h2 => ?_) (fun h2 => ?_)
      · (try simp only [h2, push_cast, simprocAttr])
        (refine at_retL ?_; simp only [Tryz.results159, retL, push_cast, simprocAttr]; simpa [show List.range 1 = [0] from rfl, show List.range 2 = [0, 1] from rfl, show List.range 3 = [0, 1, 2] from rfl, nmL, mvF, ndB, ixOf, rowsOf, hget, rdR, rowS, rowN, rowC] using  hfin ⟨1, 0⟩ (p + 1) (by omega) (by omega))
      · (try simp only [h2, push_cast, simprocAttr])
        (try simp only [push_cast, simprocAttr]); refine call_lend [500000] none (lr := [rdR z (p + 1)]) (by simp [ndB]) (by first | rfl | simp [rowsOf, hget, rdR, rowS, rowN, rowC, sC, ndC, cmC]) (by simp [idsL, idsA]) (by simp [mvN]) (by simpa [rnA, ixOf] using pick_pcl z (p + 1) 5 (hr.le (by omega)) (by omega)) ?_
        rintro rv lr' rows ⟨v, rfl, _, rfl, rfl⟩
        (refine ⟨by simp [shB, mvF, rdR, rowS, rowN, rowC], by simp [frB, baseOf], go_on ?_⟩; simp only [killA, killH, killRow, push_cast, simprocAttr])
        (try simp only [push_cast, simprocAttr]); refine call_lend [500000] none (lr := [rdR z (p + 1 + 1)]) (by simp [ndB]) (by first | rfl | simp [rowsOf, hget, rdR, rowS, rowN, rowC, sC, ndC, cmC]) (by simp [idsL, idsA]) (by simp [mvN]) (by simpa [rnA, ixOf] using pick_pcl z (p + 1 + 1) 40 (hr.le (by omega)) (by omega)) ?_
        rintro rv lr' rows ⟨k2, rfl, _, rfl, rfl⟩
        (refine ⟨by simp [shB, mvF, rdR, rowS, rowN, rowC], by simp [frB, baseOf], go_on ?_⟩; simp only [killA, killH, killRow, push_cast, simprocAttr])
        refine at_b (fun h3 => ?_) (fun h3 => ?_)
        · (try simp only [h3, push_cast, simprocAttr])
          (try simp only [push_cast, simprocAttr]); refine call_lend [500000] none (lr := [rdR z (p + 1 + 1 + 1)]) (by simp [ndB]) (by first | rfl | simp [rowsOf, hget, rdR, rowS, rowN, rowC, sC, ndC, cmC]) (by simp [idsL, idsA]) (by simp [mvN]) (by simpa [rnA, ixOf] using pick_pcl z (p + 1 + 1 + 1) 3 (hr.le (by omega)) (by omega)) ?_
          rintro rv lr' rows ⟨k3, rfl, hk3, rfl, rfl⟩
          obtain ⟨x, hx⟩ := get_of_lt (l := [(-1 : Int), 99, 100]) (k := k3) (hk3 (by omega))
          have i1 := ix_n hx
          have i2 := map_get inC hx
          simp only [inC, List.map_cons, List.map_nil, List.length_cons, List.length_nil, Nat.reduceAdd] at i1 i2
          (refine ⟨by simp [shB, mvF, rdR, rowS, rowN, rowC], by simp [frB, baseOf], go_on ?_⟩; simp only [i1, i2, killA, killH, killRow, push_cast, simprocAttr])
          (refine at_retL ?_; simp only [Tryz.results159, retL, push_cast, simprocAttr]; simpa [show List.range 1 = [0] from rfl, show List.range 2 = [0, 1] from rfl, show List.range 3 = [0, 1, 2] from rfl, nmL, mvF, ndB, ixOf, rowsOf, hget, rdR, rowS, rowN, rowC] using  hfin ⟨2, x⟩ (p + 1 + 1 + 1 + 1) (by omega) (by omega))
        · (try simp only [h3, push_cast, simprocAttr])
          refine at_b (fun h4 => ?_) (fun h4 => ?_)
          · (try simp only [h4, push_cast, simprocAttr])
            (try simp only [push_cast, simprocAttr]); refine call_lend [500000] none (lr := [rdR z (p + 1 + 1 + 1)]) (by simp [ndB]) (by first | rfl | simp [rowsOf, hget, rdR, rowS, rowN, rowC, sC, ndC, cmC]) (by simp [idsL, idsA]) (by simp [mvN]) (by simpa [rnA, ixOf] using pick_pcl z (p + 1 + 1 + 1) 3 (hr.le (by omega)) (by omega)) ?_
            rintro rv lr' rows ⟨k3, rfl, hk3, rfl, rfl⟩
            obtain ⟨x, hx⟩ := get_of_lt (l := [(3 : Int), -1, 1]) (k := k3) (hk3 (by omega))
            have i1 := ix_n hx
            have i2 := map_get inC hx
            simp only [inC, List.map_cons, List.map_nil, List.length_cons, List.length_nil, Nat.reduceAdd] at i1 i2
            (refine ⟨by simp [shB, mvF, rdR, rowS, rowN, rowC], by simp [frB, baseOf], go_on ?_⟩; simp only [i1, i2, killA, killH, killRow, push_cast, simprocAttr])
            (refine at_retL ?_; simp only [Tryz.results159, retL, push_cast, simprocAttr]; simpa [show List.range 1 = [0] from rfl, show List.range 2 = [0, 1] from rfl, show List.range 3 = [0, 1, 2] from rfl, nmL, mvF, ndB, ixOf, rowsOf, hget, rdR, rowS, rowN, rowC] using  hfin ⟨x, v⟩ (p + 1 + 1 + 1 + 1) (by omega) (by omega))
          · (try simp only [h4, push_cast, simprocAttr])
            (refine at_retL ?_; simp only [Tryz.results159, retL, push_cast, simprocAttr]; simpa [show List.range 1 = [0] from rfl, show List.range 2 = [0, 1] from rfl, show List.range 3 = [0, 1, 2] from rfl, nmL, mvF, ndB, ixOf, rowsOf, hget, rdR, rowS, rowN, rowC] using  hfin ⟨2, v⟩ (p + 1 + 1 + 1) (by omega) (by omega))
end Go.Proofs.YtpanjecgbnomhaaGreatDoor
/-
  Walks: the draws: a tree, a path in a tree, a command.
-/
namespace Go.Proofs.YtpanjecgbnomhaaGreatDoor
open Go Go.RowKit Go.Proofs
def treeD (z : List Int) (p c : Nat) (rv : AV) (lr' rows : List Row) : Prop := ∃ t, tV t = true ∧ rv = ndA t ∧ RdD z p c lr' ∧ rows = []
def cmdD (z : List Int) (p c : Nat) (rv : AV) (lr' rows : List Row) : Prop := ∃ x : Cm, x.p.length ≤ 10 ∧ rv = cmdA x ∧ RdD z p c lr' ∧ rows = []
theorem tPut_tv {t t' : List Nd} {q : Str} {c : Ct} (h : tPut t q c = some t') : tV t' = true := by
  unfold tPut at h
  split at h
  · rename_i hc
    simp only [Bool.and_eq_true] at hc
    cases h
    exact hc.2
  · cases h
attribute [local irreducible] RWp AW run kPe pe Kt effA gd gu br retR RDp runD kPeD brW gW effD
set_option maxRecDepth 100000
theorem l91Tree_pcl (z : List Int) (p n : Nat) (hn : n ≤ 20) (hr : RdOk z (p + 12 * n)) : PCL Tryz.prog 125 [rdR z p] (mvF none) [.p 0 0 0, iA n] (treeD z p (12 * n)) := by
  refine pcl_enter Tryz.func125 rfl rfl (by simp) fun w0 fb loc => go_on ?_; simp only [Tryz.ntmps125, hpL, nmL, mvF, renL, decide_true, decide_false, push_cast, simprocAttr]
  refine at_loop (X := Nat × List Nd × Nat) (fun x => [(4, .any), (5, ndA x.2.1), (6, iA x.1), (9, .any)]) (fun x => [(500000, rdR z x.2.2)]) (fun x => x.1 ≤ n ∧ tV x.2.1 = true ∧ p ≤ x.2.2 ∧ x.2.2 ≤ p + 12 * x.1) (fun x => n - x.1) (0, [], p) ⟨by omega, rfl, by dsimp only; omega, by dsimp only; omega⟩ ?_ ?_
  · (refine wk_frz ?_ ?_ ?_ ?_ <;> simp [rdR, leF, leHF, frzB, idsL, idsA, idsR, inH, hget, sameRow, viewN, tk, upA, hvA, dsts, dstO, setA_0, setA_1, setA_8, List.append, List.cons_append, List.nil_append])
  · rintro ⟨i, t, q⟩ ⟨q1, q2, q3, q4⟩
    simp only at q1 q2 q3 q4
    simp only [upA, hvA, dsts, dstO, setA_0, setA_1, setA_8, List.append, List.cons_append, List.nil_append]
    have hT := (tV_iff t).1 q2
    have hTl := hT.le
    have hSm := (sm_tv hT).s
    refine go_on ?_
    (try simp only [push_cast, simprocAttr])
    refine at_b (fun hg => ?_) (fun hg => ?_)
    · have hlt := lt_tt hg
      have w1 := wr ((i : Int) + 1) (by omega)
      (try simp only [hg, push_cast, simprocAttr])
      (try simp only [push_cast, simprocAttr]); refine call_lend [500000] none (lr := [rdR z q]) (by simp [ndB]) (by first | rfl | simp [rowsOf, hget, rdR, rowS, rowN, rowC, sC, ndC, cmC]) (by simp [idsL, idsA]) (by simp [mvN]) (by simpa [rnA, ixOf] using l91Path_pcl z q (hr.le (by omega))) ?_
      rintro rv lr' rows ⟨s, hs, rfl, ⟨u, rfl, g1, g2⟩, rfl⟩
      (refine ⟨by simp [shB, mvF, rdR, rowS, rowN, rowC], by simp [frB, baseOf], go_on ?_⟩; simp only [killA, killH, killRow, push_cast, simprocAttr])
      (try simp only [push_cast, simprocAttr]); refine call_lend [500000] none (lr := [rdR z u]) (by simp [ndB]) (by first | rfl | simp [rowsOf, hget, rdR, rowS, rowN, rowC, sC, ndC, cmC]) (by simp [idsL, idsA]) (by simp [mvN]) (by simpa [rnA, ixOf] using l91Content_pcl z u (hr.le (by omega))) ?_
      rintro rv lr' rows ⟨c, rfl, ⟨v, rfl, g3, g4⟩, rfl⟩
      (refine ⟨by simp [shB, mvF, rdR, rowS, rowN, rowC], by simp [frB, baseOf], go_on ?_⟩; simp only [killA, killH, killRow, push_cast, simprocAttr])
      have hput := specTreePut_pc t hSm (by omega) s (by omega) c
      unfold optN at hput
      cases h : tPut t s c with
      | none =>
        rw [h] at hput
        simp only [Option.getD_none, Option.isSome_none, List.length_nil] at hput
        (refine at_call ?_; (try simp only [push_cast, simprocAttr]); refine rwc_r (hput) (by simp [flatV, flatL]) (flat_n []) (by simp [frB, baseOf]) (go_on ?_); (try simp only [push_cast, simprocAttr]))
        (try simp only [w1, push_cast, simprocAttr])
        refine at_fin ⟨(i + 1, t, v), ⟨by dsimp only; omega, q2, by dsimp only; omega, by dsimp only; omega⟩, by dsimp only; omega, ?_⟩
        (refine wk_frz ?_ ?_ ?_ ?_ <;> simp [rdR, leF, leHF, frzB, idsL, idsA, idsR, inH, hget, sameRow, viewN, tk, upA, hvA, dsts, dstO, setA_0, setA_1, setA_8, List.append, List.cons_append, List.nil_append])
      | some t' =>
        rw [h] at hput
        simp only [Option.getD_some, Option.isSome_some] at hput
        (refine at_call ?_; (try simp only [push_cast, simprocAttr]); refine rwc_r (hput) (by simp [flatV, flatL]) (flat_n _) (by simp [frB, baseOf]) (go_on ?_); (try simp only [push_cast, simprocAttr]))
        (try simp only [w1, push_cast, simprocAttr])
        refine at_fin ⟨(i + 1, t', v), ⟨by dsimp only; omega, tPut_tv h, by dsimp only; omega, by dsimp only; omega⟩, by dsimp only; omega, ?_⟩
        (refine wk_frz ?_ ?_ ?_ ?_ <;> simp [rdR, leF, leHF, frzB, idsL, idsA, idsR, inH, hget, sameRow, viewN, tk, upA, hvA, dsts, dstO, setA_0, setA_1, setA_8, List.append, List.cons_append, List.nil_append])
    · have h3 := lt_ff hg
      have hfin : treeD z p (12 * n) (ndA t) [rdR z q] [] := ⟨t, q2, rfl, ⟨_, rfl, by omega, by omega⟩, rfl⟩
      (try simp only [hg, push_cast, simprocAttr])
      (refine at_retL ?_; simp only [Tryz.results125, retL, push_cast, simprocAttr]; simpa [show List.range 1 = [0] from rfl, show List.range 2 = [0, 1] from rfl, show List.range 3 = [0, 1, 2] from rfl, nmL, mvF, ndB, ixOf, rowsOf, hget, rdR, rowS, rowN, rowC] using  hfin)
theorem l91In_pcl (z : List Int) (p : Nat) (t : List Nd) (ht : tV t = true) (hr : RdOk z (p + 11)) : PCL Tryz.prog 161 [rdR z p] (mvF none) [.p 0 0 0, ndA t] (strD z p 11 10) := by
  have hT := (tV_iff t).1 ht
  have hTl := hT.le
  refine pcl_enter Tryz.func161 rfl rfl (by simp) fun w0 fb loc => go_on ?_; simp only [Tryz.ntmps161, hpL, nmL, mvF, renL, decide_true, decide_false, push_cast, simprocAttr]
  by_cases h0 : 0 < t.length
  · have i0 : ltI 0 (t.length : Int) = true := ltI_t (by omega)
    (try simp only [i0, push_cast, simprocAttr])
    (try simp only [push_cast, simprocAttr]); refine call_lend [500000] none (lr := [rdR z p]) (by simp [ndB]) (by first | rfl | simp [rowsOf, hget, rdR, rowS, rowN, rowC, sC, ndC, cmC]) (by simp [idsL, idsA]) (by simp [mvN]) (by simpa [rnA, ixOf] using pick_pcl z p 4 (hr.le (by omega)) (by omega)) ?_
    rintro rv lr' rows ⟨k, rfl, hk, rfl, rfl⟩
    (refine ⟨by simp [shB, mvF, rdR, rowS, rowN, rowC], by simp [frB, baseOf], go_on ?_⟩; simp only [killA, killH, killRow, push_cast, simprocAttr])
    refine at_b (fun hb => ?_) (fun hb => ?_)
    · (try simp only [hb, push_cast, simprocAttr])
      (try simp only [push_cast, simprocAttr]); refine call_lend [500000] none (lr := [rdR z (p + 1)]) (by simp [ndB]) (by first | rfl | simp [rowsOf, hget, rdR, rowS, rowN, rowC, sC, ndC, cmC]) (by simp [idsL, idsA]) (by simp [mvN]) (by simpa [rnA, ixOf] using pick_pcl z (p + 1) t.length (hr.le (by omega)) (by omega)) ?_
      rintro rv lr' rows ⟨k2, rfl, hk2, rfl, rfl⟩
      obtain ⟨x, hx⟩ := get_of_lt (hk2 h0)
      have i1 := ix_n hx
      have i2 := map_get ndC hx
      simp only [ndC] at i2
      have hxl : x.p.length ≤ 8 := (pV_len (hT.nd x (mem_of_get hx)).1 (hT.nd x (mem_of_get hx)).2.1).2
      (refine ⟨by simp [shB, mvF, rdR, rowS, rowN, rowC], by simp [frB, baseOf], go_on ?_⟩; simp only [i1, i2, killA, killH, killRow, push_cast, simprocAttr])
      (try simp only [push_cast, simprocAttr]); refine call_lend [500000] none (lr := [rdR z (p + 1 + 1)]) (by simp [ndB]) (by first | rfl | simp [rowsOf, hget, rdR, rowS, rowN, rowC, sC, ndC, cmC]) (by simp [idsL, idsA]) (by simp [mvN]) (by simpa [rnA, ixOf] using pick_pcl z (p + 1 + 1) 4 (hr.le (by omega)) (by omega)) ?_
      rintro rv lr' rows ⟨k3, rfl, hk3, rfl, rfl⟩
      (refine ⟨by simp [shB, mvF, rdR, rowS, rowN, rowC], by simp [frB, baseOf], go_on ?_⟩; simp only [killA, killH, killRow, push_cast, simprocAttr])
      refine at_b (fun hc => ?_) (fun hc => ?_)
      · have c1 : x.p.length ≤ 9223372036854775806 := by omega
        have c2 := app_l x.p [47]
        (try simp only [hc, c1, c2, push_cast, simprocAttr])
        (try simp only [push_cast, simprocAttr]); refine call_lend [500000, 28] none (lr := [rdR z (p + 1 + 1 + 1), rowS [[97], [98]]]) (by simp [ndB]) (by first | rfl | simp [rowsOf, hget, rdR, rowS, rowN, rowC, sC, ndC, cmC]) (by simp [idsL, idsA]) (by simp [mvN]) (by simpa [rnA, ixOf] using of_pcl z (p + 1 + 1 + 1) [[97], [98]] (hr.le (by omega)) (by simp) (by simp)) ?_
        rintro rv lr' rows ⟨s, hs, rfl, rfl, rfl⟩
        have hl : s.length = 1 := by
          simp only [List.mem_cons, List.not_mem_nil, or_false] at hs
          rcases hs with rfl | rfl <;> rfl
        have c3 : (x.p ++ [47]).length + s.length ≤ 9223372036854775807 := by simp; omega
        have c4 := app_l (x.p ++ [47]) s
        have hfin : strD z p 11 10 (sA (x.p ++ [47] ++ s)) [rdR z (p + 1 + 1 + 1 + 1)] [] := ⟨_, by simp; omega, rfl, ⟨_, rfl, by omega, by omega⟩, rfl⟩
        (refine ⟨by simp [shB, mvF, rdR, rowS, rowN, rowC], by simp [frB, baseOf], go_on ?_⟩; simp only [c3, c4, killA, killH, killRow, push_cast, simprocAttr])
        (refine at_retL ?_; simp only [Tryz.results161, retL, push_cast, simprocAttr]; simpa [show List.range 1 = [0] from rfl, show List.range 2 = [0, 1] from rfl, show List.range 3 = [0, 1, 2] from rfl, nmL, mvF, ndB, ixOf, rowsOf, hget, rdR, rowS, rowN, rowC] using  hfin)
      · have hfin : strD z p 11 10 (sA x.p) [rdR z (p + 1 + 1 + 1)] [] := ⟨_, by omega, rfl, ⟨_, rfl, by omega, by omega⟩, rfl⟩
        (try simp only [hc, push_cast, simprocAttr])
        (refine at_retL ?_; simp only [Tryz.results161, retL, push_cast, simprocAttr]; simpa [show List.range 1 = [0] from rfl, show List.range 2 = [0, 1] from rfl, show List.range 3 = [0, 1, 2] from rfl, nmL, mvF, ndB, ixOf, rowsOf, hget, rdR, rowS, rowN, rowC] using  hfin)
    · (try simp only [hb, push_cast, simprocAttr])
      (try simp only [push_cast, simprocAttr]); refine call_lend [500000] none (lr := [rdR z (p + 1)]) (by simp [ndB]) (by first | rfl | simp [rowsOf, hget, rdR, rowS, rowN, rowC, sC, ndC, cmC]) (by simp [idsL, idsA]) (by simp [mvN]) (by simpa [rnA, ixOf] using l91Path_pcl z (p + 1) (hr.le (by omega))) ?_
      rintro rv lr' rows ⟨s, hs, rfl, ⟨u, rfl, g1, g2⟩, rfl⟩
      have hfin : strD z p 11 10 (sA s) [rdR z u] [] := ⟨_, hs, rfl, ⟨_, rfl, by omega, by omega⟩, rfl⟩
      (refine ⟨by simp [shB, mvF, rdR, rowS, rowN, rowC], by simp [frB, baseOf], go_on ?_⟩; simp only [killA, killH, killRow, push_cast, simprocAttr])
      (refine at_retL ?_; simp only [Tryz.results161, retL, push_cast, simprocAttr]; simpa [show List.range 1 = [0] from rfl, show List.range 2 = [0, 1] from rfl, show List.range 3 = [0, 1, 2] from rfl, nmL, mvF, ndB, ixOf, rowsOf, hget, rdR, rowS, rowN, rowC] using  hfin)
  · have i0 : ltI 0 (t.length : Int) = false := ltI_f (by omega)
    (try simp only [i0, push_cast, simprocAttr])
    (try simp only [push_cast, simprocAttr]); refine call_lend [500000] none (lr := [rdR z p]) (by simp [ndB]) (by first | rfl | simp [rowsOf, hget, rdR, rowS, rowN, rowC, sC, ndC, cmC]) (by simp [idsL, idsA]) (by simp [mvN]) (by simpa [rnA, ixOf] using l91Path_pcl z p (hr.le (by omega))) ?_
    rintro rv lr' rows ⟨s, hs, rfl, ⟨u, rfl, g1, g2⟩, rfl⟩
    have hfin : strD z p 11 10 (sA s) [rdR z u] [] := ⟨_, hs, rfl, ⟨_, rfl, by omega, by omega⟩, rfl⟩
    (refine ⟨by simp [shB, mvF, rdR, rowS, rowN, rowC], by simp [frB, baseOf], go_on ?_⟩; simp only [killA, killH, killRow, push_cast, simprocAttr])
    (refine at_retL ?_; simp only [Tryz.results161, retL, push_cast, simprocAttr]; simpa [show List.range 1 = [0] from rfl, show List.range 2 = [0, 1] from rfl, show List.range 3 = [0, 1, 2] from rfl, nmL, mvF, ndB, ixOf, rowsOf, hget, rdR, rowS, rowN, rowC] using  hfin)
theorem l91Command_pcl (z : List Int) (p : Nat) (t : List Nd) (ht : tV t = true) (hr : RdOk z (p + 20)) : PCL Tryz.prog 127 [rdR z p] (mvF none) [.p 0 0 0, ndA t] (cmdD z p 20) := by
  have hT := (tV_iff t).1 ht
  have hTl := hT.le
  refine pcl_enter Tryz.func127 rfl rfl (by simp) fun w0 fb loc => go_on ?_; simp only [Tryz.ntmps127, hpL, nmL, mvF, renL, decide_true, decide_false, push_cast, simprocAttr]
  (try simp only [push_cast, simprocAttr]); refine call_lend [500000] none (lr := [rdR z p]) (by simp [ndB]) (by first | rfl | simp [rowsOf, hget, rdR, rowS, rowN, rowC, sC, ndC, cmC]) (by simp [idsL, idsA]) (by simp [mvN]) (by simpa [rnA, ixOf] using l91In_pcl z p t ht (hr.le (by omega))) ?_
  rintro rv lr' rows ⟨s, hs, rfl, ⟨u, rfl, g1, g2⟩, rfl⟩
  (refine ⟨by simp [shB, mvF, rdR, rowS, rowN, rowC], by simp [frB, baseOf], go_on ?_⟩; simp only [killA, killH, killRow, push_cast, simprocAttr])
  (try simp only [push_cast, simprocAttr]); refine call_lend [500000] none (lr := [rdR z u]) (by simp [ndB]) (by first | rfl | simp [rowsOf, hget, rdR, rowS, rowN, rowC, sC, ndC, cmC]) (by simp [idsL, idsA]) (by simp [mvN]) (by simpa [rnA, ixOf] using l91Content_pcl z u (hr.le (by omega))) ?_
  rintro rv lr' rows ⟨c, rfl, ⟨v, rfl, g3, g4⟩, rfl⟩
  (refine ⟨by simp [shB, mvF, rdR, rowS, rowN, rowC], by simp [frB, baseOf], go_on ?_⟩; simp only [killA, killH, killRow, push_cast, simprocAttr])
  (refine at_call ?_; (try simp only [push_cast, simprocAttr]); refine rwc_d (l3Get_pc t (by omega) s) (by simp [flatV, flatL, ctC, ndC, cmC]) (by simp [ren, ctC, ndC, cmC]) (go_on ?_); (try simp only [push_cast, simprocAttr]))
  (try simp only [push_cast, simprocAttr]); refine call_lend [500000] none (lr := [rdR z v]) (by simp [ndB]) (by first | rfl | simp [rowsOf, hget, rdR, rowS, rowN, rowC, sC, ndC, cmC]) (by simp [idsL, idsA]) (by simp [mvN]) (by simpa [rnA, ixOf] using pick_pcl z v 12 (hr.le (by omega)) (by omega)) ?_
  rintro rv lr' rows ⟨k, rfl, hk, rfl, rfl⟩
  (refine ⟨by simp [shB, mvF, rdR, rowS, rowN, rowC], by simp [frB, baseOf], go_on ?_⟩; simp only [killA, killH, killRow, push_cast, simprocAttr])
  refine at_b (fun hb => ?_) (fun hb => ?_)
  · (try simp only [hb, push_cast, simprocAttr])
    (try simp only [push_cast, simprocAttr]); refine call_lend [500000] none (lr := [rdR z (v + 1)]) (by simp [ndB]) (by first | rfl | simp [rowsOf, hget, rdR, rowS, rowN, rowC, sC, ndC, cmC]) (by simp [idsL, idsA]) (by simp [mvN]) (by simpa [rnA, ixOf] using l91Content_pcl z (v + 1) (hr.le (by omega))) ?_
    rintro rv lr' rows ⟨d, rfl, ⟨y, rfl, g5, g6⟩, rfl⟩
    have hfin : cmdD z p 20 (.agg [sA s, iA d.k, iA d.v, iA c.k, iA c.v]) [rdR z y] [] := ⟨⟨s, d, c⟩, hs, rfl, ⟨_, rfl, by omega, by omega⟩, rfl⟩
    (refine ⟨by simp [shB, mvF, rdR, rowS, rowN, rowC], by simp [frB, baseOf], go_on ?_⟩; simp only [killA, killH, killRow, push_cast, simprocAttr])
    (refine at_retL ?_; simp only [Tryz.results127, retL, push_cast, simprocAttr]; simpa [show List.range 1 = [0] from rfl, show List.range 2 = [0, 1] from rfl, show List.range 3 = [0, 1, 2] from rfl, nmL, mvF, ndB, ixOf, rowsOf, hget, rdR, rowS, rowN, rowC] using  hfin)
  · have hfin : cmdD z p 20 (.agg [sA s, iA (getC t s).k, iA (getC t s).v, iA c.k, iA c.v]) [rdR z (v + 1)] [] := ⟨⟨s, getC t s, c⟩, hs, rfl, ⟨_, rfl, by omega, by omega⟩, rfl⟩
    (try simp only [hb, push_cast, simprocAttr])
    (refine at_retL ?_; simp only [Tryz.results127, retL, push_cast, simprocAttr]; simpa [show List.range 1 = [0] from rfl, show List.range 2 = [0, 1] from rfl, show List.range 3 = [0, 1, 2] from rfl, nmL, mvF, ndB, ixOf, rowsOf, hget, rdR, rowS, rowN, rowC] using  hfin)
end Go.Proofs.YtpanjecgbnomhaaGreatDoor
/-
  Walks: the draws: a log, a broken log.
-/
namespace Go.Proofs.YtpanjecgbnomhaaGreatDoor
open Go Go.RowKit Go.Proofs
structure LogS (l : List Cm) : Prop where
  n : l.length ≤ 21
  p : ∀ c ∈ l, c.p.length ≤ 10
def logD (z : List Int) (p c : Nat) (rv : AV) (lr' rows : List Row) : Prop := ∃ l : List Cm, LogS l ∧ rv = .o 1 l.length ∧ RdD z p c lr' ∧ rows = [rowC l]
def log2D (z : List Int) (p c : Nat) (rv : AV) (lr' rows : List Row) : Prop := ∃ l : List Cm, LogS l ∧ l.length ≤ 20 ∧ rv = .o 1 l.length ∧ RdD z p c lr' ∧ rows = [rowC l]
theorem cap2_tv {t : List Nd} {c : Cm} (h : (cap2 t c).2 = true) : tV (cap2 t c).1 = true := by
  unfold cap2 at *
  split at h
  · rename_i h1
    rw [if_pos h1]
    unfold apB2 at *
    cases hr : apC t c with
    | none => rw [hr] at h; cases h
    | some t' => exact apC_tv hr
  · cases h
attribute [local irreducible] RWp AW run kPe pe Kt effA gd gu br retR RDp runD kPeD brW gW effD
set_option maxRecDepth 100000
theorem l91Log_pcl (z : List Int) (p n : Nat) (t : List Nd) (ht : tV t = true) (hn : n ≤ 60) (hr : RdOk z (p + 20 * n)) : PCL Tryz.prog 80 [rdR z p] (mvF none) [.p 0 0 0, ndA t, iA n]
    (log2D z p (20 * n)) := by
  refine pcl_enter Tryz.func80 rfl rfl (by simp) fun w0 fb loc => go_on ?_; simp only [Tryz.ntmps80, hpL, nmL, mvF, renL, decide_true, decide_false, push_cast, simprocAttr]
  refine at_loop (X := Nat × List Nd × List Cm × Nat) (fun x => [(6, .any), (7, .o 13 x.2.2.1.length), (8, ndA x.2.1), (9, iA x.1), (13, .any)]) (fun x => [(13, rowC x.2.2.1), (500000, rdR z x.2.2.2)])
    (fun x => x.1 ≤ n ∧ tV x.2.1 = true ∧ x.2.2.1.length ≤ 20 ∧ (∀ c ∈ x.2.2.1, c.p.length ≤ 10) ∧ p ≤ x.2.2.2 ∧ x.2.2.2 ≤ p + 20 * x.1) (fun x => n - x.1) (0, t, [], p) ⟨by omega, ht, by simp, by simp, by dsimp only; omega, by dsimp only; omega⟩ ?_ ?_
  · (refine wk_frz ?_ ?_ ?_ ?_ <;> simp [rdR, leF, leHF, frzB, idsL, idsA, idsR, inH, hget, sameRow, viewN, tk, upA, hvA, dsts, dstO, setA_0, setA_1, setA_8, List.append, List.cons_append, List.nil_append])
  · rintro ⟨i, t, l, q⟩ ⟨q1, q2, q3, q4, q5, q6⟩
    simp only at q1 q2 q3 q4 q5 q6
    simp only [upA, hvA, dsts, dstO, setA_0, setA_1, setA_8, List.append, List.cons_append, List.nil_append]
    have hT := (tV_iff t).1 q2
    have hTl := hT.le
    have hSm := (sm_tv hT).s
    refine go_on ?_
    (try simp only [push_cast, simprocAttr])
    have hfin : log2D z p (20 * n) (.o 1 l.length) [rdR z q] [rowC l] := ⟨l, ⟨by omega, q4⟩, q3, rfl, ⟨_, rfl, by omega, by omega⟩, rfl⟩
    by_cases hlt : i < n
    · have i0 : ltI (i : Int) n = true := ltI_t (by omega)
      (try simp only [i0, push_cast, simprocAttr])
      refine at_b (fun hb => ?_) (fun hb => ?_)
      · have hl := of_ltI_t hb
        have w1 := wr ((i : Int) + 1) (by omega)
        (try simp only [hb, push_cast, simprocAttr])
        (try simp only [push_cast, simprocAttr]); refine call_lend [500000] none (lr := [rdR z q]) (by simp [ndB]) (by first | rfl | simp [rowsOf, hget, rdR, rowS, rowN, rowC, sC, ndC, cmC]) (by simp [idsL, idsA]) (by simp [mvN]) (by simpa [rnA, ixOf] using l91Command_pcl z q t q2 (hr.le (by omega))) ?_
        rintro rv lr' rows ⟨c, hc, rfl, ⟨u, rfl, g1, g2⟩, rfl⟩
        obtain ⟨cp, ca, cb⟩ := c
        have hap := specCommandApply_pc t hSm (by omega) ⟨cp, ca, cb⟩ (by simp only at hc ⊢; omega)
        unfold cmdA cmC at hap ⊢
        (refine ⟨by simp [shB, mvF, rdR, rowS, rowN, rowC], by simp [frB, baseOf], go_on ?_⟩; simp only [killA, killH, killRow, push_cast, simprocAttr])
        (refine at_call ?_; (try simp only [push_cast, simprocAttr]); refine rwc_r (hap) (by simp [flatV, flatL]) (flat_n _) (by simp [frB, baseOf]) (go_on ?_); (try simp only [push_cast, simprocAttr]))
        refine at_b (fun hk => ?_) (fun hk => ?_)
        · have hcl : ∀ c ∈ l ++ [(⟨cp, ca, cb⟩ : Cm)], c.p.length ≤ 10 := fun c h => by
            rcases List.mem_append.1 h with h | h
            · exact q4 c h
            · simp only [List.mem_singleton] at h
              subst h
              exact hc
          (try simp only [hk, w1, push_cast, simprocAttr])
          refine at_chk (by omega) ?_
          (try simp only [w1, push_cast, simprocAttr])
          refine at_fin ⟨(i + 1, (cap2 t ⟨cp, ca, cb⟩).1, l ++ [⟨cp, ca, cb⟩], u), ⟨by dsimp only; omega, cap2_tv hk, by simp; omega, hcl, by dsimp only; omega, by dsimp only; omega⟩, by dsimp only; omega, ?_⟩
          (refine wk_frz ?_ ?_ ?_ ?_ <;> simp [rdR, cmC, leF, leHF, frzB, idsL, idsA, idsR, inH, hget, sameRow, viewN, tk, upA, hvA, dsts, dstO, setA_0, setA_1, setA_8, List.append, List.cons_append, List.nil_append])
        · (try simp only [hk, w1, push_cast, simprocAttr])
          refine at_fin ⟨(i + 1, t, l, u), ⟨by dsimp only; omega, q2, q3, q4, by dsimp only; omega, by dsimp only; omega⟩, by dsimp only; omega, ?_⟩
          (refine wk_frz ?_ ?_ ?_ ?_ <;> simp [rdR, leF, leHF, frzB, idsL, idsA, idsR, inH, hget, sameRow, viewN, tk, upA, hvA, dsts, dstO, setA_0, setA_1, setA_8, List.append, List.cons_append, List.nil_append])
      · (try simp only [hb, push_cast, simprocAttr])
        (refine at_retL ?_; simp only [Tryz.results80, retL, push_cast, simprocAttr]; simpa [show List.range 1 = [0] from rfl, show List.range 2 = [0, 1] from rfl, show List.range 3 = [0, 1, 2] from rfl, nmL, mvF, ndB, ixOf, rowsOf, hget, rdR, rowS, rowN, rowC] using  hfin)
    · have i0 : ltI (i : Int) n = false := ltI_f (by omega)
      (try simp only [i0, push_cast, simprocAttr])
      (refine at_retL ?_; simp only [Tryz.results80, retL, push_cast, simprocAttr]; simpa [show List.range 1 = [0] from rfl, show List.range 2 = [0, 1] from rfl, show List.range 3 = [0, 1, 2] from rfl, nmL, mvF, ndB, ixOf, rowsOf, hget, rdR, rowS, rowN, rowC] using  hfin)
end Go.Proofs.YtpanjecgbnomhaaGreatDoor
/-
  Walks: the draws: a broken log.
-/
namespace Go.Proofs.YtpanjecgbnomhaaGreatDoor
open Go Go.RowKit Go.Proofs
theorem LogS.set {l : List Cm} (h : LogS l) (k : Nat) (x : Cm) (hx : x.p.length ≤ 10) : LogS (l.set k x) := by
  refine ⟨by simpa using h.n, fun c hc => ?_⟩
  rcases List.mem_or_eq_of_mem_set hc with hc | rfl
  · exact h.p c hc
  · exact hx
theorem effD_app2 {P : Program} {o : SO} {l : List SO} {evs : List E} {s : AS} {go : List E → AS → RD} (x y : Operand) (t : TypeId) :
    effD P o l evs s go (.call ⟨.builtin .append, ⟨[x, y]⟩, ⟨[t, t]⟩⟩) = apD o evs s go (apE P s o.dst t (evA s.t x) (evA s.t y)) := effD_app _ _ _ _ _ _ (.assign (.tmp 0)) x y t
theorem at_chkD {P : Program} {K : List E → AS → Prop} {φ : Prop} {r : RD} (hφ : φ) (h : RDp P K r) : RDp P K (.chk φ r) := ⟨hφ, h⟩
attribute [local irreducible] RWp AW run kPe pe Kt effA gd gu br retR RDp runD kPeD brW gW effD
set_option maxRecDepth 100000
theorem l91Broken_pcl (z : List Int) (p : Nat) (t : List Nd) (ht : tV t = true) (hr : RdOk z (p + 1300)) : PCL Tryz.prog 126 [rdR z p] (mvF none) [.p 0 0 0, ndA t] (logD z p 1300) := by
  refine pcl_enter Tryz.func126 rfl rfl (by simp) fun w0 fb loc => go_on ?_; simp only [Tryz.ntmps126, hpL, nmL, mvF, renL, decide_true, decide_false, push_cast, simprocAttr]
  (try simp only [push_cast, simprocAttr]); refine call_lend [500000] none (lr := [rdR z p]) (by simp [ndB]) (by first | rfl | simp [rowsOf, hget, rdR, rowS, rowN, rowC, sC, ndC, cmC]) (by simp [idsL, idsA]) (by simp [mvN]) (by simpa [rnA, ixOf] using pick_pcl z p 12 (hr.le (by omega)) (by omega)) ?_
  rintro rv lr' rows ⟨m, rfl, hm, rfl, rfl⟩
  have hm := hm (by omega)
  (refine ⟨by simp [shB, mvF, rdR, rowS, rowN, rowC], by simp [frB, baseOf], go_on ?_⟩; simp only [killA, killH, killRow, push_cast, simprocAttr])
  (try simp only [push_cast, simprocAttr]); refine call_lend [500000] none (lr := [rdR z (p + 1)]) (by simp [ndB]) (by first | rfl | simp [rowsOf, hget, rdR, rowS, rowN, rowC, sC, ndC, cmC]) (by simp [idsL, idsA]) (by simp [mvN]) (by simpa [rnA, ixOf] using pick_pcl z (p + 1) 10 (hr.le (by omega)) (by omega)) ?_
  rintro rv lr' rows ⟨m2, rfl, _, rfl, rfl⟩
  (refine ⟨by simp [shB, mvF, rdR, rowS, rowN, rowC], by simp [frB, baseOf], go_on ?_⟩; simp only [killA, killH, killRow, push_cast, simprocAttr])
  refine at_b (fun hb => ?_) (fun hb => ?_)
  · (try simp only [hb, push_cast, simprocAttr])
    (try simp only [push_cast, simprocAttr]); refine call_lend [500000] none (lr := [rdR z (p + 1 + 1)]) (by simp [ndB]) (by first | rfl | simp [rowsOf, hget, rdR, rowS, rowN, rowC, sC, ndC, cmC]) (by simp [idsL, idsA]) (by simp [mvN]) (by simpa [rnA, ixOf] using l91Log_pcl z (p + 1 + 1) 60 t ht (by omega) (hr.le (by omega))) ?_
    rintro rv lr' rows ⟨l, hl, hl20, rfl, ⟨u, rfl, g1, g2⟩, rfl⟩
    have hu : u ≤ p + 1202 := by omega
    (refine ⟨by simp [shB, mvF, rdR, rowS, rowN, rowC], by simp [frB, baseOf], go_on ?_⟩; simp only [killA, killH, killRow, push_cast, simprocAttr])
    refine at_b (fun h0 => ?_) (fun h0 => ?_)
    · have h0' := h0
      have h0 : 0 < l.length := by have := of_ltI_t h0'; omega
      (try simp only [h0', push_cast, simprocAttr])
      (try simp only [push_cast, simprocAttr]); refine call_lend [500000] none (lr := [rdR z u]) (by simp [ndB]) (by first | rfl | simp [rowsOf, hget, rdR, rowS, rowN, rowC, sC, ndC, cmC]) (by simp [idsL, idsA]) (by simp [mvN]) (by simpa [rnA, ixOf] using pick_pcl z u l.length (hr.le (by omega)) (by omega)) ?_
      rintro rv lr' rows ⟨k, rfl, hk, rfl, rfl⟩
      have hk := hk h0
      (refine ⟨by simp [shB, mvF, rdR, rowS, rowN, rowC], by simp [frB, baseOf], go_on ?_⟩; simp only [killA, killH, killRow, push_cast, simprocAttr])
      (try simp only [push_cast, simprocAttr]); refine call_lend [500000] none (lr := [rdR z (u + 1)]) (by simp [ndB]) (by first | rfl | simp [rowsOf, hget, rdR, rowS, rowN, rowC, sC, ndC, cmC]) (by simp [idsL, idsA]) (by simp [mvN]) (by simpa [rnA, ixOf] using pick_pcl z (u + 1) 14 (hr.le (by omega)) (by omega)) ?_
      rintro rv lr' rows ⟨j, rfl, _, rfl, rfl⟩
      obtain ⟨x, hx⟩ := get_of_lt hk
      have hxp := hl.p x (mem_of_get hx)
      have i1 := ix_n hx
      have i2 := map_get cmC hx
      simp only [cmC] at i2
      (refine ⟨by simp [shB, mvF, rdR, rowS, rowN, rowC], by simp [frB, baseOf], go_on ?_⟩; simp only [killA, killH, killRow, push_cast, simprocAttr])
      refine at_b (fun hj => ?_) (fun hj => ?_)
      · (try simp only [hj, push_cast, simprocAttr])
        (try simp only [push_cast, simprocAttr]); refine call_lend [500000] none (lr := [rdR z (u + 1 + 1)]) (by simp [ndB]) (by first | rfl | simp [rowsOf, hget, rdR, rowS, rowN, rowC, sC, ndC, cmC]) (by simp [idsL, idsA]) (by simp [mvN]) (by simpa [rnA, ixOf] using l91Content_pcl z (u + 1 + 1) (hr.le (by omega))) ?_
        rintro rv lr' rows ⟨d, rfl, ⟨v, rfl, g3, g4⟩, rfl⟩
        have hset : (l.map cmC).set k [sA x.p, iA x.a.k, iA x.a.v, iA d.k, iA d.v] = (l.set k ⟨x.p, x.a, d⟩).map cmC := by rw [List.map_set]; rfl
        have hfin : logD z p 1300 (.o 1 l.length) [rdR z v] [rowC (l.set k ⟨x.p, x.a, d⟩)] := ⟨l.set k ⟨x.p, x.a, d⟩, hl.set k _ hxp, by simp, ⟨_, rfl, by omega, by omega⟩, rfl⟩
        (refine ⟨by simp [shB, mvF, rdR, rowS, rowN, rowC], by simp [frB, baseOf], go_on ?_⟩; simp only [i1, i2, hset, killA, killH, killRow, push_cast, simprocAttr])
        (refine at_retL ?_; simp only [Tryz.results126, retL, push_cast, simprocAttr]; simpa [show List.range 1 = [0] from rfl, show List.range 2 = [0, 1] from rfl, show List.range 3 = [0, 1, 2] from rfl, nmL, mvF, ndB, ixOf, rowsOf, hget, rdR, rowS, rowN, rowC] using  hfin)
      · (try simp only [hj, push_cast, simprocAttr])
        refine at_b (fun hj2 => ?_) (fun hj2 => ?_)
        · have w1 := wr ((k : Int) + 1) (by omega)
          have e1 : (k : Int) ≤ l.length := by omega
          have e2 : (k : Int) + 1 ≤ l.length := by omega
          have e3 : k + 1 + (l.length - (k + 1)) = l.length := by omega
          have e4 : (0 : Int) ≤ (k : Int) + 1 := by omega
          (try simp only [hj2, push_cast, simprocAttr])
          refine at_draw rfl (by kernel_rfl) ?_
          have e5 : ((k : Int) + 1).toNat = k + 1 := by omega
          have e6 : ¬ k + 1 = 0 := by omega
          have e7 : k + (l.length - (k + 1)) < 4294967296 := by omega
          have hdl : (l.map cmC).take k ++ (l.map cmC).drop (k + 1) = (l.take k ++ l.drop (k + 1)).map cmC := by rw [List.map_append, List.map_take, List.map_drop]
          have hll : (l.take k ++ l.drop (k + 1)).length = k + (l.length - (k + 1)) := by simp; omega
          have hfin : logD z p 1300 (.o 1 (k + (l.length - (k + 1)))) [rdR z (u + 1 + 1)] [rowC (l.take k ++ l.drop (k + 1))] := ⟨l.take k ++ l.drop (k + 1), ⟨by omega, fun c hc => by
            rcases List.mem_append.1 hc with hc | hc
            · exact hl.p c (List.mem_of_mem_take hc)
            · exact hl.p c (List.mem_of_mem_drop hc)⟩, by rw [hll], ⟨_, rfl, by omega, by omega⟩, rfl⟩
          have hrc : (rdR z (u + 1 + 1)).cl = true := rfl
          have hdn : (List.drop (k + 1) (List.map cmC l)).length = l.length - (k + 1) := by simp
          (try simp only [w1, e1, e2, e3, e4, e5, e6, effD_app2, hrc, hdn, push_cast, simprocAttr])
          refine at_chkD (by omega) ?_
          refine at_done (by kernel_rfl) (by kernel_rfl) (go_on ?_)
          (try simp only [hdl, push_cast, simprocAttr])
          (refine at_retL ?_; simp only [Tryz.results126, retL, push_cast, simprocAttr]; simpa [show List.range 1 = [0] from rfl, show List.range 2 = [0, 1] from rfl, show List.range 3 = [0, 1, 2] from rfl, nmL, mvF, ndB, ixOf, rowsOf, hget, rdR, rowS, rowN, rowC] using  hfin)
        · (try simp only [hj2, push_cast, simprocAttr])
          refine at_b (fun hj3 => ?_) (fun hj3 => ?_)
          · have hfin : logD z p 1300 (.o 1 (l.length + 1)) [rdR z (u + 1 + 1)] [rowC (l ++ [x])] := ⟨l ++ [x], ⟨by simp; omega, fun c hc => by
              rcases List.mem_append.1 hc with hc | hc
              · exact hl.p c hc
              · simp only [List.mem_singleton] at hc
                subst hc
                exact hxp⟩, by simp, ⟨_, rfl, by omega, by omega⟩, rfl⟩
            have happ : l.map cmC ++ [[sA x.p, iA x.a.k, iA x.a.v, iA x.b.k, iA x.b.v]] = (l ++ [x]).map cmC := by rw [List.map_append]; rfl
            (try simp only [hj3, i1, i2, push_cast, simprocAttr])
            refine at_chk (by omega) ?_
            (try simp only [happ, push_cast, simprocAttr])
            (refine at_retL ?_; simp only [Tryz.results126, retL, push_cast, simprocAttr]; simpa [show List.range 1 = [0] from rfl, show List.range 2 = [0, 1] from rfl, show List.range 3 = [0, 1, 2] from rfl, nmL, mvF, ndB, ixOf, rowsOf, hget, rdR, rowS, rowN, rowC] using  hfin)
          · (try simp only [hj3, push_cast, simprocAttr])
            refine at_b (fun hj4 => ?_) (fun hj4 => ?_)
            · (try simp only [hj4, push_cast, simprocAttr])
              (try simp only [push_cast, simprocAttr]); refine call_lend [500000, 58] none (lr := [rdR z (u + 1 + 1), rowS [[], [47], [47, 120]]]) (by simp [ndB]) (by first | rfl | simp [rowsOf, hget, rdR, rowS, rowN, rowC, sC, ndC, cmC]) (by simp [idsL, idsA]) (by simp [mvN]) (by simpa [rnA, ixOf] using of_pcl z (u + 1 + 1) [[], [47], [47, 120]] (hr.le (by omega)) (by simp) (by simp)) ?_
              rintro rv lr' rows ⟨s, hs, rfl, rfl, rfl⟩
              have hs2 : s.length ≤ 10 := by
                simp only [List.mem_cons, List.not_mem_nil, or_false] at hs
                rcases hs with rfl | rfl | rfl <;> simp
              have hset : (l.map cmC).set k [sA s, iA x.a.k, iA x.a.v, iA x.b.k, iA x.b.v] = (l.set k ⟨s, x.a, x.b⟩).map cmC := by rw [List.map_set]; rfl
              have hfin : logD z p 1300 (.o 1 l.length) [rdR z (u + 1 + 1 + 1)] [rowC (l.set k ⟨s, x.a, x.b⟩)] := ⟨l.set k ⟨s, x.a, x.b⟩, hl.set k _ hs2, by simp, ⟨_, rfl, by omega, by omega⟩, rfl⟩
              (refine ⟨by simp [shB, mvF, rdR, rowS, rowN, rowC], by simp [frB, baseOf], go_on ?_⟩; simp only [i1, i2, hset, killA, killH, killRow, push_cast, simprocAttr])
              (refine at_retL ?_; simp only [Tryz.results126, retL, push_cast, simprocAttr]; simpa [show List.range 1 = [0] from rfl, show List.range 2 = [0, 1] from rfl, show List.range 3 = [0, 1, 2] from rfl, nmL, mvF, ndB, ixOf, rowsOf, hget, rdR, rowS, rowN, rowC] using  hfin)
            · have hfin : logD z p 1300 (.o 1 l.length) [rdR z (u + 1 + 1)] [rowC l] := ⟨l, hl, rfl, ⟨_, rfl, by omega, by omega⟩, rfl⟩
              (try simp only [hj4, push_cast, simprocAttr])
              (refine at_retL ?_; simp only [Tryz.results126, retL, push_cast, simprocAttr]; simpa [show List.range 1 = [0] from rfl, show List.range 2 = [0, 1] from rfl, show List.range 3 = [0, 1, 2] from rfl, nmL, mvF, ndB, ixOf, rowsOf, hget, rdR, rowS, rowN, rowC] using  hfin)
    · have hfin : logD z p 1300 (.o 1 l.length) [rdR z u] [rowC l] := ⟨l, hl, rfl, ⟨_, rfl, by omega, by omega⟩, rfl⟩
      (try simp only [h0, push_cast, simprocAttr])
      (refine at_retL ?_; simp only [Tryz.results126, retL, push_cast, simprocAttr]; simpa [show List.range 1 = [0] from rfl, show List.range 2 = [0, 1] from rfl, show List.range 3 = [0, 1, 2] from rfl, nmL, mvF, ndB, ixOf, rowsOf, hget, rdR, rowS, rowN, rowC] using  hfin)
  · (try simp only [hb, push_cast, simprocAttr])
    (try simp only [push_cast, simprocAttr]); refine call_lend [500000] none (lr := [rdR z (p + 1 + 1)]) (by simp [ndB]) (by first | rfl | simp [rowsOf, hget, rdR, rowS, rowN, rowC, sC, ndC, cmC]) (by simp [idsL, idsA]) (by simp [mvN]) (by simpa [rnA, ixOf] using l91Log_pcl z (p + 1 + 1) m t ht (by omega) (hr.le (by omega))) ?_
    rintro rv lr' rows ⟨l, hl, hl20, rfl, ⟨u, rfl, g1, g2⟩, rfl⟩
    have hu : u ≤ p + 1202 := by omega
    (refine ⟨by simp [shB, mvF, rdR, rowS, rowN, rowC], by simp [frB, baseOf], go_on ?_⟩; simp only [killA, killH, killRow, push_cast, simprocAttr])
    refine at_b (fun h0 => ?_) (fun h0 => ?_)
    · have h0' := h0
      have h0 : 0 < l.length := by have := of_ltI_t h0'; omega
      (try simp only [h0', push_cast, simprocAttr])
      (try simp only [push_cast, simprocAttr]); refine call_lend [500000] none (lr := [rdR z u]) (by simp [ndB]) (by first | rfl | simp [rowsOf, hget, rdR, rowS, rowN, rowC, sC, ndC, cmC]) (by simp [idsL, idsA]) (by simp [mvN]) (by simpa [rnA, ixOf] using pick_pcl z u l.length (hr.le (by omega)) (by omega)) ?_
      rintro rv lr' rows ⟨k, rfl, hk, rfl, rfl⟩
      have hk := hk h0
      (refine ⟨by simp [shB, mvF, rdR, rowS, rowN, rowC], by simp [frB, baseOf], go_on ?_⟩; simp only [killA, killH, killRow, push_cast, simprocAttr])
      (try simp only [push_cast, simprocAttr]); refine call_lend [500000] none (lr := [rdR z (u + 1)]) (by simp [ndB]) (by first | rfl | simp [rowsOf, hget, rdR, rowS, rowN, rowC, sC, ndC, cmC]) (by simp [idsL, idsA]) (by simp [mvN]) (by simpa [rnA, ixOf] using pick_pcl z (u + 1) 14 (hr.le (by omega)) (by omega)) ?_
      rintro rv lr' rows ⟨j, rfl, _, rfl, rfl⟩
      obtain ⟨x, hx⟩ := get_of_lt hk
      have hxp := hl.p x (mem_of_get hx)
      have i1 := ix_n hx
      have i2 := map_get cmC hx
      simp only [cmC] at i2
      (refine ⟨by simp [shB, mvF, rdR, rowS, rowN, rowC], by simp [frB, baseOf], go_on ?_⟩; simp only [killA, killH, killRow, push_cast, simprocAttr])
      refine at_b (fun hj => ?_) (fun hj => ?_)
      · (try simp only [hj, push_cast, simprocAttr])
        (try simp only [push_cast, simprocAttr]); refine call_lend [500000] none (lr := [rdR z (u + 1 + 1)]) (by simp [ndB]) (by first | rfl | simp [rowsOf, hget, rdR, rowS, rowN, rowC, sC, ndC, cmC]) (by simp [idsL, idsA]) (by simp [mvN]) (by simpa [rnA, ixOf] using l91Content_pcl z (u + 1 + 1) (hr.le (by omega))) ?_
        rintro rv lr' rows ⟨d, rfl, ⟨v, rfl, g3, g4⟩, rfl⟩
        have hset : (l.map cmC).set k [sA x.p, iA x.a.k, iA x.a.v, iA d.k, iA d.v] = (l.set k ⟨x.p, x.a, d⟩).map cmC := by rw [List.map_set]; rfl
        have hfin : logD z p 1300 (.o 1 l.length) [rdR z v] [rowC (l.set k ⟨x.p, x.a, d⟩)] := ⟨l.set k ⟨x.p, x.a, d⟩, hl.set k _ hxp, by simp, ⟨_, rfl, by omega, by omega⟩, rfl⟩
        (refine ⟨by simp [shB, mvF, rdR, rowS, rowN, rowC], by simp [frB, baseOf], go_on ?_⟩; simp only [i1, i2, hset, killA, killH, killRow, push_cast, simprocAttr])
        (refine at_retL ?_; simp only [Tryz.results126, retL, push_cast, simprocAttr]; simpa [show List.range 1 = [0] from rfl, show List.range 2 = [0, 1] from rfl, show List.range 3 = [0, 1, 2] from rfl, nmL, mvF, ndB, ixOf, rowsOf, hget, rdR, rowS, rowN, rowC] using  hfin)
      · (try simp only [hj, push_cast, simprocAttr])
        refine at_b (fun hj2 => ?_) (fun hj2 => ?_)
        · have w1 := wr ((k : Int) + 1) (by omega)
          have e1 : (k : Int) ≤ l.length := by omega
          have e2 : (k : Int) + 1 ≤ l.length := by omega
          have e3 : k + 1 + (l.length - (k + 1)) = l.length := by omega
          have e4 : (0 : Int) ≤ (k : Int) + 1 := by omega
          (try simp only [hj2, push_cast, simprocAttr])
          refine at_draw rfl (by kernel_rfl) ?_
          have e5 : ((k : Int) + 1).toNat = k + 1 := by omega
          have e6 : ¬ k + 1 = 0 := by omega
          have e7 : k + (l.length - (k + 1)) < 4294967296 := by omega
          have hdl : (l.map cmC).take k ++ (l.map cmC).drop (k + 1) = (l.take k ++ l.drop (k + 1)).map cmC := by rw [List.map_append, List.map_take, List.map_drop]
          have hll : (l.take k ++ l.drop (k + 1)).length = k + (l.length - (k + 1)) := by simp; omega
          have hfin : logD z p 1300 (.o 1 (k + (l.length - (k + 1)))) [rdR z (u + 1 + 1)] [rowC (l.take k ++ l.drop (k + 1))] := ⟨l.take k ++ l.drop (k + 1), ⟨by omega, fun c hc => by
            rcases List.mem_append.1 hc with hc | hc
            · exact hl.p c (List.mem_of_mem_take hc)
            · exact hl.p c (List.mem_of_mem_drop hc)⟩, by rw [hll], ⟨_, rfl, by omega, by omega⟩, rfl⟩
          have hrc : (rdR z (u + 1 + 1)).cl = true := rfl
          have hdn : (List.drop (k + 1) (List.map cmC l)).length = l.length - (k + 1) := by simp
          (try simp only [w1, e1, e2, e3, e4, e5, e6, effD_app2, hrc, hdn, push_cast, simprocAttr])
          refine at_chkD (by omega) ?_
          refine at_done (by kernel_rfl) (by kernel_rfl) (go_on ?_)
          (try simp only [hdl, push_cast, simprocAttr])
          (refine at_retL ?_; simp only [Tryz.results126, retL, push_cast, simprocAttr]; simpa [show List.range 1 = [0] from rfl, show List.range 2 = [0, 1] from rfl, show List.range 3 = [0, 1, 2] from rfl, nmL, mvF, ndB, ixOf, rowsOf, hget, rdR, rowS, rowN, rowC] using  hfin)
        · (try simp only [hj2, push_cast, simprocAttr])
          refine at_b (fun hj3 => ?_) (fun hj3 => ?_)
          · have hfin : logD z p 1300 (.o 1 (l.length + 1)) [rdR z (u + 1 + 1)] [rowC (l ++ [x])] := ⟨l ++ [x], ⟨by simp; omega, fun c hc => by
              rcases List.mem_append.1 hc with hc | hc
              · exact hl.p c hc
              · simp only [List.mem_singleton] at hc
                subst hc
                exact hxp⟩, by simp, ⟨_, rfl, by omega, by omega⟩, rfl⟩
            have happ : l.map cmC ++ [[sA x.p, iA x.a.k, iA x.a.v, iA x.b.k, iA x.b.v]] = (l ++ [x]).map cmC := by rw [List.map_append]; rfl
            (try simp only [hj3, i1, i2, push_cast, simprocAttr])
            refine at_chk (by omega) ?_
            (try simp only [happ, push_cast, simprocAttr])
            (refine at_retL ?_; simp only [Tryz.results126, retL, push_cast, simprocAttr]; simpa [show List.range 1 = [0] from rfl, show List.range 2 = [0, 1] from rfl, show List.range 3 = [0, 1, 2] from rfl, nmL, mvF, ndB, ixOf, rowsOf, hget, rdR, rowS, rowN, rowC] using  hfin)
          · (try simp only [hj3, push_cast, simprocAttr])
            refine at_b (fun hj4 => ?_) (fun hj4 => ?_)
            · (try simp only [hj4, push_cast, simprocAttr])
              (try simp only [push_cast, simprocAttr]); refine call_lend [500000, 58] none (lr := [rdR z (u + 1 + 1), rowS [[], [47], [47, 120]]]) (by simp [ndB]) (by first | rfl | simp [rowsOf, hget, rdR, rowS, rowN, rowC, sC, ndC, cmC]) (by simp [idsL, idsA]) (by simp [mvN]) (by simpa [rnA, ixOf] using of_pcl z (u + 1 + 1) [[], [47], [47, 120]] (hr.le (by omega)) (by simp) (by simp)) ?_
              rintro rv lr' rows ⟨s, hs, rfl, rfl, rfl⟩
              have hs2 : s.length ≤ 10 := by
                simp only [List.mem_cons, List.not_mem_nil, or_false] at hs
                rcases hs with rfl | rfl | rfl <;> simp
              have hset : (l.map cmC).set k [sA s, iA x.a.k, iA x.a.v, iA x.b.k, iA x.b.v] = (l.set k ⟨s, x.a, x.b⟩).map cmC := by rw [List.map_set]; rfl
              have hfin : logD z p 1300 (.o 1 l.length) [rdR z (u + 1 + 1 + 1)] [rowC (l.set k ⟨s, x.a, x.b⟩)] := ⟨l.set k ⟨s, x.a, x.b⟩, hl.set k _ hs2, by simp, ⟨_, rfl, by omega, by omega⟩, rfl⟩
              (refine ⟨by simp [shB, mvF, rdR, rowS, rowN, rowC], by simp [frB, baseOf], go_on ?_⟩; simp only [i1, i2, hset, killA, killH, killRow, push_cast, simprocAttr])
              (refine at_retL ?_; simp only [Tryz.results126, retL, push_cast, simprocAttr]; simpa [show List.range 1 = [0] from rfl, show List.range 2 = [0, 1] from rfl, show List.range 3 = [0, 1, 2] from rfl, nmL, mvF, ndB, ixOf, rowsOf, hget, rdR, rowS, rowN, rowC] using  hfin)
            · have hfin : logD z p 1300 (.o 1 l.length) [rdR z (u + 1 + 1)] [rowC l] := ⟨l, hl, rfl, ⟨_, rfl, by omega, by omega⟩, rfl⟩
              (try simp only [hj4, push_cast, simprocAttr])
              (refine at_retL ?_; simp only [Tryz.results126, retL, push_cast, simprocAttr]; simpa [show List.range 1 = [0] from rfl, show List.range 2 = [0, 1] from rfl, show List.range 3 = [0, 1, 2] from rfl, nmL, mvF, ndB, ixOf, rowsOf, hget, rdR, rowS, rowN, rowC] using  hfin)
    · have hfin : logD z p 1300 (.o 1 l.length) [rdR z u] [rowC l] := ⟨l, hl, rfl, ⟨_, rfl, by omega, by omega⟩, rfl⟩
      (try simp only [h0, push_cast, simprocAttr])
      (refine at_retL ?_; simp only [Tryz.results126, retL, push_cast, simprocAttr]; simpa [show List.range 1 = [0] from rfl, show List.range 2 = [0, 1] from rfl, show List.range 3 = [0, 1, 2] from rfl, nmL, mvF, ndB, ixOf, rowsOf, hget, rdR, rowS, rowN, rowC] using  hfin)
end Go.Proofs.YtpanjecgbnomhaaGreatDoor
/-
  Walks: the draws: a side.
-/
namespace Go.Proofs.YtpanjecgbnomhaaGreatDoor
open Go Go.RowKit Go.Proofs
structure StS (s : St) : Prop where
  b : tV s.base = true
  l : LogS s.log
def siteD (z : List Int) (p c : Nat) (rv : AV) (lr' rows : List Row) : Prop := ∃ s : St, StS s ∧ rv = stA' s ∧ RdD z p c lr' ∧ rows = []
attribute [local irreducible] RWp AW run kPe pe Kt effA gd gu br retR RDp runD kPeD brW gW effD
set_option maxRecDepth 100000
theorem l92Site_pcl (z : List Int) (p : Nat) (hr : RdOk z (p + 1800)) : PCL Tryz.prog 79 [rdR z p] (mvF none) [.p 0 0 0] (siteD z p 1800) := by
  refine pcl_enter Tryz.func79 rfl rfl (by simp) fun w0 fb loc => go_on ?_; simp only [Tryz.ntmps79, hpL, nmL, mvF, renL, decide_true, decide_false, push_cast, simprocAttr]
  (try simp only [push_cast, simprocAttr]); refine call_lend [500000] none (lr := [rdR z p]) (by simp [ndB]) (by first | rfl | simp [rowsOf, hget, rdR, rowS, rowN, rowC, sC, ndC, cmC]) (by simp [idsL, idsA]) (by simp [mvN]) (by simpa [rnA, ixOf] using pick_pcl z p 10 (hr.le (by omega)) (by omega)) ?_
  rintro rv lr' rows ⟨m, rfl, hm, rfl, rfl⟩
  have hm := hm (by omega)
  have w1 := wr (4 + (m : Int)) (by omega)
  (refine ⟨by simp [shB, mvF, rdR, rowS, rowN, rowC], by simp [frB, baseOf], go_on ?_⟩; simp only [w1, killA, killH, killRow, push_cast, simprocAttr])
  (try simp only [push_cast, simprocAttr]); refine call_lend [500000] none (lr := [rdR z (p + 1)]) (by simp [ndB]) (by first | rfl | simp [rowsOf, hget, rdR, rowS, rowN, rowC, sC, ndC, cmC]) (by simp [idsL, idsA]) (by simp [mvN]) (by simpa [rnA, ixOf] using l91Tree_pcl z (p + 1) (4 + m) (by omega) (hr.le (by omega))) ?_
  rintro rv lr' rows ⟨t, ht, rfl, ⟨u, rfl, g1, g2⟩, rfl⟩
  have hu : u ≤ p + 169 := by omega
  (refine ⟨by simp [shB, mvF, rdR, rowS, rowN, rowC], by simp [frB, baseOf], go_on ?_⟩; simp only [killA, killH, killRow, push_cast, simprocAttr])
  (try simp only [push_cast, simprocAttr]); refine call_lend [500000] none (lr := [rdR z u]) (by simp [ndB]) (by first | rfl | simp [rowsOf, hget, rdR, rowS, rowN, rowC, sC, ndC, cmC]) (by simp [idsL, idsA]) (by simp [mvN]) (by simpa [rnA, ixOf] using pick_pcl z u 4 (hr.le (by omega)) (by omega)) ?_
  rintro rv lr' rows ⟨e, rfl, _, rfl, rfl⟩
  (refine ⟨by simp [shB, mvF, rdR, rowS, rowN, rowC], by simp [frB, baseOf], go_on ?_⟩; simp only [killA, killH, killRow, push_cast, simprocAttr])
  (try simp only [push_cast, simprocAttr]); refine call_lend [500000] none (lr := [rdR z (u + 1)]) (by simp [ndB]) (by first | rfl | simp [rowsOf, hget, rdR, rowS, rowN, rowC, sC, ndC, cmC]) (by simp [idsL, idsA]) (by simp [mvN]) (by simpa [rnA, ixOf] using pick_pcl z (u + 1) 10 (hr.le (by omega)) (by omega)) ?_
  rintro rv lr' rows ⟨n, rfl, hn, rfl, rfl⟩
  have hn := hn (by omega)
  (refine ⟨by simp [shB, mvF, rdR, rowS, rowN, rowC], by simp [frB, baseOf], go_on ?_⟩; simp only [killA, killH, killRow, push_cast, simprocAttr])
  (try simp only [push_cast, simprocAttr]); refine call_lend [500000] none (lr := [rdR z (u + 1 + 1)]) (by simp [ndB]) (by first | rfl | simp [rowsOf, hget, rdR, rowS, rowN, rowC, sC, ndC, cmC]) (by simp [idsL, idsA]) (by simp [mvN]) (by simpa [rnA, ixOf] using l91Log_pcl z (u + 1 + 1) n t ht (by omega) (hr.le (by omega))) ?_
  rintro rv lr' rows ⟨l, hl, hl20, rfl, ⟨v, rfl, g3, g4⟩, rfl⟩
  have hv : v ≤ p + 360 := by omega
  (refine ⟨by simp [shB, mvF, rdR, rowS, rowN, rowC], by simp [frB, baseOf], ?_⟩; simp only [killA, killH, killRow, push_cast, simprocAttr]); (refine at_frzS [18000] (by refine wk_frz ?_ ?_ ?_ ?_ <;> simp [rdR, rowC, frzS, frzT, hasN, delL, hdel, leF, leHF, frzB, idsL, idsA, idsR, inH, hget, sameRow, viewN, tk]) ?_; simp only [frzS, frzT, hasN, delL, hdel, idsA, idsL, viewN, hget, List.map_cons, List.map_nil, List.all_cons, List.all_nil, List.append_nil, List.drop, List.getElem?_cons_zero, List.getElem?_cons_succ, Bool.not_false, Bool.not_true, Bool.and_true, if_true, if_false, simprocAttr]); (refine go_on ?_; (try simp only [push_cast, simprocAttr]))
  (try simp only [push_cast, simprocAttr]); refine call_lend [500000] none (lr := [rdR z v]) (by simp [ndB]) (by first | rfl | simp [rowsOf, hget, rdR, rowS, rowN, rowC, sC, ndC, cmC]) (by simp [idsL, idsA]) (by simp [mvN]) (by simpa [rnA, ixOf] using pick_pcl z v 24 (hr.le (by omega)) (by omega)) ?_
  rintro rv lr' rows ⟨k, rfl, _, rfl, rfl⟩
  (refine ⟨by simp [shB, mvF, rdR, rowS, rowN, rowC], by simp [frB, baseOf], go_on ?_⟩; simp only [killA, killH, killRow, push_cast, simprocAttr])
  refine at_b (fun hb => ?_) (fun hb => ?_)
  · (try simp only [hb, push_cast, simprocAttr])
    (try simp only [push_cast, simprocAttr]); refine call_lend [500000] none (lr := [rdR z (v + 1)]) (by simp [ndB]) (by first | rfl | simp [rowsOf, hget, rdR, rowS, rowN, rowC, sC, ndC, cmC]) (by simp [idsL, idsA]) (by simp [mvN]) (by simpa [rnA, ixOf] using pick_pcl z (v + 1) 3 (hr.le (by omega)) (by omega)) ?_
    rintro rv lr' rows ⟨j, rfl, hj, rfl, rfl⟩
    have hj := hj (by omega)
    have hfin : ∀ x : Int, siteD z p 1800 (.agg [iA x, ndA t, cmA l]) [rdR z (v + 1 + 1)] [] := fun x => ⟨⟨x, t, l⟩, ⟨ht, hl⟩, rfl, ⟨_, rfl, by omega, by omega⟩, rfl⟩
    obtain rfl | rfl | rfl : j = 0 ∨ j = 1 ∨ j = 2 := by omega
    · (refine ⟨by simp [shB, mvF, rdR, rowS, rowN, rowC], by simp [frB, baseOf], go_on ?_⟩; simp only [killA, killH, killRow, push_cast, simprocAttr])
      (refine at_retL ?_; simp only [Tryz.results79, retL, push_cast, simprocAttr]; simpa [show List.range 1 = [0] from rfl, show List.range 2 = [0, 1] from rfl, show List.range 3 = [0, 1, 2] from rfl, nmL, mvF, ndB, ixOf, rowsOf, hget, rdR, rowS, rowN, rowC] using  hfin (-1))
    · (refine ⟨by simp [shB, mvF, rdR, rowS, rowN, rowC], by simp [frB, baseOf], go_on ?_⟩; simp only [show toIx 1 3 = some 1 from rfl, killA, killH, killRow, push_cast, simprocAttr])
      (refine at_retL ?_; simp only [Tryz.results79, retL, push_cast, simprocAttr]; simpa [show List.range 1 = [0] from rfl, show List.range 2 = [0, 1] from rfl, show List.range 3 = [0, 1, 2] from rfl, nmL, mvF, ndB, ixOf, rowsOf, hget, rdR, rowS, rowN, rowC] using  hfin 99)
    · (refine ⟨by simp [shB, mvF, rdR, rowS, rowN, rowC], by simp [frB, baseOf], go_on ?_⟩; simp only [show toIx 2 3 = some 2 from rfl, killA, killH, killRow, push_cast, simprocAttr])
      (refine at_retL ?_; simp only [Tryz.results79, retL, push_cast, simprocAttr]; simpa [show List.range 1 = [0] from rfl, show List.range 2 = [0, 1] from rfl, show List.range 3 = [0, 1, 2] from rfl, nmL, mvF, ndB, ixOf, rowsOf, hget, rdR, rowS, rowN, rowC] using  hfin 100)
  · (try simp only [hb, push_cast, simprocAttr])
    refine at_b (fun hb2 => ?_) (fun hb2 => ?_)
    · (try simp only [hb2, push_cast, simprocAttr])
      (try simp only [push_cast, simprocAttr]); refine call_lend [500000] none (lr := [rdR z (v + 1)]) (by simp [ndB]) (by first | rfl | simp [rowsOf, hget, rdR, rowS, rowN, rowC, sC, ndC, cmC]) (by simp [idsL, idsA]) (by simp [mvN]) (by simpa [rnA, ixOf] using l91Broken_pcl z (v + 1) t ht (hr.le (by omega))) ?_
      rintro rv lr' rows ⟨l2, hl2, rfl, ⟨v2, rfl, g5, g6⟩, rfl⟩
      have hfin : siteD z p 1800 (.agg [iA e, ndA t, cmA l2]) [rdR z v2] [] := ⟨⟨e, t, l2⟩, ⟨ht, hl2⟩, rfl, ⟨_, rfl, by omega, by omega⟩, rfl⟩
      (refine ⟨by simp [shB, mvF, rdR, rowS, rowN, rowC], by simp [frB, baseOf], ?_⟩; simp only [killA, killH, killRow, push_cast, simprocAttr]); (refine at_frzS [34000] (by refine wk_frz ?_ ?_ ?_ ?_ <;> simp [rdR, rowC, frzS, frzT, hasN, delL, hdel, leF, leHF, frzB, idsL, idsA, idsR, inH, hget, sameRow, viewN, tk]) ?_; simp only [frzS, frzT, hasN, delL, hdel, idsA, idsL, viewN, hget, List.map_cons, List.map_nil, List.all_cons, List.all_nil, List.append_nil, List.drop, List.getElem?_cons_zero, List.getElem?_cons_succ, Bool.not_false, Bool.not_true, Bool.and_true, if_true, if_false, simprocAttr]); (refine go_on ?_; (try simp only [push_cast, simprocAttr]))
      (refine at_retL ?_; simp only [Tryz.results79, retL, push_cast, simprocAttr]; simpa [show List.range 1 = [0] from rfl, show List.range 2 = [0, 1] from rfl, show List.range 3 = [0, 1, 2] from rfl, nmL, mvF, ndB, ixOf, rowsOf, hget, rdR, rowS, rowN, rowC] using  hfin)
    · (try simp only [hb2, push_cast, simprocAttr])
      refine at_b (fun hb3 => ?_) (fun hb3 => ?_)
      · (try simp only [hb3, push_cast, simprocAttr])
        (try simp only [push_cast, simprocAttr]); refine call_lend [500000] none (lr := [rdR z (v + 1)]) (by simp [ndB]) (by first | rfl | simp [rowsOf, hget, rdR, rowS, rowN, rowC, sC, ndC, cmC]) (by simp [idsL, idsA]) (by simp [mvN]) (by simpa [rnA, ixOf] using l91Log_pcl z (v + 1) 60 t ht (by omega) (hr.le (by omega))) ?_
        rintro rv lr' rows ⟨l2, hl2, _, rfl, ⟨v2, rfl, g5, g6⟩, rfl⟩
        have hfin : siteD z p 1800 (.agg [iA e, ndA t, cmA l2]) [rdR z v2] [] := ⟨⟨e, t, l2⟩, ⟨ht, hl2⟩, rfl, ⟨_, rfl, by omega, by omega⟩, rfl⟩
        (refine ⟨by simp [shB, mvF, rdR, rowS, rowN, rowC], by simp [frB, baseOf], ?_⟩; simp only [killA, killH, killRow, push_cast, simprocAttr]); (refine at_frzS [40000] (by refine wk_frz ?_ ?_ ?_ ?_ <;> simp [rdR, rowC, frzS, frzT, hasN, delL, hdel, leF, leHF, frzB, idsL, idsA, idsR, inH, hget, sameRow, viewN, tk]) ?_; simp only [frzS, frzT, hasN, delL, hdel, idsA, idsL, viewN, hget, List.map_cons, List.map_nil, List.all_cons, List.all_nil, List.append_nil, List.drop, List.getElem?_cons_zero, List.getElem?_cons_succ, Bool.not_false, Bool.not_true, Bool.and_true, if_true, if_false, simprocAttr]); (refine go_on ?_; (try simp only [push_cast, simprocAttr]))
        (refine at_retL ?_; simp only [Tryz.results79, retL, push_cast, simprocAttr]; simpa [show List.range 1 = [0] from rfl, show List.range 2 = [0, 1] from rfl, show List.range 3 = [0, 1, 2] from rfl, nmL, mvF, ndB, ixOf, rowsOf, hget, rdR, rowS, rowN, rowC] using  hfin)
      · have hfin : siteD z p 1800 (.agg [iA e, ndA t, cmA l]) [rdR z (v + 1)] [] := ⟨⟨e, t, l⟩, ⟨ht, hl⟩, rfl, ⟨_, rfl, by omega, by omega⟩, rfl⟩
        (try simp only [hb3, push_cast, simprocAttr])
        (refine at_retL ?_; simp only [Tryz.results79, retL, push_cast, simprocAttr]; simpa [show List.range 1 = [0] from rfl, show List.range 2 = [0, 1] from rfl, show List.range 3 = [0, 1, 2] from rfl, nmL, mvF, ndB, ixOf, rowsOf, hget, rdR, rowS, rowN, rowC] using  hfin)
end Go.Proofs.YtpanjecgbnomhaaGreatDoor
/-
  Walks: the sides that the laws draw.
-/
namespace Go.Proofs.YtpanjecgbnomhaaGreatDoor
open Go Go.RowKit Go.Proofs
def siteX (rv : AV) (rows : List Row) : Prop := ∃ s : St, StS s ∧ rv = stA' s ∧ rows = []
theorem BytesOk.tk {z : List Int} (h : BytesOk z) : BytesOk (z.take 2000) := ⟨by have := h.len; rw [List.length_take]; omega, fun n hn => h.by_ n (List.mem_of_mem_take hn)⟩
end Go.Proofs.YtpanjecgbnomhaaGreatDoor
/-
  The abstract machine: a region that draws its order, one call within that borrows rows.
-/
namespace Go.Proofs.YtpanjecgbnomhaaGreatDoor
open Go Go.RowKit

section
variable {P : Program}
theorem fo_none {V : Nat → Bool} : ∀ (l : List E) (k : Nat) (s : AS), (∀ j, k ≤ j → j < k + l.length → V j = false) → fo V k l s = s
  | [], _, _, _ => rfl
  | e :: l, k, s, h => by
    simp only [fo]
    rw [if_neg (by rw [h k (Nat.le_refl _) (by simp)]; simp)]
    exact fo_none l (k + 1) s fun j h1 h2 => h j (by omega) (by simp only [List.length_cons]; omega)
theorem fo_append {V : Nat → Bool} : ∀ (l l' : List E) (k : Nat) (s : AS), fo V k (l ++ l') s = fo V (k + l.length) l' (fo V k l s)
  | [], l', k, s => by simp [fo]
  | e :: l, l', k, s => by
    simp only [List.cons_append, fo, List.length_cons]
    rw [fo_append l l' (k + 1), show k + 1 + l.length = k + (l.length + 1) from by omega]
theorem anc_facts {ops : List Oper} (hbk : bkB ops 0 = true) : (∀ i j, Anc ops i j → j < i) ∧ (∀ (i : Nat) o, ops[i]? = some o → ∀ j, j ∈ waitsFor ops i → ∃ e ∈ o.after, Region.binds .any e = true ∧ e.on = j) := by
  have hback := bkB_spec ops 0 hbk
  have hwait : ∀ (i : Nat) o, ops[i]? = some o → ∀ j, j ∈ waitsFor ops i → ∃ e ∈ o.after, Region.binds .any e = true ∧ e.on = j := fun i o ho j hj => (waits_mem ho j).1 hj
  refine ⟨fun i j hA => ?_, hwait⟩
  have h1 : ∀ i k, k ∈ waitsFor ops i → k < i := fun i k hk => by
    unfold waitsFor at hk
    cases ho : ops[i]? with
    | none => rw [ho] at hk; cases hk
    | some o =>
      obtain ⟨e, he, hbe, rfl⟩ := hwait i o ho k (by unfold waitsFor; rw [ho]; rw [ho] at hk; exact hk)
      have := hback i o ho e he hbe
      omega
  induction hA with
  | dir h => exact h1 _ _ h
  | tr h _ ih => have := h1 _ _ h; omega
/-- An event that is to come: what it reads is as the text says, and it may stand in its place. -/
theorem hop_law {ops : List Oper} {s : AS} {evs : List E} (hlen : evs.length ≤ ops.length) (hbk : bkB ops 0 = true) (hpr : prB evs (mks ops []) evs 0 = true) (hkc : kcB ops s evs = true)
    (listed : Nat → Bool) (hclo : ∀ i j, listed i = true → Anc ops i j → listed j = true) {i : Nat} {e : E} (hei : evs[i]? = some e) (hli' : listed i = false) (hanc : ∀ j, Anc ops i j → listed j = true)
    (hvals : e.vals = e.rd.map (getA (fo (fun j => decide (j < i)) 0 evs s).t)) {V' : Nat → Bool} (hset : ∀ j, V' j = if j = i then true else listed j) :
    Sees e (fo (fun j => decide (j < i)) 0 evs s) (fo listed 0 evs s) ∧ Eqv (fo V' 0 evs s) (e.ap (fo listed 0 evs s)) := by
  obtain ⟨hlt, hwait⟩ := anc_facts hbk
  obtain ⟨hml, hmk⟩ := mks_spec ops ops [] (fun i o h => by simpa using h) (fun i k h => by simp at h)
  obtain ⟨evs', hsub, hfo, hcov, hkill⟩ := kc_cut hkc
  -- pairs that lie apart
  have hpair : ∀ (i j : Nat) e f, i < j → evs[i]? = some e → evs[j]? = some f → ¬ Anc ops j i → okE e f = true ∧ siB e f = true ∧ siB f e = true := fun i j e f hij hi hj hna => by
    have hjl : j < (mks ops []).length := by
      have := lt_of_some hj
      rw [hml, List.length_nil, Nat.zero_add]; omega
    rcases prB_spec evs (mks ops []) evs 0 hpr j i _ f e (List.getElem?_eq_getElem hjl) hj (by omega) hi with h1 | h1
    · exact absurd (hmk j i (by rw [List.getD_eq_getElem?_getD, List.getElem?_eq_getElem hjl]; exact h1)) hna
    · exact h1
  classical
  have hsees : Sees e (fo (fun j => decide (j < i)) 0 evs s) (fo listed 0 evs s) := by
    let A : Nat → Bool := fun j => decide (Anc ops i j)
    have hsplit : ∀ V : Nat → Bool, (∀ j, A j = true → V j = true) → Eqv (fo V 0 evs s) (fo (fun j => V j && !A j) 0 evs (fo A 0 evs s)) := fun V hV =>
      fo_split evs 0 s hV fun p q ep eq hp hq hpq _ h2 h3 => by
        simp only [Nat.zero_add, A, decide_eq_true_eq, decide_eq_false_iff_not] at h2 h3
        exact (hpair p q ep eq hpq hp hq fun hA => h2 (h3.trans hA)).1
    have hA0 : A (evs.length - 1) = false := by
      have hie : i < evs.length := lt_of_some hei
      refine decide_eq_false fun hA => ?_
      have := hlt i _ hA
      omega
    have hi0 : (fun j => decide (j < i) && !A j) (evs.length - 1) = false := by
      have hie : i < evs.length := lt_of_some hei
      simp only [Bool.and_eq_false_iff, decide_eq_false_iff_not]
      exact .inl (by omega)
    have hl0 : evs' = evs ∨ (fun j => listed j && !A j) (evs.length - 1) = false := by
      refine hcov.imp (fun h => h) fun hc => ?_
      have hie : i < evs.length := lt_of_some hei
      simp only [Bool.and_eq_false_iff]
      refine .inl ?_
      rcases Nat.lt_or_ge i (evs.length - 1) with h1 | h1
      · rw [← Bool.not_eq_true]
        intro hL
        have := hclo _ i hL (hc i h1)
        rw [hli'] at this
        cases this
      · rw [show evs.length - 1 = i from by omega]; exact hli'
    have hkA : (∀ f ∈ evs', f.kill = none) ∨ (clH (fo A 0 evs' s).h ∧ ∀ f ∈ evs', f.add.all (·.2.cl) = true) := by
      rcases hkill with h | ⟨h1, h2⟩
      · exact .inl h
      · refine .inr ⟨?_, h2⟩
        have : ∀ (l : List E) (k : Nat) (s : AS), clH s.h → (∀ f ∈ l, f.add.all (·.2.cl) = true) → clH (fo A k l s).h := by
          intro l
          induction l with
          | nil => intro k s h _; exact h
          | cons f l ih =>
            intro k s h hf
            simp only [fo]
            refine ih (k + 1) _ ?_ fun g hg => hf g (List.mem_cons_of_mem _ hg)
            split
            · exact clH_ap h (hf f List.mem_cons_self)
            · exact h
        exact this evs' 0 s h1 h2
    have e1 := hsplit (fun j => decide (j < i)) fun j hj => by simp only [A, decide_eq_true_eq] at hj ⊢; exact hlt i j hj
    have e2 := hsplit listed fun j hj => by simp only [A, decide_eq_true_eq] at hj; exact hanc j hj
    have s1 : Sees e (fo A 0 evs s) (fo (fun j => decide (j < i) && !A j) 0 evs (fo A 0 evs s)) := by
      rw [hfo (fun j => decide (j < i) && !A j) _ (.inr hi0), hfo A s (.inr hA0)]
      refine sees_bwd evs' 0 _ (by rw [← hfo A s (.inr hA0), ← hfo (fun j => decide (j < i) && !A j) _ (.inr hi0), ← e1.1]; exact hvals) (fun j f hf hj => ?_) hkA
      replace hf := hsub j f hf
      simp only [Nat.zero_add, A, Bool.and_eq_true, decide_eq_true_eq, Bool.not_eq_true', decide_eq_false_iff_not] at hj
      exact (hpair j i f e hj.1 hf hei hj.2).2.1
    have hvA : e.vals = e.rd.map (getA (fo A 0 evs s).t) := by
      rw [hvals, e1.1]
      exact List.map_congr_left fun q hq => (s1.1 q hq).symm
    have s2 : Sees e (fo A 0 evs s) (fo (fun j => listed j && !A j) 0 evs (fo A 0 evs s)) := by
      rw [hfo (fun j => listed j && !A j) _ hl0, hfo A s (.inr hA0)]
      refine sees_fwd evs' 0 _ (by rw [← hfo A s (.inr hA0)]; exact hvA) (fun j f hf hj => ?_) hkA
      replace hf := hsub j f hf
      simp only [Nat.zero_add, A, Bool.and_eq_true, Bool.not_eq_true', decide_eq_false_iff_not] at hj
      rcases Nat.lt_trichotomy j i with h1 | h1 | h1
      · exact (hpair j i f e h1 hf hei hj.2).2.1
      · subst h1; rw [hli'] at hj; cases hj.1
      · exact (hpair i j e f h1 hei hf fun hA => by have := hclo j i hj.1 hA; rw [hli'] at this; cases this).2.2
    exact ⟨fun q hq => by rw [e1.1, e2.1]; exact (s1.1 q hq).symm.trans (s2.1 q hq), fun r hr => by rw [e1.2, e2.2]; exact (s1.2 r hr).symm.trans (s2.2 r hr)⟩
  refine ⟨hsees, fo_ins evs 0 s (Nat.zero_le _) (by simpa using hei) hli' hset fun j f hf hj hsel => ?_⟩
  simp only [Nat.zero_add] at hj hsel
  exact (hpair i j e f hj hei hf fun hA => by have := hclo j i hsel hA; rw [hli'] at this; cases this).1

/-- What stands behind the call waits for it. -/
def afB (c : Nat) : List Nat → Nat → Bool
  | [], _ => true
  | m :: l, j => (decide (j ≤ c) || m.testBit c) && afB c l (j + 1)
theorem afB_spec (c : Nat) : ∀ (l : List Nat) (j : Nat), afB c l j = true → ∀ (q : Nat) m, l[q]? = some m → c < j + q → m.testBit c = true
  | [], _, _, q, m, h, _ => by simp at h
  | m0 :: l, j, hb, q, m, h, hc => by
    simp only [afB, Bool.and_eq_true, Bool.or_eq_true, decide_eq_true_eq] at hb
    cases q with
    | zero => simp at h; subst h; exact hb.1.resolve_left (by omega)
    | succ q => exact afB_spec c l (j + 1) hb.2 q m (by simpa using h) (by omega)

variable {w0 : World} {lent : Lent} {Q : Exit → Act → World → Prop}
/-- What such a call asks, and what it gives back. -/
structure LendC (P : Program) (w0 : World) (lent : Lent) (o : SO) (s1 : AS) {X : Type} (ok : X → Prop) (ec : X → E) (e0 : E) : Prop where
  g : o.g = none
  rd : e0.vals = e0.rd.map (getA s1.t)
  same : ∀ x, ok x → (ec x).rd = e0.rd ∧ (ec x).vals = e0.vals
  wp : ∀ s', Sees e0 s1 s' → ∀ loc a w, Rel w0 lent s' loc a w → ∀ (N : Act → World → Prop) (Qx : Exit → Act → World → Prop), (∀ x, ok x → ∀ loc' a' w', Rel w0 lent ((ec x).ap s') loc' a' w' → N a' w') → o.oper.wp P a w N Qx

theorem drawL_sound (hm : P.follows .mixedOrders = true) {id : Nat} {ops : List Oper} {k : List It} {s : AS} (c : Nat) {oc : Oper} (hc : ops[c]? = some oc) (hbk : bkB ops 0 = true) (haf : afB c (mks ops []) 0 = true)
    (h : DP P (fun evs s1 => ∃ (X : Type) (ok : X → Prop) (ec : X → E) (e0 : E), LendC P w0 lent (cmpO ops oc) s1 ok ec e0 ∧ prB (evs ++ [e0]) (mks ops []) (evs ++ [e0]) 0 = true ∧ kcB ops s (evs ++ [e0]) = true ∧
      ∀ x, ok x → DP P (fun evs' s' => prB evs' (mks ops []) evs' 0 = true ∧ kcB ops s evs' = true ∧ AW P w0 lent Q k s') ((ops.drop (c + 1)).map (cmpO ops)) (evs ++ [ec x]) ((ec x).ap s1)) ((ops.take c).map (cmpO ops)) [] s) :
    AW P w0 lent Q (.code (.region id ⟨ops⟩ true) :: k) s := by
  obtain ⟨pre, hlp, hsp, X, ok, ec, e0, hL, hpr0, hkc0, hpost⟩ := DP_ex _ _ _ h
  rw [List.nil_append] at hpr0 hkc0 hpost
  have hcl : c < ops.length := lt_of_some hc
  rw [List.length_map, List.length_take, Nat.min_eq_left (by omega)] at hlp
  obtain ⟨hlt, hwait⟩ := anc_facts hbk
  obtain ⟨hml, hmk⟩ := mks_spec ops ops [] (fun i o h => by simpa using h) (fun i k h => by simp at h)
  have hback := bkB_spec ops 0 hbk
  have hAc : ∀ j, c < j → j < ops.length → Anc ops j c := fun j h1 h2 => by
    have hj : j < (mks ops []).length := by rw [hml]; simpa using h2
    have := afB_spec c _ 0 haf j _ (List.getElem?_eq_getElem hj) (by omega)
    exact hmk j c (by rw [List.getD_eq_getElem?_getD, List.getElem?_eq_getElem hj]; exact this)
  let F : X → List E → Prop := fun x post => ok x ∧ post.length = ops.length - (c + 1) ∧ (∀ (i : Nat) o e, ((ops.drop (c + 1)).map (cmpO ops))[i]? = some o → post[i]? = some e → Sp P (apL (post.take i) ((ec x).ap (apL pre s))) o e) ∧
    prB (pre ++ ec x :: post) (mks ops []) (pre ++ ec x :: post) 0 = true ∧ kcB ops s (pre ++ ec x :: post) = true ∧ AW P w0 lent Q k (apL post ((ec x).ap (apL pre s)))
  have hF : ∀ x, ok x → ∃ post, F x post := fun x hx => by
    obtain ⟨post, g1, g2, g3, g4, g5⟩ := DP_ex _ _ _ (hpost x hx)
    rw [List.append_assoc, List.singleton_append] at g3 g4
    exact ⟨post, hx, by rw [g1, List.length_map, List.length_drop], g2, g3, g4, g5⟩
  have apL_app : ∀ (l l' : List E) (s : AS), apL (l ++ l') s = apL l' (apL l s) := by
    intro l
    induction l with
    | nil => intro l' s; rfl
    | cons e l ih => intro l' s; exact ih l' _
  -- the law of an event of those that the text knows
  have hspE : ∀ x post, F x post → ∀ (i : Nat) o e, i ≠ c → ops[i]? = some o → (pre ++ ec x :: post)[i]? = some e → Sp P (apL ((pre ++ ec x :: post).take i) s) (cmpO ops o) e := fun x post hf i o e hne ho he => by
    rcases Nat.lt_or_ge i c with h1 | h1
    · rw [List.take_append_of_le_length (by omega)]
      rw [List.getElem?_append_left (by omega)] at he
      exact hsp i _ e (by rw [List.getElem?_map, List.getElem?_take, if_pos h1, ho]; rfl) he
    · obtain ⟨q, rfl⟩ : ∃ q, i = c + 1 + q := ⟨i - (c + 1), by omega⟩
      have e1 : (pre ++ ec x :: post).take (c + 1 + q) = pre ++ ec x :: post.take q := by
        rw [List.take_append, List.take_of_length_le (by omega), show c + 1 + q - pre.length = q + 1 from by omega, List.take_succ_cons]
      rw [e1, apL_app]
      rw [List.getElem?_append_right (by omega), show c + 1 + q - pre.length = q + 1 from by omega, List.getElem?_cons_succ] at he
      exact hf.2.2.1 q _ e (by rw [List.getElem?_map, List.getElem?_drop, ho]; rfl) he
  have hlenE : ∀ x post, F x post → (pre ++ ec x :: post).length = ops.length := fun x post hf => by
    rw [List.length_append, List.length_cons, hf.2.1]; omega
  -- before the call: the events are those ahead of it
  have hpre0 : ∀ (V : Nat → Bool) (l : List E), (∀ j, c ≤ j → j < c + l.length → V j = false) → fo V 0 (pre ++ l) s = fo V 0 pre s := fun V l hV => by
    rw [fo_append, fo_none l _ _ fun j h1 h2 => hV j (by omega) (by omega)]
  have hapc : ∀ l : List E, fo (fun j => decide (j < c)) 0 (pre ++ l) s = apL pre s := fun l => by
    have := apL_fo (pre ++ l) 0 c s
    rw [List.take_append_of_le_length (by omega), List.take_of_length_le (by omega), Nat.zero_add] at this
    exact this.symm
  intro loc a w hR
  refine wp_region_any (ops := ops.toArray) hm (wpAny_inv (fun listed a w => (∀ i j, listed.getD i false = true → Anc ops i j → listed.getD j false = true) ∧
      ((listed.getD c false = false ∧ ∃ loc, Rel w0 lent (fo (fun i => listed.getD i false) 0 (pre ++ [e0]) s) loc a w) ∨
       (listed.getD c false = true ∧ ∃ x post, F x post ∧ ∃ loc, Rel w0 lent (fo (fun i => listed.getD i false) 0 (pre ++ ec x :: post) s) loc a w))) (fun i o ho e he hbe => ?_)
    (fun listed a w i o hsz hJ ho hli hpre => ?_) (fun listed a w hsz hall hJ => ?_) _ _ _ _ (by simp) (by simp) ⟨fun i j hi _ => ?_, .inl ⟨?_, loc, ?_⟩⟩)
  · have := hback i o (by simpa using ho) e he hbe
    omega
  · obtain ⟨hclo, hJ⟩ := hJ
    have ho' : ops[i]? = some o := by simpa using ho
    have hil : i < ops.length := lt_of_some ho'
    have hil2 : i < listed.size := by rw [hsz]; simpa using hil
    have hli' : listed.getD i false = false := by
      rw [Array.getD_eq_getD_getElem?] at hli ⊢
      rw [Array.getElem?_eq_getElem hil2] at hli ⊢
      exact hli
    have hset : ∀ j, (listed.setIfInBounds i true).getD j false = if j = i then true else listed.getD j false := fun j => by
      rw [Array.getD_eq_getD_getElem?, Array.getElem?_setIfInBounds]
      by_cases hj : i = j
      · subst hj; simp [hil2]
      · rw [if_neg hj, if_neg (fun e => hj e.symm), Array.getD_eq_getD_getElem?]
    have hanc : ∀ j, Anc ops i j → listed.getD j false = true := fun j hA => by
      cases hA with
      | dir h => obtain ⟨e', he', hb, rfl⟩ := hwait i o ho' j h; exact hpre e' he' hb
      | tr h h2 => obtain ⟨e', he', hb, e2⟩ := hwait i o ho' _ h; exact hclo _ j (by rw [← e2]; exact hpre e' he' hb) h2
    have hclo' : ∀ p q, (listed.setIfInBounds i true).getD p false = true → Anc ops p q → (listed.setIfInBounds i true).getD q false = true := fun p q hp hA => by
      rw [hset] at hp ⊢
      split
      · rfl
      · split at hp
        · rename_i e'; subst e'; exact hanc q hA
        · exact hclo p q hp hA
    -- one operation that the text knows
    have step : ∀ {s' : AS} {e : E} {loc : Loc} {R : Act → World → Prop}, Rel w0 lent s' loc a w → Sp P s' (cmpO ops o) e → (∀ loc' a' w', Rel w0 lent (e.ap s') loc' a' w' → R a' w') → wpOp P ops.toArray (fun e a w => Kt P w0 lent Q k e a w) i R a w := fun {s' e loc R} hR hSp hN => by
      unfold wpOp
      rw [ho]
      simp only
      cases hSp with
      | run hg hex =>
        rw [if_pos (wanted_gV hR ops o true hg)]
        left
        rw [← oper_wp o ops]
        exact hex.sound hR fun loc' a' w' hR' => hN loc' a' w' hR'
      | skip hg =>
        rw [if_neg (by rw [wanted_gV hR ops o false hg]; simp)]
        exact hN loc _ _ (hR.put o.dst (u := undef) (.cl .v))
    rcases hJ with ⟨hcf, loc, hR⟩ | ⟨hct, x, post, hf, loc, hR⟩
    · have hic : i ≤ c := by
        rcases Nat.lt_or_ge c i with h1 | h1
        · have := hanc c (hAc i h1 hil)
          rw [hcf] at this; cases this
        · exact h1
      have hl0 : (pre ++ [e0]).length ≤ ops.length := by simp only [List.length_append, List.length_cons, List.length_nil, hlp]; omega
      rcases Nat.lt_or_eq_of_le hic with hic | hic
      · have hei : (pre ++ [e0])[i]? = some (pre[i]'(by omega)) := by rw [List.getElem?_append_left (by omega)]; exact List.getElem?_eq_getElem (by omega)
        generalize pre[i]'(by omega) = e at hei
        have hSp : Sp P (apL ((pre ++ [e0]).take i) s) (cmpO ops o) e := by
          rw [List.take_append_of_le_length (by omega)]
          rw [List.getElem?_append_left (by omega)] at hei
          exact hsp i _ e (by rw [List.getElem?_map, List.getElem?_take, if_pos hic, ho']; rfl) hei
        rw [apL_fo (pre ++ [e0]) 0 i s, Nat.zero_add] at hSp
        obtain ⟨hs, hi⟩ := hop_law hl0 hbk hpr0 hkc0 (fun j => listed.getD j false) hclo hei hli' hanc hSp.rv.2 hset
        exact step hR (hSp.frame hs) fun loc' a' w' hR' => ⟨hclo', .inl ⟨by rw [hset, if_neg (by omega)]; exact hcf, loc', hR'.eqv hi.symm⟩⟩
      · subst hic
        have hoc : o = oc := by rw [ho'] at hc; exact Option.some.inj hc
        subst hoc
        have hei : (pre ++ [e0])[i]? = some e0 := by rw [List.getElem?_append_right (by omega), hlp, Nat.sub_self]; rfl
        have hv0 : e0.vals = e0.rd.map (getA (fo (fun j => decide (j < i)) 0 (pre ++ [e0]) s).t) := by rw [hapc]; exact hL.rd
        obtain ⟨hs, _⟩ := hop_law hl0 hbk hpr0 hkc0 (fun j => listed.getD j false) hclo hei hli' hanc hv0 hset
        rw [hapc] at hs
        have hfalse : ∀ j, i ≤ j → j < ops.length → listed.getD j false = false := fun j h1 h2 => by
          cases hj : listed.getD j false with
          | false => rfl
          | true =>
            rcases Nat.lt_or_eq_of_le h1 with h3 | h3
            · have := hclo j i hj (hAc j h3 h2); rw [hcf] at this; cases this
            · subst h3; rw [hcf] at hj; cases hj
        unfold wpOp
        rw [ho]
        simp only
        rw [if_pos (wanted_gV hR ops o true (by rw [hL.g]; rfl))]
        left
        rw [← oper_wp o ops]
        refine hL.wp _ hs loc a w hR _ _ fun x hx loc' a' w' hR' => ?_
        obtain ⟨post, hf⟩ := hF x hx
        refine ⟨hclo', .inr ⟨by rw [hset, if_pos rfl], x, post, hf, loc', hR'.eqv ?_⟩⟩
        have hei' : (pre ++ ec x :: post)[i]? = some (ec x) := by rw [List.getElem?_append_right (by omega), hlp, Nat.sub_self]; rfl
        have hlE := hlenE x post hf
        have hv : (ec x).vals = (ec x).rd.map (getA (fo (fun j => decide (j < i)) 0 (pre ++ ec x :: post) s).t) := by rw [hapc, (hL.same x hx).1, (hL.same x hx).2]; exact hL.rd
        obtain ⟨_, hi⟩ := hop_law (by omega) hbk hf.2.2.2.1 hf.2.2.2.2.1 (fun j => listed.getD j false) hclo hei' hli' hanc hv hset
        rw [hpre0 _ (ec x :: post) fun j h1 h2 => hfalse j h1 (by rw [List.length_append] at hlE; omega)] at hi
        rw [hpre0 _ [e0] fun j h1 h2 => hfalse j h1 (by simp at h2; omega)]
        exact hi.symm
    · have hne : i ≠ c := by rintro rfl; rw [hct] at hli'; cases hli'
      have hlE := hlenE x post hf
      have hei : (pre ++ ec x :: post)[i]? = some ((pre ++ ec x :: post)[i]'(by omega)) := List.getElem?_eq_getElem (by omega)
      generalize (pre ++ ec x :: post)[i]'(by omega) = e at hei
      have hSp := hspE x post hf i o e hne ho' hei
      rw [apL_fo (pre ++ ec x :: post) 0 i s, Nat.zero_add] at hSp
      obtain ⟨hs, hi⟩ := hop_law (by omega) hbk hf.2.2.2.1 hf.2.2.2.2.1 (fun j => listed.getD j false) hclo hei hli' hanc hSp.rv.2 hset
      exact step hR (hSp.frame hs) fun loc' a' w' hR' => ⟨hclo', .inr ⟨by rw [hset, if_neg (fun e => hne e.symm)]; exact hct, x, post, hf, loc', hR'.eqv hi.symm⟩⟩
  · obtain ⟨_, hJ⟩ := hJ
    rcases hJ with ⟨hcf, _⟩ | ⟨_, x, post, hf, loc, hR⟩
    · have := hall c (by simpa using hcl)
      rw [hcf] at this; cases this
    · have hlE := hlenE x post hf
      have : fo (fun i => listed.getD i false) 0 (pre ++ ec x :: post) s = apL (pre ++ ec x :: post) s := by
        have h1 := apL_fo (pre ++ ec x :: post) 0 (pre ++ ec x :: post).length s
        rw [List.take_length] at h1
        rw [h1]
        exact fo_congr _ 0 s fun j _ hj => by
          rw [hall j (by simpa [← hlE] using hj)]
          simpa using hj
      rw [this, apL_app] at hR
      exact hf.2.2.2.2.2 loc a w hR
  · simp [Array.getD_eq_getD_getElem?, Array.getElem?_replicate] at hi
    by_cases h : i < ops.length <;> simp [h] at hi
  · simp [Array.getD_eq_getD_getElem?, Array.getElem?_replicate, hcl]
  · have h0 : fo (fun i => (Array.replicate ops.toArray.size false).getD i false) 0 (pre ++ [e0]) s = s := by
      refine fo_none _ _ _ fun j _ _ => ?_
      simp [Array.getD_eq_getD_getElem?, Array.getElem?_replicate]
      by_cases h : j < ops.length <;> simp [h]
    rw [h0]
    exact hR.grow (Below.refl _ _).drew
end

end Go.Proofs.YtpanjecgbnomhaaGreatDoor
/-
  The abstract machine: a drawn region with one call that borrows a row, run as its text stands.
-/
namespace Go.Proofs.YtpanjecgbnomhaaGreatDoor
open Go Go.RowKit

section
variable {P : Program} {w0 : World} {lent : Lent} {Q : Exit → Act → World → Prop}
theorem lendC_of {o : SO} {s1 : AS} {f : Operand} {xs : List Operand} {ts : Array TypeId} {g : FuncId} {caps : List AV} {q : Nat} {r0 : Row} {D : AV → List Row → List Row → Prop} (hg : o.g = none)
    (ho : o.op = .call ⟨.value f, ⟨xs⟩, ts⟩) (hpe : pe P s1.h (evA s1.t) o.oper = .no) (hf : evA s1.t f = .fn g caps) (hr : rowsOf s1.h [q] = some [r0]) (hids : (idsL (xs.map (evA s1.t) ++ caps)).all (fun r => [q].contains r) = true)
    (hpc : PCL P g [r0] (mvF none) ((xs.map (evA s1.t) ++ caps).map (rnA [q])) D) (hD : ∀ rv lr' rows, D rv lr' rows → ∃ r1, lr' = [r1] ∧ rows = [] ∧ shB none 0 [r0] [r1] = true) :
    LendC P w0 lent o s1 (X := AV × Row) (fun x => D x.1 [x.2] []) (fun x => ⟨o.dst, renB [q] (baseOf o.dst) x.1, none, [(q, x.2)], rdO o, (rdO o).map (getA s1.t)⟩) ⟨o.dst, .any, none, [(q, r0)], rdO o, (rdO o).map (getA s1.t)⟩ := by
  refine ⟨hg, rfl, fun _ _ => ⟨rfl, rfl⟩, fun s' hs loc a w hR N Qx hN => ?_⟩
  obtain ⟨h1, h2⟩ := hs
  have hop : ∀ y ∈ o.op.operands.toList, ∀ q, y = .tmp q → q ∈ rdO o := fun y hy q e => by
    subst e
    unfold rdO
    exact List.mem_append_left _ (mem_slO.2 hy)
  have h2' : ∀ r ∈ idsL ((rdO o).map (getA s1.t)), hget s1.h r = hget s'.h r := fun r hr => h2 r (List.mem_append_left _ hr)
  have hpe' : pe P s'.h (evA s'.t) o.oper = .no := by
    rw [← hpe]
    exact pe_see o.oper (fun y hy => evA_see h1 (hop y hy)) fun y hy r hr => h2' r (ids_ev (hop y hy) hr)
  have hof : f ∈ o.op.operands.toList := by rw [ho]; simp [Op.operands, Call.operands]
  have hox : ∀ y ∈ xs, y ∈ o.op.operands.toList := fun y hy => by rw [ho]; simp only [Op.operands, Call.operands, Array.toList_append, List.mem_append]; exact .inr hy
  have hxs : xs.map (evA s'.t) = xs.map (evA s1.t) := List.map_congr_left fun y hy => evA_see h1 (hop y (hox y hy))
  have hf' : evA s'.t f = .fn g caps := by rw [evA_see h1 (hop f hof)]; exact hf
  have hr' : rowsOf s'.h [q] = some [r0] := by
    rw [← hr]
    simp only [rowsOf]
    rw [h2 q (List.mem_append_right _ (by simp [E.names]))]
  have hp := pe_ok (P := P) (h := s'.h) (loc := loc) (w := w) (ρ := evA s'.t) (ev := a.eval) (o := o.oper) (fun y _ => evA_ok hR y) hR.rw
  unfold Oper.wp
  have hff := evA_ok hR f
  rw [hf'] at hff
  obtain ⟨cs, hv, hsz, hgc⟩ := hff.fn_inv
  obtain ⟨g1, g2⟩ := evA_args hR xs caps cs hsz hgc
  rw [hxs] at g1 g2
  have hW := call_lend (P := P) (w0 := w0) (lent := lent) (Q := Qx) (f := g) (args := xs.map (evA s1.t) ++ caps) (dst := o.dst) (k := [.fin fun s2 => ∃ x : AV × Row, D x.1 [x.2] [] ∧ s2 = (⟨o.dst, renB [q] (baseOf o.dst) x.1, none, [(q, x.2)], rdO o, (rdO o).map (getA s1.t)⟩ : E).ap s']) (s := s') [q] none (lr := [r0]) (D := D)
    (by simp [ndB]) hr' hids (by simp [mvN]) hpc fun rv lr' rows hd => by
      obtain ⟨r1, rfl, rfl, hsh⟩ := hD rv lr' rows hd
      refine ⟨hsh, frB_0 _ _, fun loc' a' w' hR' => ⟨_, loc', ⟨(rv, r1), hd, ?_⟩, hR'⟩⟩
      simp only [backL, mvN, kT, kH, hsL, hpOf, List.append_nil, E.ap, hsets]
  obtain ⟨hcf, hcalls⟩ := hW loc a w hR ((xs.map a.eval).toArray ++ cs) g1 g2
  have hrun : (execOp a.eval o.oper).run P w = .ok (.enter g ((xs.map a.eval).toArray ++ cs)) w := by
    simp only [execOp, SO.oper, ho, resolve, hv, Deferred.ofValue, Sem.run_bind, Sem.run_pure, Result.andThen_ok, invoke, Array.empty_append, List.map_toArray]
    exact hcf
  rw [hrun]
  refine (hcalls.mono ?_ : Calls P g _ w _)
  rintro e w' ⟨v, rfl, s2, loc', ⟨x, hx, rfl⟩, hR'⟩
  exact hN x hx loc' _ w' hR'

theorem DP_mono {K K' : List E → AS → Prop} (hK : ∀ evs s, K evs s → K' evs s) : ∀ (l : List SO) (evs : List E) (s : AS), DP P K l evs s → DP P K' l evs s
  | [], evs, s, h => hK evs s h
  | o :: l, evs, s, ⟨e, h1, h2⟩ => ⟨e, h1, DP_mono hK l _ _ h2⟩
/-- Ahead of the call. -/
def KL (P : Program) (w0 : World) (lent : Lent) (Q : Exit → Act → World → Prop) (ops : List Oper) (c : Nat) (o : SO) (k : List It) (s : AS) (evs : List E) (s1 : AS) : Prop :=
  ∃ (X : Type) (ok : X → Prop) (ec : X → E) (e0 : E), LendC P w0 lent o s1 ok ec e0 ∧ prB (evs ++ [e0]) (mks ops []) (evs ++ [e0]) 0 = true ∧ kcB ops s (evs ++ [e0]) = true ∧
    ∀ x, ok x → RDp P (KD P w0 lent Q ops k s) (runD P ((ops.drop (c + 1)).map (cmpO ops)) (evs ++ [ec x]) ((ec x).ap s1))
theorem at_drawL {id : Nat} {ops : List Oper} {k : List It} {s : AS} (hm : P.follows .mixedOrders = true) (c : Nat) {oc : Oper} (hc : ops[c]? = some oc) (hbk : bkB ops 0 = true) (haf : afB c (mks ops []) 0 = true)
    (h : RDp P (KL P w0 lent Q ops c (cmpO ops oc) k s) (runD P ((ops.take c).map (cmpO ops)) [] s)) : RWp P w0 lent Q (.draw id ⟨ops⟩ k s) :=
  drawL_sound hm c hc hbk haf (DP_mono (fun _ _ ⟨X, ok, ec, e0, h1, h2, h3, h4⟩ => ⟨X, ok, ec, e0, h1, h2, h3, fun x hx => runD_sound _ _ _ (h4 x hx)⟩) _ _ _ (runD_sound _ _ _ h))
/-- The call itself. -/
theorem at_lendD {ops : List Oper} {c : Nat} {k : List It} {s s1 : AS} {evs : List E} {o : SO} {f : Operand} {xs : List Operand} {ts : Array TypeId} {g : FuncId} {caps : List AV} {D : AV → List Row → List Row → Prop} (q : Nat) {r0 : Row}
    (hg : o.g = none) (ho : o.op = .call ⟨.value f, ⟨xs⟩, ts⟩) (hpe : pe P s1.h (evA s1.t) o.oper = .no) (hf : evA s1.t f = .fn g caps) (hr : rowsOf s1.h [q] = some [r0]) (hids : (idsL (xs.map (evA s1.t) ++ caps)).all (fun r => [q].contains r) = true)
    (hpc : PCL P g [r0] (mvF none) ((xs.map (evA s1.t) ++ caps).map (rnA [q])) D)
    (hpr : prB (evs ++ [⟨o.dst, .any, none, [(q, r0)], rdO o, (rdO o).map (getA s1.t)⟩]) (mks ops []) (evs ++ [⟨o.dst, .any, none, [(q, r0)], rdO o, (rdO o).map (getA s1.t)⟩]) 0 = true)
    (hkc : kcB ops s (evs ++ [⟨o.dst, .any, none, [(q, r0)], rdO o, (rdO o).map (getA s1.t)⟩]) = true)
    (hk : ∀ rv lr' rows, D rv lr' rows → ∃ r1, lr' = [r1] ∧ rows = [] ∧ shB none 0 [r0] [r1] = true ∧
      RDp P (KD P w0 lent Q ops k s) (runD P ((ops.drop (c + 1)).map (cmpO ops)) (evs ++ [⟨o.dst, renB [q] (baseOf o.dst) rv, none, [(q, r1)], rdO o, (rdO o).map (getA s1.t)⟩]) (AS.put ⟨s1.t, hset s1.h q r1⟩ o.dst (renB [q] (baseOf o.dst) rv)))) :
    RDp P (KL P w0 lent Q ops c o k s) (.done evs s1) :=
  ⟨_, _, _, _, lendC_of hg ho hpe hf hr hids hpc (fun rv lr' rows hd => (hk rv lr' rows hd).imp fun _ h => ⟨h.1, h.2.1, h.2.2.1⟩), hpr, hkc, fun x hx => by
    obtain ⟨r1, h1, h2, h3, h4⟩ := hk x.1 [x.2] [] hx
    cases h1
    exact h4⟩
end

end Go.Proofs.YtpanjecgbnomhaaGreatDoor
/-
  The abstract machine: a region that draws its order, several calls within that borrow a row, and operations that wait for none of them.
-/
namespace Go.Proofs.YtpanjecgbnomhaaGreatDoor
open Go Go.RowKit

def noSO : SO := ⟨none, .move (.const (.bool false)), 0, none⟩
/-- What stands behind a call, without what waits for it. -/
def mskB (all : List Oper) : List Bool → List Oper → List SO
  | [], [] => []
  | [], _ :: l => noSO :: mskB all [] l
  | _ :: _, [] => []
  | true :: bs, o :: l => cmpO all o :: mskB all bs l
  | false :: bs, _ :: l => noSO :: mskB all bs l
theorem mskB_n (all : List Oper) (bs : List Bool) : mskB all bs [] = [] := by cases bs <;> rfl
theorem mskB_e (all : List Oper) (o : Oper) (l : List Oper) : mskB all [] (o :: l) = noSO :: mskB all [] l := rfl
theorem mskB_t (all : List Oper) (bs : List Bool) (o : Oper) (l : List Oper) : mskB all (true :: bs) (o :: l) = cmpO all o :: mskB all bs l := rfl
theorem mskB_f (all : List Oper) (bs : List Bool) (o : Oper) (l : List Oper) : mskB all (false :: bs) (o :: l) = noSO :: mskB all bs l := rfl
theorem mskB_len (all : List Oper) : ∀ (bs : List Bool) (l : List Oper), (mskB all bs l).length = l.length
  | [], [] => rfl
  | [], _ :: l => by simp only [mskB, List.length_cons]; rw [mskB_len all [] l]
  | _ :: _, [] => by simp only [mskB]; rfl
  | true :: bs, o :: l => by simp only [mskB, List.length_cons]; rw [mskB_len all bs l]
  | false :: bs, _ :: l => by simp only [mskB, List.length_cons]; rw [mskB_len all bs l]
theorem mskB_get (all : List Oper) : ∀ (bs : List Bool) (l : List Oper) (i : Nat), bs.getD i false = true → (mskB all bs l)[i]? = (l.map (cmpO all))[i]?
  | [], l, i, h => by simp at h
  | _ :: _, [], i, h => by simp only [mskB, List.map_nil]
  | true :: bs, o :: l, 0, h => by simp only [mskB, List.map_cons, List.getElem?_cons_zero]
  | false :: bs, o :: l, 0, h => by simp at h
  | true :: bs, o :: l, i + 1, h => by simp only [mskB, List.map_cons, List.getElem?_cons_succ]; exact mskB_get all bs l i (by simpa using h)
  | false :: bs, o :: l, i + 1, h => by simp only [mskB, List.map_cons, List.getElem?_cons_succ]; exact mskB_get all bs l i (by simpa using h)

/-- What need not wait for the call at c. -/
def fre (c : Nat) (bs : List Bool) (j : Nat) : Bool := decide (j < c) || (decide (c < j) && bs.getD (j - (c + 1)) false)
def afM (c : Nat) (bs : List Bool) : List Nat → Nat → Bool
  | [], _ => true
  | m :: l, j => (decide (j = c) || fre c bs j || m.testBit c) && afM c bs l (j + 1)
theorem afM_spec (c : Nat) (bs : List Bool) : ∀ (l : List Nat) (j : Nat), afM c bs l j = true → ∀ (q : Nat) m, l[q]? = some m → j + q ≠ c → fre c bs (j + q) = false → m.testBit c = true
  | [], j, _, q, m, h, _, _ => by simp at h
  | m0 :: l, j, hb, q, m, h, h1, h2 => by
    simp only [afM, Bool.and_eq_true, Bool.or_eq_true, decide_eq_true_eq] at hb
    cases q with
    | zero =>
      simp at h; subst h
      rcases hb.1 with (h3 | h3) | h3
      · exact absurd h3 h1
      · rw [Nat.add_zero, h3] at h2; cases h2
      · exact h3
    | succ q => exact afM_spec c bs l (j + 1) hb.2 q m (by simpa using h) (by omega) (by rw [show j + 1 + q = j + (q + 1) from by omega]; exact h2)
def chM : List (Nat × List Bool) → Bool
  | (c, bs) :: (c', bs') :: l => decide (c < c') && !fre c bs c' && chM ((c', bs') :: l)
  | _ => true
def okM (ops : List Oper) (pu : List Nat) (cs : List (Nat × List Bool)) : Bool := chM cs && cs.all fun x => afM x.1 x.2 (mks ops []) 0 && !pu.contains x.1
theorem fo_congrL {V : Nat → Bool} : ∀ (l l' : List E) (k : Nat) (s : AS), l.length = l'.length → (∀ j, V (k + j) = true → l[j]? = l'[j]?) → fo V k l s = fo V k l' s
  | [], [], _, _, _, _ => rfl
  | [], _ :: _, _, _, h, _ => by simp at h
  | _ :: _, [], _, _, h, _ => by simp at h
  | e :: l, e' :: l', k, s, h, hj => by
    simp only [fo]
    have hs : (if V k = true then e.ap s else s) = if V k = true then e'.ap s else s := by
      by_cases hv : V k = true
      · have := hj 0 hv
        simp at this
        rw [this]
      · rw [if_neg hv, if_neg hv]
    rw [hs]
    exact fo_congrL l l' (k + 1) _ (by simpa using h) fun j h1 => by
      have := hj (j + 1) (by rwa [show k + (j + 1) = k + 1 + j from by omega])
      simpa using this
theorem apL_app : ∀ (l l' : List E) (s : AS), apL (l ++ l') s = apL l' (apL l s)
  | [], _, _ => rfl
  | e :: l, l', s => by simp only [List.cons_append, apL]; exact apL_app l l' _

/-! ### Moves of slots that nothing writes: they see no row -/
def stE (e : E) : E := ⟨e.d, e.x, e.kill, e.add, [], []⟩
def stp (pu : List Nat) : Nat → List E → List E
  | _, [] => []
  | k, e :: l => (if pu.contains k = true then stE e else e) :: stp pu (k + 1) l
theorem stp_len (pu : List Nat) : ∀ (l : List E) (k : Nat), (stp pu k l).length = l.length
  | [], _ => rfl
  | e :: l, k => by simp only [stp, List.length_cons, stp_len pu l]
theorem stp_get (pu : List Nat) : ∀ (l : List E) (k i : Nat) (e : E), l[i]? = some e → (stp pu k l)[i]? = some (if pu.contains (k + i) = true then stE e else e)
  | [], _, _, _, h => by simp at h
  | e' :: l, k, 0, e, h => by simp at h; subst h; rfl
  | e' :: l, k, i + 1, e, h => by
    simp only [stp, List.getElem?_cons_succ]
    rw [stp_get pu l (k + 1) i e (by simpa using h), show k + 1 + i = k + (i + 1) from by omega]
theorem fo_stp (pu : List Nat) (V : Nat → Bool) : ∀ (l : List E) (k k' : Nat) (s : AS), fo V k (stp pu k' l) s = fo V k l s
  | [], _, _, _ => rfl
  | e :: l, k, k', s => by
    simp only [stp, fo]
    have : (if pu.contains k' = true then stE e else e).ap s = e.ap s := by split <;> rfl
    rw [this]
    exact fo_stp pu V l _ _ _
/-- Slot q keeps what it holds. -/
def nqB (q : Nat) (x : AV) (f : E) : Bool := (match f.d with | some d => decide (d ≠ q) | none => true) && (match f.kill with | some r => !(idsA x).contains r | none => true)
theorem fo_nq {V : Nat → Bool} {q : Nat} : ∀ (l : List E) (k : Nat) (s : AS), l.all (nqB q (getA s.t q)) = true → getA (fo V k l s).t q = getA s.t q
  | [], _, _, _ => rfl
  | e :: l, k, s, h => by
    simp only [List.all_cons, Bool.and_eq_true] at h
    simp only [fo]
    have h1 : getA (e.ap s).t q = getA s.t q := by
      have h0 := h.1
      unfold nqB at h0
      simp only [Bool.and_eq_true] at h0
      have hk : getA (kT e.kill s.t) q = getA s.t q := by
        rw [getA_kT]
        cases hk : e.kill with
        | none => rfl
        | some r =>
          have := h0.2
          rw [hk] at this
          simp only [Bool.not_eq_true', List.contains_eq_mem, decide_eq_false_iff_not] at this
          exact killA_id r _ this
      rw [ap_t]
      cases hd : e.d with
      | none => exact hk
      | some d =>
        have := h0.1
        rw [hd] at this
        simp only [ne_eq, decide_not, Bool.not_eq_true', decide_eq_false_iff_not] at this
        simp only
        rw [getA_setA _ _ _ _ this]
        exact hk
    split
    · rw [fo_nq l _ _ (by rw [h1]; exact h.2), h1]
    · exact fo_nq l _ _ h.2
def PU1 (P : Program) (ops : List Oper) (s : AS) (L : List E) (i : Nat) : Prop := ∃ (o : Oper) (d q : Nat) (ty : TypeId) (rd : List Nat) (vals : List AV), ops[i]? = some o ∧ cmpO ops o = ⟨some d, .move (.tmp q), ty, none⟩ ∧
  L[i]? = some ⟨some d, getA s.t q, none, [], rd, vals⟩ ∧ mvA P ty (getA s.t q) = .val (getA s.t q) ∧ L.all (nqB q (getA s.t q)) = true
def PU (P : Program) (ops : List Oper) (s : AS) (L : List E) : List Nat → Prop
  | [] => True
  | i :: l => PU1 P ops s L i ∧ PU P ops s L l
theorem PU.get {P : Program} {ops : List Oper} {s : AS} {L : List E} : ∀ {pu : List Nat}, PU P ops s L pu → ∀ i ∈ pu, PU1 P ops s L i
  | [], _, i, h => by simp at h
  | j :: pu, hp, i, h => by
    rcases List.mem_cons.1 h with rfl | h
    · exact hp.1
    · exact PU.get hp.2 i h
/-- A table in which what must lie apart lies apart. -/
structure CK (P : Program) (ops : List Oper) (s : AS) (pu : List Nat) (L : List E) : Prop where
  pr : prB (stp pu 0 L) (mks ops []) (stp pu 0 L) 0 = true
  kc : kcB ops s (stp pu 0 L) = true
  pu : PU P ops s L pu

section
variable {P : Program} {w0 : World} {lent : Lent} {Q : Exit → Act → World → Prop}
def agO (ag : Option (Nat × List Bool × List E)) (L : List E) : Prop := match ag with
  | none => True
  | some (c, bs, L0) => ∀ j, c < j → bs.getD (j - (c + 1)) false = true → L[j]? = L0[j]?
def ST (P : Program) (w0 : World) (lent : Lent) (Q : Exit → Act → World → Prop) (ops : List Oper) (pu : List Nat) (k : List It) (s : AS) : List (Nat × List Bool) → Nat → Option (Nat × List Bool × List E) → List E → AS → Prop
  | [], p, ag, evs, s1 => DP P (fun L s' => agO ag L ∧ CK P ops s pu L ∧ AW P w0 lent Q k s') ((ops.drop p).map (cmpO ops)) evs s1
  | (c, bs) :: cs, p, ag, evs, s1 => DP P (fun evs1 s2 => ∃ oc, ops[c]? = some oc ∧ ∃ (X : Type) (ok : X → Prop) (ec : X → E) (e0 : E), LendC P w0 lent (cmpO ops oc) s2 ok ec e0 ∧
      DP P (fun L _ => agO ag L ∧ CK P ops s pu L ∧ ∀ x, ok x → ST P w0 lent Q ops pu k s cs (c + 1) (some (c, bs, L)) (evs1 ++ [ec x]) ((ec x).ap s2)) (mskB ops bs (ops.drop (c + 1))) (evs1 ++ [e0]) (e0.ap s2))
      (((ops.drop p).take (c - p)).map (cmpO ops)) evs s1
def TabOK (P : Program) (w0 : World) (lent : Lent) (Q : Exit → Act → World → Prop) (ops : List Oper) (pu : List Nat) (k : List It) (s : AS) : List (Nat × List Bool) → List Nat → List E → Prop
  | [], ds, L => L.length = ops.length ∧ CK P ops s pu L ∧ (∀ (i : Nat) o e, i ∉ ds → ops[i]? = some o → L[i]? = some e → Sp P (apL (L.take i) s) (cmpO ops o) e) ∧ AW P w0 lent Q k (apL L s)
  | (c, bs) :: cs, ds, L => L.length = ops.length ∧ CK P ops s pu L ∧ (∀ (i : Nat) o e, i ∉ ds → fre c bs i = true → ops[i]? = some o → L[i]? = some e → Sp P (apL (L.take i) s) (cmpO ops o) e) ∧
      ∃ oc, ops[c]? = some oc ∧ ∃ (X : Type) (ok : X → Prop) (ec : X → E) (e0 : E), L[c]? = some e0 ∧ LendC P w0 lent (cmpO ops oc) (apL (L.take c) s) ok ec e0 ∧
      ∀ x, ok x → ∃ L', L'.length = ops.length ∧ L'[c]? = some (ec x) ∧ (∀ j, fre c bs j = true → L'[j]? = L[j]?) ∧ TabOK P w0 lent Q ops pu k s cs (c :: ds) L'

theorem st_tab {ops : List Oper} {pu : List Nat} {k : List It} {s : AS} : ∀ (cs : List (Nat × List Bool)) (ds : List Nat) (p : Nat) (ag : Option (Nat × List Bool × List E)) (evs : List E), evs.length = p → p ≤ ops.length → (∀ x ∈ cs.head?, p ≤ x.1) → chM cs = true →
    (∀ (i : Nat) o e, i < p → i ∉ ds → ops[i]? = some o → evs[i]? = some e → Sp P (apL (evs.take i) s) (cmpO ops o) e) → ST P w0 lent Q ops pu k s cs p ag evs (apL evs s) →
    ∃ post, agO ag (evs ++ post) ∧ (evs ++ post).length = ops.length ∧ TabOK P w0 lent Q ops pu k s cs ds (evs ++ post)
  | [], ds, p, ag, evs, hl, hp, _, _, hsp, h => by
    simp only [ST] at h
    obtain ⟨post, g1, g2, g3, g4, g6⟩ := DP_ex _ _ _ h
    rw [List.length_map, List.length_drop] at g1
    have hlen : (evs ++ post).length = ops.length := by rw [List.length_append]; omega
    rw [← apL_app] at g6
    refine ⟨post, g3, hlen, hlen, g4, fun i o e hi ho he => ?_, g6⟩
    rcases Nat.lt_or_ge i p with h1 | h1
    · rw [List.take_append_of_le_length (by omega)]
      rw [List.getElem?_append_left (by omega)] at he
      exact hsp i o e h1 hi ho he
    · rw [List.take_append, List.take_of_length_le (by omega), apL_app]
      rw [List.getElem?_append_right (by omega)] at he
      rw [hl] at he ⊢
      exact g2 (i - p) _ e (by rw [List.getElem?_map, List.getElem?_drop, show p + (i - p) = i from by omega, ho]; rfl) he
  | (c, bs) :: cs, ds, p, ag, evs, hl, hp, hhd, hch, hsp, h => by
    simp only [ST] at h
    have hpc : p ≤ c := hhd (c, bs) (by simp)
    obtain ⟨mid, g1, g2, oc, hoc, X, ok, ec, e0, hL, h2⟩ := DP_ex _ _ _ h
    have hcl : c < ops.length := lt_of_some hoc
    rw [List.length_map, List.length_take, List.length_drop, Nat.min_eq_left (by omega)] at g1
    obtain ⟨post, g3, g4, g5, g6, g8⟩ := DP_ex _ _ _ h2
    rw [mskB_len, List.length_drop] at g3
    have e1 : evs ++ mid ++ [e0] ++ post = evs ++ (mid ++ e0 :: post) := by simp
    rw [e1] at g5 g6 g8
    rw [← apL_app] at hL g8
    have hlm : (evs ++ mid).length = c := by rw [List.length_append]; omega
    have e2 : evs ++ (mid ++ e0 :: post) = (evs ++ mid) ++ e0 :: post := by simp
    have hlen : (evs ++ (mid ++ e0 :: post)).length = ops.length := by rw [e2, List.length_append, List.length_cons]; omega
    have hlaw : ∀ (i : Nat) o e, i < c → i ∉ ds → ops[i]? = some o → (evs ++ mid)[i]? = some e → Sp P (apL ((evs ++ mid).take i) s) (cmpO ops o) e := fun i o e hic hi ho he => by
      rcases Nat.lt_or_ge i p with h1 | h1
      · rw [List.take_append_of_le_length (by omega)]
        rw [List.getElem?_append_left (by omega)] at he
        exact hsp i o e h1 hi ho he
      · rw [List.take_append, List.take_of_length_le (by omega), apL_app]
        rw [List.getElem?_append_right (by omega)] at he
        rw [hl] at he ⊢
        exact g2 (i - p) _ e (by rw [List.getElem?_map, List.getElem?_take, if_pos (by omega), List.getElem?_drop, show p + (i - p) = i from by omega, ho]; rfl) he
    refine ⟨mid ++ e0 :: post, g5, hlen, hlen, g6, fun i o e hi hf ho he => ?_, oc, hoc, X, ok, ec, e0, ?_, ?_, fun x hx => ?_⟩
    · rw [e2] at he ⊢
      rcases Nat.lt_or_ge i c with h1 | h1
      · rw [List.take_append_of_le_length (by omega)]
        rw [List.getElem?_append_left (by omega)] at he
        exact hlaw i o e h1 hi ho he
      · have hne : i ≠ c := by
          rintro rfl
          simp [fre] at hf
        obtain ⟨q, rfl⟩ : ∃ q, i = c + 1 + q := ⟨i - (c + 1), by omega⟩
        have hbs : bs.getD q false = true := by
          simp only [fre, Bool.or_eq_true, Bool.and_eq_true, decide_eq_true_eq] at hf
          have := (hf.resolve_left (by omega)).2
          rwa [show c + 1 + q - (c + 1) = q from by omega] at this
        have e3 : ((evs ++ mid) ++ e0 :: post).take (c + 1 + q) = (evs ++ mid) ++ e0 :: post.take q := by
          rw [List.take_append, List.take_of_length_le (by omega), show c + 1 + q - (evs ++ mid).length = q + 1 from by omega, List.take_succ_cons]
        rw [e3, apL_app]
        rw [List.getElem?_append_right (by omega), show c + 1 + q - (evs ++ mid).length = q + 1 from by omega, List.getElem?_cons_succ] at he
        have := g4 q (cmpO ops o) e (by rw [mskB_get _ _ _ _ hbs, List.getElem?_map, List.getElem?_drop, ho]; rfl) he
        rw [← apL_app] at this
        exact this
    · rw [e2, List.getElem?_append_right (by omega), hlm, Nat.sub_self]; rfl
    · rw [e2, List.take_append_of_le_length (by omega), List.take_of_length_le (by omega)]
      exact hL
    · have hST := g8 x hx
      have e4 : (ec x).ap (apL (evs ++ mid) s) = apL (evs ++ mid ++ [ec x]) s := (apL_app (evs ++ mid) [ec x] s).symm
      rw [e4] at hST
      obtain ⟨post2, k1, k2, k3⟩ := st_tab cs (c :: ds) (c + 1) (some (c, bs, evs ++ (mid ++ e0 :: post))) (evs ++ mid ++ [ec x]) (by rw [List.length_append, hlm]; rfl) (by omega) (fun y hy => by
        cases cs with
        | nil => simp at hy
        | cons z cs =>
          simp at hy; subst hy
          simp only [chM, Bool.and_eq_true, decide_eq_true_eq] at hch
          omega) (by
        cases cs with
        | nil => rfl
        | cons z cs => simp only [chM, Bool.and_eq_true] at hch; exact hch.2) (fun i o e hi hds ho he => by
        have hic : i < c := by
          have : i ≠ c := fun e => hds (by rw [e]; exact List.mem_cons_self)
          omega
        rw [List.take_append_of_le_length (by omega)]
        rw [List.getElem?_append_left (by omega)] at he
        exact hlaw i o e hic (fun hh => hds (List.mem_cons_of_mem _ hh)) ho he) hST
      refine ⟨_, k2, ?_, fun j hj => ?_, k3⟩
      · rw [List.append_assoc, List.getElem?_append_right (by omega), hlm, Nat.sub_self]; rfl
      · rcases Nat.lt_or_ge j c with h1 | h1
        · rw [List.append_assoc, List.getElem?_append_left (by omega), e2]
          exact (List.getElem?_append_left (by omega)).symm
        · simp only [fre, Bool.or_eq_true, Bool.and_eq_true, decide_eq_true_eq] at hj
          obtain ⟨h3, h4⟩ := hj.resolve_left (by omega)
          exact k1 j h3 h4

theorem drawM_sound (hm : P.follows .mixedOrders = true) {id : Nat} {ops : List Oper} {k : List It} {s : AS} (pu : List Nat) (cs : List (Nat × List Bool)) (hbk : bkB ops 0 = true) (hok : okM ops pu cs = true) (h : ST P w0 lent Q ops pu k s cs 0 none [] s) :
    AW P w0 lent Q (.code (.region id ⟨ops⟩ true) :: k) s := by
  simp only [okM, Bool.and_eq_true, List.all_eq_true, Bool.not_eq_true'] at hok
  obtain ⟨hch, hafs⟩ := hok
  obtain ⟨hlt, hwait⟩ := anc_facts hbk
  obtain ⟨hml, hmk⟩ := mks_spec ops ops [] (fun i o h => by simpa using h) (fun i k h => by simp at h)
  have hback := bkB_spec ops 0 hbk
  have hA : ∀ x ∈ cs, ∀ j, j < ops.length → j ≠ x.1 → fre x.1 x.2 j = false → Anc ops j x.1 := fun x hx j h1 h2 h3 => by
    have hj : j < (mks ops []).length := by rw [hml]; simpa using h1
    have := afM_spec x.1 x.2 _ 0 (hafs x hx).1 j _ (List.getElem?_eq_getElem hj) (by omega) (by rw [Nat.zero_add]; exact h3)
    exact hmk j x.1 (by rw [List.getD_eq_getElem?_getD, List.getElem?_eq_getElem hj]; exact this)
  obtain ⟨L0, _, _, hT⟩ := st_tab cs [] 0 none [] rfl (Nat.zero_le _) (fun _ _ => Nat.zero_le _) hch (fun i o e h => by omega) h
  rw [List.nil_append] at hT
  intro loc a w hR
  refine wp_region_any (ops := ops.toArray) hm (wpAny_inv (fun listed a w => (∀ i j, listed.getD i false = true → Anc ops i j → listed.getD j false = true) ∧
      ∃ cs' ds L loc, (∀ x ∈ cs', x ∈ cs) ∧ chM cs' = true ∧ TabOK P w0 lent Q ops pu k s cs' ds L ∧ (∀ d ∈ ds, listed.getD d false = true) ∧ (∀ x ∈ cs'.head?, listed.getD x.1 false = false) ∧ Rel w0 lent (fo (fun i => listed.getD i false) 0 L s) loc a w) (fun i o ho e he hbe => ?_)
    (fun listed a w i o hsz hJ ho hli hpre => ?_) (fun listed a w hsz hall hJ => ?_) _ _ _ _ (by simp) (by simp) ⟨fun i j hi _ => ?_, cs, [], L0, loc, fun _ h => h, hch, hT, fun d hd => by simp at hd, fun x hx => ?_, ?_⟩)
  · have := hback i o (by simpa using ho) e he hbe
    omega
  · obtain ⟨hclo, cs', ds, L, loc, hin, hch', hT, hds, hhd, hR⟩ := hJ
    have ho' : ops[i]? = some o := by simpa using ho
    have hil : i < ops.length := lt_of_some ho'
    have hil2 : i < listed.size := by rw [hsz]; simpa using hil
    have hli' : listed.getD i false = false := by
      rw [Array.getD_eq_getD_getElem?] at hli ⊢
      rw [Array.getElem?_eq_getElem hil2] at hli ⊢
      exact hli
    have hset : ∀ j, (listed.setIfInBounds i true).getD j false = if j = i then true else listed.getD j false := fun j => by
      rw [Array.getD_eq_getD_getElem?, Array.getElem?_setIfInBounds]
      by_cases hj : i = j
      · subst hj; simp [hil2]
      · rw [if_neg hj, if_neg (fun e => hj e.symm), Array.getD_eq_getD_getElem?]
    have hanc : ∀ j, Anc ops i j → listed.getD j false = true := fun j hA => by
      cases hA with
      | dir h => obtain ⟨e', he', hb, rfl⟩ := hwait i o ho' j h; exact hpre e' he' hb
      | tr h h2 => obtain ⟨e', he', hb, e2⟩ := hwait i o ho' _ h; exact hclo _ j (by rw [← e2]; exact hpre e' he' hb) h2
    have hclo' : ∀ p q, (listed.setIfInBounds i true).getD p false = true → Anc ops p q → (listed.setIfInBounds i true).getD q false = true := fun p q hp hA => by
      rw [hset] at hp ⊢
      split
      · rfl
      · split at hp
        · rename_i e'; subst e'; exact hanc q hA
        · exact hclo p q hp hA
    have hds' : ∀ d ∈ ds, (listed.setIfInBounds i true).getD d false = true := fun d hd => by
      rw [hset]
      split
      · rfl
      · exact hds d hd
    have hids : i ∉ ds := fun h => by rw [hds i h] at hli'; cases hli'
    -- one operation that the text knows
    have step : ∀ {s' : AS} {e : E} {loc : Loc} {R : Act → World → Prop}, Rel w0 lent s' loc a w → Sp P s' (cmpO ops o) e → (∀ loc' a' w', Rel w0 lent (e.ap s') loc' a' w' → R a' w') → wpOp P ops.toArray (fun e a w => Kt P w0 lent Q k e a w) i R a w := fun {s' e loc R} hR hSp hN => by
      unfold wpOp
      rw [ho]
      simp only
      cases hSp with
      | run hg hex =>
        rw [if_pos (wanted_gV hR ops o true hg)]
        left
        rw [← oper_wp o ops]
        exact hex.sound hR fun loc' a' w' hR' => hN loc' a' w' hR'
      | skip hg =>
        rw [if_neg (by rw [wanted_gV hR ops o false hg]; simp)]
        exact hN loc _ _ (hR.put o.dst (u := undef) (.cl .v))
    have plain : ∀ e, L.length = ops.length → CK P ops s pu L → L[i]? = some e → Sp P (apL (L.take i) s) (cmpO ops o) e → (∀ x ∈ cs'.head?, x.1 ≠ i) →
        wpOp P ops.toArray (fun e a w => Kt P w0 lent Q k e a w) i (fun a w => (∀ p q, (listed.setIfInBounds i true).getD p false = true → Anc ops p q → (listed.setIfInBounds i true).getD q false = true) ∧
          ∃ cs' ds L loc, (∀ x ∈ cs', x ∈ cs) ∧ chM cs' = true ∧ TabOK P w0 lent Q ops pu k s cs' ds L ∧ (∀ d ∈ ds, (listed.setIfInBounds i true).getD d false = true) ∧ (∀ x ∈ cs'.head?, (listed.setIfInBounds i true).getD x.1 false = false) ∧ Rel w0 lent (fo (fun j => (listed.setIfInBounds i true).getD j false) 0 L s) loc a w) a w := fun e hl hck hei hSp hne => by
      have hei' := stp_get pu L 0 i e hei
      rw [Nat.zero_add] at hei'
      have hls : (stp pu 0 L).length ≤ ops.length := by rw [stp_len]; omega
      by_cases hpu : pu.contains i = true
      · rw [if_pos hpu] at hei'
        obtain ⟨_, hi⟩ := hop_law hls hbk hck.pr hck.kc (fun j => listed.getD j false) hclo hei' hli' hanc rfl hset
        rw [fo_stp, fo_stp] at hi
        obtain ⟨o', d, q, ty, rd, vals, h1, h2, h3, h4, h5⟩ := hck.pu.get i (by simpa using hpu)
        have hoo : o' = o := by rw [ho'] at h1; exact (Option.some.inj h1).symm
        subst hoo
        have hee : e = ⟨some d, getA s.t q, none, [], rd, vals⟩ := by rw [hei] at h3; exact Option.some.inj h3
        subst hee
        have hg := fo_nq (V := fun j => listed.getD j false) L 0 s h5
        have hpe : pe P (fo (fun j => listed.getD j false) 0 L s).h (evA (fo (fun j => listed.getD j false) 0 L s).t) (cmpO ops o').oper = .val (getA s.t q) := by
          rw [h2, pe_move, ev_tmp, hg]
          exact h4
        have hSp2 : Sp P (fo (fun j => listed.getD j false) 0 L s) (cmpO ops o') _ := .run (by rw [h2]; rfl) (.val hpe)
        refine step hR hSp2 fun loc' a' w' hR' => ⟨hclo', cs', ds, L, loc', hin, hch', hT, hds', fun x hx => by rw [hset, if_neg (hne x hx)]; exact hhd x hx, Rel.eqv hi.symm ?_⟩
        have : (cmpO ops o').dst = some d := by rw [h2]
        rw [this] at hR'
        exact hR'
      · rw [if_neg hpu] at hei'
        rw [apL_fo L 0 i s, Nat.zero_add] at hSp
        obtain ⟨hs, hi⟩ := hop_law hls hbk hck.pr hck.kc (fun j => listed.getD j false) hclo hei' hli' hanc (by rw [fo_stp]; exact hSp.rv.2) hset
        rw [fo_stp, fo_stp] at hs
        rw [fo_stp, fo_stp] at hi
        exact step hR (hSp.frame hs) fun loc' a' w' hR' => ⟨hclo', cs', ds, L, loc', hin, hch', hT, hds', fun x hx => by rw [hset, if_neg (hne x hx)]; exact hhd x hx, hR'.eqv hi.symm⟩
    cases cs' with
    | nil =>
      have hT' := hT
      simp only [TabOK] at hT'
      obtain ⟨hl, hck, hsp, _⟩ := hT'
      have hei : L[i]? = some (L[i]'(by omega)) := List.getElem?_eq_getElem (by omega)
      exact plain _ hl hck hei (hsp i o _ hids ho' hei) fun x hx => by simp at hx
    | cons z cs' =>
      obtain ⟨c, bs⟩ := z
      have hT' := hT
      simp only [TabOK] at hT'
      obtain ⟨hl, hck, hsp, oc, hoc, X, ok, ec, e0, he0, hL, hnext⟩ := hT'
      have hcpu : pu.contains c = false := (hafs (c, bs) (hin _ List.mem_cons_self)).2
      have hls : (stp pu 0 L).length ≤ ops.length := by rw [stp_len]; omega
      have hcf : listed.getD c false = false := hhd (c, bs) (by simp)
      have hfree : ∀ j, j < ops.length → j ≠ c → listed.getD j false = true → fre c bs j = true := fun j h1 h2 h3 => by
        cases hf : fre c bs j with
        | true => rfl
        | false =>
          have := hclo j c h3 (hA (c, bs) (hin _ List.mem_cons_self) j h1 h2 hf)
          rw [hcf] at this; cases this
      by_cases hic : i = c
      · subst hic
        have hoc' : o = oc := by rw [ho'] at hoc; exact Option.some.inj hoc
        subst hoc'
        have hv0 : e0.vals = e0.rd.map (getA (fo (fun j => decide (j < i)) 0 L s).t) := by
          have := hL.rd
          rw [apL_fo L 0 i s, Nat.zero_add] at this
          exact this
        have he0' := stp_get pu L 0 i e0 he0
        rw [Nat.zero_add, if_neg (by rw [hcpu]; simp)] at he0'
        obtain ⟨hs, _⟩ := hop_law hls hbk hck.pr hck.kc (fun j => listed.getD j false) hclo he0' hli' hanc (by rw [fo_stp]; exact hv0) hset
        rw [fo_stp, fo_stp] at hs
        have hap : fo (fun j => decide (j < i)) 0 L s = apL (L.take i) s := by rw [apL_fo L 0 i s, Nat.zero_add]
        rw [hap] at hs
        unfold wpOp
        rw [ho]
        simp only
        rw [if_pos (wanted_gV hR ops o true (by rw [hL.g]; rfl))]
        left
        rw [← oper_wp o ops]
        refine hL.wp _ hs loc a w hR _ _ fun x hx loc' a' w' hR' => ?_
        obtain ⟨L', hl', hei', hag, hT2⟩ := hnext x hx
        have htk : L'.take i = L.take i := by
          apply List.ext_getElem?
          intro j
          rw [List.getElem?_take, List.getElem?_take]
          split
          · rename_i hj; exact hag j (by simp [fre, hj])
          · rfl
        have hck2 : CK P ops s pu L' := by
          cases cs' with
          | nil => simp only [TabOK] at hT2; exact hT2.2.1
          | cons z cs' => obtain ⟨c', bs'⟩ := z; simp only [TabOK] at hT2; exact hT2.2.1
        have hv : (ec x).vals = (ec x).rd.map (getA (fo (fun j => decide (j < i)) 0 L' s).t) := by
          have h1 := hL.rd
          rw [(hL.same x hx).1, (hL.same x hx).2, h1]
          have h2 := apL_fo L' 0 i s
          rw [Nat.zero_add, htk] at h2
          rw [← h2]
        have hei2 := stp_get pu L' 0 i (ec x) hei'
        rw [Nat.zero_add, if_neg (by rw [hcpu]; simp)] at hei2
        obtain ⟨_, hi⟩ := hop_law (by rw [stp_len]; omega) hbk hck2.pr hck2.kc (fun j => listed.getD j false) hclo hei2 hli' hanc (by rw [fo_stp]; exact hv) hset
        rw [fo_stp, fo_stp] at hi
        have hfo : fo (fun j => listed.getD j false) 0 L' s = fo (fun j => listed.getD j false) 0 L s := fo_congrL L' L 0 s (by omega) fun j hj => by
          rw [Nat.zero_add] at hj
          by_cases hjl : j < ops.length
          · exact hag j (hfree j hjl (fun e => by rw [e] at hj; rw [hcf] at hj; cases hj) hj)
          · rw [List.getElem?_eq_none (by omega), List.getElem?_eq_none (by omega)]
        rw [hfo] at hi
        refine ⟨hclo', cs', i :: ds, L', loc', fun y hy => hin y (List.mem_cons_of_mem _ hy), ?_, hT2, fun d hd => ?_, fun y hy => ?_, hR'.eqv hi.symm⟩
        · cases cs' with
          | nil => rfl
          | cons z cs' => simp only [chM, Bool.and_eq_true] at hch'; exact hch'.2
        · rcases List.mem_cons.1 hd with rfl | hd
          · rw [hset, if_pos rfl]
          · exact hds' d hd
        · cases cs' with
          | nil => simp at hy
          | cons z cs' =>
            simp at hy; subst hy
            simp only [chM, Bool.and_eq_true, decide_eq_true_eq, Bool.not_eq_true'] at hch'
            rw [hset, if_neg (by omega)]
            cases hj : listed.getD z.1 false with
            | false => rfl
            | true =>
              by_cases hzl : z.1 < ops.length
              · have := hfree z.1 hzl (by omega) hj
                rw [hch'.1.2] at this; cases this
              · rw [Array.getD_eq_getD_getElem?, Array.getElem?_eq_none (by rw [hsz]; simpa using hzl)] at hj
                simp at hj
      · have hf : fre c bs i = true := by
          cases hf : fre c bs i with
          | true => rfl
          | false =>
            have := hanc c (hA (c, bs) (hin _ List.mem_cons_self) i hil hic hf)
            rw [hcf] at this; cases this
        have hei : L[i]? = some (L[i]'(by omega)) := List.getElem?_eq_getElem (by omega)
        exact plain _ hl hck hei (hsp i o _ hids hf ho' hei) fun x hx => by
          simp at hx; subst hx; exact fun e => hic e.symm
  · obtain ⟨_, cs', ds, L, loc, hin, _, hT, hds, hhd, hR⟩ := hJ
    cases cs' with
    | cons z cs' =>
      obtain ⟨c, bs⟩ := z
      simp only [TabOK] at hT
      obtain ⟨_, _, _, oc, hoc, _⟩ := hT
      have := hall c (by simpa using lt_of_some hoc)
      rw [hhd (c, bs) (by simp)] at this; cases this
    | nil =>
      simp only [TabOK] at hT
      obtain ⟨hl, _, _, hAW⟩ := hT
      have : fo (fun i => listed.getD i false) 0 L s = apL L s := by
        have h1 := apL_fo L 0 L.length s
        rw [List.take_length] at h1
        rw [h1]
        exact fo_congr _ 0 s fun j _ hj => by
          rw [hall j (by simpa [← hl] using hj)]
          simpa using hj
      rw [this] at hR
      exact hAW loc a w hR
  · simp [Array.getD_eq_getD_getElem?, Array.getElem?_replicate] at hi
    by_cases h : i < ops.length <;> simp [h] at hi
  · simp [Array.getD_eq_getD_getElem?, Array.getElem?_replicate]
    by_cases h : x.1 < ops.length <;> simp [h]
  · have h0 : fo (fun i => (Array.replicate ops.toArray.size false).getD i false) 0 L0 s = s := by
      refine fo_none _ _ _ fun j _ _ => ?_
      simp [Array.getD_eq_getD_getElem?, Array.getElem?_replicate]
      by_cases h : j < ops.length <;> simp [h]
    rw [h0]
    exact hR.grow (Below.refl _ _).drew

/-- As the walk runs it. -/
def RST (P : Program) (w0 : World) (lent : Lent) (Q : Exit → Act → World → Prop) (ops : List Oper) (pu : List Nat) (k : List It) (s : AS) : List (Nat × List Bool) → Nat → Option (Nat × List Bool × List E) → List E → AS → Prop
  | [], p, ag, evs, s1 => RDp P (fun L s' => agO ag L ∧ CK P ops s pu L ∧ AW P w0 lent Q k s') (runD P ((ops.drop p).map (cmpO ops)) evs s1)
  | (c, bs) :: cs, p, ag, evs, s1 => RDp P (fun evs1 s2 => ∃ oc, ops[c]? = some oc ∧ ∃ (X : Type) (ok : X → Prop) (ec : X → E) (e0 : E), LendC P w0 lent (cmpO ops oc) s2 ok ec e0 ∧
      RDp P (fun L _ => agO ag L ∧ CK P ops s pu L ∧ ∀ x, ok x → RST P w0 lent Q ops pu k s cs (c + 1) (some (c, bs, L)) (evs1 ++ [ec x]) ((ec x).ap s2)) (runD P (mskB ops bs (ops.drop (c + 1))) (evs1 ++ [e0]) (e0.ap s2)))
      (runD P (((ops.drop p).take (c - p)).map (cmpO ops)) evs s1)
theorem rst_st {ops : List Oper} {pu : List Nat} {k : List It} {s : AS} : ∀ (cs : List (Nat × List Bool)) (p : Nat) (ag : Option (Nat × List Bool × List E)) (evs : List E) (s1 : AS), RST P w0 lent Q ops pu k s cs p ag evs s1 → ST P w0 lent Q ops pu k s cs p ag evs s1
  | [], p, ag, evs, s1, h => by
    simp only [RST] at h
    simp only [ST]
    exact runD_sound _ _ _ h
  | (c, bs) :: cs, p, ag, evs, s1, h => by
    simp only [RST] at h
    simp only [ST]
    refine DP_mono ?_ _ _ _ (runD_sound _ _ _ h)
    rintro evs1 s2 ⟨oc, hoc, X, ok, ec, e0, hL, h2⟩
    refine ⟨oc, hoc, X, ok, ec, e0, hL, DP_mono ?_ _ _ _ (runD_sound _ _ _ h2)⟩
    rintro L _ ⟨h3, h4, h6⟩
    exact ⟨h3, h4, fun x hx => rst_st cs _ _ _ _ (h6 x hx)⟩
theorem at_drawM {id : Nat} {ops : List Oper} {k : List It} {s : AS} (hm : P.follows .mixedOrders = true) (pu : List Nat) (cs : List (Nat × List Bool)) (hbk : bkB ops 0 = true) (hok : okM ops pu cs = true) (h : RST P w0 lent Q ops pu k s cs 0 none [] s) : RWp P w0 lent Q (.draw id ⟨ops⟩ k s) :=
  drawM_sound hm pu cs hbk hok (rst_st _ _ _ _ _ h)
/-- Ahead of the next call. -/
def KM (P : Program) (w0 : World) (lent : Lent) (Q : Exit → Act → World → Prop) (ops : List Oper) (pu : List Nat) (k : List It) (s : AS) (c : Nat) (bs : List Bool) (cs : List (Nat × List Bool)) (ag : Option (Nat × List Bool × List E)) (evs1 : List E) (s2 : AS) : Prop :=
  ∃ oc, ops[c]? = some oc ∧ ∃ (X : Type) (ok : X → Prop) (ec : X → E) (e0 : E), LendC P w0 lent (cmpO ops oc) s2 ok ec e0 ∧
      RDp P (fun L _ => agO ag L ∧ CK P ops s pu L ∧ ∀ x, ok x → RST P w0 lent Q ops pu k s cs (c + 1) (some (c, bs, L)) (evs1 ++ [ec x]) ((ec x).ap s2)) (runD P (mskB ops bs (ops.drop (c + 1))) (evs1 ++ [e0]) (e0.ap s2))
theorem rst_cons {ops : List Oper} {pu : List Nat} {k : List It} {s : AS} {c : Nat} {bs : List Bool} {cs : List (Nat × List Bool)} {p : Nat} {ag : Option (Nat × List Bool × List E)} {evs : List E} {s1 : AS}
    (h : RDp P (KM P w0 lent Q ops pu k s c bs cs ag) (runD P (((ops.drop p).take (c - p)).map (cmpO ops)) evs s1)) : RST P w0 lent Q ops pu k s ((c, bs) :: cs) p ag evs s1 := h
/-- At the region's end. -/
def KE (P : Program) (w0 : World) (lent : Lent) (Q : Exit → Act → World → Prop) (ops : List Oper) (pu : List Nat) (k : List It) (s : AS) (ag : Option (Nat × List Bool × List E)) (L : List E) (s' : AS) : Prop :=
  agO ag L ∧ CK P ops s pu L ∧ AW P w0 lent Q k s'
theorem rst_nil {ops : List Oper} {pu : List Nat} {k : List It} {s : AS} {p : Nat} {ag : Option (Nat × List Bool × List E)} {evs : List E} {s1 : AS}
    (h : RDp P (KE P w0 lent Q ops pu k s ag) (runD P ((ops.drop p).map (cmpO ops)) evs s1)) : RST P w0 lent Q ops pu k s [] p ag evs s1 := h
/-- What goes on behind a call. -/
def NX (P : Program) (w0 : World) (lent : Lent) (Q : Exit → Act → World → Prop) (ops : List Oper) (pu : List Nat) (k : List It) (s : AS) (c : Nat) (bs : List Bool) (cs : List (Nat × List Bool)) (ag : Option (Nat × List Bool × List E)) (evs1 : List E) (s1 : AS) (o : SO) (q : Nat) (D : AV → List Row → List Row → Prop) (L : List E) (_ : AS) : Prop :=
  agO ag L ∧ CK P ops s pu L ∧ ∀ x : AV × Row, D x.1 [x.2] [] → RST P w0 lent Q ops pu k s cs (c + 1) (some (c, bs, L)) (evs1 ++ [⟨o.dst, renB [q] (baseOf o.dst) x.1, none, [(q, x.2)], rdO o, (rdO o).map (getA s1.t)⟩]) (AS.put ⟨s1.t, hset s1.h q x.2⟩ o.dst (renB [q] (baseOf o.dst) x.1))
theorem at_lendM {ops : List Oper} {pu : List Nat} {k : List It} {s s1 : AS} {c : Nat} {bs : List Bool} {cs : List (Nat × List Bool)} {ag : Option (Nat × List Bool × List E)} {evs : List E} (oc : Oper) {f : Operand} {xs : List Operand} {ts : Array TypeId} {g : FuncId} {caps : List AV} {D : AV → List Row → List Row → Prop} (q : Nat) {r0 : Row}
    (hoc : ops[c]? = some oc) (hg : (cmpO ops oc).g = none) (ho : (cmpO ops oc).op = .call ⟨.value f, ⟨xs⟩, ts⟩) (hpe : pe P s1.h (evA s1.t) (cmpO ops oc).oper = .no) (hf : evA s1.t f = .fn g caps) (hr : rowsOf s1.h [q] = some [r0]) (hids : (idsL (xs.map (evA s1.t) ++ caps)).all (fun r => [q].contains r) = true)
    (hpc : PCL P g [r0] (mvF none) ((xs.map (evA s1.t) ++ caps).map (rnA [q])) D) (hD : ∀ rv lr' rows, D rv lr' rows → ∃ r1, lr' = [r1] ∧ rows = [] ∧ shB none 0 [r0] [r1] = true)
    (hk : RDp P (NX P w0 lent Q ops pu k s c bs cs ag evs s1 (cmpO ops oc) q D) (runD P (mskB ops bs (ops.drop (c + 1))) (evs ++ [⟨(cmpO ops oc).dst, .any, none, [(q, r0)], rdO (cmpO ops oc), (rdO (cmpO ops oc)).map (getA s1.t)⟩]) (AS.put ⟨s1.t, hset s1.h q r0⟩ (cmpO ops oc).dst .any))) :
    RDp P (KM P w0 lent Q ops pu k s c bs cs ag) (.done evs s1) :=
  ⟨oc, hoc, _, _, _, _, lendC_of hg ho hpe hf hr hids hpc hD, hk⟩
end

end Go.Proofs.YtpanjecgbnomhaaGreatDoor
/-
  The abstract machine: what a call leaves, read as data.
-/
namespace Go.Proofs.YtpanjecgbnomhaaGreatDoor
open Go Go.RowKit
theorem PC.frzX {P : Program} {f : FuncId} {args : List AV} {x : AV} {rows : List Row} (h : PC P f args (rX x rows)) : PC P f args (vX (viewN 3 (hpOf 0 rows) x)) :=
  h.frz fun rv rs ⟨e1, e2⟩ => by subst e1; subst e2; exact ⟨rfl, rfl⟩
/-- What is known less. -/
theorem PC.less {P : Program} {f : FuncId} {args : List AV} {x y : AV} (h : PC P f args (vX x)) (hxy : ∀ h loc w v, G h loc w x v → G h loc w y v) : PC P f args (vX y) := by
  refine ⟨h.1, fun w fb vs h1 h2 h3 => (h.2 w fb vs h1 h2 h3).mono ?_⟩
  rintro e w' ⟨rv, rows', v, ⟨rfl, rfl⟩, rfl, hb, loc, hfb, hg, hrest⟩
  exact ⟨_, [], v, ⟨rfl, rfl⟩, rfl, hb, loc, hfb, hxy _ _ _ _ hg, hrest⟩
theorem G.nil2 {h : Hp} {loc : Loc} {w : World} {v : Value} {n : Nat} (hg : G h loc w (.v (.slice none 0 0)) v) : G h loc w (.sl n []) v := by
  rw [hg.v_inv]
  exact .cl (.nilsl _)
theorem G.agg2 {h : Hp} {loc : Loc} {w : World} {v : Value} {l l' : List AV} (hg : G h loc w (.agg l) v) (hl : l'.length = l.length) (hh : ∀ (j : Nat) x y u, l[j]? = some x → l'[j]? = some y → G h loc w x u → G h loc w y u) : G h loc w (.agg l') v := by
  obtain ⟨vs, rfl, hs, hgs⟩ := hg.agg_inv
  refine .agg vs (by omega) fun j a ha => ?_
  have hj := lt_of_some ha
  obtain ⟨x, hx⟩ : ∃ x, l[j]? = some x := ⟨_, List.getElem?_eq_getElem (show j < l.length by omega)⟩
  exact hh j x a _ hx ha (hgs j x hx)
theorem G.tup2 {h : Hp} {loc : Loc} {w : World} {v : Value} {l l' : List AV} (hg : G h loc w (.tup l) v) (hl : l'.length = l.length) (hh : ∀ (j : Nat) x y u, l[j]? = some x → l'[j]? = some y → G h loc w x u → G h loc w y u) : G h loc w (.tup l') v := by
  obtain ⟨vs, rfl, hs, hgs⟩ := hg.tup_inv
  refine .tup vs (by omega) fun j a ha => ?_
  have hj := lt_of_some ha
  obtain ⟨x, hx⟩ : ∃ x, l[j]? = some x := ⟨_, List.getElem?_eq_getElem (show j < l.length by omega)⟩
  exact hh j x a _ hx ha (hgs j x hx)
theorem PC.args {P : Program} {f : FuncId} {args args' : List AV} {D : AV → List Row → Prop} (h : PC P f args D) (hl : args'.length = args.length)
    (hc : ∀ (j : Nat) x y, args'[j]? = some x → args[j]? = some y → ∀ lv w u, C lv 0 w x u → C lv 0 w y u) : PC P f args' D :=
  ⟨h.1, fun w fb vs h1 h2 h3 => h.2 w fb vs h1 (by omega) fun j y hy => by
    have hj := lt_of_some hy
    exact hc j _ y (List.getElem?_eq_getElem (show j < args'.length by omega)) hy _ _ _ (h3 j _ (List.getElem?_eq_getElem (show j < args'.length by omega)))⟩
end Go.Proofs.YtpanjecgbnomhaaGreatDoor
/-
  The abstract machine: what a call that was lent rows leaves anew, read as data.
-/
namespace Go.Proofs.YtpanjecgbnomhaaGreatDoor
open Go Go.RowKit

theorem hp_app {l l' : List Row} {r : Nat} {row : Row} (h : hget (hpOf 0 l) r = some row) : hget (hpOf 0 (l ++ l')) r = some row := by
  rw [hget_hpOf] at h ⊢
  rw [if_pos (Nat.zero_le _)] at h ⊢
  have := lt_of_some h
  rw [List.getElem?_append_left this]
  exact h
theorem live_app {l l' : List Row} {loc : Loc} {b : Nat} (h : Live (hpOf 0 l) loc b) : Live (hpOf 0 (l ++ l')) loc b := by
  rcases h with ⟨r, row, c, h1, h2⟩ | h
  · exact .inl ⟨r, row, c, hp_app h1, h2⟩
  · exact .inr h
theorem PCL.frz {P : Program} {f : FuncId} {lr : List Row} {mv : Nat → Bool} {args : List AV} {D D' : AV → List Row → List Row → Prop} (h : PCL P f lr mv args D)
    (hd : ∀ rv lr' rows, D rv lr' rows → (idsA rv).all (fun r => decide (lr.length ≤ r)) = true ∧ D' (viewN 3 (hpOf 0 (lr' ++ rows)) rv) lr' []) : PCL P f lr mv args D' := by
  refine ⟨h.1, fun w fb loc vs h1 h2 h3 => (h.2 w fb loc vs h1 h2 h3).mono ?_⟩
  rintro e w' ⟨rv, lr', rows, v, loc', hD, rfl, hL⟩
  obtain ⟨hi, hD'⟩ := hd _ _ _ hD
  have hC : ∀ {x u}, C (Live (hpOf 0 (lr' ++ rows)) loc') 0 w' x u → C (Live (hpOf 0 (lr' ++ [])) loc') 0 w' x u := fun hx => hx.mono (Nat.le_refl _) (Nat.le_refl _) fun b _ _ hnl => ⟨fun hl => by
    rw [List.append_nil] at hl
    exact hnl (live_app hl), rfl⟩
  refine ⟨_, lr', [], v, loc', hD', rfl, ⟨hL.len, hL.os, hL.tape, hL.output, hL.size, hL.keep, hL.fbe, hL.stay, .cl ?_, fun r row hr => ?_, fun r r' row row' b c c' hr hr' => ?_, fun r row b c hr => ?_⟩⟩
  · refine view_frz (fun r row hr => (hL.rw r row hr).2) hL.inj (fun r row b c hr hl hf => ?_) (fun r row' hr => ⟨row', ?_⟩) 3 rv v hL.val ?_
    · rw [hL.fbe] at hf
      obtain ⟨g1, g2⟩ := h1.fbl b hf
      rcases hL.own r row b c hr hl with g3 | g3
      · omega
      · exact g2 g3
    · rw [List.append_nil] at hr
      exact hp_app hr
    · refine List.all_eq_true.2 fun r hr => ?_
      have h4 := of_decide_eq_true (List.all_eq_true.1 hi r hr)
      rw [Bool.and_eq_true]
      refine ⟨?_, ?_⟩
      · have : hget (hpOf 0 (lr' ++ [])) r = none := by
          rw [hget_hpOf, if_pos (Nat.zero_le _), List.append_nil]
          exact List.getElem?_eq_none (by have := hL.len; omega)
        unfold inH
        rw [this]
        rfl
      · cases hg : hget (hpOf 0 (lr' ++ rows)) r with
        | none => rfl
        | some row => exact (hL.rw r row hg).1
  · rw [List.append_nil] at hr
    obtain ⟨g1, g2, xs, g3, g4⟩ := hL.rw r row (hp_app hr)
    refine ⟨g1, g2, xs, g3, fun k e j a he ha => ?_⟩
    obtain ⟨u, g5, g6, _, g8⟩ := g4 k e j a he ha
    have := hC (g8 g1)
    exact ⟨u, g5, g6, .cl this, fun _ => this⟩
  · rw [List.append_nil] at hr hr'
    exact hL.inj r r' row row' b c c' (hp_app hr) (hp_app hr')
  · rw [List.append_nil] at hr
    exact hL.own r row b c (hp_app hr)

end Go.Proofs.YtpanjecgbnomhaaGreatDoor
/-
  Walks: the draws: two sides.
-/
namespace Go.Proofs.YtpanjecgbnomhaaGreatDoor
open Go Go.RowKit Go.Proofs
theorem at_lendR {P : Program} {w0 : World} {lent : Lent} {Q : Exit → Act → World → Prop} {ops : List Oper} {pu : List Nat} {k : List It} {s s1 : AS} {c : Nat} {bs : List Bool} {cs : List (Nat × List Bool)} {ag : Option (Nat × List Bool × List E)} {evs : List E} (oc : Oper) {f : Operand} {xs : List Operand} {ts : Array TypeId} {g : FuncId} {caps : List AV} (q : Nat) (z : List Int) (p n : Nat) {R : AV → List Row → List Row → Prop}
    (hoc : ops[c]? = some oc) (hg : (cmpO ops oc).g = none) (ho : (cmpO ops oc).op = .call ⟨.value f, ⟨xs⟩, ts⟩) (hpe : pe P s1.h (evA s1.t) (cmpO ops oc).oper = .no) (hf : evA s1.t f = .fn g caps) (hr : rowsOf s1.h [q] = some [rdR z p]) (hids : (idsL (xs.map (evA s1.t) ++ caps)).all (fun r => [q].contains r) = true)
    (hpc : PCL P g [rdR z p] (mvF none) ((xs.map (evA s1.t) ++ caps).map (rnA [q])) R) (hD : ∀ rv lr' rows, R rv lr' rows → RdD z p n lr' ∧ rows = [])
    (hk : RDp P (NX P w0 lent Q ops pu k s c bs cs ag evs s1 (cmpO ops oc) q R) (runD P (mskB ops bs (ops.drop (c + 1))) (evs ++ [⟨(cmpO ops oc).dst, .any, none, [(q, rdR z p)], rdO (cmpO ops oc), (rdO (cmpO ops oc)).map (getA s1.t)⟩]) (AS.put ⟨s1.t, hset s1.h q (rdR z p)⟩ (cmpO ops oc).dst .any))) :
    RDp P (KM P w0 lent Q ops pu k s c bs cs ag) (.done evs s1) :=
  at_lendM oc q hoc hg ho hpe hf hr hids hpc (fun rv lr' rows hd => by
    obtain ⟨⟨p', h1, _, _⟩, h2⟩ := hD _ _ _ hd
    exact ⟨_, h1, h2, by simp [shB, mvF, rdR]⟩) hk
def log3D (z : List Int) (p c : Nat) (rv : AV) (lr' rows : List Row) : Prop := ∃ l : List Cm, LogS l ∧ l.length ≤ 20 ∧ rv = cmA l ∧ RdD z p c lr' ∧ rows = []
theorem l91Log_pcl3 (z : List Int) (p n : Nat) (t : List Nd) (ht : tV t = true) (hn : n ≤ 60) (hr : RdOk z (p + 20 * n)) : PCL Tryz.prog 80 [rdR z p] (mvF none) [.p 0 0 0, ndA t, iA n] (log3D z p (20 * n)) := by
  refine (l91Log_pcl z p n t ht hn hr).frz ?_
  rintro rv lr' rows ⟨l, h1, h2, rfl, ⟨u, rfl, h3, h4⟩, rfl⟩
  exact ⟨by simp [idsA], l, h1, h2, by simp [viewN, hpOf, hget, rowC, isC, tk], ⟨u, rfl, h3, h4⟩, rfl⟩
theorem at_nx {P : Program} {w0 : World} {lent : Lent} {Q : Exit → Act → World → Prop} {ops : List Oper} {pu : List Nat} {k : List It} {s s1 s2 : AS} {c : Nat} {bs : List Bool} {cs : List (Nat × List Bool)} {ag : Option (Nat × List Bool × List E)} {evs L : List E} {o : SO} {q : Nat} {D : AV → List Row → List Row → Prop}
    (h1 : agO ag L) (h2 : prB (stp pu 0 L) (mks ops []) (stp pu 0 L) 0 = true) (h3 : kcB ops s (stp pu 0 L) = true) (h5 : PU P ops s L pu) (h4 : ∀ rv r1, D rv [r1] [] → RST P w0 lent Q ops pu k s cs (c + 1) (some (c, bs, L)) (evs ++ [⟨o.dst, renB [q] (baseOf o.dst) rv, none, [(q, r1)], rdO o, (rdO o).map (getA s1.t)⟩]) (AS.put ⟨s1.t, hset s1.h q r1⟩ o.dst (renB [q] (baseOf o.dst) rv))) :
    RDp P (NX P w0 lent Q ops pu k s c bs cs ag evs s1 o q D) (.done L s2) := ⟨h1, ⟨h2, h3, h5⟩, fun x hx => h4 x.1 x.2 hx⟩
theorem at_ke {P : Program} {w0 : World} {lent : Lent} {Q : Exit → Act → World → Prop} {ops : List Oper} {pu : List Nat} {k : List It} {s s2 : AS} {ag : Option (Nat × List Bool × List E)} {L : List E}
    (h1 : agO ag L) (h2 : prB (stp pu 0 L) (mks ops []) (stp pu 0 L) 0 = true) (h3 : kcB ops s (stp pu 0 L) = true) (h5 : PU P ops s L pu) (h4 : AW P w0 lent Q k s2) : RDp P (KE P w0 lent Q ops pu k s ag) (.done L s2) := ⟨h1, ⟨h2, h3, h5⟩, h4⟩
def frzRow (ids : List Nat) (h : Hp) (row : Row) : Row := if (row.es.all fun e => e.all fun x => (idsA x).all fun r => !hasN ids r) = true then row else ⟨row.E, row.sz, row.es.map (·.map (viewN 3 h)), true⟩
def frzH (ids : List Nat) (h : Hp) : Hp → Hp
  | [] => []
  | (r, row) :: l => (r, frzRow ids h row) :: frzH ids h l
def frzS2 (ids : List Nat) (s : AS) : AS := ⟨s.t.map (frzT ids s.h), frzH ids s.h (delL s.h ids)⟩
theorem at_frzS2 {P : Program} {w0 : World} {lent : Lent} {Q : Exit → Act → World → Prop} {k : List It} {s : AS} (ids : List Nat) (h : Wk s (frzS2 ids s)) (h' : AW P w0 lent Q k (frzS2 ids s)) : AW P w0 lent Q k s := at_frz h h'
def bothD (z : List Int) (p c : Nat) (rv : AV) (lr' rows : List Row) : Prop := ∃ a b : St, StS a ∧ StS b ∧ rv = .tup [stA' a, stA' b] ∧ RdD z p c lr' ∧ rows = []
attribute [local irreducible] RWp AW run kPe pe Kt effA gd gu br retR RDp runD kPeD brW gW effD
set_option maxRecDepth 100000
theorem l92Both_pcl (z : List Int) (p : Nat) (hr : RdOk z (p + 4000)) : PCL Tryz.prog 42 [rdR z p] (mvF none) [.p 0 0 0] (bothD z p 4000) := by
  refine pcl_enter Tryz.func42 rfl rfl (by simp) fun w0 fb loc => go_on ?_; simp only [Tryz.ntmps42, hpL, nmL, mvF, renL, decide_true, decide_false, push_cast, simprocAttr]
  (try simp only [push_cast, simprocAttr]); refine call_lend [500000] none (lr := [rdR z p]) (by simp [ndB]) (by first | rfl | simp [rowsOf, hget, rdR, rowS, rowN, rowC, sC, ndC, cmC]) (by simp [idsL, idsA]) (by simp [mvN]) (by simpa [rnA, ixOf] using l92Site_pcl z p (hr.le (by omega))) ?_
  rintro rv lr' rows ⟨a, ha, rfl, ⟨u, rfl, g1, g2⟩, rfl⟩
  have hrc : ∀ q, (rdR z q).cl = true := fun _ => rfl
  have hbl := ((tV_iff _).1 ha.b).le
  unfold stA' stC
  (refine ⟨by simp [shB, mvF, rdR, rowS, rowN, rowC], by simp [frB, baseOf], go_on ?_⟩; simp only [killA, killH, killRow, push_cast, simprocAttr])
  refine at_drawM rfl [6] [(10, [false, false, true]), (11, [false, true])] (by kernel_rfl) (by kernel_rfl) ?_
  refine rst_cons ?_
  (try simp only [effD_app2, push_cast, simprocAttr])
  refine at_chkD (by omega) ?_
  (try simp only [hrc, push_cast, simprocAttr])
  refine at_lendR _ 500000 z u 1 rfl rfl rfl (by first | rfl | simp only [push_cast]) (by first | rfl | simp only [push_cast]) (by first | rfl | simp [rowsOf, hget]) (by simp only [push_cast]; simp [idsL, idsA]) (by simp only [push_cast]; simpa [rnA, ixOf] using pick_pcl z u 10 (hr.le (by omega)) (by omega)) ?_ ?_
  · rintro rv lr' rows ⟨m, rfl, hm, rfl, rfl⟩
    exact ⟨⟨_, rfl, by omega, by omega⟩, rfl⟩
  simp only [mskB_t, mskB_f, mskB_e, mskB_n, noSO, push_cast, simprocAttr]
  refine at_nx trivial (by kernel_rfl) (by kernel_rfl) ⟨⟨_, _, _, _, _, _, rfl, rfl, rfl, rfl, by kernel_rfl⟩, trivial⟩ ?_
  intro rv r1 hd
  obtain ⟨m, h1, hm, h2, -⟩ := hd
  cases h1; cases h2
  have hm := hm (by omega)
  refine rst_cons ?_
  simp only [push_cast, simprocAttr]
  refine at_lendR _ 500000 z (u + 1) 200 rfl rfl rfl (by first | rfl | simp only [push_cast]) (by first | rfl | simp only [push_cast]) (by first | rfl | simp [rowsOf, hget]) (by simp only [push_cast]; simp [idsL, idsA]) (by simp only [push_cast]; simpa [rnA, ixOf] using l91Log_pcl3 z (u + 1) m a.base ha.b (by omega) (hr.le (by omega))) ?_ ?_
  · rintro rv lr' rows ⟨l, hl, hl2, rfl, ⟨v, rfl, h3, h4⟩, rfl⟩
    exact ⟨⟨_, rfl, by omega, by omega⟩, rfl⟩
  simp only [mskB_t, mskB_f, mskB_e, mskB_n, noSO, push_cast, simprocAttr]
  refine at_nx ?_ (by kernel_rfl) (by kernel_rfl) ⟨⟨_, _, _, _, _, _, rfl, rfl, rfl, rfl, by kernel_rfl⟩, trivial⟩ ?_
  · intro j h1 h2
    obtain ⟨i, rfl⟩ : ∃ i, j = 11 + i := ⟨j - 11, by omega⟩
    rcases i with _ | _ | _ | i
    · simp at h2
    · simp at h2
    · rfl
    · simp at h2
  intro rv r1 hd
  obtain ⟨l, hl, hl2, h1, ⟨v, h2, h3, h4⟩, -⟩ := hd
  cases h1; cases h2
  refine rst_nil ?_
  simp only [push_cast, simprocAttr]
  refine at_ke ?_ (by kernel_rfl) (by kernel_rfl) ⟨⟨_, _, _, _, _, _, rfl, rfl, rfl, rfl, by kernel_rfl⟩, trivial⟩ ?_
  · intro j h1 h2
    obtain ⟨i, rfl⟩ : ∃ i, j = 12 + i := ⟨j - 12, by omega⟩
    rcases i with _ | _ | i
    · simp at h2
    · rfl
    · simp at h2
  have hrE : ∀ q, ((rdR z q).es.all fun e => e.all fun x => (idsA x).all fun r => !hasN [10] r) = true := fun _ => rfl
  have hm9 : 20 * m ≤ 180 := by omega
  clear hm
  (refine at_frzS2 [10] (by refine wk_frz ?_ ?_ ?_ ?_ <;> simp [rdR, frzS2, frzH, frzRow, frzT, hasN, delL, hdel, leF, leHF, rowF, frzB, idsL, idsA, idsR, inH, hget, sameRow, viewN, tk]) ?_; simp only [frzS2, frzH, frzRow, frzT, hasN, delL, hdel, idsA, idsL, viewN, hget, tk, isC, hrE, List.map_cons, List.map_nil, List.all_cons, List.all_nil, List.append_nil, List.drop, List.getElem?_cons_zero, List.getElem?_cons_succ, Bool.not_false, Bool.not_true, Bool.and_true, if_true, if_false, Nat.zero_add, List.length_map, simprocAttr])
  refine go_on ?_
  (try simp only [push_cast, simprocAttr])
  (try simp only [push_cast, simprocAttr]); refine call_lend [500000] none (lr := [rdR z v]) (by simp [ndB]) (by first | rfl | simp [rowsOf, hget, rdR, rowS, rowN, rowC, sC, ndC, cmC]) (by simp [idsL, idsA]) (by simp [mvN]) (by simpa [rnA, ixOf] using pick_pcl z v 24 (hr.le (by omega)) (by omega)) ?_
  rintro rv lr' rows ⟨k, rfl, _, rfl, rfl⟩
  (refine ⟨by simp [shB, mvF, rdR, rowS, rowN, rowC], by simp [frB, baseOf], go_on ?_⟩; simp only [killA, killH, killRow, push_cast, simprocAttr])
  obtain ⟨q, hq⟩ : ∃ q, q = v + 1 := ⟨_, rfl⟩
  have hqb : p ≤ q ∧ q ≤ p + 1982 := by omega
  rw [← hq]
  refine at_b (fun hb => ?_) (fun hb => ?_)
  · (try simp only [hb, push_cast, simprocAttr])
    refine at_draw rfl (by kernel_rfl) ?_; simp only [push_cast, simprocAttr]
    refine at_done (by kernel_rfl) (by kernel_rfl) (go_on ?_)
    (try simp only [push_cast, simprocAttr])
    have hfin : bothD z p 4000 (.tup [.agg [iA a.ep, ndA a.base, cmA a.log], .agg [iA (IntKind.i64.wrap (a.ep + 1)), ndA a.base, cmA l]]) [rdR z q] [] := ⟨a, ⟨_, a.base, l⟩, ha, ⟨ha.b, hl⟩, rfl, ⟨_, rfl, by omega, by omega⟩, rfl⟩
    (refine at_retL ?_; simp only [Tryz.results42, retL, push_cast, simprocAttr]; simpa [show List.range 1 = [0] from rfl, show List.range 2 = [0, 1] from rfl, show List.range 3 = [0, 1, 2] from rfl, nmL, mvF, ndB, ixOf, rowsOf, hget, rdR, rowS, rowN, rowC] using  hfin)
  · (try simp only [hb, push_cast, simprocAttr])
    refine at_b (fun hb2 => ?_) (fun hb2 => ?_)
    · (try simp only [hb2, push_cast, simprocAttr])
      refine at_drawM rfl [] [(2, [])] (by kernel_rfl) (by kernel_rfl) ?_
      refine rst_cons ?_
      (try simp only [push_cast, simprocAttr])
      refine at_lendR _ 500000 z q 1800 rfl rfl rfl (by first | rfl | simp only [push_cast]) (by first | rfl | simp only [push_cast]) (by first | rfl | simp [rowsOf, hget]) (by simp only [push_cast]; simp [idsL, idsA]) (by simp only [push_cast]; simpa [rnA, ixOf] using l92Site_pcl z q (hr.le (by omega))) ?_ ?_
      · rintro rv lr' rows ⟨s, hs, rfl, h4, rfl⟩
        exact ⟨h4, rfl⟩
      simp only [mskB_t, mskB_f, mskB_e, mskB_n, noSO, push_cast, simprocAttr]
      refine at_nx trivial (by kernel_rfl) (by kernel_rfl) trivial ?_
      intro rv r1 hd
      obtain ⟨s, hs, h1, ⟨v2, h2, g3, g4⟩, -⟩ := hd
      cases h1; cases h2
      refine rst_nil ?_
      unfold stA' stC
      simp only [push_cast, simprocAttr]
      refine at_ke ?_ (by kernel_rfl) (by kernel_rfl) trivial (go_on ?_)
      · intro j h1 h2
        simp at h2
      (try simp only [push_cast, simprocAttr])
      have hfin : bothD z p 4000 (.tup [.agg [iA a.ep, ndA a.base, cmA a.log], .agg [iA s.ep, ndA s.base, cmA s.log]]) [rdR z v2] [] := ⟨a, s, ha, hs, rfl, ⟨_, rfl, by omega, by omega⟩, rfl⟩
      (refine at_retL ?_; simp only [Tryz.results42, retL, push_cast, simprocAttr]; simpa [show List.range 1 = [0] from rfl, show List.range 2 = [0, 1] from rfl, show List.range 3 = [0, 1, 2] from rfl, nmL, mvF, ndB, ixOf, rowsOf, hget, rdR, rowS, rowN, rowC] using  hfin)
    · (try simp only [hb2, push_cast, simprocAttr])
      refine at_draw rfl (by kernel_rfl) ?_; simp only [push_cast, simprocAttr]
      refine at_done (by kernel_rfl) (by kernel_rfl) (go_on ?_)
      (try simp only [push_cast, simprocAttr])
      have hfin : bothD z p 4000 (.tup [.agg [iA a.ep, ndA a.base, cmA a.log], .agg [iA a.ep, ndA a.base, cmA l]]) [rdR z q] [] := ⟨a, ⟨_, a.base, l⟩, ha, ⟨ha.b, hl⟩, rfl, ⟨_, rfl, by omega, by omega⟩, rfl⟩
      (refine at_retL ?_; simp only [Tryz.results42, retL, push_cast, simprocAttr]; simpa [show List.range 1 = [0] from rfl, show List.range 2 = [0, 1] from rfl, show List.range 3 = [0, 1, 2] from rfl, nmL, mvF, ndB, ixOf, rowsOf, hget, rdR, rowS, rowN, rowC] using  hfin)
end Go.Proofs.YtpanjecgbnomhaaGreatDoor
/-
  Walks: a side's tree, twice; equality of trees and of logs by the laws' own loops.
-/
namespace Go.Proofs.YtpanjecgbnomhaaGreatDoor
open Go Go.RowKit Go.Proofs
theorem lap_site {s : St} (h : siteV s = true) : lap s.base s.log = (siteT s, ((apAll s.base s.log).2 : Int)) := by
  unfold siteT
  rw [if_pos h]
  simp only [siteV, Bool.and_eq_true] at h
  have hf := h.2
  simp only [fits, Bool.and_eq_true] at hf
  unfold lap
  rw [if_pos (by simp_all)]
attribute [local irreducible] RWp AW run kPe pe Kt effA gd gu br retR RDp runD kPeD brW gW effD
set_option maxRecDepth 100000
theorem SiteTree_pc (s : St) (hs : SmS s) : PC Tryz.prog 31 [stA' s] (rX (.o 0 (siteT s).length) [rowN (siteT s)]) := by
  have hL := LogApply_pc s.base hs.t s.log hs.l
  have hV := SiteValid_pc s hs
  unfold stA' stC at hV ⊢
  refine pc_enter Tryz.func31 rfl rfl fun w0 fb => go_on ?_; (try simp only [Tryz.ntmps31, push_cast, simprocAttr])
  refine at_call ?_
  (try simp only [push_cast, simprocAttr])
  refine rwc_v hV ?_
  (try simp only [push_cast, simprocAttr])
  (refine at_dropS [2] (by refine wk_ok ?_ ?_ ?_ ?_ <;> simp [dropS, dropT, hasN, delL, hdel, leL, leH, idsL, idsA, idsR, inH, hget, sameRow]) ?_; simp only [dropS, dropT, hasN, delL, hdel, idsA, idsL, hget, List.map_cons, List.map_nil, List.all_cons, List.all_nil, List.append_nil, Bool.not_false, Bool.not_true, Bool.and_true, if_true, if_false, simprocAttr])
  refine go_on ?_
  (try simp only [push_cast, simprocAttr])
  refine at_b (fun hb => ?_) (fun hb => ?_)
  · have h : siteV s = false := not_t hb
    (try simp only [hb, push_cast, simprocAttr])
    refine at_ret ?_; simp only [Tryz.results31, push_cast, simprocAttr]
    simp [rX, siteT, h, ixOf]
  · have h : siteV s = true := not_f hb
    rw [lap_site h] at hL
    (try simp only [hb, push_cast, simprocAttr])
    (refine at_call ?_; (try simp only [push_cast, simprocAttr]); refine rwc_r (hL) (by simp [flatV, flatL]) (flat_n _) (by simp [frB, baseOf]) (go_on ?_); (try simp only [push_cast, simprocAttr]))
    refine at_ret ?_; simp only [Tryz.results31, push_cast, simprocAttr]
    simp [rX, ixOf]
theorem ct_ext (a b : Ct) : a = b ↔ a.k = b.k ∧ a.v = b.v := by
  obtain ⟨a1, a2⟩ := a
  obtain ⟨b1, b2⟩ := b
  simp
theorem ndg : Tryz.prog.eqGuardType Tryz.prog.depth 84 = false := by kernel_rfl
theorem ndh : Tryz.prog.stoodInHeld 84 = false := by kernel_rfl
theorem sameNodes_pc (a b : List Nd) (hl : a.length < 4294967281) : PC Tryz.prog 28 [ndA a, ndA b] (vB (decide (a = b))) := by
  refine pc_enter Tryz.func28 rfl rfl fun w0 fb => go_on ?_; (try simp only [Tryz.ntmps28, push_cast, simprocAttr])
  refine at_b (fun hb => ?_) (fun hb => ?_)
  · have h1 := of_eqI_f (not_t hb)
    have h2 : a ≠ b := by rintro rfl; exact h1 rfl
    (try simp only [hb, push_cast, simprocAttr])
    refine at_ret ?_; simp only [Tryz.results28, push_cast, simprocAttr]
    simp [vX, h2]
  · have h1 : a.length = b.length := by have := of_eqI_t (not_f hb); omega
    (try simp only [hb, push_cast, simprocAttr])
    refine at_loop (X := Nat) (fun k => [(5, iA k)]) (fun _ => []) (fun k => k ≤ a.length ∧ decide (a = b) = decide (a.drop k = b.drop k)) (fun k => a.length - k) 0 ⟨Nat.zero_le _, rfl⟩ ?_ ?_
    · (refine wk_ok ?_ ?_ ?_ ?_ <;> simp [leL, leH, idsL, idsA, idsR, inH, hget, sameRow, upA, hvA, dsts, dstO, setA_0, setA_1, setA_8, List.append, List.cons_append, List.nil_append])
    · rintro k ⟨q1, q2⟩
      simp only [upA, hvA, dsts, dstO, setA_0, setA_1, setA_8, List.append, List.cons_append, List.nil_append]
      refine go_on ?_
      (try simp only [push_cast, simprocAttr])
      refine at_b (fun hg => ?_) (fun hg => ?_)
      · have hlt := lt_tt hg
        obtain ⟨x, hx⟩ := get_of_lt hlt
        obtain ⟨y, hy⟩ := get_of_lt (l := b) (k := k) (by omega)
        have i1 := ix_n hx
        have i3 := ix_n hy
        have i2 := map_get ndC hx
        have i4 := map_get ndC hy
        simp only [ndC] at i2 i4
        rw [drop_of_get hx, drop_of_get hy] at q2
        have w2 := wr ((k : Int) + 1) (by omega)
        (try simp only [hg, push_cast, simprocAttr])
        refine at_draw rfl (by kernel_rfl) ?_
        (try simp only [i1, i2, i3, i4, ctg, cth, ndg, ndh, push_cast, simprocAttr])
        refine at_done (by kernel_rfl) (by kernel_rfl) (go_on ?_)
        have e : (decide (x.p = y.p) && (eqI x.c.k y.c.k && eqI x.c.v y.c.v)) = decide (x = y) := by
          rw [Bool.eq_iff_iff]; simp [eqI_d, nd_ext, ct_ext]
        (try simp only [e, push_cast, simprocAttr])
        refine at_b (fun hn => ?_) (fun hn => ?_)
        · have hxy : x ≠ y := by simpa using hn
          (try simp only [hn, push_cast, simprocAttr])
          refine at_ret ?_; simp only [Tryz.results28, push_cast, simprocAttr]
          simp [vX, q2, hxy]
        · have hxy : x = y := by simpa using hn
          (try simp only [hn, w2, push_cast, simprocAttr])
          refine at_fin ⟨k + 1, ⟨by omega, ?_⟩, by omega, ?_⟩
          · rw [q2]; simp [hxy]
          · (refine wk_ok ?_ ?_ ?_ ?_ <;> simp [leL, leH, idsL, idsA, idsR, inH, hget, sameRow, upA, hvA, dsts, dstO, setA_0, setA_1, setA_8, List.append, List.cons_append, List.nil_append])
      · have h3 := lt_ff hg
        (try simp only [hg, push_cast, simprocAttr])
        refine at_ret ?_; simp only [Tryz.results28, push_cast, simprocAttr]
        rw [List.drop_of_length_le h3, List.drop_of_length_le (by omega)] at q2
        simp [vX, q2]
end Go.Proofs.YtpanjecgbnomhaaGreatDoor
/-
  Walks: what the drawn sides keep.
-/
namespace Go.Proofs.YtpanjecgbnomhaaGreatDoor
open Go Go.RowKit Go.Proofs
theorem StS.sm {s : St} (h : StS s) : SmS s := ⟨sm_tv ((tV_iff _).1 h.b), ⟨by have := h.l.n; omega, fun c hc => by have := h.l.p c hc; omega⟩⟩
theorem SmT2.n' {l : List Nd} (h : SmT2 l) : l.length < 4294967281 := by have := h.n; omega
theorem siteT_sm {s : St} (h : SmS s) : SmT2 (siteT s) := by
  unfold siteT
  split
  · exact apAll_sm _ _ h.t
  · exact ⟨⟨by simp, by simp⟩, by simp⟩
attribute [local irreducible] RWp AW run kPe pe Kt effA gd gu br retR RDp runD kPeD brW gW effD
set_option maxRecDepth 100000
end Go.Proofs.YtpanjecgbnomhaaGreatDoor
/-
  Walks: the draws of two sides (DrawSessionRun, DrawSessionClashes, DrawSessionNew).
-/
namespace Go.Proofs.YtpanjecgbnomhaaGreatDoor
open Go Go.RowKit Go.Proofs
def bothX (rv : AV) (rows : List Row) : Prop := ∃ a b : St, StS a ∧ StS b ∧ rv = .tup [stA' a, stA' b] ∧ rows = []
attribute [local irreducible] RWp AW run kPe pe Kt effA gd gu br retR RDp runD kPeD brW gW effD
set_option maxRecDepth 100000
theorem DrawSessionRun_pc (z : List Int) (hz : BytesOk z) : PC Tryz.prog 23 [byA z] bothX := by
  have hr : RdOk (z.take 2000) (0 + 4000) := ⟨hz.tk, by rw [List.length_take]; omega, by omega⟩
  refine pc_enter Tryz.func23 rfl rfl fun w0 fb => go_on ?_; (try simp only [Tryz.ntmps23, push_cast, simprocAttr])
  refine call_share (by simp [isC]) (l6Open_pc z hz) ?_
  rintro rv rows ⟨rfl, rfl⟩
  refine ⟨by simp [frB, baseOf], go_on ?_⟩
  (try simp only [push_cast, simprocAttr])
  (try simp only [push_cast, simprocAttr]); refine call_lend [6000] none (lr := [rdR (z.take 2000) 0]) (by simp [ndB]) (by first | rfl | simp [rowsOf, hget, rdR, rowS, rowN, rowC, sC, ndC, cmC]) (by simp [idsL, idsA]) (by simp [mvN]) (by simpa [rnA, ixOf] using l92Both_pcl (z.take 2000) 0 hr) ?_
  rintro rv lr' rows ⟨a, b, ha, hb, rfl, ⟨v, rfl, _, _⟩, rfl⟩
  unfold stA' stC
  (refine ⟨by simp [shB, mvF, rdR, rowS, rowN, rowC], by simp [frB, baseOf], go_on ?_⟩; simp only [killA, killH, killRow, push_cast, simprocAttr])
  refine at_ret ?_; simp only [Tryz.results23, push_cast, simprocAttr]
  exact ⟨a, b, ha, hb, rfl, rfl⟩
theorem DrawSessionClashes_pc (z : List Int) (hz : BytesOk z) : PC Tryz.prog 15 [byA z] bothX := by
  have hr : RdOk (z.take 2000) (0 + 4000) := ⟨hz.tk, by rw [List.length_take]; omega, by omega⟩
  refine pc_enter Tryz.func15 rfl rfl fun w0 fb => go_on ?_; (try simp only [Tryz.ntmps15, push_cast, simprocAttr])
  refine call_share (by simp [isC]) (l6Open_pc z hz) ?_
  rintro rv rows ⟨rfl, rfl⟩
  refine ⟨by simp [frB, baseOf], go_on ?_⟩
  (try simp only [push_cast, simprocAttr])
  (try simp only [push_cast, simprocAttr]); refine call_lend [6000] none (lr := [rdR (z.take 2000) 0]) (by simp [ndB]) (by first | rfl | simp [rowsOf, hget, rdR, rowS, rowN, rowC, sC, ndC, cmC]) (by simp [idsL, idsA]) (by simp [mvN]) (by simpa [rnA, ixOf] using l92Both_pcl (z.take 2000) 0 hr) ?_
  rintro rv lr' rows ⟨a, b, ha, hb, rfl, ⟨v, rfl, _, _⟩, rfl⟩
  unfold stA' stC
  (refine ⟨by simp [shB, mvF, rdR, rowS, rowN, rowC], by simp [frB, baseOf], go_on ?_⟩; simp only [killA, killH, killRow, push_cast, simprocAttr])
  refine at_ret ?_; simp only [Tryz.results15, push_cast, simprocAttr]
  exact ⟨a, b, ha, hb, rfl, rfl⟩
theorem DrawSessionNew_pc (z : List Int) (hz : BytesOk z) : PC Tryz.prog 36 [byA z] bothX := by
  have hr : RdOk (z.take 2000) (0 + 4000) := ⟨hz.tk, by rw [List.length_take]; omega, by omega⟩
  refine pc_enter Tryz.func36 rfl rfl fun w0 fb => go_on ?_; (try simp only [Tryz.ntmps36, push_cast, simprocAttr])
  refine call_share (by simp [isC]) (l6Open_pc z hz) ?_
  rintro rv rows ⟨rfl, rfl⟩
  refine ⟨by simp [frB, baseOf], go_on ?_⟩
  (try simp only [push_cast, simprocAttr])
  (try simp only [push_cast, simprocAttr]); refine call_lend [6000] none (lr := [rdR (z.take 2000) 0]) (by simp [ndB]) (by first | rfl | simp [rowsOf, hget, rdR, rowS, rowN, rowC, sC, ndC, cmC]) (by simp [idsL, idsA]) (by simp [mvN]) (by simpa [rnA, ixOf] using l92Both_pcl (z.take 2000) 0 hr) ?_
  rintro rv lr' rows ⟨a, b, ha, hb, rfl, ⟨v, rfl, _, _⟩, rfl⟩
  unfold stA' stC
  (refine ⟨by simp [shB, mvF, rdR, rowS, rowN, rowC], by simp [frB, baseOf], go_on ?_⟩; simp only [killA, killH, killRow, push_cast, simprocAttr])
  refine at_ret ?_; simp only [Tryz.results36, push_cast, simprocAttr]
  exact ⟨a, b, ha, hb, rfl, rfl⟩
end Go.Proofs.YtpanjecgbnomhaaGreatDoor
/-
  Walks: copies of sides; impl.CommandApply; equality of sides by the laws' own loops.
-/
namespace Go.Proofs.YtpanjecgbnomhaaGreatDoor
open Go Go.RowKit Go.Proofs
attribute [local irreducible] RWp AW run kPe pe Kt effA gd gu br retR RDp runD kPeD brW gW effD
set_option maxRecDepth 100000
theorem cloneLog_pc (l : List Cm) (hl : l.length < 4294967281) : PC Tryz.prog 73 [cmA l] (rX (.o 0 l.length) [rowC l]) := by
  refine pc_enter Tryz.func73 rfl rfl fun w0 fb => go_on ?_; (try simp only [Tryz.ntmps73, push_cast, simprocAttr])
  refine at_chk (by omega) ?_
  (try simp only [push_cast, simprocAttr])
  refine at_ret ?_; simp only [Tryz.results73, push_cast, simprocAttr]
  simp [rX, ixOf]
theorem clone_pc (s : St) (h1 : s.base.length < 4294967281) (h2 : s.log.length < 4294967281) : PC Tryz.prog 74 [stA' s] (rX (stO s) [rowN s.base, rowC s.log]) := by
  unfold stA' stC stO
  refine pc_enter Tryz.func74 rfl rfl fun w0 fb => go_on ?_; (try simp only [Tryz.ntmps74, push_cast, simprocAttr])
  refine at_draw rfl (by kernel_rfl) ?_; simp only [push_cast, simprocAttr]
  (refine at_callD (by simp [clB, idsL, idsA, hget]) ?_; (try simp only [push_cast, simprocAttr]); refine rcd_r (cloneTree_pc s.base h1) (by simp [flatV, flatL]) (flat_n _) (by simp [frB, baseOf]) ?_; (try simp only [push_cast, simprocAttr]))
  (refine at_callD (by simp [clB, idsL, idsA, hget]) ?_; (try simp only [push_cast, simprocAttr]); refine rcd_r (cloneLog_pc s.log h2) (by simp [flatV, flatL]) (flat_c _) (by simp [frB, baseOf]) ?_; (try simp only [push_cast, simprocAttr]))
  refine at_done (by kernel_rfl) (by kernel_rfl) (go_on ?_)
  (try simp only [push_cast, simprocAttr])
  refine at_ret ?_; simp only [Tryz.results74, push_cast, simprocAttr]
  simp [rX, ixOf]
theorem l41Copy_pc (s : St) (h1 : s.base.length < 4294967281) (h2 : s.log.length < 4294967281) : PC Tryz.prog 77 [stA' s] (rX (stO s) [rowN s.base, rowC s.log]) := by
  unfold stA' stC stO
  refine pc_enter Tryz.func77 rfl rfl fun w0 fb => go_on ?_; (try simp only [Tryz.ntmps77, push_cast, simprocAttr])
  refine at_draw rfl (by kernel_rfl) ?_; simp only [push_cast, simprocAttr]
  (try simp only [effD_app2, push_cast, simprocAttr])
  refine at_chkD (by omega) ?_
  (try simp only [effD_app2, push_cast, simprocAttr])
  refine at_chkD (by omega) ?_
  (try simp only [push_cast, simprocAttr])
  refine at_done (by kernel_rfl) (by kernel_rfl) (go_on ?_)
  (try simp only [push_cast, simprocAttr])
  refine at_ret ?_; simp only [Tryz.results77, push_cast, simprocAttr]
  simp [rX, ixOf]
theorem cmg : Tryz.prog.eqGuardType Tryz.prog.depth 57 = false := by kernel_rfl
theorem cmh : Tryz.prog.stoodInHeld 57 = false := by kernel_rfl
theorem sameLog_pc (a b : List Cm) (hl : a.length < 4294967281) : PC Tryz.prog 32 [cmA a, cmA b] (vB (decide (a = b))) := by
  refine pc_enter Tryz.func32 rfl rfl fun w0 fb => go_on ?_; (try simp only [Tryz.ntmps32, push_cast, simprocAttr])
  refine at_b (fun hb => ?_) (fun hb => ?_)
  · have h1 := of_eqI_f (not_t hb)
    have h2 : a ≠ b := by rintro rfl; exact h1 rfl
    (try simp only [hb, push_cast, simprocAttr])
    refine at_ret ?_; simp only [Tryz.results32, push_cast, simprocAttr]
    simp [vX, h2]
  · have h1 : a.length = b.length := by have := of_eqI_t (not_f hb); omega
    (try simp only [hb, push_cast, simprocAttr])
    refine at_loop (X := Nat) (fun k => [(5, iA k)]) (fun _ => []) (fun k => k ≤ a.length ∧ decide (a = b) = decide (a.drop k = b.drop k)) (fun k => a.length - k) 0 ⟨Nat.zero_le _, rfl⟩ ?_ ?_
    · (refine wk_ok ?_ ?_ ?_ ?_ <;> simp [leL, leH, idsL, idsA, idsR, inH, hget, sameRow, upA, hvA, dsts, dstO, setA_0, setA_1, setA_8, List.append, List.cons_append, List.nil_append])
    · rintro k ⟨q1, q2⟩
      simp only [upA, hvA, dsts, dstO, setA_0, setA_1, setA_8, List.append, List.cons_append, List.nil_append]
      refine go_on ?_
      (try simp only [push_cast, simprocAttr])
      refine at_b (fun hg => ?_) (fun hg => ?_)
      · have hlt := lt_tt hg
        obtain ⟨x, hx⟩ := get_of_lt hlt
        obtain ⟨y, hy⟩ := get_of_lt (l := b) (k := k) (by omega)
        have i1 := ix_n hx
        have i3 := ix_n hy
        have i2 := map_get cmC hx
        have i4 := map_get cmC hy
        simp only [cmC] at i2 i4
        rw [drop_of_get hx, drop_of_get hy] at q2
        have w2 := wr ((k : Int) + 1) (by omega)
        (try simp only [hg, push_cast, simprocAttr])
        refine at_draw rfl (by kernel_rfl) ?_
        (try simp only [i1, i2, i3, i4, ctg, cth, cmg, cmh, push_cast, simprocAttr])
        refine at_done (by kernel_rfl) (by kernel_rfl) (go_on ?_)
        have e : (decide (x.p = y.p) && ((eqI x.a.k y.a.k && eqI x.a.v y.a.v) && (eqI x.b.k y.b.k && eqI x.b.v y.b.v))) = decide (x = y) := by
          rw [Bool.eq_iff_iff]; simp [eqI_d, cm_ext, ct_ext]
        (try simp only [e, push_cast, simprocAttr])
        refine at_b (fun hn => ?_) (fun hn => ?_)
        · have hxy : x ≠ y := by simpa using hn
          (try simp only [hn, push_cast, simprocAttr])
          refine at_ret ?_; simp only [Tryz.results32, push_cast, simprocAttr]
          simp [vX, q2, hxy]
        · have hxy : x = y := by simpa using hn
          (try simp only [hn, w2, push_cast, simprocAttr])
          refine at_fin ⟨k + 1, ⟨by omega, ?_⟩, by omega, ?_⟩
          · rw [q2]; simp [hxy]
          · (refine wk_ok ?_ ?_ ?_ ?_ <;> simp [leL, leH, idsL, idsA, idsR, inH, hget, sameRow, upA, hvA, dsts, dstO, setA_0, setA_1, setA_8, List.append, List.cons_append, List.nil_append])
      · have h3 := lt_ff hg
        (try simp only [hg, push_cast, simprocAttr])
        refine at_ret ?_; simp only [Tryz.results32, push_cast, simprocAttr]
        rw [List.drop_of_length_le h3, List.drop_of_length_le (by omega)] at q2
        simp [vX, q2]
theorem sameSite_pc (a b : St) (h1 : a.base.length < 4294967281) (h2 : a.log.length < 4294967281) : PC Tryz.prog 26 [stA' a, stA' b] (vB (decide (a = b))) := by
  have hN := sameNodes_pc a.base b.base h1
  have hC := sameLog_pc a.log b.log h2
  unfold stA' stC
  refine pc_enter Tryz.func26 rfl rfl fun w0 fb => go_on ?_; (try simp only [Tryz.ntmps26, push_cast, simprocAttr])
  repeat' first | (refine at_b (fun hb => ?_) (fun hb => ?_) <;> simp only [hb, push_cast, simprocAttr]) | (refine at_ret ?_; simp only [Tryz.results26, push_cast, simprocAttr]) | (refine at_call ?_; (try simp only [push_cast, simprocAttr]); refine rwc_v (by first | exact hN | exact hC) (go_on ?_); simp only [push_cast, simprocAttr]) | (show RWp _ _ _ _ _; simp only [push_cast, simprocAttr])
  all_goals simp only [Bool.not_eq_true', Bool.not_eq_false', eqI_d, decide_eq_true_eq, decide_eq_false_iff_not] at *
  all_goals simp [vX, st_ext a b, *]
end Go.Proofs.YtpanjecgbnomhaaGreatDoor
/-
  Walks: SiteDo, twice.
-/
namespace Go.Proofs.YtpanjecgbnomhaaGreatDoor
open Go Go.RowKit Go.Proofs
/-- What SiteDo leaves where its arguments are valid. -/
def doR (s : St) (c : Cm) : AV → List Row → Prop := rX (.tup [stO (siteDo s c).1, bA (siteDo s c).2]) [rowN (siteDo s c).1.base, rowC (siteDo s c).1.log]
def st00 : AV := .agg [iA 0, .v (.slice none 0 0), .v (.slice none 0 0)]
theorem SiteDo_bad {s : St} {c : Cm} (h : (siteV s && cmV c) = false) : siteDo s c = (st0, false) := by unfold siteDo; rw [if_neg (by simp [h])]
theorem cap2_do {s : St} {c : Cm} (h : siteV s = true) (hc : cmV c = true) : (cap2 (siteT s) c).2 = (apC (siteT s) c).isSome := by
  have ht := (law_siteTree h).2.2
  unfold cap2
  rw [if_pos (by simp [ht, hc])]
  unfold apB2
  cases apC (siteT s) c <;> rfl
theorem do_ok {s : St} {c : Cm} (h : siteV s = true) (hc : cmV c = true) (h1 : (apC (siteT s) c).isSome = true) (h2 : s.log.length ≠ 20) : siteDo s c = (⟨s.ep, s.base, s.log ++ [c]⟩, true) := by
  unfold siteDo; rw [if_pos (by simp [h, hc]), if_pos (by simp [h1, h2])]
theorem do_no {s : St} {c : Cm} (h : siteV s = true) (hc : cmV c = true) (h1 : (apC (siteT s) c).isSome = false ∨ s.log.length = 20) : siteDo s c = (s, false) := by
  unfold siteDo; rw [if_pos (by simp [h, hc]), if_neg (by rcases h1 with h1 | h1 <;> simp [h1])]
attribute [local irreducible] RWp AW run kPe pe Kt effA gd gu br retR RDp runD kPeD brW gW effD
set_option maxRecDepth 100000
theorem nil_st0 {h : Hp} {loc : Loc} {w : World} {v : Value} (hg : G h loc w st00 v) : G h loc w (stA' st0) v := by
  refine hg.agg2 rfl fun j x y u h1 h2 h3 => ?_
  rcases j with _ | _ | _ | j
  · cases h1; cases h2; exact h3
  · cases h1; cases h2; exact h3.nil2
  · cases h1; cases h2; exact h3.nil2
  · cases h1
end Go.Proofs.YtpanjecgbnomhaaGreatDoor
/-
  Walks: spec.SiteDo.
-/
namespace Go.Proofs.YtpanjecgbnomhaaGreatDoor
open Go Go.RowKit Go.Proofs
theorem siteV_add {s : St} {c : Cm} (hv : siteV s = true) (hc : cmV c = true) : siteV ⟨s.ep, s.base, s.log ++ [c]⟩ = ((apC (siteT s) c).isSome && decide (s.log.length ≠ 20)) := by
  obtain ⟨t, L, hs⟩ := (siteV_iff s).1 hv
  rw [Bool.eq_iff_iff, Bool.and_eq_true, decide_eq_true_eq, hs.T]
  constructor
  · intro h
    obtain ⟨t', L', h'⟩ := (siteV_iff _).1 h
    have h1 := apAll_append_inv hs.ap h'.ap
    obtain ⟨t1, h2, _⟩ := apAll_cons h1
    have h3 := lV_len h'.lv
    simp only [List.length_append, List.length_singleton] at h3
    exact ⟨by rw [h2]; rfl, by omega⟩
  · rintro ⟨h1, h2⟩
    cases hx : apC t c with
    | none => rw [hx] at h1; cases h1
    | some x =>
      obtain ⟨L', h3⟩ := hs.add ((cmV_iff c).1 hc) hx h2
      exact h3.v
attribute [local irreducible] RWp AW run kPe pe Kt effA gd gu br retR RDp runD kPeD brW gW effD
set_option maxRecDepth 100000
end Go.Proofs.YtpanjecgbnomhaaGreatDoor
