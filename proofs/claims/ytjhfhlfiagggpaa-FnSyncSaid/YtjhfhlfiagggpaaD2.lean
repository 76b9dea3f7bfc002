/- l4Bytes, sameInts, the place of a file (impl). -/
import Derived.Test.YtjhfhlfiagggpaaD1
namespace Go.Proofs.Ytjhfhlfiagggpaa
open Go Go.RowKit

theorem bytesB_step {xs : List Int} {k : Nat} {x : Int} (hx : xs[k]? = some x) (h : bytesB (xs.take k) = true) (hb : byteB x = true) : bytesB (xs.take (k + 1)) = true := by
  have hk := lt_of_get hx
  rw [List.take_succ_eq_append_getElem hk]
  rw [List.getElem?_eq_getElem hk] at hx
  injection hx with hx
  simp only [bytesB, List.all_append, List.all_cons, List.all_nil, Bool.and_true, Bool.and_eq_true] at h ⊢
  exact ⟨h, by rw [hx]; exact hb⟩
theorem bytesB_bad {xs : List Int} {k : Nat} {x : Int} (hx : xs[k]? = some x) (hb : byteB x = false) : bytesB xs = false := by
  have : x ∈ xs := List.mem_of_getElem? hx
  cases h : bytesB xs with
  | false => rfl
  | true =>
    have := List.all_eq_true.1 h x this
    rw [hb] at this
    cases this

set_option maxHeartbeats 400000 in
set_option maxRecDepth 100000 in
theorem l4Bytes_any (L : Nat) (v : Value) (xs : List Int) (w : World) (h : Ints w L v xs) :
    Calls Try.prog 70 #[v] w fun e w' => e = .returned (.bool (bytesB xs)) ∧ w' = w := by
  obtain ⟨A, c, rfl, hc, hcm, hr⟩ := h
  unfold maxLen at hcm
  have HR := Lib.hid hr
  clear hr
  go_enter Try.func70, Try.ntmps70
  go_wp2_with fail
  go_loop [2, 3] (fun _ i => ∃ k : Nat, k ≤ xs.length ∧ i = .int .i64 k ∧ bytesB (xs.take k) = true) (fun _ i => xs.length - (intOf i).toNat)
  case atStart => exact ⟨0, Nat.zero_le _, rfl, rfl⟩
  case round =>
    obtain ⟨k, hk, rfl, hbk⟩ := hrel
    have HB := Lib.hid hbk
    clear hbk
    by_cases hlt : k < xs.length
    · obtain ⟨x, hx⟩ := get_of_lt hlt
      obtain ⟨b, off, rfl, _, hbl, c0⟩ := HR.out.int hx
      have HX := Lib.hid hx
      clear hx
      cases hE : inB x 0 255
      · have HE := Lib.hid (show byteB x = false from hE)
        go_wp2_with (go_at_call 49; refine (l6In_any _ _ _ _).mono ?_; rintro e w1 ⟨rfl, rfl⟩)
        go_ret
        exact ⟨ret_bool (bytesB_bad HX.out HE.out).symm, rfl⟩
      · have HE := Lib.hid (show byteB x = true from hE)
        go_wp2_with (go_at_call 49; refine (l6In_any _ _ _ _).mono ?_; rintro e w1 ⟨rfl, rfl⟩)
        go_round
        case rel => exact ⟨k + 1, by omega, by go_num, bytesB_step HX.out HB.out HE.out⟩
        case measure => simp [intOf]; omega
    · go_wp2_with fail
      go_ret
      exact ⟨ret_bool (by have := HB.out; rw [List.take_of_length_le (by omega)] at this; exact this.symm), rfl⟩

theorem int_beq (a b : Int) : (a == b) = eqB a b := by
  unfold eqB
  rw [Bool.eq_iff_iff]
  simp
theorem int_bne (a b : Int) : (a != b) = !eqB a b := by
  unfold eqB
  rw [Bool.eq_iff_iff]
  simp

set_option maxHeartbeats 400000 in
set_option maxRecDepth 100000 in
theorem sameInts_any (L L' : Nat) (v v' : Value) (xs ys : List Int) (w : World) (h : Ints w L v xs) (h' : Ints w L' v' ys) :
    Calls Try.prog 25 #[v, v'] w fun e w' => e = .returned (.bool (eqB xs ys)) ∧ ∃ n, w' = w.drewN n := by
  obtain ⟨A, c, rfl, hc, hcm, hr⟩ := h
  obtain ⟨A', c', rfl, hc', hcm', hr'⟩ := h'
  unfold maxLen at hcm hcm'
  have HR := Lib.hid hr
  have HR' := Lib.hid hr'
  clear hr hr'
  by_cases hl : xs.length = ys.length
  · have hlb : ((xs.length : Int) != (ys.length : Int)) = false := by simp [hl]
    have HL := Lib.hid hl
    have hle : xs.length ≤ ys.length := by omega
    clear hl
    go_enter Try.func25, Try.ntmps25
    go_wp2_with fail
    go_loopw [4, 5] (fun _ i wr => ∃ k : Nat, k ≤ xs.length ∧ i = .int .i64 k ∧ (∀ j, j < k → xs[j]? = ys[j]?) ∧ ∃ n, wr = w.drewN n) (fun _ i _ => xs.length - (intOf i).toNat)
    case atStart => exact ⟨0, Nat.zero_le _, rfl, fun _ h => absurd h (by omega), 0, rfl⟩
    case round =>
      obtain ⟨k, hk, rfl, hfi, m, rfl⟩ := hrel
      have HI := Lib.hid hfi
      clear hfi
      by_cases hlt : k < xs.length
      · have hlt2 : k < ys.length := by omega
        obtain ⟨x, hx⟩ := get_of_lt hlt
        obtain ⟨y, hy⟩ := get_of_lt hlt2
        obtain ⟨b, off, rfl, _, hbl, c0⟩ := HR.out.int hx
        obtain ⟨b', off', rfl, _, hbl', d0⟩ := HR'.out.int hy
        have HX := Lib.hid hx
        have HY := Lib.hid hy
        clear hx hy
        by_cases hxy : x = y
        · have hb : (x != y) = false := by simp [hxy]
          have HXY := Lib.hid hxy
          clear hxy
          go_wp2_with fail
          go_quiet (fail)
          go_wp2_with fail
          go_roundw
          case rel => exact ⟨k + 1, by omega, by go_num, prefix_step HX.out HY.out HI.out HXY.out, m + nq, by first | rfl | rw [World.drewN_drewN]⟩
          case measure => simp [intOf]; omega
        · have hb : (x != y) = true := by simp [hxy]
          have HXY := Lib.hid hxy
          clear hxy
          go_wp2_with fail
          go_quiet (fail)
          go_wp2_with fail
          go_ret
          exact ⟨ret_bool (eqB_ff (ne_of_get HX.out HY.out HXY.out)).symm, m + nq, by first | rfl | rw [World.drewN_drewN]⟩
      · go_wp2_with fail
        go_ret
        exact ⟨ret_bool (eqB_tt (eq_of_prefix HL.out fun j hj => HI.out j (by omega))).symm, m, rfl⟩
  · have hlb : ((xs.length : Int) != (ys.length : Int)) = true := by rw [bne_iff_ne]; omega
    have HL := Lib.hid hl
    clear hl
    go_enter Try.func25, Try.ntmps25
    go_wp2_with fail
    go_ret
    exact ⟨ret_bool (eqB_ff fun h => HL.out (by rw [h])).symm, 0, rfl⟩

set_option maxHeartbeats 1000000 in
set_option maxRecDepth 100000 in
theorem sameDisk_any (L L' : Nat) (v v' : Value) (bs cs : List BD) (w : World) (h : Blobs w L v bs) (h' : Blobs w L' v' cs) :
    Calls Try.prog 12 #[v, v'] w fun e w' => e = .returned (.bool (eqB bs cs)) ∧ ∃ n, w' = w.drewN n := by
  obtain ⟨A, c, rfl, hc, hcm⟩ := h.form
  obtain ⟨A', c', rfl, hc', hcm'⟩ := h'.form
  unfold maxLen at hcm hcm'
  have HR := Lib.hid h
  have HR' := Lib.hid h'
  clear h h'
  by_cases hl : bs.length = cs.length
  · have hlb : ((bs.length : Int) != (cs.length : Int)) = false := by simp [hl]
    have HL := Lib.hid hl
    have hle : bs.length ≤ cs.length := by omega
    clear hl
    go_enter Try.func12, Try.ntmps12
    go_wp2_with fail
    go_loopw [4, 5] (fun _ i wr => ∃ k : Nat, k ≤ bs.length ∧ i = .int .i64 k ∧ (∀ j, j < k → bs[j]? = cs[j]?) ∧ ∃ n, wr = w.drewN n) (fun _ i _ => bs.length - (intOf i).toNat)
    case atStart => exact ⟨0, Nat.zero_le _, rfl, fun _ h => absurd h (by omega), 0, rfl⟩
    case round =>
      obtain ⟨k, hk, rfl, hfi, m, rfl⟩ := hrel
      have HI := Lib.hid hfi
      clear hfi
      by_cases hlt : k < bs.length
      · have hlt2 : k < cs.length := by omega
        obtain ⟨x, hx⟩ := get_of_lt hlt
        obtain ⟨y, hy⟩ := get_of_lt hlt2
        obtain ⟨b, off, u1, u2, rfl, _, hbl, c0, c1, c2, hs1, hf1⟩ := HR.out.at_ hx
        obtain ⟨b', off', z1, z2, rfl, _, hbl', d0, d1, d2, hs2, hf2⟩ := HR'.out.at_ hy
        have HX := Lib.hid hx
        have HY := Lib.hid hy
        have hC1 := Lib.hid (fun n => sameInts_any L L' u1 z1 x.safe y.safe (w.drewN n) (Sl.drewN hs1 n) (Sl.drewN hs2 n))
        have hC2 := Lib.hid (fun n => sameInts_any L L' u2 z2 x.fresh y.fresh (w.drewN n) (Sl.drewN hf1 n) (Sl.drewN hf2 n))
        clear hx hy hs1 hf1 hs2 hf2
        by_cases hn : x.name = y.name
        · have hb : (x.name != y.name) = false := by simp [hn]
          have HN := Lib.hid hn
          clear hn
          cases e1 : eqB x.safe y.safe
          · have HE := Lib.hid e1
            go_wp2_with fail
            go_quiet ((go_at_call 25; with_reducible first | exact quiet_add (hC1.out _) | exact Calls.quiet_of (hC1.out _)))
            go_wp2_with fail
            go_ret
            exact ⟨ret_bool (eqB_ff (ne_of_get HX.out HY.out fun h => by have := HE.out; rw [h] at this; exact absurd this (by simp [eqB]))).symm, m + nq, by first | rfl | rw [World.drewN_drewN]⟩
          · have HE := Lib.hid e1
            cases e2 : eqB x.fresh y.fresh
            · have HE2 := Lib.hid e2
              go_wp2_with fail
              go_quiet ((go_at_call 25; with_reducible first | exact quiet_add (hC1.out _) | exact Calls.quiet_of (hC1.out _) | exact quiet_add (hC2.out _) | exact Calls.quiet_of (hC2.out _)))
              go_wp2_with fail
              go_ret
              exact ⟨ret_bool (eqB_ff (ne_of_get HX.out HY.out fun h => by have := HE2.out; rw [h] at this; exact absurd this (by simp [eqB]))).symm, m + nq, by first | rfl | rw [World.drewN_drewN]⟩
            · have HE2 := Lib.hid e2
              have HXY := Lib.hid (show x = y by
                have g1 := HE.out
                have g2 := HE2.out
                have g3 := HN.out
                simp [eqB] at g1 g2
                cases x; cases y; simp_all)
              go_wp2_with fail
              go_quiet ((go_at_call 25; with_reducible first | exact quiet_add (hC1.out _) | exact Calls.quiet_of (hC1.out _) | exact quiet_add (hC2.out _) | exact Calls.quiet_of (hC2.out _)))
              go_wp2_with fail
              go_roundw
              case rel => exact ⟨k + 1, by omega, by go_num, prefix_step HX.out HY.out HI.out HXY.out, m + nq, by first | rfl | rw [World.drewN_drewN]⟩
              case measure => simp [intOf]; omega
        · have hb : (x.name != y.name) = true := by simp [hn]
          have HN := Lib.hid hn
          clear hn
          go_wp2_with fail
          go_quiet (fail)
          go_wp2_with fail
          go_ret
          exact ⟨ret_bool (eqB_ff (ne_of_get HX.out HY.out fun h => HN.out (by rw [h]))).symm, m + nq, by first | rfl | rw [World.drewN_drewN]⟩
      · go_wp2_with fail
        go_ret
        exact ⟨ret_bool (eqB_tt (eq_of_prefix HL.out fun j hj => HI.out j (by omega))).symm, m, rfl⟩
  · have hlb : ((bs.length : Int) != (cs.length : Int)) = true := by rw [bne_iff_ne]; omega
    have HL := Lib.hid hl
    clear hl
    go_enter Try.func12, Try.ntmps12
    go_wp2_with fail
    go_ret
    exact ⟨ret_bool (eqB_ff fun h => HL.out (by rw [h])).symm, 0, rfl⟩
end Go.Proofs.Ytjhfhlfiagggpaa
