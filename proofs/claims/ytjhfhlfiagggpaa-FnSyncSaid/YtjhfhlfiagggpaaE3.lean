/- spec.l31With. -/
import Derived.Test.YtjhfhlfiagggpaaE2
namespace Go.Proofs.Ytjhfhlfiagggpaa
open Go Go.RowKit

theorem bsz {w W : World} {o : Obj} (h : Below (w.heap.size + 1) (w.alloc o) W) : w.heap.size + 1 ≤ W.heap.size := by
  have := h.size
  simpa using this
/-- A row that grew still lies apart from another. -/
theorem ne_step {w : World} {L n s : Nat} {e : TypeId} {r u u' : Value} {xs : List Value} (hr : w.ownsRow L e s r n xs) (hne : r.ownBlock = none ∨ r.ownBlock ≠ u.ownBlock) (hb : u'.ownBlock = u.ownBlock ∨ u'.ownBlock = some w.heap.size) : r.ownBlock = none ∨ r.ownBlock ≠ u'.ownBlock := by
  rcases hb with h | h
  · rw [h]; exact hne
  · cases hk : r.ownBlock with
    | none => exact .inl rfl
    | some k =>
      have := (World.ownsRow.lt hr k hk).2
      exact .inr (by rw [h]; simp; omega)

theorem insD_done {b : BD} {R O : List BD} {k : Nat} {d : BD} (hd : R[k]? = some d) (h : O ++ R.drop k = insD b R) : (O ++ [d]) ++ R.drop (k + 1) = insD b R := by
  rw [drop_of_get hd] at h
  simpa using h
theorem insD_now {b : BD} {R O : List BD} {k : Nat} {d : BD} (hd : R[k]? = some d) (hl : b.name < d.name) (h : O ++ insD b (R.drop k) = insD b R) : (O ++ [b] ++ [d]) ++ R.drop (k + 1) = insD b R := by
  rw [drop_of_get hd, insD, if_pos hl] at h
  simpa using h
theorem insD_later {b : BD} {R O : List BD} {k : Nat} {d : BD} (hd : R[k]? = some d) (hl : ¬ b.name < d.name) (h : O ++ insD b (R.drop k) = insD b R) : (O ++ [d]) ++ insD b (R.drop (k + 1)) = insD b R := by
  rw [drop_of_get hd, insD, if_neg hl] at h
  simpa using h

set_option maxHeartbeats 4000000 in
set_option maxRecDepth 100000 in
theorem l31With_any (L L' : Nat) (v v1 v2 : Value) (bs : List BD) (nm : Int) (xs ys : List Int) (w : World) (h : Blobs w L v bs) (hsm : smallBs bs) (h1 : Ints w L' v1 xs) (h2 : Ints w L' v2 ys) (hx : xs.length ≤ 4194304) (hy : ys.length ≤ 4194304) :
    Calls Try.prog 44 #[v, .agg #[.int .i64 nm, v1, v2]] w fun e w' => ∃ v', e = .returned v' ∧ SBlobs w' w.heap.size v' (insD ⟨nm, xs, ys⟩ (filterD bs nm)) ∧ Below w.heap.size w w' := by
  obtain ⟨i0, hi, hz0, hz1, hz2⟩ := info_parts info_Blob
  have hn : (filterD bs nm).length ≤ 4194304 := Nat.le_trans (List.length_filter_le _ _) hsm.1
  have HW := Lib.hid (fun (W : World) (hW : Below w.heap.size w W) => l31Without_any L v bs nm W (h.below hW) hsm)
  obtain ⟨A1, n1, rfl, hn1, hm1, hr1⟩ := h1
  obtain ⟨A2, n2, rfl, hn2, hm2, hr2⟩ := h2
  obtain ⟨A, c, rfl, hc, hcm⟩ := h.form
  have HC := Lib.hid (fun (W : World) (hW : Below (w.heap.size + 1) (w.alloc (.cells #[.int .i64 nm, .slice A1 xs.length n1, .slice A2 ys.length n2] 72)) W) => l31Copy_any nm (.slice A1 xs.length n1) (.slice A2 ys.length n2) xs ys W ⟨A1, n1, rfl, hn1, hm1, ((hr1.less (Nat.zero_le _)).alloc _).below (hW.mono (by simp))⟩ ⟨A2, n2, rfl, hn2, hm2, ((hr2.less (Nat.zero_le _)).alloc _).below (hW.mono (by simp))⟩ hx hy)
  have HCELL := Lib.hid (fun (W : World) (hW : Below (w.heap.size + 1) (w.alloc (.cells #[.int .i64 nm, .slice A1 xs.length n1, .slice A2 ys.length n2] 72)) W) => (show W.cell? ⟨w.heap.size, 0, none⟩ = some (.int .i64 nm) ∧ W.cell? ⟨w.heap.size, 1, none⟩ = some (.slice A1 xs.length n1) ∧ W.cell? ⟨w.heap.size, 2, none⟩ = some (.slice A2 ys.length n2) from
    ⟨by rw [hW.cell (by simp)]; go_simp, by rw [hW.cell (by simp)]; go_simp, by rw [hW.cell (by simp)]; go_simp⟩))
  clear h hr1 hr2
  have HN0 := Lib.hid (NoRoom.new (w.alloc (.cells #[.int .i64 nm, .slice A1 xs.length n1, .slice A2 ys.length n2] 72)) 72 (w.heap.size + 1) (by simp))
  go_enter Try.func44, Try.ntmps44
  go_wp2_with fail
  with_reducible refine (HW.out _ (below2 _ _ _)).mono ?_
  rintro e w1 ⟨vr, rfl, ⟨ivr, hsr⟩, hb1⟩
  have HB1 := Lib.hid (show Below (w.heap.size + 1) (w.alloc (.cells #[.int .i64 nm, .slice A1 xs.length n1, .slice A2 ys.length n2] 72)) w1 from (((Below.refl _ _).alloc (by simp) _).trans (hb1.mono (by simp))))
  have HR1 := Lib.hid (hsr.less (L' := (w.heap.size + 1)) (by simp))
  have HNE0 := Lib.hid (show vr.ownBlock = none ∨ vr.ownBlock ≠ some (w.heap.size + 1) from by
    cases hk : vr.ownBlock with
    | none => exact .inl rfl
    | some k =>
      have := (World.ownsRow.lt hsr.row k hk).1
      simp at this
      exact .inr (by simp; omega))
  have HN1 := Lib.hid (show NoRoom w1 (w.heap.size + 1) 72 (.slice (some ⟨w.heap.size + 1, 0, none⟩) 0 0) from by have := HN0.out.below (hb1.mono (by simp)); simpa using this)
  clear hsr hb1
  obtain ⟨A6, c6, rfl⟩ := own_form HR1.out.row
  have hcm6 := own_cap HR1.out.row
  unfold maxLen at hcm6
  generalize hR : filterD bs nm = R at *
  have HRE := Lib.hid hR
  clear hR
  go_wp2_with fail
  go_loopw [5, 7, 8] (fun o dn i wr => ∃ (k : Nat) (O : List BD) (ivs : List (Value × Value)) (q : Bool), k ≤ R.length ∧ i = .int .i64 k ∧ dn = .bool q ∧ O.length ≤ k + 1 ∧ (q = false → O.length ≤ k) ∧ SB wr (w.heap.size + 1) o O ivs ∧ SB wr (w.heap.size + 1) (.slice A6 R.length c6) R ivr ∧
      ((.slice A6 R.length c6 : Value).ownBlock = none ∨ (.slice A6 R.length c6 : Value).ownBlock ≠ o.ownBlock) ∧ O ++ (if q then R.drop k else insD ⟨nm, xs, ys⟩ (R.drop k)) = insD ⟨nm, xs, ys⟩ R ∧ Below (w.heap.size + 1) (w.alloc (.cells #[.int .i64 nm, .slice A1 xs.length n1, .slice A2 ys.length n2] 72)) wr) (fun _ _ i _ => R.length - (intOf i).toNat)
  case atStart => exact ⟨0, [], [], false, Nat.zero_le _, rfl, rfl, by simp, fun _ => by simp, SB.noRoom HN1.out, HR1.out, by simpa [Value.ownBlock] using HNE0.out, by simp, HB1.out⟩
  case round =>
    obtain ⟨k, O, ivs, q, hk, rfl, rfl, hOl, hOq, ho, hr, hne, heq, hb⟩ := hrel
    have HO := Lib.hid ho
    have HR := Lib.hid hr
    have HNE := Lib.hid hne
    have HEQ := Lib.hid heq
    have HB := Lib.hid hb
    obtain ⟨hbx0, hbx1, hbx2⟩ := HCELL.out wr hb
    have hszw := bsz hb
    clear ho hr hne heq hb
    by_cases hlt : k < R.length
    · obtain ⟨d, hd⟩ := get_of_lt hlt
      obtain ⟨gr, u1, u2, rfl, _, hbl, c0, c1, c2, hs, hf⟩ := HR.out.at_ hd
      have HS := Lib.hid hs
      have HF := Lib.hid hf
      have HD := Lib.hid hd
      obtain ⟨A7, n7, rfl⟩ := own_form hs
      obtain ⟨A8, n8, rfl⟩ := own_form hf
      clear hs hf hd
      cases q
      · have hOl2 := hOq rfl
        clear hOq
        by_cases hnm : nm < d.name
        · have hE := Lib.hid (insD_now (b := ⟨nm, xs, ys⟩) HD.out hnm (by simpa using HEQ.out))
          have hb0 : decide (nm < d.name) = true := by simpa using hnm
          go_wp2_with fail
          go_quiet (fail)
          have HO' := Lib.hid (HO.out.drewN nq)
          have HR' := Lib.hid (HR.out.drewN nq)
          have HBq := Lib.hid (Below.drewN HB.out nq)
          go_wp2_with fail
          with_reducible refine (HC.out _ HBq.out).mono ?_
          rintro e wc ⟨z1, z2, rfl, hz1', hz2', hb1⟩
          have HBc := Lib.hid hb1
          have HZ1 := Lib.hid (own_less hz1' (base' := (w.heap.size + 1)) (bsz HBq.out))
          have HZ2 := Lib.hid (own_less hz2' (base' := (w.heap.size + 1)) (bsz HBq.out))
          clear hz1' hz2' hb1
          obtain ⟨A3, n3, rfl⟩ := own_form HZ1.out
          obtain ⟨A4, n4, rfl⟩ := own_form HZ2.out
          have HBd := Lib.hid (HBq.out.trans (HBc.out.mono (bsz HBq.out)))
          have HOc := Lib.hid (HO'.out.below HBc.out)
          have HRc := Lib.hid (HR'.out.below HBc.out)
          go_wp2_with (first
            | (at_builtin; have HNy := Lib.hid (Rd.new1 wax [.int .i64 d.name, .slice Ax1 d.safe.length nx1, .slice Ax2 d.fresh.length nx2] 72 0 3 (Nat.zero_le _) rfl); have HOay := Lib.hid (HObx.out.below (below1 wax (.cells #[.int .i64 d.name, .slice Ax1 d.safe.length nx1, .slice Ax2 d.fresh.length nx2] 72))); have HRay := Lib.hid (HRbx.out.below (below1 wax (.cells #[.int .i64 d.name, .slice Ax1 d.safe.length nx1, .slice Ax2 d.fresh.length nx2] 72))); have HBay := Lib.hid (HBbx.out.trans ((below1 wax (.cells #[.int .i64 d.name, .slice Ax1 d.safe.length nx1, .slice Ax2 d.fresh.length nx2] 72)).mono (bsz HBbx.out))); go_loud (refine wpList_append_rd _ rfl _ _ 23 rfl (w.heap.size + 1) 72 i0 _ 3 56 und_Blobs hi hz0 hz1 hz2 rfl (by decide) vx _ _ rfl HOay.out.row 0 _ 1 1 _ rfl HNy.out (by simp [Value.oneCell']) ?c1 ?c2 ?c3 ?_); (case c1 => (try simp only [List.length_append, List.length_cons, List.length_nil]); unfold maxLen; omega); (case c2 => (try simp only [List.length_append, List.length_cons, List.length_nil]); omega); (case c3 => exact bsz HBay.out); intro vy way howny hgy hblky; have HOby := Lib.hid (HOay.out.snoc (d := d) (own_below HW1.out (below1 wax (.cells #[.int .i64 d.name, .slice Ax1 d.safe.length nx1, .slice Ax2 d.fresh.length nx2] 72))) (own_below HW2.out (below1 wax (.cells #[.int .i64 d.name, .slice Ax1 d.safe.length nx1, .slice Ax2 d.fresh.length nx2] 72))) howny hgy); have HNEy := Lib.hid (ne_step HRay.out.row HNEx.out hblky); have HRby := Lib.hid (HRay.out.grown HOay.out.row hgy HNEx.out); have HBby := Lib.hid (HBay.out.grown hgy (bsz HBay.out) fun g hg' => (World.ownsRow.lt HOay.out.row g hg').1); clear howny hgy hblky)
            | (at_builtin; have HNx := Lib.hid (Rd.new1 wc [.int .i64 nm, .slice A3 xs.length n3, .slice A4 ys.length n4] 72 0 3 (Nat.zero_le _) rfl); have HOax := Lib.hid (HOc.out.below (below1 wc (.cells #[.int .i64 nm, .slice A3 xs.length n3, .slice A4 ys.length n4] 72))); have HRax := Lib.hid (HRc.out.below (below1 wc (.cells #[.int .i64 nm, .slice A3 xs.length n3, .slice A4 ys.length n4] 72))); have HBax := Lib.hid (HBd.out.trans ((below1 wc (.cells #[.int .i64 nm, .slice A3 xs.length n3, .slice A4 ys.length n4] 72)).mono (bsz HBd.out))); go_loud (refine wpList_append_rd _ rfl _ _ 23 rfl (w.heap.size + 1) 72 i0 _ 3 56 und_Blobs hi hz0 hz1 hz2 rfl (by decide) u5 _ _ rfl HOax.out.row 0 _ 1 1 _ rfl HNx.out (by simp [Value.oneCell']) ?c1 ?c2 ?c3 ?_); (case c1 => (try simp only [List.length_append, List.length_cons, List.length_nil]); unfold maxLen; omega); (case c2 => (try simp only [List.length_append, List.length_cons, List.length_nil]); omega); (case c3 => exact bsz HBax.out); intro vx wax hownx hgx hblkx; have HObx := Lib.hid (HOax.out.snoc (d := ⟨nm, xs, ys⟩) (own_below HZ1.out (below1 wc (.cells #[.int .i64 nm, .slice A3 xs.length n3, .slice A4 ys.length n4] 72))) (own_below HZ2.out (below1 wc (.cells #[.int .i64 nm, .slice A3 xs.length n3, .slice A4 ys.length n4] 72))) hownx hgx); have HNEx := Lib.hid (ne_step HRax.out.row HNE.out hblkx); have HRbx := Lib.hid (HRax.out.grown HOax.out.row hgx HNE.out); have HBbx := Lib.hid (HBax.out.grown hgx (bsz HBax.out) fun g hg' => (World.ownsRow.lt HOax.out.row g hg').1); clear hownx hgx hblkx; obtain ⟨ux1, ux2, _, hlx, cx0, cx1, cx2, hx1, hx2⟩ := HRbx.out.at0 HD.out; obtain ⟨Ax1, nx1, rfl⟩ := own_form hx1; obtain ⟨Ax2, nx2, rfl⟩ := own_form hx2; have HW1 := Lib.hid hx1; have HW2 := Lib.hid hx2; clear hx1 hx2))
          go_roundw
          case rel => exact ⟨k + 1, _, _, true, by omega, by go_num, rfl, by simp; omega, (fun h => by cases h), HOby.out, HRby.out, HNEy.out, by simpa using hE.out, HBby.out⟩
          case measure => simp [intOf]; omega
        · have hE := Lib.hid (insD_later (b := ⟨nm, xs, ys⟩) HD.out hnm (by simpa using HEQ.out))
          have hb0 : decide (nm < d.name) = false := by simpa using hnm
          go_wp2_with fail
          go_quiet (fail)
          have HO' := Lib.hid (HO.out.drewN nq)
          have HR' := Lib.hid (HR.out.drewN nq)
          have HBq := Lib.hid (Below.drewN HB.out nq)
          have HSq := Lib.hid (show (wr.drewN nq).ownsRow (w.heap.size + 1) 3 1 (.slice A7 d.safe.length n7) d.safe.length (ints d.safe) from HS.out)
          have HFq := Lib.hid (show (wr.drewN nq).ownsRow (w.heap.size + 1) 3 1 (.slice A8 d.fresh.length n8) d.fresh.length (ints d.fresh) from HF.out)
          go_wp2_with (at_builtin; have HNy := Lib.hid (Rd.new1 (wr.drewN nq) [.int .i64 d.name, .slice A7 d.safe.length n7, .slice A8 d.fresh.length n8] 72 0 3 (Nat.zero_le _) rfl); have HOay := Lib.hid (HO'.out.below (below1 (wr.drewN nq) (.cells #[.int .i64 d.name, .slice A7 d.safe.length n7, .slice A8 d.fresh.length n8] 72))); have HRay := Lib.hid (HR'.out.below (below1 (wr.drewN nq) (.cells #[.int .i64 d.name, .slice A7 d.safe.length n7, .slice A8 d.fresh.length n8] 72))); have HBay := Lib.hid (HBq.out.trans ((below1 (wr.drewN nq) (.cells #[.int .i64 d.name, .slice A7 d.safe.length n7, .slice A8 d.fresh.length n8] 72)).mono (bsz HBq.out))); go_loud (refine wpList_append_rd _ rfl _ _ 23 rfl (w.heap.size + 1) 72 i0 _ 3 56 und_Blobs hi hz0 hz1 hz2 rfl (by decide) u5 _ _ rfl HOay.out.row 0 _ 1 1 _ rfl HNy.out (by simp [Value.oneCell']) ?c1 ?c2 ?c3 ?_); (case c1 => (try simp only [List.length_append, List.length_cons, List.length_nil]); unfold maxLen; omega); (case c2 => (try simp only [List.length_append, List.length_cons, List.length_nil]); omega); (case c3 => exact bsz HBay.out); intro vy way howny hgy hblky; have HOby := Lib.hid (HOay.out.snoc (d := d) (own_below HSq.out (below1 (wr.drewN nq) (.cells #[.int .i64 d.name, .slice A7 d.safe.length n7, .slice A8 d.fresh.length n8] 72))) (own_below HFq.out (below1 (wr.drewN nq) (.cells #[.int .i64 d.name, .slice A7 d.safe.length n7, .slice A8 d.fresh.length n8] 72))) howny hgy); have HNEy := Lib.hid (ne_step HRay.out.row HNE.out hblky); have HRby := Lib.hid (HRay.out.grown HOay.out.row hgy HNE.out); have HBby := Lib.hid (HBay.out.grown hgy (bsz HBay.out) fun g hg' => (World.ownsRow.lt HOay.out.row g hg').1); clear howny hgy hblky)
          go_roundw
          case rel => exact ⟨k + 1, _, _, false, by omega, by go_num, rfl, by simp; omega, (fun _ => by simp; omega), HOby.out, HRby.out, HNEy.out, by simpa using hE.out, HBby.out⟩
          case measure => simp [intOf]; omega
      · clear hOq
        have hE := Lib.hid (insD_done (b := ⟨nm, xs, ys⟩) HD.out (by simpa using HEQ.out))
        go_wp2_with fail
        go_quiet (fail)
        have HO' := Lib.hid (HO.out.drewN nq)
        have HR' := Lib.hid (HR.out.drewN nq)
        have HBq := Lib.hid (Below.drewN HB.out nq)
        have HSq := Lib.hid (show (wr.drewN nq).ownsRow (w.heap.size + 1) 3 1 (.slice A7 d.safe.length n7) d.safe.length (ints d.safe) from HS.out)
        have HFq := Lib.hid (show (wr.drewN nq).ownsRow (w.heap.size + 1) 3 1 (.slice A8 d.fresh.length n8) d.fresh.length (ints d.fresh) from HF.out)
        go_wp2_with (at_builtin; have HNy := Lib.hid (Rd.new1 (wr.drewN nq) [.int .i64 d.name, .slice A7 d.safe.length n7, .slice A8 d.fresh.length n8] 72 0 3 (Nat.zero_le _) rfl); have HOay := Lib.hid (HO'.out.below (below1 (wr.drewN nq) (.cells #[.int .i64 d.name, .slice A7 d.safe.length n7, .slice A8 d.fresh.length n8] 72))); have HRay := Lib.hid (HR'.out.below (below1 (wr.drewN nq) (.cells #[.int .i64 d.name, .slice A7 d.safe.length n7, .slice A8 d.fresh.length n8] 72))); have HBay := Lib.hid (HBq.out.trans ((below1 (wr.drewN nq) (.cells #[.int .i64 d.name, .slice A7 d.safe.length n7, .slice A8 d.fresh.length n8] 72)).mono (bsz HBq.out))); go_loud (refine wpList_append_rd _ rfl _ _ 23 rfl (w.heap.size + 1) 72 i0 _ 3 56 und_Blobs hi hz0 hz1 hz2 rfl (by decide) u5 _ _ rfl HOay.out.row 0 _ 1 1 _ rfl HNy.out (by simp [Value.oneCell']) ?c1 ?c2 ?c3 ?_); (case c1 => (try simp only [List.length_append, List.length_cons, List.length_nil]); unfold maxLen; omega); (case c2 => (try simp only [List.length_append, List.length_cons, List.length_nil]); omega); (case c3 => exact bsz HBay.out); intro vy way howny hgy hblky; have HOby := Lib.hid (HOay.out.snoc (d := d) (own_below HSq.out (below1 (wr.drewN nq) (.cells #[.int .i64 d.name, .slice A7 d.safe.length n7, .slice A8 d.fresh.length n8] 72))) (own_below HFq.out (below1 (wr.drewN nq) (.cells #[.int .i64 d.name, .slice A7 d.safe.length n7, .slice A8 d.fresh.length n8] 72))) howny hgy); have HNEy := Lib.hid (ne_step HRay.out.row HNE.out hblky); have HRby := Lib.hid (HRay.out.grown HOay.out.row hgy HNE.out); have HBby := Lib.hid (HBay.out.grown hgy (bsz HBay.out) fun g hg' => (World.ownsRow.lt HOay.out.row g hg').1); clear howny hgy hblky)
        go_roundw
        case rel => exact ⟨k + 1, _, _, true, by omega, by go_num, rfl, by simp; omega, (fun h => by cases h), HOby.out, HRby.out, HNEy.out, by simpa using hE.out, HBby.out⟩
        case measure => simp [intOf]; omega
    · have hk' : k = R.length := by omega
      have HK := Lib.hid (show R.drop k = [] by rw [hk', List.drop_length])
      clear hk' hOq
      cases q
      · have hE := Lib.hid (show O ++ [⟨nm, xs, ys⟩] = insD ⟨nm, xs, ys⟩ R by have := HEQ.out; rw [HK.out] at this; simpa [insD] using this)
        go_wp2_with fail
        with_reducible refine (HC.out _ HB.out).mono ?_
        rintro e wc ⟨z1, z2, rfl, hz1', hz2', hb1⟩
        have HBc := Lib.hid hb1
        have HZ1 := Lib.hid (own_less hz1' (base' := (w.heap.size + 1)) (bsz HB.out))
        have HZ2 := Lib.hid (own_less hz2' (base' := (w.heap.size + 1)) (bsz HB.out))
        clear hz1' hz2' hb1
        obtain ⟨A3, n3, rfl⟩ := own_form HZ1.out
        obtain ⟨A4, n4, rfl⟩ := own_form HZ2.out
        have HBd := Lib.hid (HB.out.trans (HBc.out.mono (bsz HB.out)))
        have HOc := Lib.hid (HO.out.below HBc.out)
        have HRc := Lib.hid (HR.out.below HBc.out)
        go_wp2_with (at_builtin; have HNx := Lib.hid (Rd.new1 wc [.int .i64 nm, .slice A3 xs.length n3, .slice A4 ys.length n4] 72 0 3 (Nat.zero_le _) rfl); have HOax := Lib.hid (HOc.out.below (below1 wc (.cells #[.int .i64 nm, .slice A3 xs.length n3, .slice A4 ys.length n4] 72))); have HRax := Lib.hid (HRc.out.below (below1 wc (.cells #[.int .i64 nm, .slice A3 xs.length n3, .slice A4 ys.length n4] 72))); have HBax := Lib.hid (HBd.out.trans ((below1 wc (.cells #[.int .i64 nm, .slice A3 xs.length n3, .slice A4 ys.length n4] 72)).mono (bsz HBd.out))); go_loud (refine wpList_append_rd _ rfl _ _ 23 rfl (w.heap.size + 1) 72 i0 _ 3 56 und_Blobs hi hz0 hz1 hz2 rfl (by decide) u5 _ _ rfl HOax.out.row 0 _ 1 1 _ rfl HNx.out (by simp [Value.oneCell']) ?c1 ?c2 ?c3 ?_); (case c1 => (try simp only [List.length_append, List.length_cons, List.length_nil]); unfold maxLen; omega); (case c2 => (try simp only [List.length_append, List.length_cons, List.length_nil]); omega); (case c3 => exact bsz HBax.out); intro vx wax hownx hgx hblkx; have HObx := Lib.hid (HOax.out.snoc (d := ⟨nm, xs, ys⟩) (own_below HZ1.out (below1 wc (.cells #[.int .i64 nm, .slice A3 xs.length n3, .slice A4 ys.length n4] 72))) (own_below HZ2.out (below1 wc (.cells #[.int .i64 nm, .slice A3 xs.length n3, .slice A4 ys.length n4] 72))) hownx hgx); have HNEx := Lib.hid (ne_step HRax.out.row HNE.out hblkx); have HRbx := Lib.hid (HRax.out.grown HOax.out.row hgx HNE.out); have HBbx := Lib.hid (HBax.out.grown hgx (bsz HBax.out) fun g hg' => (World.ownsRow.lt HOax.out.row g hg').1); clear hownx hgx hblkx)
        go_ret
        refine ⟨vx, rfl, ?_, ?_⟩
        · rw [HRE.out, ← hE.out]
          exact ⟨_, HObx.out.less (Nat.le_succ _)⟩
        · exact (below1 w _).trans (HBbx.out.mono (Nat.le_succ _))
      · have hE := Lib.hid (show O = insD ⟨nm, xs, ys⟩ R by have := HEQ.out; rw [HK.out] at this; simpa using this)
        go_wp2_with fail
        go_ret
        refine ⟨u5, rfl, ?_, ?_⟩
        · rw [HRE.out, ← hE.out]
          exact ⟨_, HO.out.less (Nat.le_succ _)⟩
        · exact (below1 w _).trans (HB.out.mono (Nat.le_succ _))
end Go.Proofs.Ytjhfhlfiagggpaa
