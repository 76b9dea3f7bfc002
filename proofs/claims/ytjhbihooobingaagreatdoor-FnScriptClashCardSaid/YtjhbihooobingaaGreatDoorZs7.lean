/- A part of the proof of the session laws: texts W76 W80 W81 D14 W82 O1 O2 O4. -/
import Derived.Test.YtjhbihooobingaaGreatDoorZs6
import Derived.Test.YtjhbihooobingaaGreatDoorZs5
import Derived.Test.YtjhbihooobingaaGreatDoorZsp
import Derived.Test.YtjhbihooobingaaGreatDoorZs4
import Derived.ChangeArms
import Derived.ChangeSame
import Derived.OpenShut
set_option linter.unusedSimpArgs false
set_option linter.unusedVariables false
/-
  Walks: impl.(*desk).line.
-/
namespace Go.Proofs.YtjhbihooobingaaGreatDoor
open Go Go.RowKit Go.Proofs
theorem at_keW {P : Program} {w0 : World} {lent : Lent} {Q : Exit → Act → World → Prop} {ops : List Oper} {pu : List Nat} {k : List It} {s s2 : AS} {ag : Option (Nat × List Bool × List E)} {L : List E}
    (h1 : agO ag L) (h2 : prB (stp pu 0 L) (mks ops []) (stp pu 0 L) 0 = true) (h3 : kcB ops s (stp pu 0 L) = true) (h5 : PU P ops s L pu) (h4 : AW P w0 lent Q k s2) : RDp P (KE P w0 lent Q ops pu k s ag) (.done L s2) := ⟨h1, ⟨h2, h3, h5⟩, h4⟩
attribute [local irreducible] RWp AW run kPe pe Kt effA gd gu br retR RDp runD kPeD brW gW effD
set_option maxRecDepth 100000
/-- A line that is neither of the one side nor of the other. 'hC': how it is cut. -/
theorem line_w {a b : St} (ha : WS a) (hb : WS b) {l x y : Str} {sp : Bool} (hC : PC Tryz.prog 41 [sA l, sA [32]] (vX (.tup [sA x, sA y, bA sp])))
    (h1 : sp = true → decide (x = [97]) = false) (h2 : sp = true → decide (x = [98]) = false) : PCL Tryz.prog 26 [dskR a b] (mvF none) [.p 0 0 0, sA l] (dskD (wrdT a b l).1 (wrdT a b l).2.1 (wrdT a b l).2.2) := by
  by_cases hs : l = wSync
  · have j1 : decide (l = [115, 121, 110, 99]) = true := by simpa [wSync] using hs
    have hCl := SessionClashes_pc a b ha.s hb.s
    have hR := SessionRun_e a b ha.s hb.s
    cases hr : sRun a b with
    | none =>
      have e : wrdT a b l = (a, b, wNo) := by unfold wrdT; rw [if_pos hs, hr]
      rw [e]
      have hfin : dskD a b wNo (sA wNo) [dskR a b] [] := ⟨rfl, rfl, rfl⟩
      rw [rA_none hr, rB_none hr, hr] at hR
      unfold stA' stC at hCl hR
      simp only [Option.isSome_none, st0] at hR
      rcases sp with _ | _
      · refine pcl_enter Tryz.func26 rfl rfl (by simp) fun w0 fb loc => go_on ?_; simp only [Tryz.ntmps26, hpL, nmL, mvF, renL, decide_true, decide_false, push_cast, simprocAttr]
        ((try simp only [push_cast, simprocAttr]); refine at_share2 (by simp [isC2, isC]) (by first | rfl | simp [ren]) (hC) (go_on ?_); (try simp only [push_cast, simprocAttr]))
        (try simp only [j1, push_cast, simprocAttr])
        refine at_draw rfl (by kernel_rfl) ?_; simp only [push_cast, simprocAttr]
        repeat' first | (refine at_bWn (fun hb => ?_) (fun hb => ?_) <;> simp only [j1, hb, push_cast, simprocAttr]) | (refine at_bW (fun hb => ?_) (fun hb => ?_) <;> simp only [j1, hb, push_cast, simprocAttr]) | (refine at_callD (by simp [clB, idsL, idsA, hget]) ?_; (try simp only [push_cast, simprocAttr]); first | (refine rcd_v (hCl) ?_; simp only [j1, push_cast, simprocAttr]) | (refine rcd_d (hCl) (by simp [flatV, flatL, ctC, ndC, cmC]) (by simp [ren, ctC, ndC, cmC]) ?_; simp only [j1, push_cast, simprocAttr])) | (refine at_done (by kernel_rfl) (by kernel_rfl) (go_on ?_); (try simp only [j1, push_cast, simprocAttr]))
        refine at_draw rfl (by kernel_rfl) ?_; simp only [push_cast, simprocAttr]
        (refine at_shareD (by simp [isC2, isC]) (by first | rfl | simp [ren]) hR ?_; (try simp only [push_cast, simprocAttr]))
        refine at_done (by kernel_rfl) (by kernel_rfl) (go_on ?_)
        (try simp only [Bool.not_false, push_cast, simprocAttr])
        (refine at_retL ?_; simp only [Tryz.results26, retL, push_cast, simprocAttr]; simp [show List.range 1 = [0] from rfl, show List.range 2 = [0, 1] from rfl, show List.range 3 = [0, 1, 2] from rfl, nmL, mvF, ndB, ixOf, rowsOf, hget, rdR, rowS, rowN, rowC]; exact  hfin)
      · have e1 := h1 rfl
        have e2 := h2 rfl
        refine pcl_enter Tryz.func26 rfl rfl (by simp) fun w0 fb loc => go_on ?_; simp only [Tryz.ntmps26, hpL, nmL, mvF, renL, decide_true, decide_false, push_cast, simprocAttr]
        ((try simp only [push_cast, simprocAttr]); refine at_share2 (by simp [isC2, isC]) (by first | rfl | simp [ren]) (hC) (go_on ?_); (try simp only [push_cast, simprocAttr]))
        (try simp only [e1, e2, j1, push_cast, simprocAttr])
        refine at_draw rfl (by kernel_rfl) ?_; simp only [push_cast, simprocAttr]
        repeat' first | (refine at_bWn (fun hb => ?_) (fun hb => ?_) <;> simp only [j1, hb, push_cast, simprocAttr]) | (refine at_bW (fun hb => ?_) (fun hb => ?_) <;> simp only [j1, hb, push_cast, simprocAttr]) | (refine at_callD (by simp [clB, idsL, idsA, hget]) ?_; (try simp only [push_cast, simprocAttr]); first | (refine rcd_v (hCl) ?_; simp only [j1, push_cast, simprocAttr]) | (refine rcd_d (hCl) (by simp [flatV, flatL, ctC, ndC, cmC]) (by simp [ren, ctC, ndC, cmC]) ?_; simp only [j1, push_cast, simprocAttr])) | (refine at_done (by kernel_rfl) (by kernel_rfl) (go_on ?_); (try simp only [j1, push_cast, simprocAttr]))
        refine at_draw rfl (by kernel_rfl) ?_; simp only [push_cast, simprocAttr]
        (refine at_shareD (by simp [isC2, isC]) (by first | rfl | simp [ren]) hR ?_; (try simp only [push_cast, simprocAttr]))
        refine at_done (by kernel_rfl) (by kernel_rfl) (go_on ?_)
        (try simp only [Bool.not_false, push_cast, simprocAttr])
        (refine at_retL ?_; simp only [Tryz.results26, retL, push_cast, simprocAttr]; simp [show List.range 1 = [0] from rfl, show List.range 2 = [0, 1] from rfl, show List.range 3 = [0, 1, 2] from rfl, nmL, mvF, ndB, ixOf, rowsOf, hget, rdR, rowS, rowN, rowC]; exact  hfin)
    | some p =>
      obtain ⟨u, v⟩ := p
      obtain ⟨n, hn⟩ : ∃ n : Nat, n = (sCl a b).toNat := ⟨_, rfl⟩
      have h100 := sCl_lt hr
      have en : sCl a b = (n : Int) := by omega
      have e : wrdT a b l = (u, v, wCl ++ ([32] ++ (dec n ++ [10]))) := by unfold wrdT; rw [if_pos hs, hr, hn]
      have hI := itoa_pc n (by omega)
      have hdl := dec_len n
      rw [e]
      have ew : wCl ++ ([32] ++ (dec n ++ [10])) = ([99, 108, 97, 115, 104, 101, 115, 32] ++ dec n) ++ [10] := by simp [wCl]
      have hfin : dskD u v (wCl ++ ([32] ++ (dec n ++ [10]))) (sA (([99, 108, 97, 115, 104, 101, 115, 32] ++ dec n) ++ [10])) [dskR u v] [] := ⟨by rw [ew], rfl, rfl⟩
      rw [rA_some hr, rB_some hr, hr] at hR
      rw [en] at hCl
      unfold stA' stC at hCl hR
      simp only [Option.isSome_some] at hR
      have f1 : 8 + (dec n).length ≤ 9223372036854775807 := by omega
      have f2 : (dec n).length ≤ 9223372036854775798 := by omega
      rcases sp with _ | _
      · refine pcl_enter Tryz.func26 rfl rfl (by simp) fun w0 fb loc => go_on ?_; simp only [Tryz.ntmps26, hpL, nmL, mvF, renL, decide_true, decide_false, push_cast, simprocAttr]
        ((try simp only [push_cast, simprocAttr]); refine at_share2 (by simp [isC2, isC]) (by first | rfl | simp [ren]) (hC) (go_on ?_); (try simp only [push_cast, simprocAttr]))
        (try simp only [j1, push_cast, simprocAttr])
        refine at_draw rfl (by kernel_rfl) ?_; simp only [push_cast, simprocAttr]
        repeat' first | (refine at_bWn (fun hb => ?_) (fun hb => ?_) <;> simp only [j1, hb, push_cast, simprocAttr]) | (refine at_bW (fun hb => ?_) (fun hb => ?_) <;> simp only [j1, hb, push_cast, simprocAttr]) | (refine at_callD (by simp [clB, idsL, idsA, hget]) ?_; (try simp only [push_cast, simprocAttr]); first | (refine rcd_v (hCl) ?_; simp only [j1, push_cast, simprocAttr]) | (refine rcd_d (hCl) (by simp [flatV, flatL, ctC, ndC, cmC]) (by simp [ren, ctC, ndC, cmC]) ?_; simp only [j1, push_cast, simprocAttr])) | (refine at_done (by kernel_rfl) (by kernel_rfl) (go_on ?_); (try simp only [j1, push_cast, simprocAttr]))
        refine at_draw rfl (by kernel_rfl) ?_; simp only [push_cast, simprocAttr]
        (refine at_shareD (by simp [isC2, isC]) (by first | rfl | simp [ren]) hR ?_; (try simp only [push_cast, simprocAttr]))
        refine at_done (by kernel_rfl) (by kernel_rfl) (go_on ?_)
        (try simp only [Bool.not_true, push_cast, simprocAttr])
        refine at_drawM rfl [1] [] (by kernel_rfl) (by kernel_rfl) ?_
        refine rst_nil ?_
        (try simp only [push_cast, simprocAttr])
        refine at_keW trivial (by kernel_rfl) (by kernel_rfl) ⟨⟨_, _, _, _, _, _, rfl, rfl, rfl, rfl, by kernel_rfl⟩, trivial⟩ (go_on ?_)
        (try simp only [push_cast, simprocAttr])
        (refine at_call ?_; (try simp only [push_cast, simprocAttr]); refine rwc_v (hI) (go_on ?_); (try simp only [push_cast, simprocAttr]))
        (try simp only [f1, f2, push_cast, simprocAttr])
        (refine at_retL ?_; simp only [Tryz.results26, retL, push_cast, simprocAttr]; simp [show List.range 1 = [0] from rfl, show List.range 2 = [0, 1] from rfl, show List.range 3 = [0, 1, 2] from rfl, nmL, mvF, ndB, ixOf, rowsOf, hget, rdR, rowS, rowN, rowC]; exact  hfin)
      · have e1 := h1 rfl
        have e2 := h2 rfl
        refine pcl_enter Tryz.func26 rfl rfl (by simp) fun w0 fb loc => go_on ?_; simp only [Tryz.ntmps26, hpL, nmL, mvF, renL, decide_true, decide_false, push_cast, simprocAttr]
        ((try simp only [push_cast, simprocAttr]); refine at_share2 (by simp [isC2, isC]) (by first | rfl | simp [ren]) (hC) (go_on ?_); (try simp only [push_cast, simprocAttr]))
        (try simp only [e1, e2, j1, push_cast, simprocAttr])
        refine at_draw rfl (by kernel_rfl) ?_; simp only [push_cast, simprocAttr]
        repeat' first | (refine at_bWn (fun hb => ?_) (fun hb => ?_) <;> simp only [j1, hb, push_cast, simprocAttr]) | (refine at_bW (fun hb => ?_) (fun hb => ?_) <;> simp only [j1, hb, push_cast, simprocAttr]) | (refine at_callD (by simp [clB, idsL, idsA, hget]) ?_; (try simp only [push_cast, simprocAttr]); first | (refine rcd_v (hCl) ?_; simp only [j1, push_cast, simprocAttr]) | (refine rcd_d (hCl) (by simp [flatV, flatL, ctC, ndC, cmC]) (by simp [ren, ctC, ndC, cmC]) ?_; simp only [j1, push_cast, simprocAttr])) | (refine at_done (by kernel_rfl) (by kernel_rfl) (go_on ?_); (try simp only [j1, push_cast, simprocAttr]))
        refine at_draw rfl (by kernel_rfl) ?_; simp only [push_cast, simprocAttr]
        (refine at_shareD (by simp [isC2, isC]) (by first | rfl | simp [ren]) hR ?_; (try simp only [push_cast, simprocAttr]))
        refine at_done (by kernel_rfl) (by kernel_rfl) (go_on ?_)
        (try simp only [Bool.not_true, push_cast, simprocAttr])
        refine at_drawM rfl [1] [] (by kernel_rfl) (by kernel_rfl) ?_
        refine rst_nil ?_
        (try simp only [push_cast, simprocAttr])
        refine at_keW trivial (by kernel_rfl) (by kernel_rfl) ⟨⟨_, _, _, _, _, _, rfl, rfl, rfl, rfl, by kernel_rfl⟩, trivial⟩ (go_on ?_)
        (try simp only [push_cast, simprocAttr])
        (refine at_call ?_; (try simp only [push_cast, simprocAttr]); refine rwc_v (hI) (go_on ?_); (try simp only [push_cast, simprocAttr]))
        (try simp only [f1, f2, push_cast, simprocAttr])
        (refine at_retL ?_; simp only [Tryz.results26, retL, push_cast, simprocAttr]; simp [show List.range 1 = [0] from rfl, show List.range 2 = [0, 1] from rfl, show List.range 3 = [0, 1, 2] from rfl, nmL, mvF, ndB, ixOf, rowsOf, hget, rdR, rowS, rowN, rowC]; exact  hfin)
  have j1 : decide (l = [115, 121, 110, 99]) = false := by simpa [wSync] using hs
  by_cases hc : l = wCl
  · have j2 : decide (l = [99, 108, 97, 115, 104, 101, 115]) = true := by simpa [wCl] using hc
    have e : wrdT a b l = (a, b, txtK (siteC a) (siteC b) ++ wEnd) := by unfold wrdT; rw [if_neg hs, if_pos hc]
    have hA := SiteCanon_d a ha.s
    have hB := SiteCanon_d b hb.s
    have hT := ClashText_pc (siteC a) (siteC b) (siteC_sm a) (siteC_sm b)
    have hTl : (txtK (siteC a) (siteC b)).length ≤ 14400 := by
      have h1 := clsTs_le (siteC a) (siteC b) (clOf (siteC a) (siteC b))
      have h2 := clOf_le (siteC a) (siteC b)
      unfold txtK; omega
    rw [e]
    have hfin : dskD a b (txtK (siteC a) (siteC b) ++ wEnd) (sA (txtK (siteC a) (siteC b) ++ [101, 110, 100, 10])) [dskR a b] [] := ⟨rfl, rfl, rfl⟩
    unfold stA' stC at hA hB
    have f1 : (txtK (siteC a) (siteC b)).length ≤ 9223372036854775803 := by omega
    rcases sp with _ | _
    · refine pcl_enter Tryz.func26 rfl rfl (by simp) fun w0 fb loc => go_on ?_; simp only [Tryz.ntmps26, hpL, nmL, mvF, renL, decide_true, decide_false, push_cast, simprocAttr]
      ((try simp only [push_cast, simprocAttr]); refine at_share2 (by simp [isC2, isC]) (by first | rfl | simp [ren]) (hC) (go_on ?_); (try simp only [push_cast, simprocAttr]))
      (try simp only [j1, j2, push_cast, simprocAttr])
      refine at_draw rfl (by kernel_rfl) ?_; simp only [push_cast, simprocAttr]
      (refine at_shareD (by simp [isC2, isC]) (by first | rfl | simp [ren]) hA ?_; (try simp only [push_cast, simprocAttr]))
      (refine at_shareD (by simp [isC2, isC]) (by first | rfl | simp [ren]) hB ?_; (try simp only [push_cast, simprocAttr]))
      repeat' first | (refine at_bWn (fun hb => ?_) (fun hb => ?_) <;> simp only [f1, hb, push_cast, simprocAttr]) | (refine at_bW (fun hb => ?_) (fun hb => ?_) <;> simp only [f1, hb, push_cast, simprocAttr]) | (refine at_callD (by simp [clB, idsL, idsA, hget]) ?_; (try simp only [push_cast, simprocAttr]); first | (refine rcd_v (hT) ?_; simp only [f1, push_cast, simprocAttr]) | (refine rcd_d (hT) (by simp [flatV, flatL, ctC, ndC, cmC]) (by simp [ren, ctC, ndC, cmC]) ?_; simp only [f1, push_cast, simprocAttr])) | (refine at_done (by kernel_rfl) (by kernel_rfl) (go_on ?_); (try simp only [f1, push_cast, simprocAttr]))
      (refine at_retL ?_; simp only [Tryz.results26, retL, push_cast, simprocAttr]; simp [show List.range 1 = [0] from rfl, show List.range 2 = [0, 1] from rfl, show List.range 3 = [0, 1, 2] from rfl, nmL, mvF, ndB, ixOf, rowsOf, hget, rdR, rowS, rowN, rowC]; exact  hfin)
    · have e1 := h1 rfl
      have e2 := h2 rfl
      refine pcl_enter Tryz.func26 rfl rfl (by simp) fun w0 fb loc => go_on ?_; simp only [Tryz.ntmps26, hpL, nmL, mvF, renL, decide_true, decide_false, push_cast, simprocAttr]
      ((try simp only [push_cast, simprocAttr]); refine at_share2 (by simp [isC2, isC]) (by first | rfl | simp [ren]) (hC) (go_on ?_); (try simp only [push_cast, simprocAttr]))
      (try simp only [e1, e2, j1, j2, push_cast, simprocAttr])
      refine at_draw rfl (by kernel_rfl) ?_; simp only [push_cast, simprocAttr]
      (refine at_shareD (by simp [isC2, isC]) (by first | rfl | simp [ren]) hA ?_; (try simp only [push_cast, simprocAttr]))
      (refine at_shareD (by simp [isC2, isC]) (by first | rfl | simp [ren]) hB ?_; (try simp only [push_cast, simprocAttr]))
      repeat' first | (refine at_bWn (fun hb => ?_) (fun hb => ?_) <;> simp only [f1, hb, push_cast, simprocAttr]) | (refine at_bW (fun hb => ?_) (fun hb => ?_) <;> simp only [f1, hb, push_cast, simprocAttr]) | (refine at_callD (by simp [clB, idsL, idsA, hget]) ?_; (try simp only [push_cast, simprocAttr]); first | (refine rcd_v (hT) ?_; simp only [f1, push_cast, simprocAttr]) | (refine rcd_d (hT) (by simp [flatV, flatL, ctC, ndC, cmC]) (by simp [ren, ctC, ndC, cmC]) ?_; simp only [f1, push_cast, simprocAttr])) | (refine at_done (by kernel_rfl) (by kernel_rfl) (go_on ?_); (try simp only [f1, push_cast, simprocAttr]))
      (refine at_retL ?_; simp only [Tryz.results26, retL, push_cast, simprocAttr]; simp [show List.range 1 = [0] from rfl, show List.range 2 = [0, 1] from rfl, show List.range 3 = [0, 1, 2] from rfl, nmL, mvF, ndB, ixOf, rowsOf, hget, rdR, rowS, rowN, rowC]; exact  hfin)
  have j2 : decide (l = [99, 108, 97, 115, 104, 101, 115]) = false := by simpa [wCl] using hc
  by_cases hw : l = wShow
  · have j3 : decide (l = [115, 104, 111, 119]) = true := by simpa [wShow] using hw
    have e : wrdT a b l = (a, b, txtT [97] (siteT a) ++ txtT [98] (siteT b)) := by unfold wrdT; rw [if_neg hs, if_neg hc, if_pos hw]
    have hA := SiteTree_d a ha.s
    have hB := SiteTree_d b hb.s
    have hTA := treeText_pc [97] (by simp) (siteT a) (smW_siteT a)
    have hTB := treeText_pc [98] (by simp) (siteT b) (smW_siteT b)
    have l1 := txtT_len (w := [97]) (smW_siteT a)
    have l2 := txtT_len (w := [98]) (smW_siteT b)
    rw [e]
    have hfin : dskD a b (txtT [97] (siteT a) ++ txtT [98] (siteT b)) (sA (txtT [97] (siteT a) ++ txtT [98] (siteT b))) [dskR a b] [] := ⟨rfl, rfl, rfl⟩
    unfold stA' stC at hA hB
    simp only [List.length_cons, List.length_nil] at l1 l2
    have f1 : (txtT [97] (siteT a)).length + (txtT [98] (siteT b)).length ≤ 9223372036854775807 := by omega
    rcases sp with _ | _
    · refine pcl_enter Tryz.func26 rfl rfl (by simp) fun w0 fb loc => go_on ?_; simp only [Tryz.ntmps26, hpL, nmL, mvF, renL, decide_true, decide_false, push_cast, simprocAttr]
      ((try simp only [push_cast, simprocAttr]); refine at_share2 (by simp [isC2, isC]) (by first | rfl | simp [ren]) (hC) (go_on ?_); (try simp only [push_cast, simprocAttr]))
      (try simp only [j1, j2, j3, push_cast, simprocAttr])
      refine at_draw rfl (by kernel_rfl) ?_; simp only [push_cast, simprocAttr]
      (refine at_shareD (by simp [isC2, isC]) (by first | rfl | simp [ren]) hA ?_; (try simp only [push_cast, simprocAttr]))
      (refine at_callD (by simp [clB, idsL, idsA, hget]) ?_; (try simp only [push_cast, simprocAttr]); refine rcd_v hTA ?_)
      (try simp only [push_cast, simprocAttr])
      (refine at_shareD (by simp [isC2, isC]) (by first | rfl | simp [ren]) hB ?_; (try simp only [push_cast, simprocAttr]))
      (refine at_callD (by simp [clB, idsL, idsA, hget]) ?_; (try simp only [push_cast, simprocAttr]); refine rcd_v hTB ?_)
      (try simp only [f1, push_cast, simprocAttr])
      refine at_done (by kernel_rfl) (by kernel_rfl) (go_on ?_)
      (try simp only [push_cast, simprocAttr])
      (refine at_retL ?_; simp only [Tryz.results26, retL, push_cast, simprocAttr]; simp [show List.range 1 = [0] from rfl, show List.range 2 = [0, 1] from rfl, show List.range 3 = [0, 1, 2] from rfl, nmL, mvF, ndB, ixOf, rowsOf, hget, rdR, rowS, rowN, rowC]; exact  hfin)
    · have e1 := h1 rfl
      have e2 := h2 rfl
      refine pcl_enter Tryz.func26 rfl rfl (by simp) fun w0 fb loc => go_on ?_; simp only [Tryz.ntmps26, hpL, nmL, mvF, renL, decide_true, decide_false, push_cast, simprocAttr]
      ((try simp only [push_cast, simprocAttr]); refine at_share2 (by simp [isC2, isC]) (by first | rfl | simp [ren]) (hC) (go_on ?_); (try simp only [push_cast, simprocAttr]))
      (try simp only [e1, e2, j1, j2, j3, push_cast, simprocAttr])
      refine at_draw rfl (by kernel_rfl) ?_; simp only [push_cast, simprocAttr]
      (refine at_shareD (by simp [isC2, isC]) (by first | rfl | simp [ren]) hA ?_; (try simp only [push_cast, simprocAttr]))
      (refine at_callD (by simp [clB, idsL, idsA, hget]) ?_; (try simp only [push_cast, simprocAttr]); refine rcd_v hTA ?_)
      (try simp only [push_cast, simprocAttr])
      (refine at_shareD (by simp [isC2, isC]) (by first | rfl | simp [ren]) hB ?_; (try simp only [push_cast, simprocAttr]))
      (refine at_callD (by simp [clB, idsL, idsA, hget]) ?_; (try simp only [push_cast, simprocAttr]); refine rcd_v hTB ?_)
      (try simp only [f1, push_cast, simprocAttr])
      refine at_done (by kernel_rfl) (by kernel_rfl) (go_on ?_)
      (try simp only [push_cast, simprocAttr])
      (refine at_retL ?_; simp only [Tryz.results26, retL, push_cast, simprocAttr]; simp [show List.range 1 = [0] from rfl, show List.range 2 = [0, 1] from rfl, show List.range 3 = [0, 1, 2] from rfl, nmL, mvF, ndB, ixOf, rowsOf, hget, rdR, rowS, rowN, rowC]; exact  hfin)
  have j3 : decide (l = [115, 104, 111, 119]) = false := by simpa [wShow] using hw
  have e : wrdT a b l = (a, b, wWhat) := by unfold wrdT; rw [if_neg hs, if_neg hc, if_neg hw]
  rw [e]
  have hfin : dskD a b wWhat (sA wWhat) [dskR a b] [] := ⟨rfl, rfl, rfl⟩
  rcases sp with _ | _
  · refine pcl_enter Tryz.func26 rfl rfl (by simp) fun w0 fb loc => go_on ?_; simp only [Tryz.ntmps26, hpL, nmL, mvF, renL, decide_true, decide_false, push_cast, simprocAttr]
    ((try simp only [push_cast, simprocAttr]); refine at_share2 (by simp [isC2, isC]) (by first | rfl | simp [ren]) (hC) (go_on ?_); (try simp only [push_cast, simprocAttr]))
    (try simp only [j1, j2, j3, push_cast, simprocAttr])
    (refine at_retL ?_; simp only [Tryz.results26, retL, push_cast, simprocAttr]; simp [show List.range 1 = [0] from rfl, show List.range 2 = [0, 1] from rfl, show List.range 3 = [0, 1, 2] from rfl, nmL, mvF, ndB, ixOf, rowsOf, hget, rdR, rowS, rowN, rowC]; exact  hfin)
  · have e1 := h1 rfl
    have e2 := h2 rfl
    refine pcl_enter Tryz.func26 rfl rfl (by simp) fun w0 fb loc => go_on ?_; simp only [Tryz.ntmps26, hpL, nmL, mvF, renL, decide_true, decide_false, push_cast, simprocAttr]
    ((try simp only [push_cast, simprocAttr]); refine at_share2 (by simp [isC2, isC]) (by first | rfl | simp [ren]) (hC) (go_on ?_); (try simp only [push_cast, simprocAttr]))
    (try simp only [e1, e2, j1, j2, j3, push_cast, simprocAttr])
    (refine at_retL ?_; simp only [Tryz.results26, retL, push_cast, simprocAttr]; simp [show List.range 1 = [0] from rfl, show List.range 2 = [0, 1] from rfl, show List.range 3 = [0, 1, 2] from rfl, nmL, mvF, ndB, ixOf, rowsOf, hget, rdR, rowS, rowN, rowC]; exact  hfin)
theorem line_pcl {a b : St} (ha : WS a) (hb : WS b) {l : Str} (hl : l.length < 4294967281) : PCL Tryz.prog 26 [dskR a b] (mvF none) [.p 0 0 0, sA l] (dskD (lineT a b l).1 (lineT a b l).2.1 (lineT a b l).2.2) := by
  rcases ixB 32 l with ⟨h, hn⟩ | ⟨u, v, rfl, hu, h⟩
  · rw [lineT_w (pre_no 97 hn) (pre_no 98 hn)]
    exact line_w ha hb (Cut_no h) (fun h => by cases h) (fun h => by cases h)
  · have hC := Cut_at hl h
    have hv : v.length < 4294967281 := by simp at hl; omega
    by_cases h1 : u = [97]
    · have e1 : decide (u = [97]) = true := by simpa using h1
      have hD := do_a a b ha.s v hv
      have e : lineT a b (u ++ 32 :: v) = ((doT a v).1, b, (doT a v).2) := by rw [h1]; exact lineT_a a b v
      rw [e]
      obtain ⟨l, hl0⟩ : ∃ l, l = u ++ 32 :: v := ⟨_, rfl⟩
      rw [← hl0] at hC ⊢
      have hfin : dskD (doT a v).1 b (doT a v).2 (sA (doT a v).2) [dskR (doT a v).1 b] [] := ⟨rfl, rfl, rfl⟩
      refine pcl_enter Tryz.func26 rfl rfl (by simp) fun w0 fb loc => go_on ?_; simp only [Tryz.ntmps26, hpL, nmL, mvF, renL, decide_true, decide_false, push_cast, simprocAttr]
      ((try simp only [push_cast, simprocAttr]); refine at_share2 (by simp [isC2, isC]) (by first | rfl | simp [ren]) (hC) (go_on ?_); (try simp only [push_cast, simprocAttr]))
      (try simp only [e1, push_cast, simprocAttr])
      (try simp only [push_cast, simprocAttr]); refine call_lend [500000] none (lr := [dskR a b]) (by simp [ndB]) (by first | rfl | simp [rowsOf, hget, rdR, rowS, rowN, rowC, sC, ndC, cmC]) (by simp [idsL, idsA]) (by simp [mvN]) (by simpa [rnA, ixOf] using hD) ?_
      rintro rv lr' rows ⟨rfl, rfl, rfl⟩
      (refine ⟨by simp [shB, mvF, rdR, rowS, rowN, rowC], by simp [frB, baseOf], go_on ?_⟩; simp only [killA, killH, killRow, push_cast, simprocAttr])
      (refine at_retL ?_; simp only [Tryz.results26, retL, push_cast, simprocAttr]; simp [show List.range 1 = [0] from rfl, show List.range 2 = [0, 1] from rfl, show List.range 3 = [0, 1, 2] from rfl, nmL, mvF, ndB, ixOf, rowsOf, hget, rdR, rowS, rowN, rowC]; exact  hfin)
    · by_cases h2 : u = [98]
      · have e1 : decide (u = [97]) = false := by simpa using h1
        have e2 : decide (u = [98]) = true := by simpa using h2
        have hD := do_b a b hb.s v hv
        have e : lineT a b (u ++ 32 :: v) = (a, (doT b v).1, (doT b v).2) := by rw [h2]; exact lineT_b a b v
        rw [e]
        obtain ⟨l, hl0⟩ : ∃ l, l = u ++ 32 :: v := ⟨_, rfl⟩
        rw [← hl0] at hC ⊢
        have hfin : dskD a (doT b v).1 (doT b v).2 (sA (doT b v).2) [dskR a (doT b v).1] [] := ⟨rfl, rfl, rfl⟩
        refine pcl_enter Tryz.func26 rfl rfl (by simp) fun w0 fb loc => go_on ?_; simp only [Tryz.ntmps26, hpL, nmL, mvF, renL, decide_true, decide_false, push_cast, simprocAttr]
        ((try simp only [push_cast, simprocAttr]); refine at_share2 (by simp [isC2, isC]) (by first | rfl | simp [ren]) (hC) (go_on ?_); (try simp only [push_cast, simprocAttr]))
        (try simp only [e1, e2, push_cast, simprocAttr])
        (try simp only [push_cast, simprocAttr]); refine call_lend [500000] none (lr := [dskR a b]) (by simp [ndB]) (by first | rfl | simp [rowsOf, hget, rdR, rowS, rowN, rowC, sC, ndC, cmC]) (by simp [idsL, idsA]) (by simp [mvN]) (by simpa [rnA, ixOf] using hD) ?_
        rintro rv lr' rows ⟨rfl, rfl, rfl⟩
        (refine ⟨by simp [shB, mvF, rdR, rowS, rowN, rowC], by simp [frB, baseOf], go_on ?_⟩; simp only [killA, killH, killRow, push_cast, simprocAttr])
        (refine at_retL ?_; simp only [Tryz.results26, retL, push_cast, simprocAttr]; simp [show List.range 1 = [0] from rfl, show List.range 2 = [0, 1] from rfl, show List.range 3 = [0, 1, 2] from rfl, nmL, mvF, ndB, ixOf, rowsOf, hget, rdR, rowS, rowN, rowC]; exact  hfin)
      · rw [lineT_w (Bool.eq_false_iff.2 fun hp => h1 ((pre_sp 97 (by decide) hu).1 hp)) (Bool.eq_false_iff.2 fun hp => h2 ((pre_sp 98 (by decide) hu).1 hp))]
        exact line_w ha hb hC (fun _ => by simpa using h1) (fun _ => by simpa using h2)
end Go.Proofs.YtjhbihooobingaaGreatDoor
/-
  Walks: impl.Execute.
-/
namespace Go.Proofs.YtjhbihooobingaaGreatDoor
open Go Go.RowKit Go.Proofs
attribute [local irreducible] RWp AW run kPe pe Kt effA gd gu br retR RDp runD kPeD brW gW effD
set_option maxRecDepth 100000
theorem Execute_pc (t : Str) : PC Tryz.prog 13 [sA t] (vS (execT t)) := by
  by_cases h600 : 600 < t.length
  · have i0 : ltI 600 (t.length : Int) = true := ltI_t (by omega)
    rw [law_long h600]
    refine pc_enter Tryz.func13 rfl rfl fun w0 fb => go_on ?_; (try simp only [Tryz.ntmps13, push_cast, simprocAttr])
    (try simp only [i0, push_cast, simprocAttr])
    refine at_ret ?_; simp only [Tryz.results13, push_cast, simprocAttr]
    simp [vX, wLong]
  have i0 : ltI 600 (t.length : Int) = false := ltI_f (by omega)
  obtain ⟨L, hL⟩ : ∃ L, L = (cutB 10 t).dropLast := ⟨_, rfl⟩
  have eE : execT t = endT st0 st0 L := by unfold execT; rw [if_neg h600, ← hL]; rfl
  obtain ⟨E, hE⟩ : ∃ E, E = execT t := ⟨_, rfl⟩
  rw [← hE] at eE ⊢
  have hS := splitBF_pc 10 t (by omega)
  obtain ⟨K, hK⟩ : ∃ K, K = cutB 10 t := ⟨_, rfl⟩
  have hK0 : 0 < K.length := by rw [hK]; exact List.length_pos_iff.2 (cutB_ne 10 t)
  have hKl : K.length ≤ 601 := by rw [hK]; have := cutB_len 10 t; omega
  have hmem : ∀ x ∈ K, x.length ≤ 600 := fun x hx => by rw [hK] at hx; have := cutB_mem 10 t x hx; omega
  rw [← hK] at hS hL
  have hLl : L.length = K.length - 1 := by rw [hL]; simp
  have w0' : IntKind.i64.wrap ((K.length : Int) - 1) = (L.length : Int) := by rw [wr _ (by omega), hLl]; omega
  have c1 : (0 : Int) ≤ L.length := by omega
  have c2 : (L.length : Int) ≤ K.length := by omega
  have hTk : List.take L.length (K.map sC) = L.map sC := by rw [hLl, ← List.map_take, hL, List.dropLast_eq_take]
  have hLmem : ∀ x ∈ L, x.length ≤ 600 := fun x hx => hmem x (by rw [hL] at hx; exact List.dropLast_subset _ hx)
  clear hL hK
  refine pc_enter Tryz.func13 rfl rfl fun w0 fb => go_on ?_; (try simp only [Tryz.ntmps13, push_cast, simprocAttr])
  (try simp only [i0, push_cast, simprocAttr])
  ((try simp only [push_cast, simprocAttr]); refine at_share2 (by simp [isC2, isC]) (by first | rfl | simp [ren]) (hS) (go_on ?_); (try simp only [push_cast, simprocAttr]))
  (try simp only [List.length_map, w0', c1, c2, hTk, push_cast, simprocAttr])
  refine at_loop (X := Nat × St × St × Option Str) (fun x => [(21, iA x.1)]) (fun x => (12, dskR x.2.1 x.2.2.1) :: bldH 5 x.2.2.2)
    (fun x => x.1 ≤ L.length ∧ WS x.2.1 ∧ WS x.2.2.1 ∧ (x.2.2.2.getD []).length ≤ 15000 * x.1 ∧ (x.2.2.2 = none ∧ x.1 = 0 ∨ ∃ u, x.2.2.2 = some u ∧ u ≠ []) ∧ x.2.2.2.getD [] ++ endT x.2.1 x.2.2.1 (L.drop x.1) = E)
    (fun x => L.length - x.1) (0, st0, st0, none) ⟨Nat.zero_le _, ws_st0, ws_st0, by simp, .inl ⟨rfl, rfl⟩, by simp [eE]⟩ ?_ ?_
  · refine wk_nil ?_ ?_ ?_ ?_ <;> simp [bldH, st0, leL, leN, rowN2, nlE, nlC, nlv, idsL, idsA, idsR, inH, hget, upA, hvA, dsts, dstO, setA_0, setA_1, setA_8, List.append, List.cons_append, List.nil_append]
  · rintro ⟨k, a, b, o⟩ ⟨q1, q2, q3, q4, q5, q6⟩
    simp only at q1 q2 q3 q4 q5 q6
    simp only [upA, hvA, dsts, dstO, setA_0, setA_1, setA_8, List.append, List.cons_append, List.nil_append]
    refine go_on ?_
    (try simp only [List.length_map, push_cast, simprocAttr])
    refine at_b (fun hg => ?_) (fun hg => ?_)
    · have hlt := lt_tt hg
      obtain ⟨x, hx⟩ := get_of_lt hlt
      have j1 := ix_n hx
      have j2 := map_get sC hx
      simp only [sC] at j2
      have hxl := hLmem x (List.mem_of_getElem? hx)
      have hD := line_pcl q2 q3 (l := x) (by omega)
      obtain ⟨g1, g2, g3⟩ := ws_line q2 q3 (l := x) (by omega)
      obtain ⟨v, hv⟩ := lineT_nl a b x
      have hq : o.getD [] ++ ((lineT a b x).2.2 ++ endT (lineT a b x).1 (lineT a b x).2.1 (L.drop (k + 1))) = E := by
        rw [← endT_cons, ← drop_of_get hx]; exact q6
      obtain ⟨a', b', z, hab⟩ : ∃ a' b' z, lineT a b x = (a', b', z) := ⟨_, _, _, rfl⟩
      rw [hab] at hD hq g1 g2 g3 hv
      simp only at hD hq g1 g2 g3 hv
      have hz0 : z ≠ [] := by rw [hv]; simp
      have w1 := wr ((k : Int) + 1) (by omega)
      rcases q5 with ⟨rfl, k0⟩ | ⟨u, rfl, hu0⟩
      · simp only [bldH]
        (try simp only [hg, j1, j2, push_cast, simprocAttr])
        (try simp only [push_cast, simprocAttr]); refine call_lend [12] none (lr := [dskR a b]) (by simp [ndB]) (by first | rfl | simp [rowsOf, hget, rdR, rowS, rowN, rowC, sC, ndC, cmC]) (by simp [idsL, idsA]) (by simp [mvN]) (by simpa [rnA, ixOf] using hD) ?_
        rintro rv lr' rows ⟨rfl, rfl, rfl⟩
        (refine ⟨by simp [shB, mvF, rdR, rowS, rowN, rowC], by simp [frB, baseOf], go_on ?_⟩; simp only [killA, killH, killRow, push_cast, simprocAttr])
        refine at_ws0 5 450000 rfl rfl (by decide) (by decide) (by omega) (go_on ?_)
        simp only [wsS, AS.put, killH, killRow, killA, push_cast, simprocAttr]
        simp only [w1]
        refine at_fin ⟨(k + 1, a', b', some z), ⟨by dsimp only; omega, g1, g2, by simp; omega, .inr ⟨z, rfl, hz0⟩, by simpa using hq⟩, by dsimp only; omega, ?_⟩
        (refine wk_ok ?_ ?_ ?_ ?_ <;> simp [bldH, leL, leH, idsL, idsA, idsR, inH, hget, sameRow, upA, hvA, dsts, dstO, setA_0, setA_1, setA_8, List.append, List.cons_append, List.nil_append])
      · simp only [Option.getD_some] at q4 hq
        simp only [bldH]
        (try simp only [hg, j1, j2, push_cast, simprocAttr])
        (try simp only [push_cast, simprocAttr]); refine call_lend [12] none (lr := [dskR a b]) (by simp [ndB]) (by first | rfl | simp [rowsOf, hget, rdR, rowS, rowN, rowC, sC, ndC, cmC]) (by simp [idsL, idsA]) (by simp [mvN]) (by simpa [rnA, ixOf] using hD) ?_
        rintro rv lr' rows ⟨rfl, rfl, rfl⟩
        (refine ⟨by simp [shB, mvF, rdR, rowS, rowN, rowC], by simp [frB, baseOf], go_on ?_⟩; simp only [killA, killH, killRow, push_cast, simprocAttr])
        refine at_ws1 (r := 5) (r2 := 450000) (l := u) rfl rfl (by decide) (by decide) (by omega) (go_on ?_)
        simp only [wsS, AS.put, killH, killRow, killA, push_cast, simprocAttr]
        simp only [w1]
        refine at_fin ⟨(k + 1, a', b', some (u ++ z)), ⟨by dsimp only; omega, g1, g2, by simp; omega, .inr ⟨u ++ z, rfl, by simp [hu0]⟩, by simpa using hq⟩, by dsimp only; omega, ?_⟩
        (refine wk_ok ?_ ?_ ?_ ?_ <;> simp [bldH, leL, leH, idsL, idsA, idsR, inH, hget, sameRow, upA, hvA, dsts, dstO, setA_0, setA_1, setA_8, List.append, List.cons_append, List.nil_append])
    · have hk := lt_ff hg
      have hk' : k = L.length := by omega
      subst hk'
      have hT := treeText_pc wCommon (by simp [wCommon]) a.base q2.b
      have hTl := txtT_len (w := wCommon) q2.b
      have hc6 : wCommon.length = 6 := rfl
      obtain ⟨z, hz⟩ : ∃ z, z = txtT wCommon a.base := ⟨_, rfl⟩
      have hz0 : z ≠ [] := by rw [hz]; simp [txtT]
      have hEz : o.getD [] ++ z = E := by rw [← q6, hz]; simp [endT, runT]
      rw [← hz] at hT hTl
      unfold wCommon at hT
      rcases q5 with ⟨rfl, k0⟩ | ⟨u, rfl, hu0⟩
      · simp only [bldH]
        (try simp only [hg, push_cast, simprocAttr])
        (refine at_call ?_; (try simp only [push_cast, simprocAttr]); refine rwc_v (hT) (go_on ?_); (try simp only [push_cast, simprocAttr]))
        refine at_ws0 5 450000 rfl rfl (by decide) (by decide) (by omega) (go_on ?_)
        simp only [wsS, AS.put, killH, killRow, killA, push_cast, simprocAttr]
        refine at_bs1 (r := 5) (r2 := 450000) (l := z) rfl rfl (fun _ => rfl) (fun _ h => h) hz0 (by omega) (go_on ?_)
        simp only [frgS, AS.put, push_cast, simprocAttr]
        refine at_ret ?_; simp only [Tryz.results13, push_cast, simprocAttr]
        simpa [vX] using hEz
      · simp only [Option.getD_some] at q4 hEz
        simp only [bldH]
        (try simp only [hg, push_cast, simprocAttr])
        (refine at_call ?_; (try simp only [push_cast, simprocAttr]); refine rwc_v (hT) (go_on ?_); (try simp only [push_cast, simprocAttr]))
        refine at_ws1 (r := 5) (r2 := 450000) (l := u) rfl rfl (by decide) (by decide) (by omega) (go_on ?_)
        simp only [wsS, AS.put, killH, killRow, killA, push_cast, simprocAttr]
        refine at_bs1 (r := 5) (r2 := 450000) (l := u ++ z) rfl rfl (fun _ => rfl) (fun _ h => h) (by simp [hu0]) (by simp; omega) (go_on ?_)
        simp only [frgS, AS.put, push_cast, simprocAttr]
        refine at_ret ?_; simp only [Tryz.results13, push_cast, simprocAttr]
        simpa [vX] using hEz
end Go.Proofs.YtjhbihooobingaaGreatDoor
/-
  Walks: laws.completeLines, laws.lastLine.
-/
namespace Go.Proofs.YtjhbihooobingaaGreatDoor
open Go Go.RowKit Go.Proofs
theorem tw_app : ∀ w z : Str, (10 : UInt8) ∉ w → (z = [] ∨ ∃ u, z = 10 :: u) → (w ++ z).takeWhile (fun x => decide (x ≠ 10)) = w
  | [], z, _, h => by
    rcases h with rfl | ⟨u, rfl⟩
    · rfl
    · simp
  | x :: r, z, hw, hz => by
    simp only [List.mem_cons, not_or] at hw
    rw [List.cons_append, List.takeWhile_cons_of_pos (by simpa using Ne.symm hw.1), tw_app r z hw.2 hz]
theorem lst_at {u v : Str} {c : UInt8} (h : (10 : UInt8) ∉ v) : lstT ((u ++ 10 :: v) ++ [c]) = v ++ [c] := by
  unfold lstT
  rw [List.dropLast_concat]
  have e : (u ++ 10 :: v).reverse = v.reverse ++ 10 :: u.reverse := by simp
  rw [e, tw_app _ _ (by simpa using h) (.inr ⟨_, rfl⟩)]
  simp
theorem lst_no {v : Str} {c : UInt8} (h : (10 : UInt8) ∉ v) : lstT (v ++ [c]) = v ++ [c] := by
  unfold lstT
  rw [List.dropLast_concat]
  have := tw_app v.reverse [] (by simpa using h) (.inl rfl)
  rw [List.append_nil] at this
  rw [this]
  simp
attribute [local irreducible] RWp AW run kPe pe Kt effA gd gu br retR RDp runD kPeD brW gW effD
set_option maxRecDepth 100000
theorem completeLines_pc (t : Str) (ht : t.length < 4294967281) : PC Tryz.prog 15 [sA t] (vS (cplT t)) := by
  refine pc_enter Tryz.func15 rfl rfl fun w0 fb => go_on ?_; (try simp only [Tryz.ntmps15, push_cast, simprocAttr])
  refine at_loop (X := Nat) (fun i => [(3, iA i)]) (fun _ => []) (fun i => i ≤ t.length ∧ (10 : UInt8) ∉ t.drop i) (fun i => i) t.length ⟨Nat.le_refl _, by simp⟩ ?_ ?_
  · (refine wk_ok ?_ ?_ ?_ ?_ <;> simp [leL, leH, idsL, idsA, idsR, inH, hget, sameRow, upA, hvA, dsts, dstO, setA_0, setA_1, setA_8, List.append, List.cons_append, List.nil_append])
  · rintro i ⟨q1, q2⟩
    simp only [upA, hvA, dsts, dstO, setA_0, setA_1, setA_8, List.append, List.cons_append, List.nil_append]
    refine go_on ?_
    (try simp only [push_cast, simprocAttr])
    cases i with
    | zero =>
      have i0 : ltI 0 ((0 : Nat) : Int) = false := rfl
      (try simp only [show ltI 0 0 = false from rfl, i0, push_cast, simprocAttr])
      refine at_ret ?_; simp only [Tryz.results15, push_cast, simprocAttr]
      rw [cplT_no (by simpa using q2)]
      simp [vX]
    | succ j =>
      have i0 : ltI 0 ((j + 1 : Nat) : Int) = true := ltI_t (by omega)
      obtain ⟨x, hx⟩ := get_of_lt (l := t) (k := j) (by omega)
      have w1 : IntKind.i64.wrap (((j + 1 : Nat) : Int) - 1) = (j : Int) := by rw [wr _ (by omega)]; omega
      have hd : t.drop j = x :: t.drop (j + 1) := drop_of_get hx
      obtain ⟨m, hm⟩ : ∃ m, m = j + 1 := ⟨_, rfl⟩
      rw [← hm] at i0 w1 q1 q2 hd ⊢
      have c1 : (m : Int) ≤ t.length := by omega
      (try simp only [i0, w1, hx, push_cast, simprocAttr])
      refine at_b (fun hc => ?_) (fun hc => ?_)
      · have hx10 := u8_tt 10 rfl hc
        (try simp only [hc, c1, push_cast, simprocAttr])
        refine at_ret ?_; simp only [Tryz.results15, push_cast, simprocAttr]
        have e : t = t.take j ++ 10 :: t.drop m := by rw [← hx10, ← hd]; simp
        have e3 : t.take m = t.take j ++ [10] := by rw [hm, List.take_add_one, hx, hx10]; rfl
        have e2 : cplT t = t.take m := by rw [e3]; exact (congrArg cplT e).trans (cplT_app q2)
        rw [e2]
        simp [vX]
      · have hx10 := u8_ff 10 rfl hc
        (try simp only [hc, w1, push_cast, simprocAttr])
        refine at_fin ⟨j, ⟨by omega, by rw [hd]; simp only [List.mem_cons, not_or]; exact ⟨fun e => hx10 e.symm, q2⟩⟩, by omega, ?_⟩
        (refine wk_ok ?_ ?_ ?_ ?_ <;> simp [leL, leH, idsL, idsA, idsR, inH, hget, sameRow, upA, hvA, dsts, dstO, setA_0, setA_1, setA_8, List.append, List.cons_append, List.nil_append])
theorem lastLine_pc (o : Str) (ho : o.length < 4294967281) : PC Tryz.prog 16 [sA o] (vS (lstT o)) := by
  rcases List.eq_nil_or_concat o with rfl | ⟨q, c, rfl⟩
  · have w0' : IntKind.i64.wrap (-2) = -2 := rfl
    refine pc_enter Tryz.func16 rfl rfl fun w0 fb => go_on ?_; (try simp only [Tryz.ntmps16, push_cast, simprocAttr])
    (try simp only [show IntKind.i64.wrap (((0 : Nat) : Int) - 2) = -2 from rfl, show IntKind.i64.wrap ((0 : Int) - 2) = -2 from rfl, List.length_nil, w0', push_cast, simprocAttr])
    refine at_loop (X := Unit) (fun _ => [(3, iA (-2))]) (fun _ => []) (fun _ => True) (fun _ => 0) () trivial ?_ ?_
    · (refine wk_ok ?_ ?_ ?_ ?_ <;> simp [leL, leH, idsL, idsA, idsR, inH, hget, sameRow, upA, hvA, dsts, dstO, setA_0, setA_1, setA_8, List.append, List.cons_append, List.nil_append])
    · rintro _ _
      simp only [upA, hvA, dsts, dstO, setA_0, setA_1, setA_8, List.append, List.cons_append, List.nil_append]
      refine go_on ?_
      (try simp only [show leI 0 (-2) = false from rfl, push_cast, simprocAttr])
      refine at_ret ?_; simp only [Tryz.results16, push_cast, simprocAttr]
      simp [vX, lstT]
  · obtain ⟨o, ho'⟩ : ∃ o, o = q.concat c := ⟨_, rfl⟩
    rw [← ho'] at ho ⊢
    rw [List.concat_eq_append] at ho'
    have hl : o.length = q.length + 1 := by rw [ho']; simp
    have w0' : IntKind.i64.wrap ((o.length : Int) - 2) = (q.length : Int) - 1 := by rw [wr _ (by omega), hl]; omega
    refine pc_enter Tryz.func16 rfl rfl fun w0 fb => go_on ?_; (try simp only [Tryz.ntmps16, push_cast, simprocAttr])
    (try simp only [w0', push_cast, simprocAttr])
    refine at_loop (X := Nat) (fun m => [(3, iA ((m : Int) - 1))]) (fun _ => []) (fun m => m ≤ q.length ∧ (10 : UInt8) ∉ q.drop m) (fun m => m) q.length ⟨Nat.le_refl _, by simp⟩ ?_ ?_
    · (refine wk_ok ?_ ?_ ?_ ?_ <;> simp [leL, leH, idsL, idsA, idsR, inH, hget, sameRow, upA, hvA, dsts, dstO, setA_0, setA_1, setA_8, List.append, List.cons_append, List.nil_append])
    · rintro m ⟨q1, q2⟩
      simp only [upA, hvA, dsts, dstO, setA_0, setA_1, setA_8, List.append, List.cons_append, List.nil_append]
      refine go_on ?_
      (try simp only [push_cast, simprocAttr])
      rcases Nat.eq_zero_or_pos m with hm | hm
      · have i0 : leI 0 ((m : Int) - 1) = false := leI_f (by omega)
        (try simp only [i0, push_cast, simprocAttr])
        refine at_ret ?_; simp only [Tryz.results16, push_cast, simprocAttr]
        rw [ho', lst_no (by rw [hm] at q2; simpa using q2)]
        simp [vX]
      · obtain ⟨j, hj⟩ : ∃ j, m = j + 1 := ⟨m - 1, by omega⟩
        have h1 : (m : Int) - 1 = (j : Int) := by omega
        have i0 : leI 0 (j : Int) = true := leI_t (by omega)
        obtain ⟨x, hx⟩ := get_of_lt (l := q) (k := j) (by omega)
        have hxo : o[j]? = some x := by rw [ho', List.getElem?_append_left (by omega)]; exact hx
        have hd : q.drop j = x :: q.drop m := by rw [hj]; exact drop_of_get hx
        have w1 : IntKind.i64.wrap ((j : Int) + 1) = (m : Int) := by rw [wr _ (by omega)]; omega
        have w2 : IntKind.i64.wrap ((j : Int) - 1) = (j : Int) - 1 := wr _ (by omega)
        have c1 : (m : Int) ≤ o.length := by omega
        (try simp only [h1, i0, hxo, push_cast, simprocAttr])
        refine at_b (fun hc => ?_) (fun hc => ?_)
        · have hx10 := u8_tt 10 rfl hc
          have e : q = q.take j ++ 10 :: q.drop m := by rw [← hx10, ← hd]; simp
          have e2 : lstT o = q.drop m ++ [c] := by
            rw [ho']
            exact (congrArg (fun z => lstT (z ++ [c])) e).trans (lst_at q2)
          have d2 : List.drop m (List.take o.length o) = q.drop m ++ [c] := by rw [List.take_length, ho', List.drop_append_of_le_length (by omega)]
          (try simp only [hc, w1, c1, d2, push_cast, simprocAttr])
          refine at_ret ?_; simp only [Tryz.results16, push_cast, simprocAttr]
          rw [e2]
          simp [vX]
        · have hx10 := u8_ff 10 rfl hc
          (try simp only [hc, w2, push_cast, simprocAttr])
          refine at_fin ⟨j, ⟨by omega, by rw [hd]; simp only [List.mem_cons, not_or]; exact ⟨fun e => hx10 e.symm, q2⟩⟩, by omega, ?_⟩
          (refine wk_ok ?_ ?_ ?_ ?_ <;> simp [leL, leH, idsL, idsA, idsR, inH, hget, sameRow, upA, hvA, dsts, dstO, setA_0, setA_1, setA_8, List.append, List.cons_append, List.nil_append])
end Go.Proofs.YtjhbihooobingaaGreatDoor
/-
  Walks: the draw of scripts (DrawExecute).
-/
namespace Go.Proofs.YtjhbihooobingaaGreatDoor
open Go Go.RowKit Go.Proofs
def txX (B : Nat) (rv : AV) (rows : List Row) : Prop := ∃ s : Str, s.length ≤ B ∧ rv = sA s ∧ rows = []
attribute [local irreducible] RWp AW run kPe pe Kt effA gd gu br retR RDp runD kPeD brW gW effD
set_option maxRecDepth 100000
theorem specCommandApply_d (l : List Nd) (hs : SmT l) (hl : l.length < 4294967280) (c : Cm) (hp : c.p.length < 4294967281) : PC Tryz.prog 21 [ndA l, cmdA c] (vX (.tup [ndA (cap2 l c).1, bA (cap2 l c).2])) := by
  have := (specCommandApply_pc l hs hl c hp).frzX
  simpa [viewN, hpOf, hget, isC, tk] using this
theorem l6Many_pc (s0 : Str) (n0 : Nat) (hs : s0.length ≤ 20) (hn : n0 < 128) : PC Tryz.prog 23 [sA s0, iA n0] (txX 2560) := by
  refine pc_enter Tryz.func23 rfl rfl fun w0 fb => go_on ?_; (try simp only [Tryz.ntmps23, push_cast, simprocAttr])
  refine at_loop (X := Str × Str × Nat × Nat) (fun x => [(0, sA x.1), (1, iA x.2.2.1), (5, sA x.2.1)]) (fun _ => []) (fun x => x.2.2.1 < 2 ^ x.2.2.2 ∧ x.1.length * 2 ^ x.2.2.2 ≤ 2560 ∧ x.2.1.length ≤ x.1.length ∧ x.2.2.1 < 128) (fun x => x.2.2.1) (s0, [], n0, 7) ⟨by simpa using hn, by simp only; omega, by simp, hn⟩ ?_ ?_
  · (refine wk_ok ?_ ?_ ?_ ?_ <;> simp [leL, leH, idsL, idsA, idsR, inH, hget, sameRow, upA, hvA, dsts, dstO, setA_0, setA_1, setA_8, List.append, List.cons_append, List.nil_append])
  · rintro ⟨s, out, n, j⟩ ⟨q1, q2, q3, q4⟩
    simp only at q1 q2 q3 q4
    simp only [upA, hvA, dsts, dstO, setA_0, setA_1, setA_8, List.append, List.cons_append, List.nil_append]
    have hsl : s.length ≤ 2560 := Nat.le_trans (Nat.le_mul_of_pos_right _ (Nat.two_pow_pos j)) q2
    refine go_on ?_
    (try simp only [push_cast, simprocAttr])
    rcases Nat.eq_zero_or_pos n with hn | hn
    · have i0 : ltI 0 (n : Int) = false := ltI_f (by omega)
      (try simp only [i0, push_cast, simprocAttr])
      refine at_ret ?_; simp only [Tryz.results23, push_cast, simprocAttr]
      exact ⟨out, by omega, rfl, rfl⟩
    · have i0 : ltI 0 (n : Int) = true := ltI_t (by omega)
      obtain ⟨i, rfl⟩ : ∃ i, j = i + 1 := ⟨j - 1, by
        rcases Nat.eq_zero_or_pos j with h | h
        · subst h; simp at q1; omega
        · omega⟩
      rw [Nat.pow_succ] at q1 q2
      obtain ⟨d, hd⟩ : ∃ d, d = n / 2 := ⟨_, rfl⟩
      obtain ⟨m, hm⟩ : ∃ m, m = n % 2 := ⟨_, rfl⟩
      have t1 : Int.tmod (n : Int) 2 = (m : Int) := by rw [Int.tmod_eq_emod_of_nonneg (by omega)]; omega
      have t2 : Int.tdiv (n : Int) 2 = (d : Int) := by rw [Int.tdiv_eq_ediv_of_nonneg (by omega)]; omega
      have w2 : IntKind.i64.wrap (d : Int) = (d : Int) := wr _ (by omega)
      have z0 : ((2 : Int) = 0) = False := by simp
      have f1 : out.length + s.length ≤ 9223372036854775807 := by omega
      have f2 : s.length + s.length ≤ 9223372036854775807 := by omega
      have r1 : d < 2 ^ i := by omega
      have r2 : (s ++ s).length * 2 ^ i ≤ 2560 := by rw [List.length_append, ← Nat.two_mul, Nat.mul_comm 2, Nat.mul_assoc, Nat.mul_comm 2]; exact q2
      (try simp only [i0, t1, z0, push_cast, simprocAttr])
      refine at_b (fun hb => ?_) (fun hb => ?_)
      · (try simp only [hb, f1, f2, t2, w2, z0, push_cast, simprocAttr])
        refine at_fin ⟨(s ++ s, out ++ s, d, i), ⟨r1, r2, by simp; omega, by dsimp only; omega⟩, by dsimp only; omega, ?_⟩
        (refine wk_ok ?_ ?_ ?_ ?_ <;> simp [leL, leH, idsL, idsA, idsR, inH, hget, sameRow, upA, hvA, dsts, dstO, setA_0, setA_1, setA_8, List.append, List.cons_append, List.nil_append])
      · (try simp only [hb, f1, f2, t2, w2, z0, push_cast, simprocAttr])
        refine at_fin ⟨(s ++ s, out, d, i), ⟨r1, r2, by simp; omega, by dsimp only; omega⟩, by dsimp only; omega, ?_⟩
        (refine wk_ok ?_ ?_ ?_ ?_ <;> simp [leL, leH, idsL, idsA, idsR, inH, hget, sameRow, upA, hvA, dsts, dstO, setA_0, setA_1, setA_8, List.append, List.cons_append, List.nil_append])
theorem DrawExecute_pc (z : List Int) (hz : BytesOk z) : PC Tryz.prog 12 [byA z] (txX 10000) := by
  have hr : RdOk (z.take 2000) (0 + 800) := ⟨hz.tk, by rw [List.length_take]; omega, by omega⟩
  refine pc_enter Tryz.func12 rfl rfl fun w0 fb => go_on ?_; (try simp only [Tryz.ntmps12, push_cast, simprocAttr])
  refine call_share (by simp [isC]) (l6Open_pc z hz) ?_
  rintro rv rows ⟨rfl, rfl⟩
  refine ⟨by simp [frB, baseOf], go_on ?_⟩
  (try simp only [push_cast, simprocAttr])
  obtain ⟨y, hy⟩ : ∃ y, y = z.take 2000 := ⟨_, rfl⟩
  rw [← hy] at hr ⊢
  (try simp only [push_cast, simprocAttr]); refine call_lend [17000] none (lr := [rdR y 0]) (by simp [ndB]) (by first | rfl | simp [rowsOf, hget, rdR, rowS, rowN, rowC, sC, ndC, cmC]) (by simp [idsL, idsA]) (by simp [mvN]) (by simpa [rnA, ixOf] using pick_pcl y 0 18 (hr.le (by omega)) (by omega)) ?_
  rintro rv lr' rows ⟨n, rfl, hn, rfl, rfl⟩
  have hn := hn (by omega)
  (refine ⟨by simp [shB, mvF, rdR, rowS, rowN, rowC], by simp [frB, baseOf], go_on ?_⟩; simp only [killA, killH, killRow, push_cast, simprocAttr])
  refine at_loop (X := Nat × Str × List Nd × List Nd × Nat) (fun x => [(4, sA x.2.1), (6, ndA x.2.2.1), (7, ndA x.2.2.2.1), (8, iA x.1), (19, .any), (20, .any)]) (fun x => [(17000, rdR y x.2.2.2.2)])
    (fun x => x.1 ≤ n ∧ x.2.1.length ≤ 30 * x.1 ∧ tV x.2.2.1 = true ∧ tV x.2.2.2.1 = true ∧ x.2.2.2.2 ≤ 1 + 25 * x.1) (fun x => n - x.1) (0, [], [], [], 1) ⟨by omega, by simp, by decide, by decide, by simp⟩ ?_ ?_
  · (refine wk_frz ?_ ?_ ?_ ?_ <;> simp [rdR, leF, leHF, frzB, idsL, idsA, idsR, inH, hget, sameRow, viewN, tk, upA, hvA, dsts, dstO, setA_0, setA_1, setA_8, List.append, List.cons_append, List.nil_append])
  · rintro ⟨i, out, A, B, r⟩ ⟨q1, q2, q3, q4, q5⟩
    simp only at q1 q2 q3 q4 q5
    simp only [upA, hvA, dsts, dstO, setA_0, setA_1, setA_8, List.append, List.cons_append, List.nil_append]
    refine go_on ?_
    (try simp only [push_cast, simprocAttr])
    by_cases hlt : i < n
    · have i0 : ltI (i : Int) n = true := ltI_t (by omega)
      have w1 := wr ((i : Int) + 1) (by omega)
      (try simp only [i0, push_cast, simprocAttr])
      (try simp only [push_cast, simprocAttr]); refine call_lend [17000] none (lr := [rdR y r]) (by simp [ndB]) (by first | rfl | simp [rowsOf, hget, rdR, rowS, rowN, rowC, sC, ndC, cmC]) (by simp [idsL, idsA]) (by simp [mvN]) (by simpa [rnA, ixOf] using pick_pcl y r 8 (hr.le (by omega)) (by omega)) ?_
      rintro rv lr' rows ⟨m8, rfl, hm8, rfl, rfl⟩
      (refine ⟨by simp [shB, mvF, rdR, rowS, rowN, rowC], by simp [frB, baseOf], go_on ?_⟩; simp only [killA, killH, killRow, push_cast, simprocAttr])
      refine at_b (fun h0 => ?_) (fun h0 => ?_)
      · (try simp only [h0, push_cast, simprocAttr])
        (try simp only [push_cast, simprocAttr]); refine call_lend [17000, 49] none (lr := [rdR y (r + 1), rowS [[115, 121, 110, 99], [115, 121, 110, 99], [99, 108, 97, 115, 104, 101, 115], [115, 104, 111, 119]]]) (by simp [ndB]) (by first | rfl | simp [rowsOf, hget, rdR, rowS, rowN, rowC, sC, ndC, cmC]) (by simp [idsL, idsA]) (by simp [mvN]) (by simpa [rnA, ixOf] using of_pcl y (r + 1) [[115, 121, 110, 99], [115, 121, 110, 99], [99, 108, 97, 115, 104, 101, 115], [115, 104, 111, 119]] (hr.le (by omega)) (by simp) (by simp)) ?_
        rintro rv lr' rows ⟨s, hs, rfl, rfl, rfl⟩
        have hsl : s.length ≤ 12 := by
          simp only [List.mem_cons, List.not_mem_nil, or_false] at hs
          rcases hs with rfl | rfl | rfl | rfl <;> decide
        have f1 : out.length + s.length ≤ 9223372036854775807 := by omega
        have f2 : (out ++ s).length ≤ 9223372036854775806 := by simp; omega
        (refine ⟨by simp [shB, mvF, rdR, rowS, rowN, rowC], by simp [frB, baseOf], go_on ?_⟩; simp only [f1, f2, w1, killA, killH, killRow, push_cast, simprocAttr])
        refine at_fin ⟨(i + 1, (out ++ s) ++ [10], A, B, r + 1 + 1), ⟨by dsimp only; omega, by simp; omega, q3, q4, by dsimp only; omega⟩, by dsimp only; omega, ?_⟩
        (refine wk_frz ?_ ?_ ?_ ?_ <;> simp [rdR, leF, leHF, frzB, idsL, idsA, idsR, inH, hget, sameRow, viewN, tk, upA, hvA, dsts, dstO, setA_0, setA_1, setA_8, List.append, List.cons_append, List.nil_append])
      · (try simp only [h0, push_cast, simprocAttr])
        refine at_b (fun h1 => ?_) (fun h1 => ?_)
        · (try simp only [h1, push_cast, simprocAttr])
          (try simp only [push_cast, simprocAttr]); refine call_lend [17000, 57] none (lr := [rdR y (r + 1), rowS [[119, 104, 97, 116], [], [97], [98, 32, 47, 97], [97, 32, 47, 97, 32, 45, 32, 100, 32, 120], [115, 121, 110, 99, 32], [99, 32, 47, 97, 32, 45, 32, 100]]]) (by simp [ndB]) (by first | rfl | simp [rowsOf, hget, rdR, rowS, rowN, rowC, sC, ndC, cmC]) (by simp [idsL, idsA]) (by simp [mvN]) (by simpa [rnA, ixOf] using of_pcl y (r + 1) [[119, 104, 97, 116], [], [97], [98, 32, 47, 97], [97, 32, 47, 97, 32, 45, 32, 100, 32, 120], [115, 121, 110, 99, 32], [99, 32, 47, 97, 32, 45, 32, 100]] (hr.le (by omega)) (by simp) (by simp)) ?_
          rintro rv lr' rows ⟨s, hs, rfl, rfl, rfl⟩
          have hsl : s.length ≤ 12 := by
            simp only [List.mem_cons, List.not_mem_nil, or_false] at hs
            rcases hs with rfl | rfl | rfl | rfl | rfl | rfl | rfl <;> decide
          have f1 : out.length + s.length ≤ 9223372036854775807 := by omega
          have f2 : (out ++ s).length ≤ 9223372036854775806 := by simp; omega
          (refine ⟨by simp [shB, mvF, rdR, rowS, rowN, rowC], by simp [frB, baseOf], go_on ?_⟩; simp only [f1, f2, w1, killA, killH, killRow, push_cast, simprocAttr])
          refine at_fin ⟨(i + 1, (out ++ s) ++ [10], A, B, r + 1 + 1), ⟨by dsimp only; omega, by simp; omega, q3, q4, by dsimp only; omega⟩, by dsimp only; omega, ?_⟩
          (refine wk_frz ?_ ?_ ?_ ?_ <;> simp [rdR, leF, leHF, frzB, idsL, idsA, idsR, inH, hget, sameRow, viewN, tk, upA, hvA, dsts, dstO, setA_0, setA_1, setA_8, List.append, List.cons_append, List.nil_append])
        · (try simp only [h1, push_cast, simprocAttr])
          refine at_b (fun h2 => ?_) (fun h2 => ?_)
          · (try simp only [h2, push_cast, simprocAttr])
            (try simp only [push_cast, simprocAttr]); refine call_lend [17000] none (lr := [rdR y (r + 1)]) (by simp [ndB]) (by first | rfl | simp [rowsOf, hget, rdR, rowS, rowN, rowC, sC, ndC, cmC]) (by simp [idsL, idsA]) (by simp [mvN]) (by simpa [rnA, ixOf] using l91Command_pcl y (r + 1) A q3 (hr.le (by omega))) ?_
            rintro rv lr' rows ⟨c, hc, rfl, ⟨u, rfl, g3, g4⟩, rfl⟩
            have hap := specCommandApply_d A (sm_tv ((tV_iff A).1 q3)).s (by have := ((tV_iff A).1 q3).le; omega) c (by omega)
            have hT := specCommandText_pc c (by omega)
            have hTl := txtM_le c
            unfold cmdA cmC at hap hT ⊢
            (refine ⟨by simp [shB, mvF, rdR, rowS, rowN, rowC], by simp [frB, baseOf], go_on ?_⟩; simp only [killA, killH, killRow, push_cast, simprocAttr])
            ((try simp only [push_cast, simprocAttr]); refine at_share2 (by simp [isC2, isC]) (by first | rfl | simp [ren]) (hap) (go_on ?_); (try simp only [push_cast, simprocAttr]))
            have f1 : out.length ≤ 9223372036854775805 := by omega
            have f2 : (out ++ [97, 32]).length + (txtM c).length ≤ 9223372036854775807 := by simp; omega
            have f3 : ((out ++ [97, 32]) ++ txtM c).length ≤ 9223372036854775806 := by simp; omega
            refine at_b (fun hk => ?_) (fun hk => ?_)
            · (try simp only [hk, f1, push_cast, simprocAttr])
              (refine at_call ?_; (try simp only [push_cast, simprocAttr]); refine rwc_v (hT) (go_on ?_); (try simp only [push_cast, simprocAttr]))
              (try simp only [f2, f3, w1, push_cast, simprocAttr])
              refine at_fin ⟨(i + 1, ((out ++ [97, 32]) ++ txtM c) ++ [10], (cap2 A c).1, B, u), ⟨by dsimp only; omega, by simp; omega, cap2_tv hk, q4, by dsimp only; omega⟩, by dsimp only; omega, ?_⟩
              (refine wk_frz ?_ ?_ ?_ ?_ <;> simp [rdR, leF, leHF, frzB, idsL, idsA, idsR, inH, hget, sameRow, viewN, tk, upA, hvA, dsts, dstO, setA_0, setA_1, setA_8, List.append, List.cons_append, List.nil_append])
            · (try simp only [hk, f1, push_cast, simprocAttr])
              (refine at_call ?_; (try simp only [push_cast, simprocAttr]); refine rwc_v (hT) (go_on ?_); (try simp only [push_cast, simprocAttr]))
              (try simp only [f2, f3, w1, push_cast, simprocAttr])
              refine at_fin ⟨(i + 1, ((out ++ [97, 32]) ++ txtM c) ++ [10], A, B, u), ⟨by dsimp only; omega, by simp; omega, q3, q4, by dsimp only; omega⟩, by dsimp only; omega, ?_⟩
              (refine wk_frz ?_ ?_ ?_ ?_ <;> simp [rdR, leF, leHF, frzB, idsL, idsA, idsR, inH, hget, sameRow, viewN, tk, upA, hvA, dsts, dstO, setA_0, setA_1, setA_8, List.append, List.cons_append, List.nil_append])
          · (try simp only [h2, push_cast, simprocAttr])
            refine at_b (fun h3 => ?_) (fun h3 => ?_)
            · (try simp only [h3, push_cast, simprocAttr])
              (try simp only [push_cast, simprocAttr]); refine call_lend [17000] none (lr := [rdR y (r + 1)]) (by simp [ndB]) (by first | rfl | simp [rowsOf, hget, rdR, rowS, rowN, rowC, sC, ndC, cmC]) (by simp [idsL, idsA]) (by simp [mvN]) (by simpa [rnA, ixOf] using l91Command_pcl y (r + 1) A q3 (hr.le (by omega))) ?_
              rintro rv lr' rows ⟨c, hc, rfl, ⟨u, rfl, g3, g4⟩, rfl⟩
              have hap := specCommandApply_d A (sm_tv ((tV_iff A).1 q3)).s (by have := ((tV_iff A).1 q3).le; omega) c (by omega)
              have hT := specCommandText_pc c (by omega)
              have hTl := txtM_le c
              unfold cmdA cmC at hap hT ⊢
              (refine ⟨by simp [shB, mvF, rdR, rowS, rowN, rowC], by simp [frB, baseOf], go_on ?_⟩; simp only [killA, killH, killRow, push_cast, simprocAttr])
              ((try simp only [push_cast, simprocAttr]); refine at_share2 (by simp [isC2, isC]) (by first | rfl | simp [ren]) (hap) (go_on ?_); (try simp only [push_cast, simprocAttr]))
              have f1 : out.length ≤ 9223372036854775805 := by omega
              have f2 : (out ++ [97, 32]).length + (txtM c).length ≤ 9223372036854775807 := by simp; omega
              have f3 : ((out ++ [97, 32]) ++ txtM c).length ≤ 9223372036854775806 := by simp; omega
              refine at_b (fun hk => ?_) (fun hk => ?_)
              · (try simp only [hk, f1, push_cast, simprocAttr])
                (refine at_call ?_; (try simp only [push_cast, simprocAttr]); refine rwc_v (hT) (go_on ?_); (try simp only [push_cast, simprocAttr]))
                (try simp only [f2, f3, w1, push_cast, simprocAttr])
                refine at_fin ⟨(i + 1, ((out ++ [97, 32]) ++ txtM c) ++ [10], (cap2 A c).1, B, u), ⟨by dsimp only; omega, by simp; omega, cap2_tv hk, q4, by dsimp only; omega⟩, by dsimp only; omega, ?_⟩
                (refine wk_frz ?_ ?_ ?_ ?_ <;> simp [rdR, leF, leHF, frzB, idsL, idsA, idsR, inH, hget, sameRow, viewN, tk, upA, hvA, dsts, dstO, setA_0, setA_1, setA_8, List.append, List.cons_append, List.nil_append])
              · (try simp only [hk, f1, push_cast, simprocAttr])
                (refine at_call ?_; (try simp only [push_cast, simprocAttr]); refine rwc_v (hT) (go_on ?_); (try simp only [push_cast, simprocAttr]))
                (try simp only [f2, f3, w1, push_cast, simprocAttr])
                refine at_fin ⟨(i + 1, ((out ++ [97, 32]) ++ txtM c) ++ [10], A, B, u), ⟨by dsimp only; omega, by simp; omega, q3, q4, by dsimp only; omega⟩, by dsimp only; omega, ?_⟩
                (refine wk_frz ?_ ?_ ?_ ?_ <;> simp [rdR, leF, leHF, frzB, idsL, idsA, idsR, inH, hget, sameRow, viewN, tk, upA, hvA, dsts, dstO, setA_0, setA_1, setA_8, List.append, List.cons_append, List.nil_append])
            · (try simp only [h3, push_cast, simprocAttr])
              refine at_b (fun h4 => ?_) (fun h4 => ?_)
              · (try simp only [h4, push_cast, simprocAttr])
                (try simp only [push_cast, simprocAttr]); refine call_lend [17000] none (lr := [rdR y (r + 1)]) (by simp [ndB]) (by first | rfl | simp [rowsOf, hget, rdR, rowS, rowN, rowC, sC, ndC, cmC]) (by simp [idsL, idsA]) (by simp [mvN]) (by simpa [rnA, ixOf] using l91Command_pcl y (r + 1) A q3 (hr.le (by omega))) ?_
                rintro rv lr' rows ⟨c, hc, rfl, ⟨u, rfl, g3, g4⟩, rfl⟩
                have hap := specCommandApply_d A (sm_tv ((tV_iff A).1 q3)).s (by have := ((tV_iff A).1 q3).le; omega) c (by omega)
                have hT := specCommandText_pc c (by omega)
                have hTl := txtM_le c
                unfold cmdA cmC at hap hT ⊢
                (refine ⟨by simp [shB, mvF, rdR, rowS, rowN, rowC], by simp [frB, baseOf], go_on ?_⟩; simp only [killA, killH, killRow, push_cast, simprocAttr])
                ((try simp only [push_cast, simprocAttr]); refine at_share2 (by simp [isC2, isC]) (by first | rfl | simp [ren]) (hap) (go_on ?_); (try simp only [push_cast, simprocAttr]))
                have f1 : out.length ≤ 9223372036854775805 := by omega
                have f2 : (out ++ [97, 32]).length + (txtM c).length ≤ 9223372036854775807 := by simp; omega
                have f3 : ((out ++ [97, 32]) ++ txtM c).length ≤ 9223372036854775806 := by simp; omega
                refine at_b (fun hk => ?_) (fun hk => ?_)
                · (try simp only [hk, f1, push_cast, simprocAttr])
                  (refine at_call ?_; (try simp only [push_cast, simprocAttr]); refine rwc_v (hT) (go_on ?_); (try simp only [push_cast, simprocAttr]))
                  (try simp only [f2, f3, w1, push_cast, simprocAttr])
                  refine at_fin ⟨(i + 1, ((out ++ [97, 32]) ++ txtM c) ++ [10], (cap2 A c).1, B, u), ⟨by dsimp only; omega, by simp; omega, cap2_tv hk, q4, by dsimp only; omega⟩, by dsimp only; omega, ?_⟩
                  (refine wk_frz ?_ ?_ ?_ ?_ <;> simp [rdR, leF, leHF, frzB, idsL, idsA, idsR, inH, hget, sameRow, viewN, tk, upA, hvA, dsts, dstO, setA_0, setA_1, setA_8, List.append, List.cons_append, List.nil_append])
                · (try simp only [hk, f1, push_cast, simprocAttr])
                  (refine at_call ?_; (try simp only [push_cast, simprocAttr]); refine rwc_v (hT) (go_on ?_); (try simp only [push_cast, simprocAttr]))
                  (try simp only [f2, f3, w1, push_cast, simprocAttr])
                  refine at_fin ⟨(i + 1, ((out ++ [97, 32]) ++ txtM c) ++ [10], A, B, u), ⟨by dsimp only; omega, by simp; omega, q3, q4, by dsimp only; omega⟩, by dsimp only; omega, ?_⟩
                  (refine wk_frz ?_ ?_ ?_ ?_ <;> simp [rdR, leF, leHF, frzB, idsL, idsA, idsR, inH, hget, sameRow, viewN, tk, upA, hvA, dsts, dstO, setA_0, setA_1, setA_8, List.append, List.cons_append, List.nil_append])
              · (try simp only [h4, push_cast, simprocAttr])
                (try simp only [push_cast, simprocAttr]); refine call_lend [17000] none (lr := [rdR y (r + 1)]) (by simp [ndB]) (by first | rfl | simp [rowsOf, hget, rdR, rowS, rowN, rowC, sC, ndC, cmC]) (by simp [idsL, idsA]) (by simp [mvN]) (by simpa [rnA, ixOf] using l91Command_pcl y (r + 1) B q4 (hr.le (by omega))) ?_
                rintro rv lr' rows ⟨c, hc, rfl, ⟨u, rfl, g3, g4⟩, rfl⟩
                have hap := specCommandApply_d B (sm_tv ((tV_iff B).1 q4)).s (by have := ((tV_iff B).1 q4).le; omega) c (by omega)
                have hT := specCommandText_pc c (by omega)
                have hTl := txtM_le c
                unfold cmdA cmC at hap hT ⊢
                (refine ⟨by simp [shB, mvF, rdR, rowS, rowN, rowC], by simp [frB, baseOf], go_on ?_⟩; simp only [killA, killH, killRow, push_cast, simprocAttr])
                ((try simp only [push_cast, simprocAttr]); refine at_share2 (by simp [isC2, isC]) (by first | rfl | simp [ren]) (hap) (go_on ?_); (try simp only [push_cast, simprocAttr]))
                have f1 : out.length ≤ 9223372036854775805 := by omega
                have f2 : (out ++ [98, 32]).length + (txtM c).length ≤ 9223372036854775807 := by simp; omega
                have f3 : ((out ++ [98, 32]) ++ txtM c).length ≤ 9223372036854775806 := by simp; omega
                refine at_b (fun hk => ?_) (fun hk => ?_)
                · (try simp only [hk, f1, push_cast, simprocAttr])
                  (refine at_call ?_; (try simp only [push_cast, simprocAttr]); refine rwc_v (hT) (go_on ?_); (try simp only [push_cast, simprocAttr]))
                  (try simp only [f2, f3, w1, push_cast, simprocAttr])
                  refine at_fin ⟨(i + 1, ((out ++ [98, 32]) ++ txtM c) ++ [10], A, (cap2 B c).1, u), ⟨by dsimp only; omega, by simp; omega, q3, cap2_tv hk, by dsimp only; omega⟩, by dsimp only; omega, ?_⟩
                  (refine wk_frz ?_ ?_ ?_ ?_ <;> simp [rdR, leF, leHF, frzB, idsL, idsA, idsR, inH, hget, sameRow, viewN, tk, upA, hvA, dsts, dstO, setA_0, setA_1, setA_8, List.append, List.cons_append, List.nil_append])
                · (try simp only [hk, f1, push_cast, simprocAttr])
                  (refine at_call ?_; (try simp only [push_cast, simprocAttr]); refine rwc_v (hT) (go_on ?_); (try simp only [push_cast, simprocAttr]))
                  (try simp only [f2, f3, w1, push_cast, simprocAttr])
                  refine at_fin ⟨(i + 1, ((out ++ [98, 32]) ++ txtM c) ++ [10], A, B, u), ⟨by dsimp only; omega, by simp; omega, q3, q4, by dsimp only; omega⟩, by dsimp only; omega, ?_⟩
                  (refine wk_frz ?_ ?_ ?_ ?_ <;> simp [rdR, leF, leHF, frzB, idsL, idsA, idsR, inH, hget, sameRow, viewN, tk, upA, hvA, dsts, dstO, setA_0, setA_1, setA_8, List.append, List.cons_append, List.nil_append])
    · have i0 : ltI (i : Int) n = false := ltI_f (by omega)
      (try simp only [i0, push_cast, simprocAttr])
      (try simp only [push_cast, simprocAttr]); refine call_lend [17000] none (lr := [rdR y r]) (by simp [ndB]) (by first | rfl | simp [rowsOf, hget, rdR, rowS, rowN, rowC, sC, ndC, cmC]) (by simp [idsL, idsA]) (by simp [mvN]) (by simpa [rnA, ixOf] using pick_pcl y r 20 (hr.le (by omega)) (by omega)) ?_
      rintro rv lr' rows ⟨m20, rfl, hm20, rfl, rfl⟩
      (refine ⟨by simp [shB, mvF, rdR, rowS, rowN, rowC], by simp [frB, baseOf], go_on ?_⟩; simp only [killA, killH, killRow, push_cast, simprocAttr])
      refine at_b (fun h0 => ?_) (fun h0 => ?_)
      · (try simp only [h0, push_cast, simprocAttr])
        (try simp only [push_cast, simprocAttr]); refine call_lend [17000] none (lr := [rdR y (r + 1)]) (by simp [ndB]) (by first | rfl | simp [rowsOf, hget, rdR, rowS, rowN, rowC, sC, ndC, cmC]) (by simp [idsL, idsA]) (by simp [mvN]) (by simpa [rnA, ixOf] using pick_pcl y (r + 1) 4 (hr.le (by omega)) (by omega)) ?_
        rintro rv lr' rows ⟨m4, rfl, hm4, rfl, rfl⟩
        have hm4 := hm4 (by omega)
        have w2 : IntKind.i64.wrap (58 + (m4 : Int)) = ((58 + m4 : Nat) : Int) := by rw [wr (58 + (m4 : Int)) (by omega)]; omega
        have hM := l6Many_pc [97, 32, 47, 97, 32, 45, 32, 102, 49, 10] (58 + m4) (by simp) (by omega)
        obtain ⟨m, hm⟩ : ∃ m, m = 58 + m4 := ⟨_, rfl⟩
        rw [← hm] at w2 hM
        (refine ⟨by simp [shB, mvF, rdR, rowS, rowN, rowC], by simp [frB, baseOf], go_on ?_⟩; simp only [w2, killA, killH, killRow, push_cast, simprocAttr])
        refine call_share (by simp [isC]) hM ?_
        rintro rv rows ⟨u, hu, rfl, rfl⟩
        have f1 : out.length + u.length ≤ 9223372036854775807 := by omega
        refine ⟨by simp [frB, baseOf], go_on ?_⟩
        (try simp only [f1, push_cast, simprocAttr])
        refine at_ret ?_; simp only [Tryz.results12, push_cast, simprocAttr]
        exact ⟨out ++ u, by simp; omega, rfl, rfl⟩
      · (try simp only [h0, push_cast, simprocAttr])
        have f1 : out.length ≤ 9223372036854775803 := by omega
        refine at_b (fun h1 => ?_) (fun h1 => ?_)
        · (try simp only [h1, f1, push_cast, simprocAttr])
          refine at_ret ?_; simp only [Tryz.results12, push_cast, simprocAttr]
          exact ⟨out ++ [115, 104, 111, 119], by simp; omega, rfl, rfl⟩
        · (try simp only [h1, push_cast, simprocAttr])
          refine at_b (fun h2 => ?_) (fun h2 => ?_)
          · (try simp only [h2, f1, push_cast, simprocAttr])
            refine at_ret ?_; simp only [Tryz.results12, push_cast, simprocAttr]
            exact ⟨out ++ [115, 104, 111, 119], by simp; omega, rfl, rfl⟩
          · (try simp only [h2, push_cast, simprocAttr])
            refine at_ret ?_; simp only [Tryz.results12, push_cast, simprocAttr]
            exact ⟨out, by omega, rfl, rfl⟩
end Go.Proofs.YtjhbihooobingaaGreatDoor
/-
  Walks: scripts: how long an answer is; the last line.
-/
namespace Go.Proofs.YtjhbihooobingaaGreatDoor
open Go Go.RowKit Go.Proofs
theorem endT_len : ∀ (L : List Str) {a b : St}, WS a → WS b → (∀ x ∈ L, x.length < 4294967281) → (endT a b L).length ≤ 15000 * L.length + 137
  | [], a, b, ha, hb, _ => by
    have := txtT_len (w := wCommon) ha.b
    have h6 : wCommon.length = 6 := rfl
    simp only [endT, runT, List.nil_append, List.length_nil]
    omega
  | l :: L, a, b, ha, hb, h => by
    obtain ⟨g1, g2, g3⟩ := ws_line ha hb (h l List.mem_cons_self)
    have ih := endT_len L g1 g2 fun x hx => h x (List.mem_cons_of_mem _ hx)
    rw [endT_cons, List.length_append, List.length_cons]
    omega
theorem execT_len (t : Str) : (execT t).length ≤ 10000000 := by
  by_cases h : 600 < t.length
  · rw [law_long h]; simp [wLong]
  · have e : execT t = endT st0 st0 (cutB 10 t).dropLast := by unfold execT; rw [if_neg h]; rfl
    rw [e]
    have h1 := cutB_len 10 t
    have := endT_len (cutB 10 t).dropLast ws_st0 ws_st0 fun x hx => by
      have := cutB_mem 10 t x (List.dropLast_subset _ hx)
      omega
    rw [List.length_dropLast] at this
    omega
theorem takeWhile_len {α : Type} (p : α → Bool) : ∀ l : List α, (l.takeWhile p).length ≤ l.length
  | [] => by simp
  | x :: l => by
    rw [List.takeWhile_cons]
    split
    · have := takeWhile_len p l; simp; omega
    · simp
theorem lstT_len (o : Str) : (lstT o).length ≤ o.length := by
  unfold lstT
  have := takeWhile_len (fun x => decide (x ≠ 10)) o.dropLast.reverse
  simp only [List.length_append, List.length_reverse, List.length_drop, List.length_dropLast] at *
  omega
end Go.Proofs.YtjhbihooobingaaGreatDoor
/-
  Opening a side that a law is handed: what it reads as, in the machine's words.
-/
namespace Go.Proofs.YtjhbihooobingaaGreatDoor
open Go Go.RowKit Go.Proofs
set_option maxRecDepth 100000
section
variable {H : Type} {enc : TypeId × Value → H} {W : World} {base : Nat} {sp : Nat → Bool} {held : Bool} {fuel : Nat} {cs : List Value} {x : DataW H × List MemPlace}
theorem str_of (b : ByteArray) : ∃ s : Str, (⟨s.toArray⟩ : ByteArray) = b ∧ s.length = b.size := ⟨b.data.toList, by simp, by rw [Array.length_toList]; rfl⟩
theorem choose_list {α : Type} {n : Nat} {p : Nat → α → Prop} (h : ∀ i, i < n → ∃ a, p i a) : ∃ l : List α, l.length = n ∧ ∀ (i : Nat) a, l[i]? = some a → p i a := by
  induction n with
  | zero => exact ⟨[], rfl, fun i a h => by simp at h⟩
  | succ n ih =>
    obtain ⟨l, h1, h2⟩ := ih fun i hi => h i (by omega)
    obtain ⟨a, ha⟩ := h n (by omega)
    refine ⟨l ++ [a], by simp [h1], fun i b hb => ?_⟩
    by_cases hi : i < l.length
    · rw [List.getElem?_append_left hi] at hb
      exact h2 i b hb
    · rw [List.getElem?_append_right (by omega)] at hb
      by_cases h0 : i - l.length = 0
      · rw [h0] at hb
        cases hb
        obtain rfl : i = n := by omega
        exact ha
      · have := (List.getElem?_eq_some_iff.1 hb).1
        simp at this
        omega
theorem cells_get {a : Addr} {n : Nat} {l : List Value} (h : W.cells? base a n = some l) : l.length = n ∧ ∀ j, j < n → W.cell? (a.add j) = l[j]? := by
  unfold World.cells? at h
  split at h
  · refine ⟨by have := mapM_some_length h; simpa using this, fun j hj => mapM_some_get h j j (by simp [hj])⟩
  · cases h
/-- A slice of structs of plain data. -/
theorem open_sl {α : Type} {K : α → List AV} {V : α → List Value} {Q : α → Prop} {t e sz : Nat} {lv : Nat → Prop} (ht : Tryz.prog.underlying t = some (.slice e)) (hz : Tryz.prog.cellsOf e = sz) (h0 : 0 < sz)
    (hel : ∀ (fuel : Nat) (cs : List Value) (x : DataW H × List MemPlace), DataW.trod enc Tryz.prog W 0 sp held fuel e cs = some x → ∃ a, cs = V a ∧ Q a)
    (hV : ∀ a, (V a).length = sz ∧ (V a).all Value.oneCell' = true ∧ K a = (V a).map AV.v) (hlv : ∀ b, b < W.heap.size → ¬ lv b)
    (h : DataW.trod enc Tryz.prog W 0 sp held fuel t cs = some x) :
    ∃ (l : List α) (v : Value), cs = [v] ∧ C lv 0 W (.sl sz (l.map K)) v ∧ l.length ≤ maxLen ∧ ∀ a ∈ l, Q a := by
  rcases DataW.trod_slice ht h with ⟨rfl, _⟩ | ⟨a, len, cap, elems, rest, n, rfl, rfl, _, _, hl, hm, hlen, hg, _, _⟩
  · refine ⟨[], _, rfl, C.sl [] (fun _ _ => undef) ⟨by simp, fun h => absurd h (by simp)⟩ (fun h => absurd h (by simp)) (by simp) (by omega) ?_ ?_ ?_, by simp, by simp⟩ <;> intro k e <;> simp
  · have hex : ∀ i, i < len → ∃ b, (∀ j, j < sz → W.cell? (a.add (i * sz + j)) = (V b)[j]?) ∧ Q b := by
      intro i hi
      have h1 := hg i hi
      rw [hz] at h1
      obtain ⟨y, hy⟩ : ∃ y, elems[i]? = some y := ⟨_, List.getElem?_eq_getElem (by omega)⟩
      rw [hy, Option.bind_eq_some_iff] at h1
      obtain ⟨cs', hcs, hy'⟩ := h1
      obtain ⟨b, rfl, hb⟩ := hel _ _ _ hy'
      refine ⟨b, fun j hj => ?_, hb⟩
      have h2 := (cells_get hcs).2 j hj
      rw [← h2]
      congr 1
      unfold Addr.add
      by_cases g1 : j = 0
      · subst g1; simp
      · by_cases g2 : i * sz = 0
        · simp [g2]
        · rw [if_neg (by omega), if_neg g1, if_neg g2]
          simp only [Nat.add_assoc]
    obtain ⟨l, hll, hlg⟩ := choose_list hex
    subst hll
    have hcell : ∀ (i : Nat) b j, l[i]? = some b → j < sz → W.cell? (a.add (i * sz + j)) = (V b)[j]? := fun i b j hb hj => (hlg i b hb).1 j hj
    have hQ : ∀ b ∈ l, Q b := fun b hb => by
      obtain ⟨i, hi⟩ := List.getElem?_of_mem hb
      exact (hlg i b hi).2
    have xget : ∀ (l : List α) (i : Nat) b j, l[i]? = some b → j < sz → (l.flatMap V)[i * sz + j]? = (V b)[j]? := by
      intro l
      induction l with
      | nil => intro i b j hb; simp at hb
      | cons c l ih =>
        intro i b j hb hj
        cases i with
        | zero =>
          cases hb
          rw [List.flatMap_cons, Nat.zero_mul, Nat.zero_add, List.getElem?_append_left (by rw [(hV c).1]; exact hj)]
        | succ i =>
          rw [List.flatMap_cons, List.getElem?_append_right (by rw [(hV c).1, Nat.succ_mul]; omega), (hV c).1, show (i + 1) * sz + j - sz = i * sz + j by rw [Nat.succ_mul]; omega]
          exact ih i b j hb hj
    have xlen : ∀ l : List α, (l.flatMap V).length = l.length * sz := by
      intro l
      induction l with
      | nil => simp
      | cons c l ih => rw [List.flatMap_cons, List.length_append, (hV c).1, ih, List.length_cons, Nat.succ_mul]; omega
    have hVj : ∀ b j, j < sz → ∃ u, (V b)[j]? = some u ∧ u.oneCell' = true ∧ (K b)[j]? = some (.v u) := by
      intro b j hj
      obtain ⟨u, hu⟩ : ∃ u, (V b)[j]? = some u := ⟨_, List.getElem?_eq_getElem (by rw [(hV b).1]; exact hj)⟩
      refine ⟨u, hu, ?_, ?_⟩
      · exact List.all_eq_true.1 (hV b).2.1 u (List.mem_of_getElem? hu)
      · rw [(hV b).2.2, List.getElem?_map, hu]; rfl
    have hKl : ∀ b, (K b).length = sz := fun b => by rw [(hV b).2.2, List.length_map, (hV b).1]
    refine ⟨l, _, rfl, ?_, by omega, hQ⟩
    rw [← List.length_map (f := K)]
    refine C.sl (l.flatMap V) (fun i j => ((l.flatMap V)[i * sz + j]?).getD undef) ⟨by rw [xlen, List.length_map], fun hp => ?_⟩ (fun hp ad had => ?_) (by rw [List.length_map]; exact hl) hm (fun k e he => ?_) (fun k e j he hj => ?_) (fun k e j c he hj => ?_)
    · rw [List.length_map] at hp
      obtain ⟨b0, hb0⟩ : ∃ b, l[0]? = some b := ⟨_, List.getElem?_eq_getElem hp⟩
      obtain ⟨u0, hu0, _⟩ := hVj b0 0 h0
      have hc0 := hcell 0 b0 0 hb0 h0
      rw [hu0, Nat.zero_mul, Nat.zero_add] at hc0
      have hs : a.spot = none := by simpa [Addr.add] using World.cell?_spot hc0
      obtain ⟨b, off, spt⟩ := a
      simp only at hs
      subst hs
      refine ⟨b, off, rfl, Nat.zero_le _, ?_, fun j u hj => ?_⟩
      · have hc1 := hc0
        rw [show (⟨b, off, none⟩ : Addr).add 0 = ⟨b, off, none⟩ from rfl] at hc1
        obtain ⟨e', m, hsh, _, _⟩ := World.shape?_of_cell? hc1
        by_cases hb : b < W.heap.size
        · exact hb
        · rw [World.shape?, Array.getElem?_eq_none (by simpa using hb)] at hsh
          cases hsh
      · have hj1 : j < l.length * sz := by have := (List.getElem?_eq_some_iff.1 hj).1; rw [xlen] at this; exact this
        have hq : j / sz < l.length := Nat.div_lt_of_lt_mul (by rw [Nat.mul_comm]; exact hj1)
        obtain ⟨b1, hb1⟩ : ∃ b, l[j / sz]? = some b := ⟨_, List.getElem?_eq_getElem hq⟩
        have hm1 : j % sz < sz := Nat.mod_lt _ h0
        have ej : j / sz * sz + j % sz = j := by rw [Nat.mul_comm]; exact Nat.div_add_mod j sz
        have h3 := hcell _ b1 _ hb1 hm1
        have h4 := xget l _ b1 _ hb1 hm1
        rw [ej] at h3 h4
        rw [← h4, hj] at h3
        rw [← Go.WideShapes.add_plain]
        exact h3
    · rw [List.length_map] at hp
      cases had
      obtain ⟨b0, hb0⟩ : ∃ b, l[0]? = some b := ⟨_, List.getElem?_eq_getElem hp⟩
      obtain ⟨u0, hu0, _⟩ := hVj b0 0 h0
      have hc0 := hcell 0 b0 0 hb0 h0
      rw [hu0, Nat.zero_mul, Nat.zero_add] at hc0
      obtain ⟨e', m, hsh, _, _⟩ := World.shape?_of_cell? hc0
      refine hlv _ ?_
      by_cases hb : a.block < W.heap.size
      · exact hb
      · rw [World.shape?, Array.getElem?_eq_none (by simpa [Addr.add] using hb)] at hsh
        cases hsh
    · rw [List.getElem?_map, Option.map_eq_some_iff] at he
      obtain ⟨b, _, rfl⟩ := he
      exact hKl b
    · rw [List.getElem?_map, Option.map_eq_some_iff] at he
      obtain ⟨b, hb, rfl⟩ := he
      rw [hKl] at hj
      obtain ⟨u, hu, ho, _⟩ := hVj b j hj
      rw [xget l k b j hb hj, hu]
      exact ⟨rfl, ho⟩
    · rw [List.getElem?_map, Option.map_eq_some_iff] at he
      obtain ⟨b, hb, rfl⟩ := he
      have hj2 : j < sz := by have := (List.getElem?_eq_some_iff.1 hj).1; rwa [hKl] at this
      obtain ⟨u, hu, ho, hk⟩ := hVj b j hj2
      rw [hk] at hj
      cases hj
      rw [xget l k b j hb hj2, hu]
      exact C.v
theorem res_bool {fb : Nat → Prop} {b : Bool} {base : Nat} {w' : World} {rows : List Row} {rv : AV} {u : Value} (hd : vB b rv rows) (hr : Res fb base w' rows rv u) : u = .bool b := by
  obtain ⟨rfl, rfl⟩ := hd
  obtain ⟨loc, _, hG, _⟩ := hr
  cases hG with
  | cl hc => cases hc; rfl
end
end Go.Proofs.YtjhbihooobingaaGreatDoor
/-
  Opening the bytes that a law is handed.
-/
namespace Go.Proofs.YtjhbihooobingaaGreatDoor
open Go Go.RowKit Go.Proofs
set_option maxRecDepth 100000
section
variable {H : Type} {enc : TypeId × Value → H} {W : World} {base : Nat} {sp : Nat → Bool} {held : Bool} {fuel : Nat} {cs : List Value} {x : DataW H × List MemPlace}
theorem open_byte (h : DataW.trod enc Tryz.prog W base sp held fuel 5 cs = some x) : ∃ n : Int, cs = [.int .u8 n] ∧ 0 ≤ n ∧ n ≤ 255 := by
  obtain ⟨n, rfl, _, hw⟩ := DataW.trod_int Tryz.underlying5 h
  refine ⟨n, rfl, ?_⟩
  simp [Lit.wf, IntKind.min, IntKind.max, IntKind.signed, IntKind.bits] at hw
  omega
theorem open_bytes {lv : Nat → Prop} {v : Value} (hlv : ∀ b, b < W.heap.size → ¬ lv b) (h : DataW.trod enc Tryz.prog W 0 sp held fuel 22 [v] = some x) :
    ∃ z : List Int, C lv 0 W (byA z) v ∧ BytesOk z := by
  obtain ⟨l, u, h1, h2, h3, h4⟩ := open_sl (V := fun n : Int => [.int .u8 n]) (K := byC) (Q := fun n => 0 ≤ n ∧ n ≤ 255) (sz := 1) Tryz.underlying22 (by kernel_rfl) (by omega) (fun _ _ _ h => open_byte h) (fun a => ⟨rfl, rfl, rfl⟩) hlv h
  cases h1
  exact ⟨l, h2, h3, h4⟩
end
end Go.Proofs.YtjhbihooobingaaGreatDoor
/-
  Opening a text that a law is handed.
-/
namespace Go.Proofs.YtjhbihooobingaaGreatDoor
open Go Go.RowKit Go.Proofs
theorem open_str {H : Type} {enc : TypeId × Value → H} {W : World} {base : Nat} {sp : Nat → Bool} {held : Bool} {fuel : Nat} {x : DataW H × List MemPlace} {v : Value}
    (h : DataW.trod enc Tryz.prog W base sp held fuel 9 [v] = some x) : ∃ s : Str, C (fun _ => False) 0 W (sA s) v ∧ s.length ≤ maxLen := by
  obtain ⟨s, e1, _, hs⟩ := DataW.trod_string Tryz.underlying9 h
  obtain ⟨q, rfl, hq⟩ := str_of s
  cases e1
  exact ⟨q, .v, by simpa only [hq] using hs⟩
end Go.Proofs.YtjhbihooobingaaGreatDoor
