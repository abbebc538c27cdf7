/- Records: what is wrong, the same, which stands ahead, the cost; by the program. -/
import Derived.Test.YtckcdgmcoomngaaRecP
set_option linter.unusedVariables false
set_option linter.unusedSimpArgs false
namespace Go.Proofs.Ytckcdgmcoomngaa
open Go.RowKit
open Go.Proofs.YtckcdgmcoomngaaW.PrintWords

def RecGood (r : Rec) : Prop := ∀ x ∈ r.2.2.2, CmdGood x
set_option maxRecDepth 100000 in
set_option maxHeartbeats 4000000 in
theorem rec_check (r : Rec) (Ad Ab : Option Addr) (cd cb : Nat) (w : World) (h : RecAt w r Ad Ab cd cb) (hg : RecGood r) :
    Calls Try.prog 10 #[recV r Ad Ab cd cb] w fun e w' => e = .returned (.int .i64 (errRec r)) ∧ Fr (fun _ => False) w w' := by
  obtain ⟨⟨i1, i2⟩, q, D, B⟩ := r
  obtain ⟨nd, hnd⟩ : ∃ nd, nd = D.length := ⟨_, rfl⟩
  obtain ⟨nb, hnb⟩ : ∃ nb, nb = B.length := ⟨_, rfl⟩
  have HD := Lib.hid (show idK.C w Ad nd D by rw [hnd]; exact h.deps)
  have HB := Lib.hid (show cmdK.C w Ab nb B by rw [hnb]; exact h.batch)
  have HG := Lib.hid (show ∀ x ∈ B, CmdGood x from hg)
  rw [show recV ((i1, i2), q, D, B) Ad Ab cd cb = lookV i1 i2 q Ad Ab nd nb cd cb by rw [hnd, hnb]]
  clear h hg hnd hnb
  have hX := (Blk.new w 27 #[.int .i64 i1, .int .i64 i2, .int .i64 q, .slice Ad nd cd, .slice Ab nb cb]).alloc (.cells #[.func (.func 33) #[] #[], .func (.func 34) #[] #[], .func (.func 35) #[] #[]] 50)
  have hF := ((Fr.refl (fun _ => False) w).alloc (.cells #[.int .i64 i1, .int .i64 i2, .int .i64 q, .slice Ad nd cd, .slice Ab nb cb] 27)).alloc (.cells #[.func (.func 33) #[] #[], .func (.func 34) #[] #[], .func (.func 35) #[] #[]] 50)
  have hY := Blk.new (w.alloc (.cells #[.int .i64 i1, .int .i64 i2, .int .i64 q, .slice Ad nd cd, .slice Ab nb cb] 27)) 50 #[.func (.func 33) #[] #[], .func (.func 34) #[] #[], .func (.func 35) #[] #[]]
  rw [World.size_alloc] at hY
  by_cases h1 : errOwn (i1, i2) q = 0
  · have t1 : (errOwn (i1, i2) q != 0) = false := by simp [h1]
    by_cases h2 : errDeps (i1, i2) D = 0
    · have t2 : (errDeps (i1, i2) D != 0) = false := by simp [h2]
      have e : errRec ((i1, i2), q, D, B) = errBat B := by unfold errRec; rw [if_pos h1, if_pos h2]
      rw [e]
      clear e h1 h2
      by_cases h3 : errBat B = 0
      · have t3 : (errBat B != 0) = false := by simp [h3]
        rw [h3]
        clear h3
        go_enter Try.func10, Try.ntmps10
        go_wp2_with fail
        refine wp_loop_rounds 4 ?_
        rw [rounds_succ]
        go_wp2_with fail
        refine (look_own i1 i2 q Ad Ab nd nb cd cb _).mono ?_
        rintro r w1 ⟨rfl, hF1⟩
        have hX1 := hX.fr hF1 (fun h => h)
        have hY1 := hY.fr hF1 (fun h => h)
        have x1_0 := hX1.cell 0
        have x1_1 := hX1.cell 1
        have x1_2 := hX1.cell 2
        have x1_3 := hX1.cell 3
        have x1_4 := hX1.cell 4
        have y1 := hY1.cell 1
        simp only [List.getElem?_toArray, List.getElem?_cons_zero, List.getElem?_cons_succ] at x1_0 x1_1 x1_2 x1_3 x1_4 y1
        go_wp2_with fail
        rw [rounds_succ]
        go_wp2_with fail
        refine (look_deps i1 i2 q Ad Ab nd nb cd cb D _ (Kd.C_below HD.out ((hF.trans hF1).below (fun _ _ h => h)))).mono ?_
        rintro r w2 ⟨rfl, hF2⟩
        have hX2 := hX1.fr hF2 (fun h => h)
        have hY2 := hY1.fr hF2 (fun h => h)
        have x2_0 := hX2.cell 0
        have x2_1 := hX2.cell 1
        have x2_2 := hX2.cell 2
        have x2_3 := hX2.cell 3
        have x2_4 := hX2.cell 4
        have y2 := hY2.cell 2
        simp only [List.getElem?_toArray, List.getElem?_cons_zero, List.getElem?_cons_succ] at x2_0 x2_1 x2_2 x2_3 x2_4 y2
        clear x1_0 x1_1 x1_2 x1_3 x1_4 y1
        go_wp2_with fail
        rw [rounds_succ]
        go_wp2_with fail
        refine (look_does i1 i2 q Ad Ab nd nb cd cb B _ (Kd.C_below HB.out (((hF.trans hF1).trans hF2).below (fun _ _ h => h))) HG.out).mono ?_
        rintro r w3 ⟨rfl, hF3⟩
        go_wp2_with fail
        rw [rounds_succ]
        go_wp2_with fail
        go_ret
        exact ⟨rfl, ((hF.trans hF1).trans hF2).trans hF3⟩
      · have t3 : (errBat B != 0) = true := by simp [h3]
        clear h3
        go_enter Try.func10, Try.ntmps10
        go_wp2_with fail
        refine wp_loop_rounds 4 ?_
        rw [rounds_succ]
        go_wp2_with fail
        refine (look_own i1 i2 q Ad Ab nd nb cd cb _).mono ?_
        rintro r w1 ⟨rfl, hF1⟩
        have hX1 := hX.fr hF1 (fun h => h)
        have hY1 := hY.fr hF1 (fun h => h)
        have x1_0 := hX1.cell 0
        have x1_1 := hX1.cell 1
        have x1_2 := hX1.cell 2
        have x1_3 := hX1.cell 3
        have x1_4 := hX1.cell 4
        have y1 := hY1.cell 1
        simp only [List.getElem?_toArray, List.getElem?_cons_zero, List.getElem?_cons_succ] at x1_0 x1_1 x1_2 x1_3 x1_4 y1
        go_wp2_with fail
        rw [rounds_succ]
        go_wp2_with fail
        refine (look_deps i1 i2 q Ad Ab nd nb cd cb D _ (Kd.C_below HD.out ((hF.trans hF1).below (fun _ _ h => h)))).mono ?_
        rintro r w2 ⟨rfl, hF2⟩
        have hX2 := hX1.fr hF2 (fun h => h)
        have hY2 := hY1.fr hF2 (fun h => h)
        have x2_0 := hX2.cell 0
        have x2_1 := hX2.cell 1
        have x2_2 := hX2.cell 2
        have x2_3 := hX2.cell 3
        have x2_4 := hX2.cell 4
        have y2 := hY2.cell 2
        simp only [List.getElem?_toArray, List.getElem?_cons_zero, List.getElem?_cons_succ] at x2_0 x2_1 x2_2 x2_3 x2_4 y2
        clear x1_0 x1_1 x1_2 x1_3 x1_4 y1
        go_wp2_with fail
        rw [rounds_succ]
        go_wp2_with fail
        refine (look_does i1 i2 q Ad Ab nd nb cd cb B _ (Kd.C_below HB.out (((hF.trans hF1).trans hF2).below (fun _ _ h => h))) HG.out).mono ?_
        rintro r w3 ⟨rfl, hF3⟩
        go_wp2_with fail
        go_ret
        exact ⟨rfl, ((hF.trans hF1).trans hF2).trans hF3⟩
    · have t2 : (errDeps (i1, i2) D != 0) = true := by simp [h2]
      have e : errRec ((i1, i2), q, D, B) = errDeps (i1, i2) D := by unfold errRec; rw [if_pos h1, if_neg h2]
      rw [e]
      clear e h1 h2
      go_enter Try.func10, Try.ntmps10
      go_wp2_with fail
      refine wp_loop_rounds 4 ?_
      rw [rounds_succ]
      go_wp2_with fail
      refine (look_own i1 i2 q Ad Ab nd nb cd cb _).mono ?_
      rintro r w1 ⟨rfl, hF1⟩
      have hX1 := hX.fr hF1 (fun h => h)
      have hY1 := hY.fr hF1 (fun h => h)
      have x1_0 := hX1.cell 0
      have x1_1 := hX1.cell 1
      have x1_2 := hX1.cell 2
      have x1_3 := hX1.cell 3
      have x1_4 := hX1.cell 4
      have y1 := hY1.cell 1
      simp only [List.getElem?_toArray, List.getElem?_cons_zero, List.getElem?_cons_succ] at x1_0 x1_1 x1_2 x1_3 x1_4 y1
      go_wp2_with fail
      rw [rounds_succ]
      go_wp2_with fail
      refine (look_deps i1 i2 q Ad Ab nd nb cd cb D _ (Kd.C_below HD.out ((hF.trans hF1).below (fun _ _ h => h)))).mono ?_
      rintro r w2 ⟨rfl, hF2⟩
      go_wp2_with fail
      go_ret
      exact ⟨rfl, (hF.trans hF1).trans hF2⟩
  · have t1 : (errOwn (i1, i2) q != 0) = true := by simp [h1]
    have e : errRec ((i1, i2), q, D, B) = errOwn (i1, i2) q := by unfold errRec; rw [if_neg h1]
    rw [e]
    clear e h1
    go_enter Try.func10, Try.ntmps10
    go_wp2_with fail
    refine wp_loop_rounds 4 ?_
    rw [rounds_succ]
    go_wp2_with fail
    refine (look_own i1 i2 q Ad Ab nd nb cd cb _).mono ?_
    rintro r w1 ⟨rfl, hF1⟩
    go_wp2_with fail
    go_ret
    exact ⟨rfl, hF.trans hF1⟩
theorem rec_cost (r : Rec) (Ad Ab : Option Addr) (cd cb : Nat) (w : World) (hs : r.2.2.1.length ≤ 1000000) :
    Calls Try.prog 12 #[recV r Ad Ab cd cb] w fun e w' => e = .returned (.int .i64 (1 + (r.2.2.1.length : Int))) ∧ Fr (fun _ => False) w w' := by
  obtain ⟨⟨i1, i2⟩, q, D, B⟩ := r
  obtain ⟨nd, hnd⟩ : ∃ nd, nd = D.length := ⟨_, rfl⟩
  obtain ⟨nb, hnb⟩ : ∃ nb, nb = B.length := ⟨_, rfl⟩
  rw [show recV ((i1, i2), q, D, B) Ad Ab cd cb = lookV i1 i2 q Ad Ab nd nb cd cb by rw [hnd, hnb]]
  simp only [← hnd] at hs ⊢
  have tw : IntKind.i64.wrap (1 + (nd : Int)) = 1 + (nd : Int) := wrap_in _ (by omega) (by omega)
  clear hnd hnb
  go_enter Try.func12, Try.ntmps12
  go_wp2_with fail
  go_ret
  exact ⟨rfl, (Fr.refl _ _).alloc _⟩
end Go.Proofs.Ytckcdgmcoomngaa
