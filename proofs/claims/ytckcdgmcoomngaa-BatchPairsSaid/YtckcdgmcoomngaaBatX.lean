/- cmd.Conflict; batch.Conflict. -/
import Derived.Test.YtckcdgmcoomngaaBatT
set_option linter.unusedVariables false
set_option linter.unusedSimpArgs false
namespace Go.Proofs.Ytckcdgmcoomngaa
open Go.RowKit
open Go.Proofs.YtckcdgmcoomngaaW.PrintWords

def confP (a b : Cmd) : Prop := cmdOk a ∧ cmdOk b ∧ a.2.1 = b.2.1 ∧ (a.1 ≠ 1 ∨ b.1 ≠ 1)
set_option maxRecDepth 100000 in
set_option maxHeartbeats 4000000 in
theorem cmd_conflict (a b : Cmd) (w : World) (ha : CmdGood a) (hb : CmdGood b) :
    Calls Try.prog 50 #[.agg #[.int .i64 a.1, .string a.2.1, .float .f64 a.2.2], .agg #[.int .i64 b.1, .string b.2.1, .float .f64 b.2.2]] w fun r w' => r = .returned (.bool (cdec (confP a b))) ∧ Fr (fun _ => False) w w' := by
  have HF := Lib.hid (((Fr.refl (fun _ => False) w).alloc (.cells #[.int .i64 a.1, .string a.2.1, .float .f64 a.2.2] 36)).alloc (.cells #[.int .i64 b.1, .string b.2.1, .float .f64 b.2.2] 36))
  have hA := (Blk.new w 36 #[.int .i64 a.1, .string a.2.1, .float .f64 a.2.2]).alloc (.cells #[.int .i64 b.1, .string b.2.1, .float .f64 b.2.2] 36)
  have hB := Blk.new (w.alloc (.cells #[.int .i64 a.1, .string a.2.1, .float .f64 a.2.2] 36)) 36 #[.int .i64 b.1, .string b.2.1, .float .f64 b.2.2]
  rw [World.size_alloc] at hB
  have A0 := Lib.hid (hA.cell 0)
  have A1 := Lib.hid (hA.cell 1)
  have A2 := Lib.hid (hA.cell 2)
  have B0 := Lib.hid (hB.cell 0)
  have B1 := Lib.hid (hB.cell 1)
  have B2 := Lib.hid (hB.cell 2)
  clear hA hB
  go_enter Try.func50, Try.ntmps50
  go_wp2_with fail
  refine (cmd_check a.1 a.2.1 a.2.2 _ ha.1 ha.2).mono ?_
  rintro r w1 ⟨rfl, hF1⟩
  have F1 := Lib.hid hF1
  clear hF1
  have a0 := F1.out.cell A0.out (fun h => h)
  have a1 := F1.out.cell A1.out (fun h => h)
  have a2 := F1.out.cell A2.out (fun h => h)
  have b0 := F1.out.cell B0.out (fun h => h)
  have b1 := F1.out.cell B1.out (fun h => h)
  have b2 := F1.out.cell B2.out (fun h => h)
  by_cases hoa : cmdOk a
  · rw [errCmd_ok (show cmdOk (a.1, a.2.1, a.2.2) from hoa)]
    have HOA := Lib.hid hoa
    clear hoa
    go_wp2_with fail
    refine (cmd_check b.1 b.2.1 b.2.2 _ hb.1 hb.2).mono ?_
    rintro r w2 ⟨rfl, hF2⟩
    have F2 := Lib.hid (F1.out.trans hF2)
    clear hF2 a0 a1 a2 b0 b1 b2
    have a0 := F2.out.cell A0.out (fun h => h)
    have a1 := F2.out.cell A1.out (fun h => h)
    have a2 := F2.out.cell A2.out (fun h => h)
    have b0 := F2.out.cell B0.out (fun h => h)
    have b1 := F2.out.cell B1.out (fun h => h)
    have b2 := F2.out.cell B2.out (fun h => h)
    by_cases hob : cmdOk b
    · rw [errCmd_ok (show cmdOk (b.1, b.2.1, b.2.2) from hob)]
      have HOB := Lib.hid hob
      clear hob
      have hbq := beq_list (a := a.2.1) (b := b.2.1)
      by_cases hk : a.2.1 = b.2.1
      · rw [cdec_true hk] at hbq
        have HK := Lib.hid hk
        clear hk
        go_wp2_with fail
        refine (cmd_writes a.1 a.2.1 a.2.2 _ ha.1 ha.2).mono ?_
        rintro r w3 ⟨rfl, hF3⟩
        have F3 := Lib.hid (F2.out.trans hF3)
        clear hF3 a0 a1 a2 b0 b1 b2
        have a0 := F3.out.cell A0.out (fun h => h)
        have a1 := F3.out.cell A1.out (fun h => h)
        have a2 := F3.out.cell A2.out (fun h => h)
        have b0 := F3.out.cell B0.out (fun h => h)
        have b1 := F3.out.cell B1.out (fun h => h)
        have b2 := F3.out.cell B2.out (fun h => h)
        by_cases hwa : a.1 = 1
        · rw [cdec_false (fun h => h.2 hwa)]
          have HWA := Lib.hid hwa
          clear hwa
          go_wp2_with fail
          refine (cmd_writes b.1 b.2.1 b.2.2 _ hb.1 hb.2).mono ?_
          rintro r w4 ⟨rfl, hF4⟩
          have F4 := Lib.hid (F3.out.trans hF4)
          obtain ⟨y, hy⟩ : ∃ y, y = cdec (cmdOk (b.1, b.2.1, b.2.2) ∧ b.1 ≠ 1) := ⟨_, rfl⟩
          rw [← hy]
          have HY := Lib.hid hy
          clear hF4 a0 a1 a2 b0 b1 b2 hy
          go_wp2_with fail
          go_ret
          refine ⟨ret_bool ?_, HF.out.trans F4.out⟩
          rw [HY.out]
          by_cases hwb : b.1 = 1
          · rw [cdec_false (fun h => h.2 hwb), cdec_false (fun h : confP a b => h.2.2.2.elim (fun h => h HWA.out) (fun h => h hwb))]
          · rw [cdec_true ⟨HOB.out, hwb⟩, cdec_true (show confP a b from ⟨HOA.out, HOB.out, HK.out, .inr hwb⟩)]
        · rw [cdec_true (show cmdOk (a.1, a.2.1, a.2.2) ∧ a.1 ≠ 1 from ⟨HOA.out, hwa⟩)]
          have HWA := Lib.hid hwa
          clear hwa
          go_wp2_with fail
          go_ret
          exact ⟨ret_bool (cdec_true (show confP a b from ⟨HOA.out, HOB.out, HK.out, .inl HWA.out⟩)).symm, HF.out.trans F3.out⟩
      · rw [cdec_false hk] at hbq
        have HK := Lib.hid hk
        clear hk
        go_wp2_with fail
        go_ret
        exact ⟨ret_bool (cdec_false (fun h : confP a b => HK.out h.2.2.1)).symm, HF.out.trans F2.out⟩
    · rw [errCmd_no (show ¬ cmdOk (b.1, b.2.1, b.2.2) from hob)]
      have HOB := Lib.hid hob
      clear hob
      go_wp2_with fail
      go_ret
      exact ⟨ret_bool (cdec_false (fun h : confP a b => HOB.out h.2.1)).symm, HF.out.trans F2.out⟩
  · rw [errCmd_no (show ¬ cmdOk (a.1, a.2.1, a.2.2) from hoa)]
    have HOA := Lib.hid hoa
    clear hoa
    go_wp2_with fail
    go_ret
    exact ⟨ret_bool (cdec_false (fun h : confP a b => HOA.out h.1)).symm, HF.out.trans F1.out⟩
end Go.Proofs.Ytckcdgmcoomngaa
