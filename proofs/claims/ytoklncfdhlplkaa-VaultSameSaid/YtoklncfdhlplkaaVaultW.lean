/- within: whether all that a map has, another one has, too. -/
import Derived.Test.YtoklncfdhlplkaaVaultG
import Derived.Deep.QuietTactic
import Derived.BigQuiet
set_option linter.unusedVariables false
set_option linter.unusedSimpArgs false
namespace Go.Proofs.Ytoklncfdhlplkaa
open Go.RowKit
open Go.Proofs.YtoklncfdhlplkaaW.PrintWords

set_option maxRecDepth 100000 in
set_option maxHeartbeats 4000000 in
theorem within_cell (m1 m2 : Nat) (f1 f2 : ByteArray → Option CellD) (w : World) (h1 : MapIn strE cellV w m1 f1) (h2 : MapIn strE cellV w m2 f2) (k1 : ∀ k c, f1 k = some c → CellOk c) (k2 : ∀ k c, f2 k = some c → CellOk c) :
    Calls Try.prog 36 #[.map (some m1), .map (some m2), .func (.func 37) #[] #[]] w fun r w' => r = .returned (.bool (cdec (∀ k c, f1 k = some c → absC c = absC ((f2 k).getD (false, 0))))) ∧ Fr (fun _ => False) w w' := by
  have H1 := Lib.hid h1
  have H2 := Lib.hid h2
  have K1 := Lib.hid k1
  have K2 := Lib.hid k2
  obtain ⟨w0, cnt0, hrange, hit0, hF0, hsz0⟩ := h1.range (t := 66) rfl
  have HI0 := Lib.hid hit0
  have HF0 := Lib.hid hF0
  clear h1 h2 k1 k2 hit0 hF0 hsz0
  go_enter Try.func36, Try.ntmps36
  go_wp2_with fail
  go_loopw [7] (fun u wr => ∃ (left : ByteArray → Prop) (cnt : Nat), MapIt strE cellV wr m1 w.heap.size f1 left cnt ∧ (∀ k c, f1 k = some c → ¬ left k → absC c = absC ((f2 k).getD (false, 0))) ∧ Fr (fun _ => False) w wr) (fun _ wr => wr.rangeLeft m1 w.heap.size)
  case atStart => exact ⟨_, _, HI0.out, fun k c h hn => absurd (by rw [h]; rfl) hn, HF0.out⟩
  case round =>
    obtain ⟨left, cnt, hit, hdone, hG⟩ := hrel
    have HG := Lib.hid hG
    have HD := Lib.hid hdone
    have HIT := Lib.hid hit
    clear hG hdone
    rcases hit.next 0 with ⟨hno, hnext⟩ | ⟨a, c, w1, cnt1, hok, hla, hfa, hnext, hit1, hlt1, hF1, hsz1, hen⟩
    · have HNO := Lib.hid hno
      clear hit hno
      go_wp2_with fail
      go_ret
      exact ⟨ret_bool (cdec_true fun k c h => HD.out k c h (HNO.out k)).symm, HG.out⟩
    · have HI1 := Lib.hid hit1
      have HG1 := Lib.hid (HG.out.trans' hF1 (fun i hi h => by omega))
      have HLA := Lib.hid hla
      have HFA := Lib.hid hfa
      have HLT := Lib.hid hlt1
      have hG1 := (HG1.out.alloc (.cells #[.bool c.1, .float .f64 c.2] 40))
      have HG2 := Lib.hid hG1
      have hlk := (H2.out.fr hG1 (fun h => h)).lookup (t := 66) (et := 40) Try.underlying66 (z := cellV (false, 0)) (zero_cell' _) (a := a) hok
      replace hlk : (Instr.lookup 66 (.map (some m2)) (.string a) false).run Try.prog (w1.alloc (.cells #[.bool c.1, .float .f64 c.2] 40)) = .ok (cellV ((f2 a).getD (false, 0))) (w1.alloc (.cells #[.bool c.1, .float .f64 c.2] 40)) := by
        rw [show cellV ((f2 a).getD (false, 0)) = (f2 a).elim (cellV (false, 0)) cellV from by cases f2 a <;> rfl]
        exact hlk
      have hok2 : CellOk ((f2 a).getD (false, 0)) := by
        cases hf2 : f2 a with
        | none => exact cell0_ok
        | some x => exact K2.out a x hf2
      have HOK2 := Lib.hid hok2
      clear hok2 hG1
      clear hit hla hfa hit1 hlt1 hF1
      replace hen : (Instr.entry (.pointer (some ⟨w.heap.size, 0, none⟩))).run Try.prog w1 = .ok (.tuple #[.string a, cellV c]) w1 := hen
      replace hnext : (Instr.next (.pointer (some ⟨w.heap.size, 0, none⟩)) false 0).run Try.prog wr = .ok (.tuple #[.bool true, .string a, cellV c]) w1 := hnext
      go_wp2_with fail
      refine (cell_same c ((f2 a).getD (false, 0)) _ (K1.out a c HFA.out) HOK2.out).mono ?_
      rintro r w2 ⟨rfl, hF2⟩
      have HG3 := Lib.hid (HG2.out.trans hF2)
      have HI2 := Lib.hid ((HI1.out.fr ((Fr.refl (fun _ => False) w1).alloc (.cells #[.bool c.1, .float .f64 c.2] 40)) (fun h => h) (fun h => h)).fr hF2 (fun h => h) (fun h => h))
      clear hF2
      by_cases hq : absC c = absC ((f2 a).getD (false, 0))
      · rw [decide_eq_true hq]
        have HQ := Lib.hid hq
        clear hq
        go_wp2_with fail
        go_roundw
        case rel =>
          refine ⟨_, _, HI2.out, fun k c' hk hn => ?_, HG3.out⟩
          by_cases hka : k = a
          · subst hka
            have h1 := HFA.out
            rw [hk] at h1
            cases h1
            exact HQ.out
          · exact HD.out k c' hk (fun h => hn ⟨h, hka⟩)
        case measure => rw [HI2.out.left_eq, HIT.out.left_eq]; exact HLT.out
      · rw [decide_eq_false hq]
        have HQ := Lib.hid hq
        clear hq
        go_wp2_with fail
        go_ret
        exact ⟨ret_bool (cdec_false fun h => HQ.out (h a c HFA.out)).symm, HG3.out⟩
end Go.Proofs.Ytoklncfdhlplkaa
