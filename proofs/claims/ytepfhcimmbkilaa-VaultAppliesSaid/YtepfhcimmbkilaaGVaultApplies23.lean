/- Texts of VaultApplies, merged (23 of 33): BatS, BatF, BatT, BatX, BatY. -/
import Derived.Test.YtepfhcimmbkilaaGVaultApplies11
import Derived.Test.YtepfhcimmbkilaaGVaultApplies5
set_option linter.unusedVariables false
set_option linter.unusedSimpArgs false
/- Two lists of texts, of places: the same? -/
namespace Go.Proofs.Ytepfhcimmbkilaa
open Go.RowKit
open Go.Proofs.YtepfhcimmbkilaaW.PrintWords

theorem stx_get {L : List ByteArray} {i : Nat} (h : i < L.length) : L[i]? = some (stx L i) := by rw [stx_eq h, List.getElem?_eq_getElem h]
set_option maxHeartbeats 1000000 in
theorem ref_sameTexts (A A' : Option Addr) (n c n' c' : Nat) (L L' : List ByteArray) (w : World) (h : strK.C w A n L) (h' : strK.C w A' n' L') (hn : n ≤ 9223372036854775807) (hn' : n' ≤ 9223372036854775807) :
    Calls Try.prog 28 #[.slice A n c, .slice A' n' c'] w fun r w' => r = .returned (.bool (decide (L = L'))) ∧ Fr (fun _ => False) w w' := by
  have HL := Lib.hid (show L.length = n from h.1)
  have HL' := Lib.hid (show L'.length = n' from h'.1)
  have HC := Lib.hid h
  have HC' := Lib.hid h'
  clear h h'
  by_cases hnn : n = n'
  · subst hnn
    go_enter Try.func28, Try.ntmps28
    go_wp2
    go_loopw [5] (fun i wr => ∃ k : Nat, k ≤ n ∧ i = .int .i64 k ∧ L.take k = L'.take k ∧ Fr (fun _ => False) w wr) (fun i _ => n - (intOf i).toNat)
    case atStart => exact ⟨0, Nat.zero_le _, rfl, by simp, Fr.refl _ _⟩
    case round =>
      obtain ⟨k, hk, rfl, hno, hG⟩ := hrel
      replace hno := Lib.hid hno
      replace hG := Lib.hid hG
      rcases Nat.lt_or_ge k n with hlt | hge
      · obtain ⟨b, off, rfl, h0⟩ := strs_at (Kd.C_below HC.out (hG.out.below (fun _ _ h => h))) hlt
        obtain ⟨b', off', rfl, h0'⟩ := strs_at (Kd.C_below HC'.out (hG.out.below (fun _ _ h => h))) hlt
        have g1 := Lib.hid (stx_get (L := L) (i := k) (by rw [HL.out]; exact hlt))
        have g2 := Lib.hid (stx_get (L := L') (i := k) (by rw [HL'.out]; exact hlt))
        by_cases hq : stx L k = stx L' k
        · have he : ((stx L k).toList == (stx L' k).toList) = true := by rw [beq_list, cdec_true hq]
          replace hq := Lib.hid hq
          go_wp2
          go_quiet (fail)
          go_wp2
          go_roundw
          case rel => exact ⟨k + 1, by omega, by go_num, by rw [List.take_add_one, List.take_add_one, g1.out, g2.out, hno.out, hq.out], hG.out.drewN _⟩
          case measure => simp [intOf]; omega
        · have he : ((stx L k).toList == (stx L' k).toList) = false := by rw [beq_list, cdec_false hq]
          replace hq := Lib.hid hq
          go_wp2
          go_quiet (fail)
          go_wp2
          go_ret
          refine ⟨ret_bool (decide_eq_false fun e => hq.out ?_).symm, hG.out.drewN _⟩
          rw [e]
      · go_wp2
        go_ret
        refine ⟨ret_bool (decide_eq_true ?_).symm, hG.out⟩
        have := hno.out
        rwa [List.take_of_length_le (by rw [HL.out]; exact hge), List.take_of_length_le (by rw [HL'.out]; exact hge)] at this
  · have t : ((n : Int) == (n' : Int)) = false := by simp; omega
    have t2 : ((n : Int) != (n' : Int)) = true := by simp; omega
    go_enter Try.func28, Try.ntmps28
    go_wp2
    go_ret
    exact ⟨ret_bool (decide_eq_false fun e => hnn (by rw [← HL.out, ← HL'.out, e])).symm, Fr.refl _ _⟩
end Go.Proofs.Ytepfhcimmbkilaa
/- ContainsFunc over commands, with any predicate that a closure over one box tells. -/
namespace Go.Proofs.Ytepfhcimmbkilaa
open Go.RowKit
open Go.Proofs.YtepfhcimmbkilaaW.PrintWords

end Go.Proofs.Ytepfhcimmbkilaa
/- batch.Touches. -/
namespace Go.Proofs.Ytepfhcimmbkilaa
open Go.RowKit
open Go.Proofs.YtepfhcimmbkilaaW.PrintWords

end Go.Proofs.Ytepfhcimmbkilaa
/- cmd.Conflict; batch.Conflict. -/
namespace Go.Proofs.Ytepfhcimmbkilaa
open Go.RowKit
open Go.Proofs.YtepfhcimmbkilaaW.PrintWords

def confP (a b : Cmd) : Prop := cmdOk a ∧ cmdOk b ∧ a.2.1 = b.2.1 ∧ (a.1 ≠ 1 ∨ b.1 ≠ 1)
end Go.Proofs.Ytepfhcimmbkilaa
/- batch.Conflict: closures in closures. -/
namespace Go.Proofs.Ytepfhcimmbkilaa
open Go.RowKit
open Go.Proofs.YtepfhcimmbkilaaW.PrintWords

end Go.Proofs.Ytepfhcimmbkilaa
