/- Lists of ids: what the reference's Same tells. -/
import Derived.Test.YtmfbcebbklimoaaIdD
set_option linter.unusedVariables false
set_option linter.unusedSimpArgs false
namespace Go.Proofs.Ytmfbcebbklimoaa
open Go.RowKit
open Go.Proofs.YtmfbcebbklimoaaW.PrintWords

set_option maxHeartbeats 1000000 in
theorem ids_same (A A' : Option Addr) (n c n' c' : Nat) (L L' : List (Int × Int)) (w : World) (h : idK.C w A n L) (h' : idK.C w A' n' L') (hn : n ≤ 9223372036854775807) (hn' : n' ≤ 9223372036854775807) :
    Calls Try.prog 14 #[.slice A n c, .slice A' n' c'] w fun r w' => r = .returned (.bool (decide (L = L'))) ∧ Fr (fun _ => False) w w' := by
  have hl : L.length = n := h.1
  have hl' : L'.length = n' := h'.1
  have HL := Lib.hid hl
  have HL' := Lib.hid hl'
  have HC := Lib.hid h
  have HC' := Lib.hid h'
  clear hl hl' h h'
  by_cases hnn : n = n'
  · subst hnn
    go_enter Try.func14, Try.ntmps14
    go_wp2
    go_loopw [5] (fun i wr => ∃ k : Nat, k ≤ n ∧ i = .int .i64 k ∧ L.take k = L'.take k ∧ Fr (fun _ => False) w wr) (fun i _ => n - (intOf i).toNat)
    case atStart => exact ⟨0, Nat.zero_le _, rfl, by simp, Fr.refl _ _⟩
    case round =>
      obtain ⟨k, hk, rfl, hno, hG⟩ := hrel
      replace hno := Lib.hid hno
      replace hG := Lib.hid hG
      rcases Nat.lt_or_ge k n with hlt | hge
      · obtain ⟨b, off, rfl, h0, h1⟩ := ids_at (Kd.C_below HC.out (hG.out.below (fun _ _ h => h))) hlt
        obtain ⟨b', off', rfl, h0', h1'⟩ := ids_at (Kd.C_below HC'.out (hG.out.below (fun _ _ h => h))) hlt
        have he := fun w => neqId (ida L k).1 (ida L k).2 (ida L' k).1 (ida L' k).2 w
        have g1 := Lib.hid (ida_get (L := L) (i := k) (by rw [HL.out]; exact hlt))
        have g2 := Lib.hid (ida_get (L := L') (i := k) (by rw [HL'.out]; exact hlt))
        by_cases hq : ida L k = ida L' k
        · have hqd : decide (((ida L k).1, (ida L k).2) = ((ida L' k).1, (ida L' k).2)) = true := decide_eq_true hq
          simp only [hqd, Bool.not_true] at he
          replace hq := Lib.hid hq
          clear hqd
          go_wp2
          go_quiet (fail)
          go_wp2
          go_roundw
          case rel => exact ⟨k + 1, by omega, by go_num, by rw [List.take_add_one, List.take_add_one, g1.out, g2.out, hno.out, hq.out], hG.out.drewN _⟩
          case measure => simp [intOf]; omega
        · have hqd : decide (((ida L k).1, (ida L k).2) = ((ida L' k).1, (ida L' k).2)) = false := decide_eq_false hq
          simp only [hqd, Bool.not_false] at he
          replace hq := Lib.hid hq
          clear hqd
          go_wp2
          go_quiet (fail)
          go_wp2
          go_ret
          refine ⟨ret_bool (decide_eq_false fun e => hq.out ?_).symm, hG.out.drewN _⟩
          rw [e]
      · go_wp2
        go_ret
        refine ⟨ret_bool (decide_eq_true ?_).symm, hG.out⟩
        have := hno.out
        rwa [List.take_of_length_le (by rw [HL.out]; exact hge), List.take_of_length_le (by rw [HL'.out]; exact hge)] at this
  · have t : ((n : Int) == (n' : Int)) = false := by simp; omega
    have t2 : ((n : Int) != (n' : Int)) = true := by simp; omega
    go_enter Try.func14, Try.ntmps14
    go_wp2
    go_ret
    exact ⟨ret_bool (decide_eq_false fun e => hnn (by rw [← HL.out, ← HL'.out, e])).symm, Fr.refl _ _⟩
end Go.Proofs.Ytmfbcebbklimoaa
