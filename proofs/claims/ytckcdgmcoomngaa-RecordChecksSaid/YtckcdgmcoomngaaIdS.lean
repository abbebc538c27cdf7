/- Lists of ids: what an element's cells are, equality, and what the reference's Same tells. -/
import Derived.Test.YtckcdgmcoomngaaBase
import Derived.Test.YtckcdgmcoomngaaOpen
import Derived.Deep.QuietTactic
import Derived.BigQuiet
set_option linter.unusedVariables false
set_option linter.unusedSimpArgs false
namespace Go.Proofs.Ytckcdgmcoomngaa
open Go.RowKit
open Go.Proofs.YtckcdgmcoomngaaW.PrintWords

abbrev idV (a : Int × Int) : Value := .agg #[.int .i64 a.1, .int .i64 a.2]
def IdOk (a : Int × Int) : Prop := (Lit.int .i64 a.1).wf = true ∧ (Lit.int .i64 a.2).wf = true
def idK : Kd (Int × Int) := Kd.pair (Kd.int .i64) (Kd.int .i64)
theorem info_id : (Try.prog.info? 23).map (fun i => (i.zero, i.size, i.bytes)) = some (some (.agg #[.int .i64 0, .int .i64 0]), idK.sz, 16) := by kernel_rfl
theorem idK_M (w : World) (base : Nat) (ok : Nat → Prop) (a : Int × Int) : idK.M w base ok a [.int .i64 a.1, .int .i64 a.2] := ⟨[.int .i64 a.1], [.int .i64 a.2], rfl, rfl, rfl⟩
theorem idK_K {w : World} {a : Int × Int} {c : List Value} (h : idK.K w a c) : c = [.int .i64 a.1, .int .i64 a.2] := by
  obtain ⟨c0, c1, rfl, h0, h1⟩ := h
  rw [show c0 = [.int .i64 a.1] from h0, show c1 = [.int .i64 a.2] from h1]
  rfl
def ida (L : List (Int × Int)) (i : Nat) : Int × Int := L.getD i (0, 0)
theorem ida_eq {L : List (Int × Int)} {i : Nat} (h : i < L.length) : ida L i = L[i] := by unfold ida; rw [List.getD_eq_getElem?_getD, List.getElem?_eq_getElem h]; rfl
theorem ida_get {L : List (Int × Int)} {i : Nat} (h : i < L.length) : L[i]? = some (ida L i) := by rw [ida_eq h, List.getElem?_eq_getElem h]
theorem ids_at {w : World} {A : Option Addr} {n : Nat} {L : List (Int × Int)} (h : idK.C w A n L) {i : Nat} (hi : i < n) :
    ∃ b off, A = some ⟨b, off, none⟩ ∧ w.cell? ⟨b, off + i * 2, none⟩ = some (.int .i64 (ida L i).1) ∧ w.cell? ⟨b, off + i * 2 + 1, none⟩ = some (.int .i64 (ida L i).2) := by
  obtain ⟨b, off, c, hi', hA, hc, hk, hcell⟩ := C_at h (by decide) hi
  rw [← ida_eq hi'] at hk
  have hk := idK_K hk
  subst hk
  have hs : idK.sz = 2 := rfl
  rw [hs] at hcell
  exact ⟨b, off, hA, hcell 0 _ rfl, hcell 1 _ rfl⟩
theorem eqId (a b c d : Int) (w : World) : (binOp .eql 23 (.agg #[.int .i64 a, .int .i64 b]) (.agg #[.int .i64 c, .int .i64 d])).run Try.prog w = .ok (.bool (decide ((a, b) = (c, d)))) w := by
  go_simp
  by_cases h1 : a = c <;> by_cases h2 : b = d <;> simp [h1, h2]
theorem neqId (a b c d : Int) (w : World) : (binOp .neq 23 (.agg #[.int .i64 a, .int .i64 b]) (.agg #[.int .i64 c, .int .i64 d])).run Try.prog w = .ok (.bool (!decide ((a, b) = (c, d)))) w := by
  go_simp
  by_cases h1 : a = c <;> by_cases h2 : b = d <;> simp [h1, h2]

set_option maxHeartbeats 1000000 in
theorem ids_same (A A' : Option Addr) (n c n' c' : Nat) (L L' : List (Int × Int)) (w : World) (h : idK.C w A n L) (h' : idK.C w A' n' L') (hn : n ≤ 9223372036854775807) (hn' : n' ≤ 9223372036854775807) :
    Calls Try.prog 32 #[.slice A n c, .slice A' n' c'] w fun r w' => r = .returned (.bool (decide (L = L'))) ∧ Fr (fun _ => False) w w' := by
  have hl : L.length = n := h.1
  have hl' : L'.length = n' := h'.1
  have HL := Lib.hid hl
  have HL' := Lib.hid hl'
  have HC := Lib.hid h
  have HC' := Lib.hid h'
  clear hl hl' h h'
  by_cases hnn : n = n'
  · subst hnn
    go_enter Try.func32, Try.ntmps32
    go_wp2
    go_loopw [5] (fun i wr => ∃ k : Nat, k ≤ n ∧ i = .int .i64 k ∧ L.take k = L'.take k ∧ Fr (fun _ => False) w wr) (fun i _ => n - (intOf i).toNat)
    case atStart => exact ⟨0, Nat.zero_le _, rfl, by simp, Fr.refl _ _⟩
    case round =>
      obtain ⟨k, hk, rfl, hno, hG⟩ := hrel
      replace hno := Lib.hid hno
      replace hG := Lib.hid hG
      rcases Nat.lt_or_ge k n with hlt | hge
      · obtain ⟨b, off, rfl, h0, h1⟩ := ids_at (Kd.C_below HC.out (hG.out.below (fun _ _ h => h))) hlt
        obtain ⟨b', off', rfl, h0', h1'⟩ := ids_at (Kd.C_below HC'.out (hG.out.below (fun _ _ h => h))) hlt
        have he := fun w => neqId (ida L k).1 (ida L k).2 (ida L' k).1 (ida L' k).2 w
        have g1 := Lib.hid (ida_get (L := L) (i := k) (by rw [HL.out]; exact hlt))
        have g2 := Lib.hid (ida_get (L := L') (i := k) (by rw [HL'.out]; exact hlt))
        by_cases hq : ida L k = ida L' k
        · have hqd : decide (((ida L k).1, (ida L k).2) = ((ida L' k).1, (ida L' k).2)) = true := decide_eq_true hq
          simp only [hqd, Bool.not_true] at he
          replace hq := Lib.hid hq
          clear hqd
          go_wp2
          go_quiet (fail)
          go_wp2
          go_roundw
          case rel => exact ⟨k + 1, by omega, by go_num, by rw [List.take_add_one, List.take_add_one, g1.out, g2.out, hno.out, hq.out], hG.out.drewN _⟩
          case measure => simp [intOf]; omega
        · have hqd : decide (((ida L k).1, (ida L k).2) = ((ida L' k).1, (ida L' k).2)) = false := decide_eq_false hq
          simp only [hqd, Bool.not_false] at he
          replace hq := Lib.hid hq
          clear hqd
          go_wp2
          go_quiet (fail)
          go_wp2
          go_ret
          refine ⟨ret_bool (decide_eq_false fun e => hq.out ?_).symm, hG.out.drewN _⟩
          rw [e]
      · go_wp2
        go_ret
        refine ⟨ret_bool (decide_eq_true ?_).symm, hG.out⟩
        have := hno.out
        rwa [List.take_of_length_le (by rw [HL.out]; exact hge), List.take_of_length_le (by rw [HL'.out]; exact hge)] at this
  · have t : ((n : Int) == (n' : Int)) = false := by simp; omega
    have t2 : ((n : Int) != (n' : Int)) = true := by simp; omega
    go_enter Try.func32, Try.ntmps32
    go_wp2
    go_ret
    exact ⟨ret_bool (decide_eq_false fun e => hnn (by rw [← HL.out, ← HL'.out, e])).symm, Fr.refl _ _⟩
end Go.Proofs.Ytckcdgmcoomngaa
