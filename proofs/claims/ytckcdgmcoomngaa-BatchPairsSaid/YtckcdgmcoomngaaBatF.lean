/- ContainsFunc over commands, with any predicate that a closure over one box tells. -/
import Derived.Test.YtckcdgmcoomngaaBatS
set_option linter.unusedVariables false
set_option linter.unusedSimpArgs false
namespace Go.Proofs.Ytckcdgmcoomngaa
open Go.RowKit
open Go.Proofs.YtckcdgmcoomngaaW.PrintWords

set_option maxRecDepth 100000 in
set_option maxHeartbeats 4000000 in
theorem index_funcT (A : Option Addr) (n c : Nat) (L : List Cmd) (p : Addr) (pr : Cmd → Prop) (w : World) (hC : cmdK.C w A n L)
    (hp : ∀ wr, Fr (fun _ => False) w wr → ∀ x ∈ L, Calls Try.prog 44 #[.agg #[.int .i64 x.1, .string x.2.1, .float .f64 x.2.2], .pointer (some p)] wr fun r w' => r = .returned (.bool (cdec (pr x))) ∧ Fr (fun _ => False) wr w') :
    Calls Try.prog 63 #[.slice A n c, .func (.func 44) #[] #[.pointer (some p)]] w fun r w' => ∃ i : Int, r = .returned (.int .i64 i) ∧ (0 ≤ i ↔ ∃ x ∈ L, pr x) ∧ Fr (fun _ => False) w w' := by
  have hmx : n ≤ 9223372036854775807 := hC.2.1
  have HLn := Lib.hid (show L.length = n from hC.1)
  have HC := Lib.hid hC
  have HP := Lib.hid hp
  clear hC hp
  go_enter Try.func63, Try.ntmps63
  go_wp2_with fail
  go_loopw [5, 8] (fun u i wr => ∃ k : Nat, k ≤ n ∧ i = .int .i64 k ∧ (∀ j, j < k → ¬ pr (cmx L j)) ∧ Fr (fun _ => False) w wr) (fun _ i _ => n - (intOf i).toNat)
  case atStart => exact ⟨0, Nat.zero_le _, rfl, fun _ h => by omega, Fr.refl _ _⟩
  case round =>
    obtain ⟨k, hk, rfl, hno, hG⟩ := hrel
    have HNO := Lib.hid hno
    have HG := Lib.hid hG
    clear hno hG
    rcases Nat.lt_or_ge k n with hlt | hge
    · obtain ⟨b, off, rfl, h0, h1, h2⟩ := cmds_at (Kd.C_below HC.out (HG.out.below (fun _ _ h => h))) hlt
      have HM := Lib.hid (cmx_mem (L := L) (i := k) (by rw [HLn.out]; exact hlt))
      go_wp2_with fail
      refine (HP.out _ HG.out (cmx L k) HM.out).mono ?_
      rintro r w2 ⟨rfl, hF2⟩
      have HF2 := Lib.hid (HG.out.trans hF2)
      clear hF2
      by_cases hq : pr (cmx L k)
      · rw [cdec_true hq]
        have HQ := Lib.hid hq
        clear hq
        go_wp2_with fail
        go_ret
        exact ⟨_, rfl, ⟨fun _ => ⟨_, HM.out, HQ.out⟩, fun _ => by omega⟩, HF2.out⟩
      · rw [cdec_false hq]
        have HQ := Lib.hid hq
        clear hq
        go_wp2_with fail
        go_roundw
        case rel =>
          refine ⟨k + 1, by omega, by go_num, fun j hj => ?_, HF2.out⟩
          rcases Nat.lt_or_ge j k with h | h
          · exact HNO.out j h
          · obtain rfl : j = k := by omega
            exact HQ.out
        case measure => simp [intOf]; omega
    · go_wp2_with fail
      go_ret
      refine ⟨_, rfl, ⟨fun h => absurd h (by decide), ?_⟩, HG.out⟩
      rintro ⟨x, hx, hpx⟩
      obtain ⟨j, hj, he⟩ := List.mem_iff_getElem.1 hx
      exact absurd (by rw [cmx_eq hj, he]; exact hpx) (HNO.out j (by have := HLn.out; omega))
theorem contains_funcT (A : Option Addr) (n c : Nat) (L : List Cmd) (p : Addr) (pr : Cmd → Prop) (w : World) (hC : cmdK.C w A n L)
    (hp : ∀ wr, Fr (fun _ => False) w wr → ∀ x ∈ L, Calls Try.prog 44 #[.agg #[.int .i64 x.1, .string x.2.1, .float .f64 x.2.2], .pointer (some p)] wr fun r w' => r = .returned (.bool (cdec (pr x))) ∧ Fr (fun _ => False) wr w') :
    Calls Try.prog 43 #[.slice A n c, .func (.func 44) #[] #[.pointer (some p)]] w fun r w' => r = .returned (.bool (cdec (∃ x ∈ L, pr x))) ∧ Fr (fun _ => False) w w' := by
  have HC := Lib.hid hC
  have HP := Lib.hid hp
  clear hC hp
  go_enter Try.func43, Try.ntmps43
  go_wp2_with fail
  refine (index_funcT A n c L p pr w HC.out HP.out).mono ?_
  rintro r w2 ⟨i, rfl, hi, hF⟩
  have HI := Lib.hid hi
  have HF := Lib.hid hF
  clear hi hF
  go_wp2_with fail
  go_ret
  refine ⟨ret_bool ?_, HF.out⟩
  by_cases h : ∃ x ∈ L, pr x
  · rw [cdec_true h]; exact decide_eq_true (HI.out.2 h)
  · rw [cdec_false h]; exact decide_eq_false (fun h' => h (HI.out.1 h'))
set_option maxRecDepth 100000 in
set_option maxHeartbeats 4000000 in
theorem index_funcC (A : Option Addr) (n c : Nat) (L : List Cmd) (p : Addr) (pr : Cmd → Prop) (w : World) (hC : cmdK.C w A n L)
    (hp : ∀ wr, Fr (fun _ => False) w wr → ∀ x ∈ L, Calls Try.prog 48 #[.agg #[.int .i64 x.1, .string x.2.1, .float .f64 x.2.2], .pointer (some p)] wr fun r w' => r = .returned (.bool (cdec (pr x))) ∧ Fr (fun _ => False) wr w') :
    Calls Try.prog 63 #[.slice A n c, .func (.func 48) #[] #[.pointer (some p)]] w fun r w' => ∃ i : Int, r = .returned (.int .i64 i) ∧ (0 ≤ i ↔ ∃ x ∈ L, pr x) ∧ Fr (fun _ => False) w w' := by
  have hmx : n ≤ 9223372036854775807 := hC.2.1
  have HLn := Lib.hid (show L.length = n from hC.1)
  have HC := Lib.hid hC
  have HP := Lib.hid hp
  clear hC hp
  go_enter Try.func63, Try.ntmps63
  go_wp2_with fail
  go_loopw [5, 8] (fun u i wr => ∃ k : Nat, k ≤ n ∧ i = .int .i64 k ∧ (∀ j, j < k → ¬ pr (cmx L j)) ∧ Fr (fun _ => False) w wr) (fun _ i _ => n - (intOf i).toNat)
  case atStart => exact ⟨0, Nat.zero_le _, rfl, fun _ h => by omega, Fr.refl _ _⟩
  case round =>
    obtain ⟨k, hk, rfl, hno, hG⟩ := hrel
    have HNO := Lib.hid hno
    have HG := Lib.hid hG
    clear hno hG
    rcases Nat.lt_or_ge k n with hlt | hge
    · obtain ⟨b, off, rfl, h0, h1, h2⟩ := cmds_at (Kd.C_below HC.out (HG.out.below (fun _ _ h => h))) hlt
      have HM := Lib.hid (cmx_mem (L := L) (i := k) (by rw [HLn.out]; exact hlt))
      go_wp2_with fail
      refine (HP.out _ HG.out (cmx L k) HM.out).mono ?_
      rintro r w2 ⟨rfl, hF2⟩
      have HF2 := Lib.hid (HG.out.trans hF2)
      clear hF2
      by_cases hq : pr (cmx L k)
      · rw [cdec_true hq]
        have HQ := Lib.hid hq
        clear hq
        go_wp2_with fail
        go_ret
        exact ⟨_, rfl, ⟨fun _ => ⟨_, HM.out, HQ.out⟩, fun _ => by omega⟩, HF2.out⟩
      · rw [cdec_false hq]
        have HQ := Lib.hid hq
        clear hq
        go_wp2_with fail
        go_roundw
        case rel =>
          refine ⟨k + 1, by omega, by go_num, fun j hj => ?_, HF2.out⟩
          rcases Nat.lt_or_ge j k with h | h
          · exact HNO.out j h
          · obtain rfl : j = k := by omega
            exact HQ.out
        case measure => simp [intOf]; omega
    · go_wp2_with fail
      go_ret
      refine ⟨_, rfl, ⟨fun h => absurd h (by decide), ?_⟩, HG.out⟩
      rintro ⟨x, hx, hpx⟩
      obtain ⟨j, hj, he⟩ := List.mem_iff_getElem.1 hx
      exact absurd (by rw [cmx_eq hj, he]; exact hpx) (HNO.out j (by have := HLn.out; omega))
theorem contains_funcC (A : Option Addr) (n c : Nat) (L : List Cmd) (p : Addr) (pr : Cmd → Prop) (w : World) (hC : cmdK.C w A n L)
    (hp : ∀ wr, Fr (fun _ => False) w wr → ∀ x ∈ L, Calls Try.prog 48 #[.agg #[.int .i64 x.1, .string x.2.1, .float .f64 x.2.2], .pointer (some p)] wr fun r w' => r = .returned (.bool (cdec (pr x))) ∧ Fr (fun _ => False) wr w') :
    Calls Try.prog 43 #[.slice A n c, .func (.func 48) #[] #[.pointer (some p)]] w fun r w' => r = .returned (.bool (cdec (∃ x ∈ L, pr x))) ∧ Fr (fun _ => False) w w' := by
  have HC := Lib.hid hC
  have HP := Lib.hid hp
  clear hC hp
  go_enter Try.func43, Try.ntmps43
  go_wp2_with fail
  refine (index_funcC A n c L p pr w HC.out HP.out).mono ?_
  rintro r w2 ⟨i, rfl, hi, hF⟩
  have HI := Lib.hid hi
  have HF := Lib.hid hF
  clear hi hF
  go_wp2_with fail
  go_ret
  refine ⟨ret_bool ?_, HF.out⟩
  by_cases h : ∃ x ∈ L, pr x
  · rw [cdec_true h]; exact decide_eq_true (HI.out.2 h)
  · rw [cdec_false h]; exact decide_eq_false (fun h' => h (HI.out.1 h'))
set_option maxRecDepth 100000 in
set_option maxHeartbeats 4000000 in
theorem index_funcD (A : Option Addr) (n c : Nat) (L : List Cmd) (p : Addr) (pr : Cmd → Prop) (w : World) (hC : cmdK.C w A n L)
    (hp : ∀ wr, Fr (fun _ => False) w wr → ∀ x ∈ L, Calls Try.prog 49 #[.agg #[.int .i64 x.1, .string x.2.1, .float .f64 x.2.2], .pointer (some p)] wr fun r w' => r = .returned (.bool (cdec (pr x))) ∧ Fr (fun _ => False) wr w') :
    Calls Try.prog 63 #[.slice A n c, .func (.func 49) #[] #[.pointer (some p)]] w fun r w' => ∃ i : Int, r = .returned (.int .i64 i) ∧ (0 ≤ i ↔ ∃ x ∈ L, pr x) ∧ Fr (fun _ => False) w w' := by
  have hmx : n ≤ 9223372036854775807 := hC.2.1
  have HLn := Lib.hid (show L.length = n from hC.1)
  have HC := Lib.hid hC
  have HP := Lib.hid hp
  clear hC hp
  go_enter Try.func63, Try.ntmps63
  go_wp2_with fail
  go_loopw [5, 8] (fun u i wr => ∃ k : Nat, k ≤ n ∧ i = .int .i64 k ∧ (∀ j, j < k → ¬ pr (cmx L j)) ∧ Fr (fun _ => False) w wr) (fun _ i _ => n - (intOf i).toNat)
  case atStart => exact ⟨0, Nat.zero_le _, rfl, fun _ h => by omega, Fr.refl _ _⟩
  case round =>
    obtain ⟨k, hk, rfl, hno, hG⟩ := hrel
    have HNO := Lib.hid hno
    have HG := Lib.hid hG
    clear hno hG
    rcases Nat.lt_or_ge k n with hlt | hge
    · obtain ⟨b, off, rfl, h0, h1, h2⟩ := cmds_at (Kd.C_below HC.out (HG.out.below (fun _ _ h => h))) hlt
      have HM := Lib.hid (cmx_mem (L := L) (i := k) (by rw [HLn.out]; exact hlt))
      go_wp2_with fail
      refine (HP.out _ HG.out (cmx L k) HM.out).mono ?_
      rintro r w2 ⟨rfl, hF2⟩
      have HF2 := Lib.hid (HG.out.trans hF2)
      clear hF2
      by_cases hq : pr (cmx L k)
      · rw [cdec_true hq]
        have HQ := Lib.hid hq
        clear hq
        go_wp2_with fail
        go_ret
        exact ⟨_, rfl, ⟨fun _ => ⟨_, HM.out, HQ.out⟩, fun _ => by omega⟩, HF2.out⟩
      · rw [cdec_false hq]
        have HQ := Lib.hid hq
        clear hq
        go_wp2_with fail
        go_roundw
        case rel =>
          refine ⟨k + 1, by omega, by go_num, fun j hj => ?_, HF2.out⟩
          rcases Nat.lt_or_ge j k with h | h
          · exact HNO.out j h
          · obtain rfl : j = k := by omega
            exact HQ.out
        case measure => simp [intOf]; omega
    · go_wp2_with fail
      go_ret
      refine ⟨_, rfl, ⟨fun h => absurd h (by decide), ?_⟩, HG.out⟩
      rintro ⟨x, hx, hpx⟩
      obtain ⟨j, hj, he⟩ := List.mem_iff_getElem.1 hx
      exact absurd (by rw [cmx_eq hj, he]; exact hpx) (HNO.out j (by have := HLn.out; omega))
theorem contains_funcD (A : Option Addr) (n c : Nat) (L : List Cmd) (p : Addr) (pr : Cmd → Prop) (w : World) (hC : cmdK.C w A n L)
    (hp : ∀ wr, Fr (fun _ => False) w wr → ∀ x ∈ L, Calls Try.prog 49 #[.agg #[.int .i64 x.1, .string x.2.1, .float .f64 x.2.2], .pointer (some p)] wr fun r w' => r = .returned (.bool (cdec (pr x))) ∧ Fr (fun _ => False) wr w') :
    Calls Try.prog 43 #[.slice A n c, .func (.func 49) #[] #[.pointer (some p)]] w fun r w' => r = .returned (.bool (cdec (∃ x ∈ L, pr x))) ∧ Fr (fun _ => False) w w' := by
  have HC := Lib.hid hC
  have HP := Lib.hid hp
  clear hC hp
  go_enter Try.func43, Try.ntmps43
  go_wp2_with fail
  refine (index_funcD A n c L p pr w HC.out HP.out).mono ?_
  rintro r w2 ⟨i, rfl, hi, hF⟩
  have HI := Lib.hid hi
  have HF := Lib.hid hF
  clear hi hF
  go_wp2_with fail
  go_ret
  refine ⟨ret_bool ?_, HF.out⟩
  by_cases h : ∃ x ∈ L, pr x
  · rw [cdec_true h]; exact decide_eq_true (HI.out.2 h)
  · rw [cdec_false h]; exact decide_eq_false (fun h' => h (HI.out.1 h'))
end Go.Proofs.Ytckcdgmcoomngaa
