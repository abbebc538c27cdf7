/- BatchPairs' walk. -/
import Derived.Test.YtckcdgmcoomngaaConfR
import Derived.Test.YtckcdgmcoomngaaWorks7
set_option linter.unusedVariables false
set_option linter.unusedSimpArgs false
namespace Go.Proofs.Ytckcdgmcoomngaa
open Go.RowKit
open Go.Proofs.YtckcdgmcoomngaaW.PrintWords

theorem wrsB_pos {key : ByteArray} {M : List Cmd} {m : Nat} (hm : M.length = m) : 0 < (wrsB key M m).length ↔ ∃ y ∈ M, wrP key y := by
  unfold wrsB
  rw [List.length_map, List.length_pos_iff_exists_mem]
  constructor
  · rintro ⟨i, hi⟩
    rw [List.mem_filter, List.mem_range] at hi
    by_cases h : wrP key (cmx M i)
    · exact ⟨_, cmx_mem (by rw [hm]; exact hi.1), h⟩
    · rw [cdec_false h] at hi
      cases hi.2
  · rintro ⟨y, hy, h⟩
    obtain ⟨i, hi, rfl⟩ := List.mem_iff_getElem.1 hy
    rw [← cmx_eq hi] at h
    exact ⟨i, List.mem_filter.2 ⟨List.mem_range.2 (by omega), cdec_true h⟩⟩
/-- One of the first k may be, and its key is written in M. -/
def P7 (L M : List Cmd) (k : Nat) : Prop := ∃ i, i < k ∧ cmdOk (cmx L i) ∧ ∃ y ∈ M, wrP (cmx L i).2.1 y
theorem P7_zero {L M : List Cmd} : ¬ P7 L M 0 := fun ⟨i, hi, _⟩ => by omega
theorem P7_succ {L M : List Cmd} {k : Nat} : P7 L M (k + 1) ↔ P7 L M k ∨ (cmdOk (cmx L k) ∧ ∃ y ∈ M, wrP (cmx L k).2.1 y) := by
  constructor
  · rintro ⟨i, hi, h⟩
    rcases Nat.lt_or_ge i k with h' | h'
    · exact .inl ⟨i, h', h⟩
    · obtain rfl : i = k := by omega
      exact .inr h
  · rintro (⟨i, hi, h⟩ | h)
    · exact ⟨i, by omega, h⟩
    · exact ⟨k, by omega, h⟩
theorem P7_all {L M : List Cmd} : P7 L M L.length ↔ ∃ x ∈ L, cmdOk x ∧ ∃ y ∈ M, wrP x.2.1 y := by
  constructor
  · rintro ⟨i, hi, h⟩
    exact ⟨_, cmx_mem hi, h⟩
  · rintro ⟨x, hx, h⟩
    obtain ⟨i, hi, rfl⟩ := List.mem_iff_getElem.1 hx
    rw [← cmx_eq hi] at h
    exact ⟨i, hi, h⟩
theorem conf_some (L M : List Cmd) : (P7 L M L.length ∨ P7 M L M.length) ↔ ∃ x ∈ L, ∃ y ∈ M, confP x y := by
  rw [P7_all, P7_all]
  constructor
  · rintro (⟨x, hx, hox, y, hy, hk, hoy, h1⟩ | ⟨y, hy, hoy, x, hx, hk, hox, h1⟩)
    · exact ⟨x, hx, y, hy, hox, hoy, hk.symm, .inr h1⟩
    · exact ⟨x, hx, y, hy, hox, hoy, hk, .inl h1⟩
  · rintro ⟨x, hx, y, hy, hox, hoy, hk, h1 | h1⟩
    · exact .inr ⟨y, hy, hoy, x, hx, hk, hox, h1⟩
    · exact .inl ⟨x, hx, hox, y, hy, hk.symm, hoy, h1⟩
theorem conf_swap (L M : List Cmd) : (∃ y ∈ M, ∃ x ∈ L, confP y x) ↔ ∃ x ∈ L, ∃ y ∈ M, confP x y :=
  ⟨fun ⟨y, hy, x, hx, a, b, c, d⟩ => ⟨x, hx, y, hy, b, a, c.symm, d.symm⟩, fun ⟨y, hy, x, hx, a, b, c, d⟩ => ⟨x, hx, y, hy, b, a, c.symm, d.symm⟩⟩
set_option maxRecDepth 100000 in
set_option maxHeartbeats 8000000 in
theorem lawPairs7 (A A' : Option Addr) (n c n' c' : Nat) (L M : List Cmd) (w : World) (hC : cmdK.C w A n L) (hC' : cmdK.C w A' n' M) (hL : ∀ x ∈ L, CmdGood x) (hM : ∀ y ∈ M, CmdGood y) :
    Calls Try.prog 6 #[.slice A n c, .slice A' n' c'] w fun r w' => r = .returned (.bool true) ∧ Fr (fun _ => False) w w' := by
  have HLn := Lib.hid (show L.length = n from hC.1)
  have HMn := Lib.hid (show M.length = n' from hC'.1)
  have HC := Lib.hid hC
  have HC' := Lib.hid hC'
  have HO := Lib.hid hL
  have HO' := Lib.hid hM
  clear hC hC' hL hM
  rcases Nat.lt_or_ge 50 n with hb | hb
  · have t1 : decide (50 < n) = true := decide_eq_true (by omega)
    have t1' : decide ((50 : Int) < (n : Int)) = true := decide_eq_true (by omega)
    go_enter Try.func6, Try.ntmps6
    go_wp2_with fail
    refine (works7 _).mono ?_
    rintro e w1 ⟨rfl, hF1⟩
    go_wp2_with fail
    go_ret
    exact ⟨rfl, hF1⟩
  have t1 : decide (50 < n) = false := decide_eq_false (by omega)
  have t1' : decide ((50 : Int) < (n : Int)) = false := decide_eq_false (by omega)
  rcases Nat.lt_or_ge 50 n' with hb' | hb'
  · have t2 : decide (50 < n') = true := decide_eq_true (by omega)
    have t2' : decide ((50 : Int) < (n' : Int)) = true := decide_eq_true (by omega)
    go_enter Try.func6, Try.ntmps6
    go_wp2_with fail
    refine (works7 _).mono ?_
    rintro e w1 ⟨rfl, hF1⟩
    go_wp2_with fail
    go_ret
    exact ⟨rfl, hF1⟩
  · have t2 : decide (50 < n') = false := decide_eq_false (by omega)
    have t2' : decide ((50 : Int) < (n' : Int)) = false := decide_eq_false (by omega)
    go_enter Try.func6, Try.ntmps6
    go_wp2_with fail
    refine (ref_conf7 A A' n c n' c' L M w HC.out HC'.out HO.out HO'.out (by omega) (by omega)).mono ?_
    rintro r w1 ⟨rfl, hF1⟩
    obtain ⟨z, hz⟩ : ∃ z, z = cdec (∃ x ∈ L, ∃ y ∈ M, confP x y) := ⟨_, rfl⟩
    rw [← hz]
    have HZ := Lib.hid hz
    have F1 := Lib.hid hF1
    have hzz : (z == z) = true := by cases z <;> rfl
    clear hF1 hz t1 t1' t2 t2'
    go_wp2_with fail
    go_loopw [6, 7] (fun s i wr => ∃ k : Nat, k ≤ n ∧ i = .int .i64 k ∧ s = .bool (cdec (P7 L M k)) ∧ Fr (fun _ => False) w wr) (fun _ i _ => n - (intOf i).toNat)
    case atStart => exact ⟨0, Nat.zero_le _, rfl, by rw [cdec_false (fun h : P7 L M 0 => P7_zero h)], F1.out⟩
    case round =>
      obtain ⟨k, hk, rfl, rfl, hG⟩ := hrel
      have HG := Lib.hid hG
      clear hG
      rcases Nat.lt_or_ge k n with hlt | hge
      · obtain ⟨b, off, rfl, h0, h1, h2⟩ := cmds_at (Kd.C_below HC.out (HG.out.below (fun _ _ h => h))) hlt
        have HGL := Lib.hid (HO.out _ (cmx_mem (i := k) (by rw [HLn.out]; exact hlt)))
        by_cases hs : P7 L M k
        · rw [cdec_true hs]
          have HS := Lib.hid (show P7 L M (k + 1) from P7_succ.2 (.inl hs))
          clear hs
          go_wp2_with fail
          go_roundw
          case rel => exact ⟨k + 1, by omega, by go_num, by rw [cdec_true HS.out], HG.out⟩
          case measure => simp [intOf]; omega
        · rw [cdec_false hs]
          have HS := Lib.hid hs
          have HW := Lib.hid (And.intro h0 (And.intro h1 h2))
          clear hs
          go_wp2_with fail
          refine (ref_cmd_right (cmx L k).1 (cmx L k).2.1 (cmx L k).2.2 _ HGL.out.1 HGL.out.2).mono ?_
          rintro r w2 ⟨rfl, hF2⟩
          have F2 := Lib.hid (HG.out.trans hF2)
          by_cases hok : cmdOk (cmx L k)
          · rw [cdec_true (show cmdOk ((cmx L k).1, (cmx L k).2.1, (cmx L k).2.2) from hok)]
            have HOK := Lib.hid hok
            clear hok h0 h1 h2
            have h0 := hF2.cell HW.out.1 (fun h => h)
            have h1 := hF2.cell HW.out.2.1 (fun h => h)
            have h2 := hF2.cell HW.out.2.2 (fun h => h)
            clear hF2
            go_wp2_with fail
            refine (bat_writes A' n' c' M (cmx L k).2.1 w2 (Kd.C_below HC'.out (F2.out.below (fun _ _ h => h))) HO'.out (by omega)).mono ?_
            rintro r w3 ⟨v3, rfl, hR3, hF3⟩
            obtain ⟨A3, c3, rfl⟩ := Kd.R_slice hR3
            have F3 := Lib.hid (F2.out.trans hF3)
            clear hF3 h0 h1 h2 hR3
            by_cases hwr : ∃ y ∈ M, wrP (cmx L k).2.1 y
            · have HNE := Lib.hid ((wrsB_pos HMn.out).2 hwr)
              obtain ⟨z, hz⟩ : ∃ z, z = (wrsB (cmx L k).2.1 M n').length := ⟨_, rfl⟩
              have t3 : decide (0 < z) = true := decide_eq_true (by rw [hz]; exact HNE.out)
              have HS1 := Lib.hid (show P7 L M (k + 1) from P7_succ.2 (.inr ⟨HOK.out, hwr⟩))
              rw [← hz]
              clear hwr hz
              go_wp2_with fail
              go_roundw
              case rel => exact ⟨k + 1, by omega, by go_num, by rw [cdec_true HS1.out], F3.out⟩
              case measure => simp [intOf]; omega
            · have HNE := Lib.hid (fun h => hwr ((wrsB_pos HMn.out).1 h))
              obtain ⟨z, hz⟩ : ∃ z, z = (wrsB (cmx L k).2.1 M n').length := ⟨_, rfl⟩
              have t3 : decide (0 < z) = false := decide_eq_false (by rw [hz]; exact HNE.out)
              have HS1 := Lib.hid (show ¬ (P7 L M (k + 1)) from fun h => (P7_succ.1 h).elim HS.out (fun h => hwr h.2))
              rw [← hz]
              clear hwr hz
              go_wp2_with fail
              go_roundw
              case rel => exact ⟨k + 1, by omega, by go_num, by rw [cdec_false HS1.out], F3.out⟩
              case measure => simp [intOf]; omega
          · rw [cdec_false (show ¬ cmdOk ((cmx L k).1, (cmx L k).2.1, (cmx L k).2.2) from hok)]
            have HS1 := Lib.hid (show ¬ (P7 L M (k + 1)) from fun h => (P7_succ.1 h).elim HS.out (fun h => hok h.1))
            clear hok hF2
            go_wp2_with fail
            go_roundw
            case rel => exact ⟨k + 1, by omega, by go_num, by rw [cdec_false HS1.out], F2.out⟩
            case measure => simp [intOf]; omega
      · obtain rfl : n = k := by omega
        have HGa := Lib.hid HG.out
        have tkk : decide (n < n) = false := decide_eq_false (by omega)
        clear HG
        go_wp2_with fail
        clear tkk
        go_loopw [6, 8] (fun s i wr => ∃ k : Nat, k ≤ n' ∧ i = .int .i64 k ∧ s = .bool (cdec (P7 L M n ∨ P7 M L k)) ∧ Fr (fun _ => False) w wr) (fun _ i _ => n' - (intOf i).toNat)
        case atStart => exact ⟨0, Nat.zero_le _, rfl, by rw [show cdec (P7 L M n ∨ P7 M L 0) = cdec (P7 L M n) from by rw [propext (or_iff_left (fun h : P7 M L 0 => P7_zero h))]], HGa.out⟩
        case round =>
          obtain ⟨k, hk, rfl, rfl, hG⟩ := hrel
          have HG := Lib.hid hG
          clear hG
          rcases Nat.lt_or_ge k n' with hlt | hge
          · obtain ⟨b, off, rfl, h0, h1, h2⟩ := cmds_at (Kd.C_below HC'.out (HG.out.below (fun _ _ h => h))) hlt
            have HGL := Lib.hid (HO'.out _ (cmx_mem (i := k) (by rw [HMn.out]; exact hlt)))
            by_cases hs : P7 L M n ∨ P7 M L k
            · rw [cdec_true hs]
              have HS := Lib.hid (show P7 L M n ∨ P7 M L (k + 1) from hs.imp_right (fun h => P7_succ.2 (.inl h)))
              clear hs
              go_wp2_with fail
              go_roundw
              case rel => exact ⟨k + 1, by omega, by go_num, by rw [cdec_true HS.out], HG.out⟩
              case measure => simp [intOf]; omega
            · rw [cdec_false hs]
              have HS := Lib.hid hs
              have HW := Lib.hid (And.intro h0 (And.intro h1 h2))
              clear hs
              go_wp2_with fail
              refine (ref_cmd_right (cmx M k).1 (cmx M k).2.1 (cmx M k).2.2 _ HGL.out.1 HGL.out.2).mono ?_
              rintro r w2 ⟨rfl, hF2⟩
              have F2 := Lib.hid (HG.out.trans hF2)
              by_cases hok : cmdOk (cmx M k)
              · rw [cdec_true (show cmdOk ((cmx M k).1, (cmx M k).2.1, (cmx M k).2.2) from hok)]
                have HOK := Lib.hid hok
                clear hok h0 h1 h2
                have h0 := hF2.cell HW.out.1 (fun h => h)
                have h1 := hF2.cell HW.out.2.1 (fun h => h)
                have h2 := hF2.cell HW.out.2.2 (fun h => h)
                clear hF2
                go_wp2_with fail
                refine (bat_writes A n c L (cmx M k).2.1 w2 (Kd.C_below HC.out (F2.out.below (fun _ _ h => h))) HO.out (by omega)).mono ?_
                rintro r w3 ⟨v3, rfl, hR3, hF3⟩
                obtain ⟨A3, c3, rfl⟩ := Kd.R_slice hR3
                have F3 := Lib.hid (F2.out.trans hF3)
                clear hF3 h0 h1 h2 hR3
                by_cases hwr : ∃ y ∈ L, wrP (cmx M k).2.1 y
                · have HNE := Lib.hid ((wrsB_pos HLn.out).2 hwr)
                  obtain ⟨z, hz⟩ : ∃ z, z = (wrsB (cmx M k).2.1 L n).length := ⟨_, rfl⟩
                  have t3 : decide (0 < z) = true := decide_eq_true (by rw [hz]; exact HNE.out)
                  have HS1 := Lib.hid (show P7 L M n ∨ P7 M L (k + 1) from .inr (P7_succ.2 (.inr ⟨HOK.out, hwr⟩)))
                  rw [← hz]
                  clear hwr hz
                  go_wp2_with fail
                  go_roundw
                  case rel => exact ⟨k + 1, by omega, by go_num, by rw [cdec_true HS1.out], F3.out⟩
                  case measure => simp [intOf]; omega
                · have HNE := Lib.hid (fun h => hwr ((wrsB_pos HLn.out).1 h))
                  obtain ⟨z, hz⟩ : ∃ z, z = (wrsB (cmx M k).2.1 L n).length := ⟨_, rfl⟩
                  have t3 : decide (0 < z) = false := decide_eq_false (by rw [hz]; exact HNE.out)
                  have HS1 := Lib.hid (show ¬ (P7 L M n ∨ P7 M L (k + 1)) from fun h => h.elim (fun h => HS.out (.inl h)) (fun h => (P7_succ.1 h).elim (fun h => HS.out (.inr h)) (fun h => hwr h.2)))
                  rw [← hz]
                  clear hwr hz
                  go_wp2_with fail
                  go_roundw
                  case rel => exact ⟨k + 1, by omega, by go_num, by rw [cdec_false HS1.out], F3.out⟩
                  case measure => simp [intOf]; omega
              · rw [cdec_false (show ¬ cmdOk ((cmx M k).1, (cmx M k).2.1, (cmx M k).2.2) from hok)]
                have HS1 := Lib.hid (show ¬ (P7 L M n ∨ P7 M L (k + 1)) from fun h => h.elim (fun h => HS.out (.inl h)) (fun h => (P7_succ.1 h).elim (fun h => HS.out (.inr h)) (fun h => hok h.1)))
                clear hok hF2
                go_wp2_with fail
                go_roundw
                case rel => exact ⟨k + 1, by omega, by go_num, by rw [cdec_false HS1.out], F2.out⟩
                case measure => simp [intOf]; omega
          · obtain rfl : n' = k := by omega
            have tkk : decide (n' < n') = false := decide_eq_false (by omega)
            have hsm : cdec (P7 L M n ∨ P7 M L n') = z := by rw [HZ.out, ← HLn.out, ← HMn.out, propext (conf_some L M)]
            rw [hsm]
            clear hsm
            go_wp2_with fail
            clear tkk
            refine (bat_conflict A A' n c n' c' L M _ (Kd.C_below HC.out (HG.out.below (fun _ _ h => h))) (Kd.C_below HC'.out (HG.out.below (fun _ _ h => h))) HO.out HO'.out).mono ?_
            rintro r w3 ⟨rfl, hF3⟩
            rw [← HZ.out]
            have F3 := Lib.hid (HG.out.trans hF3)
            clear hF3
            go_wp2_with fail
            refine (bat_conflict A' A n' c' n c M L _ (Kd.C_below HC'.out (F3.out.below (fun _ _ h => h))) (Kd.C_below HC.out (F3.out.below (fun _ _ h => h))) HO'.out HO.out).mono ?_
            rintro r w4 ⟨rfl, hF4⟩
            rw [propext (conf_swap L M), ← HZ.out]
            have F4 := Lib.hid (F3.out.trans hF4)
            clear hF4
            go_wp2_with fail
            obtain ⟨y, hy⟩ : ∃ y, y = cdec (cmdsS L M) := ⟨_, rfl⟩
            have hyy : (y == y) = true := by cases y <;> rfl
            have HY := Lib.hid hy
            clear hy
            refine (bat_same A A' n c n' c' L M _ (Kd.C_below HC.out (F4.out.below (fun _ _ h => h))) (Kd.C_below HC'.out (F4.out.below (fun _ _ h => h))) (by omega) (by omega) (fun x hx => (HO.out x hx).2) (fun x hx => (HO'.out x hx).2)).mono ?_
            rintro r w5 ⟨rfl, hF5⟩
            rw [← HY.out]
            have F5 := Lib.hid (F4.out.trans hF5)
            clear hF5
            go_wp2_with fail
            refine (ref_cmds A A' n c n' c' L M _ (Kd.C_below HC.out (F5.out.below (fun _ _ h => h))) (Kd.C_below HC'.out (F5.out.below (fun _ _ h => h))) (by omega) (by omega) (fun x hx => (HO.out x hx).2) (fun x hx => (HO'.out x hx).2)).mono ?_
            rintro r w6 ⟨rfl, hF6⟩
            rw [← HY.out]
            have F6 := Lib.hid (F5.out.trans hF6)
            clear hF6
            go_wp2_with fail
            refine (works7 _).mono ?_
            rintro e w7 ⟨rfl, hF7⟩
            have F7 := Lib.hid (F6.out.trans hF7)
            clear hF7
            go_wp2_with fail
            go_ret
            exact ⟨rfl, F7.out⟩
