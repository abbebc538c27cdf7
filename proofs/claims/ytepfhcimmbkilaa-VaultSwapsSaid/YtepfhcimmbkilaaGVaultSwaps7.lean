/- Texts of VaultSwaps, merged (7 of 8): ConfR, SwapP, Ref13, All13, Ref13B, SameP, FoldO, Works14. -/
import Derived.Test.YtepfhcimmbkilaaGVaultSwaps6
import Derived.Test.YtepfhcimmbkilaaGVaultSwaps2
import Derived.Test.YtepfhcimmbkilaaGVaultSwaps1
import Derived.Test.YtepfhcimmbkilaaGVaultSwaps5
import Derived.Test.YtepfhcimmbkilaaGVaultSwaps3
set_option linter.unusedVariables false
set_option linter.unusedSimpArgs false
/- The reference's Conflict, of commands and of lists. -/
namespace Go.Proofs.Ytepfhcimmbkilaa
open Go.RowKit
open Go.Proofs.YtepfhcimmbkilaaW.PrintWords

def conf6 (a b : Cmd) : Prop := a.2.1 = b.2.1 ∧ (a.1 ≠ 1 ∨ b.1 ≠ 1)
theorem confP_iff (a b : Cmd) : confP a b ↔ cmdOk a ∧ cmdOk b ∧ conf6 a b := Iff.rfl
set_option maxHeartbeats 1000000 in
theorem ref_conf6 (a b : Cmd) (w : World) :
    Calls Try.prog 39 #[.agg #[.int .i64 a.1, .string a.2.1, .float .f64 a.2.2], .agg #[.int .i64 b.1, .string b.2.1, .float .f64 b.2.2]] w fun r w' => r = .returned (.bool (cdec (conf6 a b))) ∧ Fr (fun _ => False) w w' := by
  have HF := Lib.hid (((Fr.refl (fun _ => False) w).alloc (.cells #[.int .i64 a.1, .string a.2.1, .float .f64 a.2.2] 37)).alloc (.cells #[.int .i64 b.1, .string b.2.1, .float .f64 b.2.2] 37))
  have hbq := beq_list (a := a.2.1) (b := b.2.1)
  by_cases hk : a.2.1 = b.2.1
  · rw [cdec_true hk] at hbq
    have HK := Lib.hid hk
    clear hk
    by_cases ha : a.1 = 1
    · have t1 : (a.1 != 1) = false := by simp [ha]
      have HA := Lib.hid ha
      clear ha
      by_cases hb : b.1 = 1
      · have t2 : (b.1 != 1) = false := by simp [hb]
        have HB := Lib.hid hb
        clear hb
        go_enter Try.func39, Try.ntmps39
        go_wp2_with fail
        go_ret
        exact ⟨ret_bool (cdec_false (fun h : conf6 a b => h.2.elim (fun h => h HA.out) (fun h => h HB.out))).symm, HF.out⟩
      · have t2 : (b.1 != 1) = true := by simpa using hb
        have HB := Lib.hid hb
        clear hb
        go_enter Try.func39, Try.ntmps39
        go_wp2_with fail
        go_ret
        exact ⟨ret_bool (cdec_true (show conf6 a b from ⟨HK.out, .inr HB.out⟩)).symm, HF.out⟩
    · have t1 : (a.1 != 1) = true := by simpa using ha
      have HA := Lib.hid ha
      clear ha
      go_enter Try.func39, Try.ntmps39
      go_wp2_with fail
      go_ret
      exact ⟨ret_bool (cdec_true (show conf6 a b from ⟨HK.out, .inl HA.out⟩)).symm, HF.out⟩
  · rw [cdec_false hk] at hbq
    have HK := Lib.hid hk
    clear hk
    go_enter Try.func39, Try.ntmps39
    go_wp2_with fail
    go_ret
    exact ⟨ret_bool (cdec_false (fun h : conf6 a b => HK.out h.1)).symm, HF.out⟩
set_option maxRecDepth 100000 in
set_option maxHeartbeats 4000000 in
theorem ref_conf7 (A A' : Option Addr) (n c n' c' : Nat) (L M : List Cmd) (w : World) (hC : cmdK.C w A n L) (hC' : cmdK.C w A' n' M) (hL : ∀ x ∈ L, CmdGood x) (hM : ∀ y ∈ M, CmdGood y) (hn : n ≤ 9223372036854775806) (hn' : n' ≤ 9223372036854775806) :
    Calls Try.prog 17 #[.slice A n c, .slice A' n' c'] w fun r w' => r = .returned (.bool (cdec (∃ x ∈ L, ∃ y ∈ M, confP x y))) ∧ Fr (fun _ => False) w w' := by
  have HLn := Lib.hid (show L.length = n from hC.1)
  have HMn := Lib.hid (show M.length = n' from hC'.1)
  have HC := Lib.hid hC
  have HC' := Lib.hid hC'
  have HO := Lib.hid hL
  have HO' := Lib.hid hM
  clear hC hC' hL hM
  go_enter Try.func17, Try.ntmps17
  go_wp2_with fail
  go_loopw [5] (fun i wr => ∃ k : Nat, k ≤ n ∧ i = .int .i64 k ∧ (∀ x, x < k → ∀ y, y < n' → ¬ confP (cmx L x) (cmx M y)) ∧ Fr (fun _ => False) w wr) (fun i _ => n - (intOf i).toNat)
  case atStart => exact ⟨0, Nat.zero_le _, rfl, fun _ h => by omega, Fr.refl _ _⟩
  case round =>
    obtain ⟨k, hk, rfl, hno, hG⟩ := hrel
    have HNO := Lib.hid hno
    have HG := Lib.hid hG
    clear hno hG
    rcases Nat.lt_or_ge k n with hlt | hge
    · go_wp2_with fail
      go_loopw [6] (fun i ws => ∃ q : Nat, q ≤ n' ∧ i = .int .i64 q ∧ (∀ y, y < q → ¬ confP (cmx L k) (cmx M y)) ∧ Fr (fun _ => False) w ws) (fun i _ => n' - (intOf i).toNat)
      case atStart => exact ⟨0, Nat.zero_le _, rfl, fun _ h => by omega, HG.out⟩
      case round =>
        obtain ⟨q, hq, rfl, hnq, hGq⟩ := hrel
        have HNQ := Lib.hid hnq
        have HGq := Lib.hid hGq
        clear hnq hGq
        rcases Nat.lt_or_ge q n' with hlq | hgq
        · obtain ⟨b, off, rfl, h0w, h1w, h2w⟩ := cmds_at HC.out hlt
          obtain ⟨b', off', rfl, g0w, g1w, g2w⟩ := cmds_at HC'.out hlq
          have HGL := Lib.hid (HO.out _ (cmx_mem (i := k) (by rw [HLn.out]; exact hlt)))
          have HGM := Lib.hid (HO'.out _ (cmx_mem (i := q) (by rw [HMn.out]; exact hlq)))
          obtain ⟨St, hSt⟩ : ∃ St : World → Prop, St = Fr (fun _ => False) wr := ⟨_, rfl⟩
          have HT := Lib.hid (show ∀ w', Fr (fun _ => False) wr w' → At St w' from fun w' h => by unfold At; rw [hSt]; exact h)
          have lift : ∀ (q : Addr) (u : Value), w.cell? q = some u → ∀ w', At St w' → w'.cell? q = some u := fun q u hq w' h => by replace h := h.out; rw [hSt] at h; exact (HGq.out.trans h).cell hq (fun h => h)
          have e0 := lift _ _ h0w
          have e1 := lift _ _ h1w
          have e2 := lift _ _ h2w
          have e0' := lift _ _ g0w
          have e1' := lift _ _ g1w
          have e2' := lift _ _ g2w
          have hT0 := HT.out wr.drew (Fr.refl _ _).drew
          clear lift hSt h0w h1w h2w g0w g1w g2w
          by_cases hok : cmdOk (cmx L k)
          · have HOK := Lib.hid hok
            clear hok
            by_cases hok' : cmdOk (cmx M q)
            · have HOK' := Lib.hid hok'
              clear hok'
              go_wp2_with fail
              refine rt_start [] (At St) 23 (by kernel_rfl) rfl ?_
              refine rt_free 0 (v := ?_) rfl (by kernel_rfl) (by kernel_rfl) (by kernel_rfl) (by kernel_rfl) (fun _ _ _ h => h) (by rfl) (fun _ => by first | assumption | exact HS0 _ rfl | exact HT.out _ (by repeat (first | exact Fr.refl _ _ | apply Fr.drew | refine Fr.alloc ?_ _))) ?_ ?_
              rotate_left 1
              · intro w; go_simp <;> with_reducible rfl
              try simp only [Act.put, List.setIfInBounds_toArray, List.set_cons_zero, List.set_cons_succ]
              refine rt_free 1 (v := ?_) rfl (by kernel_rfl) (by kernel_rfl) (by kernel_rfl) (by kernel_rfl) (fun _ _ _ h => h) (by rfl) (fun _ => by first | assumption | exact HS0 _ rfl | exact HT.out _ (by repeat (first | exact Fr.refl _ _ | apply Fr.drew | refine Fr.alloc ?_ _))) ?_ ?_
              rotate_left 1
              · intro w; go_simp <;> with_reducible rfl
              try simp only [Act.put, List.setIfInBounds_toArray, List.set_cons_zero, List.set_cons_succ]
              refine rt_free 2 (v := ?_) rfl (by kernel_rfl) (by kernel_rfl) (by kernel_rfl) (by kernel_rfl) (fun _ _ _ h => h) (by rfl) (fun _ => by first | assumption | exact HS0 _ rfl | exact HT.out _ (by repeat (first | exact Fr.refl _ _ | apply Fr.drew | refine Fr.alloc ?_ _))) ?_ ?_
              rotate_left 1
              · intro w; go_simp <;> with_reducible rfl
              try simp only [Act.put, List.setIfInBounds_toArray, List.set_cons_zero, List.set_cons_succ]
              refine rt_take 3 (v := ?_) rfl (by kernel_rfl) (by kernel_rfl) (by kernel_rfl) (by kernel_rfl) (fun _ _ _ h => h) (by rfl) (by first | assumption | exact HS0 _ rfl | exact HT.out _ (by repeat (first | exact Fr.refl _ _ | apply Fr.drew | refine Fr.alloc ?_ _))) ?_ ?_
              rotate_left 1
              · intro w hSw; go_simp <;> with_reducible rfl
              try simp only [Act.put, List.setIfInBounds_toArray, List.set_cons_zero, List.set_cons_succ]
              refine rt_one 4 rfl (by kernel_rfl) (fun K hK => ?_)
              go_simp
              refine (ref_cmd_right (cmx L k).1 (cmx L k).2.1 (cmx L k).2.2 _ HGL.out.1 HGL.out.2).mono ?_
              rintro r w2 ⟨rfl, hF2⟩
              rw [cdec_true (show cmdOk ((cmx L k).1, (cmx L k).2.1, (cmx L k).2.2) from HOK.out)]
              have F2 := Lib.hid ((Fr.refl (fun _ => False) wr).drew.trans hF2)
              have hT2 := HT.out _ F2.out
              clear hF2
              go_wp2_with fail
              refine hK.out (At St) _ _ (fun _ h => h) (fun _ => by (assumption)) ?_
              clear hK K
              try simp only [Act.put, List.setIfInBounds_toArray, List.set_cons_zero, List.set_cons_succ]
              refine rt_free 5 (v := ?_) rfl (by kernel_rfl) (by kernel_rfl) (by kernel_rfl) (by kernel_rfl) (fun _ _ _ h => h) (by rfl) (fun _ => by first | assumption | exact HS0 _ rfl | exact HT.out _ (by repeat (first | exact Fr.refl _ _ | apply Fr.drew | refine Fr.alloc ?_ _))) ?_ ?_
              rotate_left 1
              · intro w; go_simp <;> with_reducible rfl
              try simp only [Act.put, List.setIfInBounds_toArray, List.set_cons_zero, List.set_cons_succ]
              refine rt_free 6 (v := ?_) rfl (by kernel_rfl) (by kernel_rfl) (by kernel_rfl) (by kernel_rfl) (fun _ _ _ h => h) (by rfl) (fun _ => by first | assumption | exact HS0 _ rfl | exact HT.out _ (by repeat (first | exact Fr.refl _ _ | apply Fr.drew | refine Fr.alloc ?_ _))) ?_ ?_
              rotate_left 1
              · intro w; go_simp <;> with_reducible rfl
              try simp only [Act.put, List.setIfInBounds_toArray, List.set_cons_zero, List.set_cons_succ]
              refine rt_free 7 (v := ?_) rfl (by kernel_rfl) (by kernel_rfl) (by kernel_rfl) (by kernel_rfl) (fun _ _ _ h => h) (by rfl) (fun _ => by first | assumption | exact HS0 _ rfl | exact HT.out _ (by repeat (first | exact Fr.refl _ _ | apply Fr.drew | refine Fr.alloc ?_ _))) ?_ ?_
              rotate_left 1
              · intro w; go_simp <;> with_reducible rfl
              try simp only [Act.put, List.setIfInBounds_toArray, List.set_cons_zero, List.set_cons_succ]
              refine rt_free 8 (v := ?_) rfl (by kernel_rfl) (by kernel_rfl) (by kernel_rfl) (by kernel_rfl) (fun _ _ _ h => h) (by rfl) (fun _ => by first | assumption | exact HS0 _ rfl | exact HT.out _ (by repeat (first | exact Fr.refl _ _ | apply Fr.drew | refine Fr.alloc ?_ _))) ?_ ?_
              rotate_left 1
              · intro w; go_simp <;> with_reducible rfl
              try simp only [Act.put, List.setIfInBounds_toArray, List.set_cons_zero, List.set_cons_succ]
              refine rt_take 9 (v := ?_) rfl (by kernel_rfl) (by kernel_rfl) (by kernel_rfl) (by kernel_rfl) (fun _ _ _ h => h) (by rfl) (by first | assumption | exact HS0 _ rfl | exact HT.out _ (by repeat (first | exact Fr.refl _ _ | apply Fr.drew | refine Fr.alloc ?_ _))) ?_ ?_
              rotate_left 1
              · intro w hSw; go_simp <;> with_reducible rfl
              try simp only [Act.put, List.setIfInBounds_toArray, List.set_cons_zero, List.set_cons_succ]
              refine rt_one 10 rfl (by kernel_rfl) (fun K hK => ?_)
              go_simp
              refine (ref_cmd_right (cmx M q).1 (cmx M q).2.1 (cmx M q).2.2 _ HGM.out.1 HGM.out.2).mono ?_
              rintro r w3 ⟨rfl, hF3⟩
              rw [cdec_true (show cmdOk ((cmx M q).1, (cmx M q).2.1, (cmx M q).2.2) from HOK'.out)]
              have F3 := Lib.hid (F2.out.trans hF3)
              have hT3 := HT.out _ F3.out
              clear hF3
              go_wp2_with fail
              refine hK.out (At St) _ _ (fun _ h => h) (fun _ => by (assumption)) ?_
              clear hK K
              try simp only [Act.put, List.setIfInBounds_toArray, List.set_cons_zero, List.set_cons_succ]
              refine rt_free 11 (v := ?_) rfl (by kernel_rfl) (by kernel_rfl) (by kernel_rfl) (by kernel_rfl) (fun _ _ _ h => h) (by rfl) (fun _ => by first | assumption | exact HS0 _ rfl | exact HT.out _ (by repeat (first | exact Fr.refl _ _ | apply Fr.drew | refine Fr.alloc ?_ _))) ?_ ?_
              rotate_left 1
              · intro w; go_simp <;> with_reducible rfl
              try simp only [Act.put, List.setIfInBounds_toArray, List.set_cons_zero, List.set_cons_succ]
              refine rt_free 12 (v := ?_) rfl (by kernel_rfl) (by kernel_rfl) (by kernel_rfl) (by kernel_rfl) (fun _ _ _ h => h) (by rfl) (fun _ => by first | assumption | exact HS0 _ rfl | exact HT.out _ (by repeat (first | exact Fr.refl _ _ | apply Fr.drew | refine Fr.alloc ?_ _))) ?_ ?_
              rotate_left 1
              · intro w; go_simp <;> with_reducible rfl
              try simp only [Act.put, List.setIfInBounds_toArray, List.set_cons_zero, List.set_cons_succ]
              refine rt_free 13 (v := ?_) rfl (by kernel_rfl) (by kernel_rfl) (by kernel_rfl) (by kernel_rfl) (fun _ _ _ h => h) (by rfl) (fun _ => by first | assumption | exact HS0 _ rfl | exact HT.out _ (by repeat (first | exact Fr.refl _ _ | apply Fr.drew | refine Fr.alloc ?_ _))) ?_ ?_
              rotate_left 1
              · intro w; go_simp <;> with_reducible rfl
              try simp only [Act.put, List.setIfInBounds_toArray, List.set_cons_zero, List.set_cons_succ]
              refine rt_free 14 (v := ?_) rfl (by kernel_rfl) (by kernel_rfl) (by kernel_rfl) (by kernel_rfl) (fun _ _ _ h => h) (by rfl) (fun _ => by first | assumption | exact HS0 _ rfl | exact HT.out _ (by repeat (first | exact Fr.refl _ _ | apply Fr.drew | refine Fr.alloc ?_ _))) ?_ ?_
              rotate_left 1
              · intro w; go_simp <;> with_reducible rfl
              try simp only [Act.put, List.setIfInBounds_toArray, List.set_cons_zero, List.set_cons_succ]
              refine rt_free 15 (v := ?_) rfl (by kernel_rfl) (by kernel_rfl) (by kernel_rfl) (by kernel_rfl) (fun _ _ _ h => h) (by rfl) (fun _ => by first | assumption | exact HS0 _ rfl | exact HT.out _ (by repeat (first | exact Fr.refl _ _ | apply Fr.drew | refine Fr.alloc ?_ _))) ?_ ?_
              rotate_left 1
              · intro w; go_simp <;> with_reducible rfl
              try simp only [Act.put, List.setIfInBounds_toArray, List.set_cons_zero, List.set_cons_succ]
              refine rt_take 16 (v := ?_) rfl (by kernel_rfl) (by kernel_rfl) (by kernel_rfl) (by kernel_rfl) (fun _ _ _ h => h) (by rfl) (by first | assumption | exact HS0 _ rfl | exact HT.out _ (by repeat (first | exact Fr.refl _ _ | apply Fr.drew | refine Fr.alloc ?_ _))) ?_ ?_
              rotate_left 1
              · intro w hSw; go_simp <;> with_reducible rfl
              try simp only [Act.put, List.setIfInBounds_toArray, List.set_cons_zero, List.set_cons_succ]
              refine rt_free 17 (v := ?_) rfl (by kernel_rfl) (by kernel_rfl) (by kernel_rfl) (by kernel_rfl) (fun _ _ _ h => h) (by rfl) (fun _ => by first | assumption | exact HS0 _ rfl | exact HT.out _ (by repeat (first | exact Fr.refl _ _ | apply Fr.drew | refine Fr.alloc ?_ _))) ?_ ?_
              rotate_left 1
              · intro w; go_simp <;> with_reducible rfl
              try simp only [Act.put, List.setIfInBounds_toArray, List.set_cons_zero, List.set_cons_succ]
              refine rt_free 18 (v := ?_) rfl (by kernel_rfl) (by kernel_rfl) (by kernel_rfl) (by kernel_rfl) (fun _ _ _ h => h) (by rfl) (fun _ => by first | assumption | exact HS0 _ rfl | exact HT.out _ (by repeat (first | exact Fr.refl _ _ | apply Fr.drew | refine Fr.alloc ?_ _))) ?_ ?_
              rotate_left 1
              · intro w; go_simp <;> with_reducible rfl
              try simp only [Act.put, List.setIfInBounds_toArray, List.set_cons_zero, List.set_cons_succ]
              refine rt_free 19 (v := ?_) rfl (by kernel_rfl) (by kernel_rfl) (by kernel_rfl) (by kernel_rfl) (fun _ _ _ h => h) (by rfl) (fun _ => by first | assumption | exact HS0 _ rfl | exact HT.out _ (by repeat (first | exact Fr.refl _ _ | apply Fr.drew | refine Fr.alloc ?_ _))) ?_ ?_
              rotate_left 1
              · intro w; go_simp <;> with_reducible rfl
              try simp only [Act.put, List.setIfInBounds_toArray, List.set_cons_zero, List.set_cons_succ]
              refine rt_take 20 (v := ?_) rfl (by kernel_rfl) (by kernel_rfl) (by kernel_rfl) (by kernel_rfl) (fun _ _ _ h => h) (by rfl) (by first | assumption | exact HS0 _ rfl | exact HT.out _ (by repeat (first | exact Fr.refl _ _ | apply Fr.drew | refine Fr.alloc ?_ _))) ?_ ?_
              rotate_left 1
              · intro w hSw; go_simp <;> with_reducible rfl
              try simp only [Act.put, List.setIfInBounds_toArray, List.set_cons_zero, List.set_cons_succ]
              refine rt_one 21 rfl (by kernel_rfl) (fun K hK => ?_)
              go_simp
              refine (ref_conf6 (cmx L k) (cmx M q) _).mono ?_
              rintro r w4 ⟨rfl, hF4⟩
              have F4 := Lib.hid (F3.out.trans hF4)
              have hT4 := HT.out _ F4.out
              clear hF4
              obtain ⟨z, hz⟩ : ∃ z, z = cdec (conf6 (cmx L k) (cmx M q)) := ⟨_, rfl⟩
              rw [← hz]
              have HZ := Lib.hid hz
              clear hz
              go_wp2_with fail
              refine hK.out (At St) _ _ (fun _ h => h) (fun _ => by (assumption)) ?_
              clear hK K
              try simp only [Act.put, List.setIfInBounds_toArray, List.set_cons_zero, List.set_cons_succ]
              refine rt_free 22 (v := ?_) rfl (by kernel_rfl) (by kernel_rfl) (by kernel_rfl) (by kernel_rfl) (fun _ _ _ h => h) (by rfl) (fun _ => by first | assumption | exact HS0 _ rfl | exact HT.out _ (by repeat (first | exact Fr.refl _ _ | apply Fr.drew | refine Fr.alloc ?_ _))) ?_ ?_
              rotate_left 1
              · intro w; go_simp <;> with_reducible rfl
              try simp only [Act.put, List.setIfInBounds_toArray, List.set_cons_zero, List.set_cons_succ]
              refine rt_done (by kernel_rfl) ?_
              clear e0 e1 e2 e0' e1' e2' hT0 hT2 hT3 hT4
              have GF := Lib.hid (HGq.out.trans F4.out)
              by_cases hcf : conf6 (cmx L k) (cmx M q)
              · obtain rfl : z = true := by rw [HZ.out, cdec_true hcf]
                have HCF := Lib.hid hcf
                clear hcf
                go_wp2_with fail
                go_ret
                exact ⟨ret_bool (cdec_true ⟨_, cmx_mem (i := k) (by rw [HLn.out]; exact hlt), _, cmx_mem (i := q) (by rw [HMn.out]; exact hlq), HOK.out, HOK'.out, HCF.out⟩).symm, GF.out⟩
              · obtain rfl : z = false := by rw [HZ.out, cdec_false hcf]
                have HCF := Lib.hid hcf
                clear hcf
                go_wp2_with fail
                go_roundw
                case rel =>
                  refine ⟨q + 1, by omega, by go_num, fun y hy => ?_, GF.out⟩
                  rcases Nat.lt_or_ge y q with h | h
                  · exact HNQ.out y h
                  · obtain rfl : y = q := by omega
                    exact fun h => HCF.out h.2.2
                case measure => simp [intOf]; omega
            · have HOK' := Lib.hid hok'
              clear hok'
              go_wp2_with fail
              refine rt_start [] (At St) 23 (by kernel_rfl) rfl ?_
              refine rt_free 0 (v := ?_) rfl (by kernel_rfl) (by kernel_rfl) (by kernel_rfl) (by kernel_rfl) (fun _ _ _ h => h) (by rfl) (fun _ => by first | assumption | exact HS0 _ rfl | exact HT.out _ (by repeat (first | exact Fr.refl _ _ | apply Fr.drew | refine Fr.alloc ?_ _))) ?_ ?_
              rotate_left 1
              · intro w; go_simp <;> with_reducible rfl
              try simp only [Act.put, List.setIfInBounds_toArray, List.set_cons_zero, List.set_cons_succ]
              refine rt_free 1 (v := ?_) rfl (by kernel_rfl) (by kernel_rfl) (by kernel_rfl) (by kernel_rfl) (fun _ _ _ h => h) (by rfl) (fun _ => by first | assumption | exact HS0 _ rfl | exact HT.out _ (by repeat (first | exact Fr.refl _ _ | apply Fr.drew | refine Fr.alloc ?_ _))) ?_ ?_
              rotate_left 1
              · intro w; go_simp <;> with_reducible rfl
              try simp only [Act.put, List.setIfInBounds_toArray, List.set_cons_zero, List.set_cons_succ]
              refine rt_free 2 (v := ?_) rfl (by kernel_rfl) (by kernel_rfl) (by kernel_rfl) (by kernel_rfl) (fun _ _ _ h => h) (by rfl) (fun _ => by first | assumption | exact HS0 _ rfl | exact HT.out _ (by repeat (first | exact Fr.refl _ _ | apply Fr.drew | refine Fr.alloc ?_ _))) ?_ ?_
              rotate_left 1
              · intro w; go_simp <;> with_reducible rfl
              try simp only [Act.put, List.setIfInBounds_toArray, List.set_cons_zero, List.set_cons_succ]
              refine rt_take 3 (v := ?_) rfl (by kernel_rfl) (by kernel_rfl) (by kernel_rfl) (by kernel_rfl) (fun _ _ _ h => h) (by rfl) (by first | assumption | exact HS0 _ rfl | exact HT.out _ (by repeat (first | exact Fr.refl _ _ | apply Fr.drew | refine Fr.alloc ?_ _))) ?_ ?_
              rotate_left 1
              · intro w hSw; go_simp <;> with_reducible rfl
              try simp only [Act.put, List.setIfInBounds_toArray, List.set_cons_zero, List.set_cons_succ]
              refine rt_one 4 rfl (by kernel_rfl) (fun K hK => ?_)
              go_simp
              refine (ref_cmd_right (cmx L k).1 (cmx L k).2.1 (cmx L k).2.2 _ HGL.out.1 HGL.out.2).mono ?_
              rintro r w2 ⟨rfl, hF2⟩
              rw [cdec_true (show cmdOk ((cmx L k).1, (cmx L k).2.1, (cmx L k).2.2) from HOK.out)]
              have F2 := Lib.hid ((Fr.refl (fun _ => False) wr).drew.trans hF2)
              have hT2 := HT.out _ F2.out
              clear hF2
              go_wp2_with fail
              refine hK.out (At St) _ _ (fun _ h => h) (fun _ => by (assumption)) ?_
              clear hK K
              try simp only [Act.put, List.setIfInBounds_toArray, List.set_cons_zero, List.set_cons_succ]
              refine rt_free 5 (v := ?_) rfl (by kernel_rfl) (by kernel_rfl) (by kernel_rfl) (by kernel_rfl) (fun _ _ _ h => h) (by rfl) (fun _ => by first | assumption | exact HS0 _ rfl | exact HT.out _ (by repeat (first | exact Fr.refl _ _ | apply Fr.drew | refine Fr.alloc ?_ _))) ?_ ?_
              rotate_left 1
              · intro w; go_simp <;> with_reducible rfl
              try simp only [Act.put, List.setIfInBounds_toArray, List.set_cons_zero, List.set_cons_succ]
              refine rt_free 6 (v := ?_) rfl (by kernel_rfl) (by kernel_rfl) (by kernel_rfl) (by kernel_rfl) (fun _ _ _ h => h) (by rfl) (fun _ => by first | assumption | exact HS0 _ rfl | exact HT.out _ (by repeat (first | exact Fr.refl _ _ | apply Fr.drew | refine Fr.alloc ?_ _))) ?_ ?_
              rotate_left 1
              · intro w; go_simp <;> with_reducible rfl
              try simp only [Act.put, List.setIfInBounds_toArray, List.set_cons_zero, List.set_cons_succ]
              refine rt_free 7 (v := ?_) rfl (by kernel_rfl) (by kernel_rfl) (by kernel_rfl) (by kernel_rfl) (fun _ _ _ h => h) (by rfl) (fun _ => by first | assumption | exact HS0 _ rfl | exact HT.out _ (by repeat (first | exact Fr.refl _ _ | apply Fr.drew | refine Fr.alloc ?_ _))) ?_ ?_
              rotate_left 1
              · intro w; go_simp <;> with_reducible rfl
              try simp only [Act.put, List.setIfInBounds_toArray, List.set_cons_zero, List.set_cons_succ]
              refine rt_free 8 (v := ?_) rfl (by kernel_rfl) (by kernel_rfl) (by kernel_rfl) (by kernel_rfl) (fun _ _ _ h => h) (by rfl) (fun _ => by first | assumption | exact HS0 _ rfl | exact HT.out _ (by repeat (first | exact Fr.refl _ _ | apply Fr.drew | refine Fr.alloc ?_ _))) ?_ ?_
              rotate_left 1
              · intro w; go_simp <;> with_reducible rfl
              try simp only [Act.put, List.setIfInBounds_toArray, List.set_cons_zero, List.set_cons_succ]
              refine rt_take 9 (v := ?_) rfl (by kernel_rfl) (by kernel_rfl) (by kernel_rfl) (by kernel_rfl) (fun _ _ _ h => h) (by rfl) (by first | assumption | exact HS0 _ rfl | exact HT.out _ (by repeat (first | exact Fr.refl _ _ | apply Fr.drew | refine Fr.alloc ?_ _))) ?_ ?_
              rotate_left 1
              · intro w hSw; go_simp <;> with_reducible rfl
              try simp only [Act.put, List.setIfInBounds_toArray, List.set_cons_zero, List.set_cons_succ]
              refine rt_one 10 rfl (by kernel_rfl) (fun K hK => ?_)
              go_simp
              refine (ref_cmd_right (cmx M q).1 (cmx M q).2.1 (cmx M q).2.2 _ HGM.out.1 HGM.out.2).mono ?_
              rintro r w3 ⟨rfl, hF3⟩
              rw [cdec_false (show ¬ cmdOk ((cmx M q).1, (cmx M q).2.1, (cmx M q).2.2) from HOK'.out)]
              have F3 := Lib.hid (F2.out.trans hF3)
              have hT3 := HT.out _ F3.out
              clear hF3
              go_wp2_with fail
              refine hK.out (At St) _ _ (fun _ h => h) (fun _ => by (assumption)) ?_
              clear hK K
              try simp only [Act.put, List.setIfInBounds_toArray, List.set_cons_zero, List.set_cons_succ]
              refine rt_free 11 (v := ?_) rfl (by kernel_rfl) (by kernel_rfl) (by kernel_rfl) (by kernel_rfl) (fun _ _ _ h => h) (by rfl) (fun _ => by first | assumption | exact HS0 _ rfl | exact HT.out _ (by repeat (first | exact Fr.refl _ _ | apply Fr.drew | refine Fr.alloc ?_ _))) ?_ ?_
              rotate_left 1
              · intro w; go_simp <;> with_reducible rfl
              try simp only [Act.put, List.setIfInBounds_toArray, List.set_cons_zero, List.set_cons_succ]
              refine rt_free 12 (v := ?_) rfl (by kernel_rfl) (by kernel_rfl) (by kernel_rfl) (by kernel_rfl) (fun _ _ _ h => h) (by rfl) (fun _ => by first | assumption | exact HS0 _ rfl | exact HT.out _ (by repeat (first | exact Fr.refl _ _ | apply Fr.drew | refine Fr.alloc ?_ _))) ?_ ?_
              rotate_left 1
              · intro w; go_simp <;> with_reducible rfl
              try simp only [Act.put, List.setIfInBounds_toArray, List.set_cons_zero, List.set_cons_succ]
              refine rt_skip 13 rfl (by kernel_rfl) (by kernel_rfl) (by kernel_rfl) (by kernel_rfl) (fun _ _ _ h => h) (by rfl) (fun _ => by first | assumption | exact HS0 _ rfl | exact HT.out _ (by repeat (first | exact Fr.refl _ _ | apply Fr.drew | refine Fr.alloc ?_ _))) ?_
              try simp only [Act.put, List.setIfInBounds_toArray, List.set_cons_zero, List.set_cons_succ]
              refine rt_skip 14 rfl (by kernel_rfl) (by kernel_rfl) (by kernel_rfl) (by kernel_rfl) (fun _ _ _ h => h) (by rfl) (fun _ => by first | assumption | exact HS0 _ rfl | exact HT.out _ (by repeat (first | exact Fr.refl _ _ | apply Fr.drew | refine Fr.alloc ?_ _))) ?_
              try simp only [Act.put, List.setIfInBounds_toArray, List.set_cons_zero, List.set_cons_succ]
              refine rt_skip 15 rfl (by kernel_rfl) (by kernel_rfl) (by kernel_rfl) (by kernel_rfl) (fun _ _ _ h => h) (by rfl) (fun _ => by first | assumption | exact HS0 _ rfl | exact HT.out _ (by repeat (first | exact Fr.refl _ _ | apply Fr.drew | refine Fr.alloc ?_ _))) ?_
              try simp only [Act.put, List.setIfInBounds_toArray, List.set_cons_zero, List.set_cons_succ]
              refine rt_skip 16 rfl (by kernel_rfl) (by kernel_rfl) (by kernel_rfl) (by kernel_rfl) (fun _ _ _ h => h) (by rfl) (fun _ => by first | assumption | exact HS0 _ rfl | exact HT.out _ (by repeat (first | exact Fr.refl _ _ | apply Fr.drew | refine Fr.alloc ?_ _))) ?_
              try simp only [Act.put, List.setIfInBounds_toArray, List.set_cons_zero, List.set_cons_succ]
              refine rt_skip 17 rfl (by kernel_rfl) (by kernel_rfl) (by kernel_rfl) (by kernel_rfl) (fun _ _ _ h => h) (by rfl) (fun _ => by first | assumption | exact HS0 _ rfl | exact HT.out _ (by repeat (first | exact Fr.refl _ _ | apply Fr.drew | refine Fr.alloc ?_ _))) ?_
              try simp only [Act.put, List.setIfInBounds_toArray, List.set_cons_zero, List.set_cons_succ]
              refine rt_skip 18 rfl (by kernel_rfl) (by kernel_rfl) (by kernel_rfl) (by kernel_rfl) (fun _ _ _ h => h) (by rfl) (fun _ => by first | assumption | exact HS0 _ rfl | exact HT.out _ (by repeat (first | exact Fr.refl _ _ | apply Fr.drew | refine Fr.alloc ?_ _))) ?_
              try simp only [Act.put, List.setIfInBounds_toArray, List.set_cons_zero, List.set_cons_succ]
              refine rt_skip 19 rfl (by kernel_rfl) (by kernel_rfl) (by kernel_rfl) (by kernel_rfl) (fun _ _ _ h => h) (by rfl) (fun _ => by first | assumption | exact HS0 _ rfl | exact HT.out _ (by repeat (first | exact Fr.refl _ _ | apply Fr.drew | refine Fr.alloc ?_ _))) ?_
              try simp only [Act.put, List.setIfInBounds_toArray, List.set_cons_zero, List.set_cons_succ]
              refine rt_skip 20 rfl (by kernel_rfl) (by kernel_rfl) (by kernel_rfl) (by kernel_rfl) (fun _ _ _ h => h) (by rfl) (fun _ => by first | assumption | exact HS0 _ rfl | exact HT.out _ (by repeat (first | exact Fr.refl _ _ | apply Fr.drew | refine Fr.alloc ?_ _))) ?_
              try simp only [Act.put, List.setIfInBounds_toArray, List.set_cons_zero, List.set_cons_succ]
              refine rt_skip 21 rfl (by kernel_rfl) (by kernel_rfl) (by kernel_rfl) (by kernel_rfl) (fun _ _ _ h => h) (by rfl) (fun _ => by first | assumption | exact HS0 _ rfl | exact HT.out _ (by repeat (first | exact Fr.refl _ _ | apply Fr.drew | refine Fr.alloc ?_ _))) ?_
              try simp only [Act.put, List.setIfInBounds_toArray, List.set_cons_zero, List.set_cons_succ]
              refine rt_free 22 (v := ?_) rfl (by kernel_rfl) (by kernel_rfl) (by kernel_rfl) (by kernel_rfl) (fun _ _ _ h => h) (by rfl) (fun _ => by first | assumption | exact HS0 _ rfl | exact HT.out _ (by repeat (first | exact Fr.refl _ _ | apply Fr.drew | refine Fr.alloc ?_ _))) ?_ ?_
              rotate_left 1
              · intro w; go_simp <;> with_reducible rfl
              try simp only [Act.put, List.setIfInBounds_toArray, List.set_cons_zero, List.set_cons_succ]
              refine rt_done (by kernel_rfl) ?_
              clear e0 e1 e2 e0' e1' e2' hT0 hT2 hT3
              have GF := Lib.hid (HGq.out.trans F3.out)
              go_wp2_with fail
              go_roundw
              case rel =>
                refine ⟨q + 1, by omega, by go_num, fun y hy => ?_, GF.out⟩
                rcases Nat.lt_or_ge y q with h | h
                · exact HNQ.out y h
                · obtain rfl : y = q := by omega
                  exact fun h => HOK'.out h.2.1
              case measure => simp [intOf]; omega
          · have HOK := Lib.hid hok
            clear hok
            go_wp2_with fail
            refine rt_start [] (At St) 23 (by kernel_rfl) rfl ?_
            refine rt_free 0 (v := ?_) rfl (by kernel_rfl) (by kernel_rfl) (by kernel_rfl) (by kernel_rfl) (fun _ _ _ h => h) (by rfl) (fun _ => by first | assumption | exact HS0 _ rfl | exact HT.out _ (by repeat (first | exact Fr.refl _ _ | apply Fr.drew | refine Fr.alloc ?_ _))) ?_ ?_
            rotate_left 1
            · intro w; go_simp <;> with_reducible rfl
            try simp only [Act.put, List.setIfInBounds_toArray, List.set_cons_zero, List.set_cons_succ]
            refine rt_free 1 (v := ?_) rfl (by kernel_rfl) (by kernel_rfl) (by kernel_rfl) (by kernel_rfl) (fun _ _ _ h => h) (by rfl) (fun _ => by first | assumption | exact HS0 _ rfl | exact HT.out _ (by repeat (first | exact Fr.refl _ _ | apply Fr.drew | refine Fr.alloc ?_ _))) ?_ ?_
            rotate_left 1
            · intro w; go_simp <;> with_reducible rfl
            try simp only [Act.put, List.setIfInBounds_toArray, List.set_cons_zero, List.set_cons_succ]
            refine rt_free 2 (v := ?_) rfl (by kernel_rfl) (by kernel_rfl) (by kernel_rfl) (by kernel_rfl) (fun _ _ _ h => h) (by rfl) (fun _ => by first | assumption | exact HS0 _ rfl | exact HT.out _ (by repeat (first | exact Fr.refl _ _ | apply Fr.drew | refine Fr.alloc ?_ _))) ?_ ?_
            rotate_left 1
            · intro w; go_simp <;> with_reducible rfl
            try simp only [Act.put, List.setIfInBounds_toArray, List.set_cons_zero, List.set_cons_succ]
            refine rt_take 3 (v := ?_) rfl (by kernel_rfl) (by kernel_rfl) (by kernel_rfl) (by kernel_rfl) (fun _ _ _ h => h) (by rfl) (by first | assumption | exact HS0 _ rfl | exact HT.out _ (by repeat (first | exact Fr.refl _ _ | apply Fr.drew | refine Fr.alloc ?_ _))) ?_ ?_
            rotate_left 1
            · intro w hSw; go_simp <;> with_reducible rfl
            try simp only [Act.put, List.setIfInBounds_toArray, List.set_cons_zero, List.set_cons_succ]
            refine rt_one 4 rfl (by kernel_rfl) (fun K hK => ?_)
            go_simp
            refine (ref_cmd_right (cmx L k).1 (cmx L k).2.1 (cmx L k).2.2 _ HGL.out.1 HGL.out.2).mono ?_
            rintro r w2 ⟨rfl, hF2⟩
            rw [cdec_false (show ¬ cmdOk ((cmx L k).1, (cmx L k).2.1, (cmx L k).2.2) from HOK.out)]
            have F2 := Lib.hid ((Fr.refl (fun _ => False) wr).drew.trans hF2)
            have hT2 := HT.out _ F2.out
            clear hF2
            go_wp2_with fail
            refine hK.out (At St) _ _ (fun _ h => h) (fun _ => by (assumption)) ?_
            clear hK K
            try simp only [Act.put, List.setIfInBounds_toArray, List.set_cons_zero, List.set_cons_succ]
            refine rt_free 5 (v := ?_) rfl (by kernel_rfl) (by kernel_rfl) (by kernel_rfl) (by kernel_rfl) (fun _ _ _ h => h) (by rfl) (fun _ => by first | assumption | exact HS0 _ rfl | exact HT.out _ (by repeat (first | exact Fr.refl _ _ | apply Fr.drew | refine Fr.alloc ?_ _))) ?_ ?_
            rotate_left 1
            · intro w; go_simp <;> with_reducible rfl
            try simp only [Act.put, List.setIfInBounds_toArray, List.set_cons_zero, List.set_cons_succ]
            refine rt_skip 6 rfl (by kernel_rfl) (by kernel_rfl) (by kernel_rfl) (by kernel_rfl) (fun _ _ _ h => h) (by rfl) (fun _ => by first | assumption | exact HS0 _ rfl | exact HT.out _ (by repeat (first | exact Fr.refl _ _ | apply Fr.drew | refine Fr.alloc ?_ _))) ?_
            try simp only [Act.put, List.setIfInBounds_toArray, List.set_cons_zero, List.set_cons_succ]
            refine rt_skip 7 rfl (by kernel_rfl) (by kernel_rfl) (by kernel_rfl) (by kernel_rfl) (fun _ _ _ h => h) (by rfl) (fun _ => by first | assumption | exact HS0 _ rfl | exact HT.out _ (by repeat (first | exact Fr.refl _ _ | apply Fr.drew | refine Fr.alloc ?_ _))) ?_
            try simp only [Act.put, List.setIfInBounds_toArray, List.set_cons_zero, List.set_cons_succ]
            refine rt_skip 8 rfl (by kernel_rfl) (by kernel_rfl) (by kernel_rfl) (by kernel_rfl) (fun _ _ _ h => h) (by rfl) (fun _ => by first | assumption | exact HS0 _ rfl | exact HT.out _ (by repeat (first | exact Fr.refl _ _ | apply Fr.drew | refine Fr.alloc ?_ _))) ?_
            try simp only [Act.put, List.setIfInBounds_toArray, List.set_cons_zero, List.set_cons_succ]
            refine rt_skip 9 rfl (by kernel_rfl) (by kernel_rfl) (by kernel_rfl) (by kernel_rfl) (fun _ _ _ h => h) (by rfl) (fun _ => by first | assumption | exact HS0 _ rfl | exact HT.out _ (by repeat (first | exact Fr.refl _ _ | apply Fr.drew | refine Fr.alloc ?_ _))) ?_
            try simp only [Act.put, List.setIfInBounds_toArray, List.set_cons_zero, List.set_cons_succ]
            refine rt_skip 10 rfl (by kernel_rfl) (by kernel_rfl) (by kernel_rfl) (by kernel_rfl) (fun _ _ _ h => h) (by rfl) (fun _ => by first | assumption | exact HS0 _ rfl | exact HT.out _ (by repeat (first | exact Fr.refl _ _ | apply Fr.drew | refine Fr.alloc ?_ _))) ?_
            try simp only [Act.put, List.setIfInBounds_toArray, List.set_cons_zero, List.set_cons_succ]
            refine rt_free 11 (v := ?_) rfl (by kernel_rfl) (by kernel_rfl) (by kernel_rfl) (by kernel_rfl) (fun _ _ _ h => h) (by rfl) (fun _ => by first | assumption | exact HS0 _ rfl | exact HT.out _ (by repeat (first | exact Fr.refl _ _ | apply Fr.drew | refine Fr.alloc ?_ _))) ?_ ?_
            rotate_left 1
            · intro w; go_simp <;> with_reducible rfl
            try simp only [Act.put, List.setIfInBounds_toArray, List.set_cons_zero, List.set_cons_succ]
            refine rt_free 12 (v := ?_) rfl (by kernel_rfl) (by kernel_rfl) (by kernel_rfl) (by kernel_rfl) (fun _ _ _ h => h) (by rfl) (fun _ => by first | assumption | exact HS0 _ rfl | exact HT.out _ (by repeat (first | exact Fr.refl _ _ | apply Fr.drew | refine Fr.alloc ?_ _))) ?_ ?_
            rotate_left 1
            · intro w; go_simp <;> with_reducible rfl
            try simp only [Act.put, List.setIfInBounds_toArray, List.set_cons_zero, List.set_cons_succ]
            refine rt_skip 13 rfl (by kernel_rfl) (by kernel_rfl) (by kernel_rfl) (by kernel_rfl) (fun _ _ _ h => h) (by rfl) (fun _ => by first | assumption | exact HS0 _ rfl | exact HT.out _ (by repeat (first | exact Fr.refl _ _ | apply Fr.drew | refine Fr.alloc ?_ _))) ?_
            try simp only [Act.put, List.setIfInBounds_toArray, List.set_cons_zero, List.set_cons_succ]
            refine rt_skip 14 rfl (by kernel_rfl) (by kernel_rfl) (by kernel_rfl) (by kernel_rfl) (fun _ _ _ h => h) (by rfl) (fun _ => by first | assumption | exact HS0 _ rfl | exact HT.out _ (by repeat (first | exact Fr.refl _ _ | apply Fr.drew | refine Fr.alloc ?_ _))) ?_
            try simp only [Act.put, List.setIfInBounds_toArray, List.set_cons_zero, List.set_cons_succ]
            refine rt_skip 15 rfl (by kernel_rfl) (by kernel_rfl) (by kernel_rfl) (by kernel_rfl) (fun _ _ _ h => h) (by rfl) (fun _ => by first | assumption | exact HS0 _ rfl | exact HT.out _ (by repeat (first | exact Fr.refl _ _ | apply Fr.drew | refine Fr.alloc ?_ _))) ?_
            try simp only [Act.put, List.setIfInBounds_toArray, List.set_cons_zero, List.set_cons_succ]
            refine rt_skip 16 rfl (by kernel_rfl) (by kernel_rfl) (by kernel_rfl) (by kernel_rfl) (fun _ _ _ h => h) (by rfl) (fun _ => by first | assumption | exact HS0 _ rfl | exact HT.out _ (by repeat (first | exact Fr.refl _ _ | apply Fr.drew | refine Fr.alloc ?_ _))) ?_
            try simp only [Act.put, List.setIfInBounds_toArray, List.set_cons_zero, List.set_cons_succ]
            refine rt_skip 17 rfl (by kernel_rfl) (by kernel_rfl) (by kernel_rfl) (by kernel_rfl) (fun _ _ _ h => h) (by rfl) (fun _ => by first | assumption | exact HS0 _ rfl | exact HT.out _ (by repeat (first | exact Fr.refl _ _ | apply Fr.drew | refine Fr.alloc ?_ _))) ?_
            try simp only [Act.put, List.setIfInBounds_toArray, List.set_cons_zero, List.set_cons_succ]
            refine rt_skip 18 rfl (by kernel_rfl) (by kernel_rfl) (by kernel_rfl) (by kernel_rfl) (fun _ _ _ h => h) (by rfl) (fun _ => by first | assumption | exact HS0 _ rfl | exact HT.out _ (by repeat (first | exact Fr.refl _ _ | apply Fr.drew | refine Fr.alloc ?_ _))) ?_
            try simp only [Act.put, List.setIfInBounds_toArray, List.set_cons_zero, List.set_cons_succ]
            refine rt_skip 19 rfl (by kernel_rfl) (by kernel_rfl) (by kernel_rfl) (by kernel_rfl) (fun _ _ _ h => h) (by rfl) (fun _ => by first | assumption | exact HS0 _ rfl | exact HT.out _ (by repeat (first | exact Fr.refl _ _ | apply Fr.drew | refine Fr.alloc ?_ _))) ?_
            try simp only [Act.put, List.setIfInBounds_toArray, List.set_cons_zero, List.set_cons_succ]
            refine rt_skip 20 rfl (by kernel_rfl) (by kernel_rfl) (by kernel_rfl) (by kernel_rfl) (fun _ _ _ h => h) (by rfl) (fun _ => by first | assumption | exact HS0 _ rfl | exact HT.out _ (by repeat (first | exact Fr.refl _ _ | apply Fr.drew | refine Fr.alloc ?_ _))) ?_
            try simp only [Act.put, List.setIfInBounds_toArray, List.set_cons_zero, List.set_cons_succ]
            refine rt_skip 21 rfl (by kernel_rfl) (by kernel_rfl) (by kernel_rfl) (by kernel_rfl) (fun _ _ _ h => h) (by rfl) (fun _ => by first | assumption | exact HS0 _ rfl | exact HT.out _ (by repeat (first | exact Fr.refl _ _ | apply Fr.drew | refine Fr.alloc ?_ _))) ?_
            try simp only [Act.put, List.setIfInBounds_toArray, List.set_cons_zero, List.set_cons_succ]
            refine rt_free 22 (v := ?_) rfl (by kernel_rfl) (by kernel_rfl) (by kernel_rfl) (by kernel_rfl) (fun _ _ _ h => h) (by rfl) (fun _ => by first | assumption | exact HS0 _ rfl | exact HT.out _ (by repeat (first | exact Fr.refl _ _ | apply Fr.drew | refine Fr.alloc ?_ _))) ?_ ?_
            rotate_left 1
            · intro w; go_simp <;> with_reducible rfl
            try simp only [Act.put, List.setIfInBounds_toArray, List.set_cons_zero, List.set_cons_succ]
            refine rt_done (by kernel_rfl) ?_
            clear e0 e1 e2 e0' e1' e2' hT0 hT2
            have GF := Lib.hid (HGq.out.trans F2.out)
            go_wp2_with fail
            go_roundw
            case rel =>
              refine ⟨q + 1, by omega, by go_num, fun y hy => ?_, GF.out⟩
              rcases Nat.lt_or_ge y q with h | h
              · exact HNQ.out y h
              · obtain rfl : y = q := by omega
                exact fun h => HOK.out h.1
            case measure => simp [intOf]; omega
        · have hqe : q = n' := by omega
          subst hqe
          have tqq : decide (q < q) = false := decide_eq_false (by omega)
          go_wp2_with fail
          go_roundw
          case rel =>
            refine ⟨k + 1, by omega, by go_num, fun x hx y hy => ?_, HGq.out⟩
            rcases Nat.lt_or_ge x k with h | h
            · exact HNO.out x h y hy
            · obtain rfl : x = k := by omega
              exact HNQ.out y hy
          case measure => simp [intOf]; omega
    · obtain rfl : n = k := by omega
      have tnn : decide (n < n) = false := decide_eq_false (by omega)
      go_wp2_with fail
      go_ret
      refine ⟨ret_bool (cdec_false ?_).symm, HG.out⟩
      rintro ⟨x, hx, y, hy, hcf⟩
      obtain ⟨i, hi, rfl⟩ := List.mem_iff_getElem.1 hx
      obtain ⟨j, hj, rfl⟩ := List.mem_iff_getElem.1 hy
      rw [← cmx_eq hi, ← cmx_eq hj] at hcf
      exact HNO.out i (by have := HLn.out; omega) j (by have := HMn.out; omega) hcf
end Go.Proofs.Ytepfhcimmbkilaa
/- Two batches that do not conflict may be applied in either order: plainly. -/
namespace Go.Proofs.Ytepfhcimmbkilaa
open Go.RowKit
open Go.Proofs.YtepfhcimmbkilaaW.PrintWords

/-- What T does leaves the key as it is: it only gets it. -/
def Quiet (T : List HE) (key : ByteArray) : Prop := ∀ e ∈ T, e.2.2.2.1 = key → cmdOk e.2.2 ∧ e.2.2.1 = 1
theorem quiet_fold {key : ByteArray} : ∀ (T : List HE) (c : CellD), Quiet T key → T.foldl (cellStep key) c = c := by
  intro T
  induction T with
  | nil => intro c _; rfl
  | cons e T ih =>
    intro c h
    have he : cellStep key c e = c := by
      unfold cellStep
      by_cases hk : e.2.2.2.1 = key
      · obtain ⟨h1, h2⟩ := h e (List.mem_cons_self ..) hk
        rw [cdec_true hk, cond_true, doC_get h1 h2]
      · rw [cdec_false hk, cond_false]
    rw [List.foldl_cons, he]
    exact ih c (fun e' he' => h e' (List.mem_cons_of_mem _ he'))
theorem quiet_cell {key : ByteArray} {T : List HE} (H1 H2 : List HE) (h : Quiet T key) : cellOf (H1 ++ T ++ H2) key = cellOf (H1 ++ H2) key := by
  unfold cellOf
  rw [List.foldl_append, List.foldl_append, List.foldl_append, quiet_fold T _ h]
theorem quiet_log {key : ByteArray} {T : List HE} (H1 H2 : List HE) (h : Quiet T key) : logOf (H1 ++ T ++ H2) key = logOf (H1 ++ H2) key := by
  have hT : T.filter (fun e => cdec (wrote key e)) = [] := List.filter_eq_nil_iff.2 (fun e he => by
    rw [cdec_false (fun hw : wrote key e => hw.2.2 (h e he hw.1).2)]; decide)
  unfold logOf
  rw [List.filter_append, List.filter_append, List.filter_append, hT, List.append_nil]
theorem tag_mem {id : Int × Int} {L : List Cmd} {k : Nat} (hk : k ≤ L.length) {e : HE} (h : e ∈ tagN id L k) : e.2.2 ∈ L := by
  unfold tagN at h
  obtain ⟨i, hi, rfl⟩ := List.mem_map.1 h
  have hl := List.mem_range.1 hi
  exact cmx_mem (by omega)
theorem bat_all {L : List Cmd} (h : errBat L = 0) : ∀ x ∈ L, cmdOk x := fun x hx => by
  rcases errBat_cases L with ⟨_, _, hok⟩ | h' | h'
  · obtain ⟨i, hi, rfl⟩ := List.mem_iff_getElem.1 hx
    rw [← cmx_eq hi]
    exact hok i hi
  · rw [h'] at h; cases h
  · rw [h'] at h; cases h
noncomputable def apH (H : List HE) (id : Int × Int) (L : List Cmd) : List HE := if errBat L = 0 then H ++ tagN id L L.length else H
noncomputable def apT (H : List HE) (id : Int × Int) (L : List Cmd) : List Rs := if errBat L = 0 then toldN H id L L.length else []
theorem told_quiet {H T : List HE} {id : Int × Int} {L : List Cmd} (h : ∀ x ∈ L, Quiet T x.2.1) : toldN (H ++ T) id L L.length = toldN H id L L.length := by
  unfold toldN
  refine List.map_congr_left fun i hi => ?_
  have hl := List.mem_range.1 hi
  rw [quiet_cell H (tagN id L i) (h _ (cmx_mem hl))]
/-- Where two batches that may be do not conflict, the second does not touch what the first one has, but for getting it. -/
theorem noconf_quiet {A B : List Cmd} {idb : Int × Int} (hA : errBat A = 0) (hB : errBat B = 0) (hn : ¬ ∃ x ∈ A, ∃ y ∈ B, confP x y) : ∀ x ∈ A, Quiet (tagN idb B B.length) x.2.1 := fun x hx e he hk =>
  have hy := tag_mem (Nat.le_refl _) he
  ⟨bat_all hB _ hy, Classical.byContradiction fun h1 => hn ⟨x, hx, e.2.2, hy, bat_all hA x hx, bat_all hB _ hy, hk.symm, .inr h1⟩⟩
theorem noconf_swap {A B : List Cmd} (hn : ¬ ∃ x ∈ A, ∃ y ∈ B, confP x y) : ¬ ∃ y ∈ B, ∃ x ∈ A, confP y x := fun ⟨y, hy, x, hx, h1, h2, h3, h4⟩ => hn ⟨x, hx, y, hy, h2, h1, h3.symm, h4.symm⟩
theorem swap_same (H : List HE) (ida idb : Int × Int) (A B : List Cmd) (hn : ¬ ∃ x ∈ A, ∃ y ∈ B, confP x y) :
    SameH (apH (apH H ida A) idb B) (apH (apH H idb B) ida A) ∧ apT H ida A = apT (apH H idb B) ida A ∧ apT (apH H ida A) idb B = apT H idb B := by
  unfold apH apT
  by_cases hA : errBat A = 0
  · by_cases hB : errBat B = 0
    · simp only [if_pos hA, if_pos hB]
      refine ⟨fun key => ?_, (told_quiet (noconf_quiet hA hB hn)).symm, told_quiet (noconf_quiet hB hA (noconf_swap hn))⟩
      by_cases hk : ∃ x ∈ A, x.2.1 = key
      · obtain ⟨x, hx, rfl⟩ := hk
        have hq := noconf_quiet (idb := idb) hA hB hn x hx
        have e1 := quiet_cell (H ++ tagN ida A A.length) [] hq
        have e2 := quiet_log (H ++ tagN ida A A.length) [] hq
        rw [List.append_nil, List.append_nil] at e1 e2
        exact ⟨by rw [e1, quiet_cell H _ hq], by rw [e2, quiet_log H _ hq]⟩
      · have hq : Quiet (tagN ida A A.length) key := fun e he h => absurd ⟨e.2.2, tag_mem (Nat.le_refl _) he, h⟩ hk
        have e1 := quiet_cell (H ++ tagN idb B B.length) [] hq
        have e2 := quiet_log (H ++ tagN idb B B.length) [] hq
        rw [List.append_nil, List.append_nil] at e1 e2
        exact ⟨by rw [e1, quiet_cell H _ hq], by rw [e2, quiet_log H _ hq]⟩
    · simp only [if_pos hA, if_neg hB]
      exact ⟨fun _ => ⟨rfl, rfl⟩, by trivial⟩
  · by_cases hB : errBat B = 0
    · simp only [if_neg hA, if_pos hB]
      exact ⟨fun _ => ⟨rfl, rfl⟩, by trivial⟩
    · simp only [if_neg hA, if_neg hB]
      exact ⟨fun _ => ⟨rfl, rfl⟩, by trivial⟩
end Go.Proofs.Ytepfhcimmbkilaa
/- What the reference makes of items: a key's cell, its log. -/
namespace Go.Proofs.Ytepfhcimmbkilaa
open Go.RowKit
open Go.Proofs.YtepfhcimmbkilaaW.PrintWords

noncomputable def stepB (s : List HE × List Rs) (it : Item) : List HE × List Rs := (s.1 ++ tagN it.1 it.2 it.2.length, s.2 ++ toldN s.1 it.1 it.2 it.2.length)
noncomputable def runB (L : List Item) : List HE × List Rs := L.foldl stepB ([], [])
theorem runB_succ {L : List Item} {k : Nat} (h : k < L.length) : runB (L.take (k + 1)) = stepB (runB (L.take k)) (itx L k) := by
  unfold runB
  rw [List.take_succ_eq_append_getElem h, List.foldl_append, ← itx_eq h]
  rfl
theorem runB_take {L : List Item} (hL : ItemsGood L) : ∀ k, k ≤ L.length → HGood (runB (L.take k)).1
  | 0, _ => fun e he => absurd he (by rw [List.take_zero]; exact List.not_mem_nil)
  | k + 1, hk => by
    rw [runB_succ (by omega)]
    exact (runB_take hL k (by omega)).append (tagN_good (Nat.le_refl _) (hL _ (itx_mem (by omega))))
noncomputable def goodI (L : List Item) : List Item := L.filter fun it => decide (errBat it.2 = 0)
theorem runI_good (L : List Item) (s : List HE × List Rs) : L.foldl stepI s = (goodI L).foldl stepB s := by
  induction L generalizing s with
  | nil => rfl
  | cons it L ih =>
    by_cases h : errBat it.2 = 0
    · have : goodI (it :: L) = it :: goodI L := List.filter_cons_of_pos (by simpa using h)
      rw [this, List.foldl_cons, List.foldl_cons, ih]
      unfold stepI stepB
      rw [if_pos h]
    · have : goodI (it :: L) = goodI L := List.filter_cons_of_neg (by simpa using h)
      rw [this, List.foldl_cons, ih]
      unfold stepI
      rw [if_neg h]
theorem runI_eq (L : List Item) : runI L = runB (goodI L) := runI_good L _
theorem goodI_good {L : List Item} (h : ItemsGood L) : ItemsGood (goodI L) := fun it hi => h it ((List.mem_filter.1 hi).1)
/-- A key's cell hangs on the commands alone, not on whose they are. -/
theorem cellOf_any (H : List HE) (id id' : Int × Int) (L : List Cmd) (key : ByteArray) : ∀ k, cellOf (H ++ tagN id L k) key = cellOf (H ++ tagN id' L k) key
  | 0 => rfl
  | k + 1 => by
    rw [tagN_succ, tagN_succ, ← List.append_assoc, ← List.append_assoc, cellOf_snoc, cellOf_snoc, cellOf_any H id id' L key k]
    rfl
set_option maxRecDepth 100000 in
set_option maxHeartbeats 4000000 in
theorem ref_cell13 (A : Option Addr) (n c : Nat) (L : List Item) (key : ByteArray) (w : World) (hC : itemK.C w A n L) (hL : ItemsGood L) (hn : n ≤ 100000) :
    Calls Try.prog 26 #[.slice A n c, .string key] w fun r w' => ∃ u, r = .returned (cellV u) ∧ absC u = cellOf (runB L).1 key ∧ CellOk u ∧ Fr (fun _ => False) w w' := by
  have HLn := Lib.hid (show L.length = n from hC.1)
  have HC := Lib.hid hC
  have HO := Lib.hid hL
  have h4 := (Blk.new w 53 #[.bool false, .float .f64 0]).alloc (.cells #[.bool false, .float .f64 0] 53)
  have h5 := Blk.new (w.alloc (.cells #[.bool false, .float .f64 0] 53)) 53 #[.bool false, .float .f64 0]
  rw [World.size_alloc] at h5
  have hF := ((Fr.refl (fun _ => False) w).alloc (.cells #[.bool false, .float .f64 0] 53)).alloc (.cells #[.bool false, .float .f64 0] 53)
  have H4 := Lib.hid h4
  have H5 := Lib.hid h5
  have HF := Lib.hid hF
  obtain ⟨b4, hb4⟩ : ∃ b, b = w.heap.size := ⟨_, rfl⟩
  have HB4 := Lib.hid hb4
  clear h4 h5 hF hC hL hb4
  go_enter Try.func26, Try.ntmps26
  go_wp2_with fail
  rw [← HB4.out]
  go_loopw [6] (fun i wr => ∃ (k : Nat) (u : CellD), k ≤ n ∧ i = .int .i64 k ∧ Blk wr b4 53 #[.bool false, .float .f64 0] ∧ Blk wr (b4 + 1) 53 #[.bool u.1, .float .f64 u.2] ∧ CellOk u ∧ absC u = cellOf (runB (L.take k)).1 key ∧ Fr (fun _ => False) w wr) (fun i _ => n - (intOf i).toNat)
  case atStart => exact ⟨0, (false, 0), Nat.zero_le _, rfl, by rw [HB4.out]; exact H4.out, by rw [HB4.out]; exact H5.out, cell0_ok, rfl, HF.out⟩
  case round =>
    obtain ⟨k, u, hk, rfl, h4, h5, hu, ha, hG⟩ := hrel
    have HG := Lib.hid hG
    have H4r := Lib.hid h4
    have H5r := Lib.hid h5
    have HU := Lib.hid hu
    have HAu := Lib.hid ha
    clear hG h4 h5 hu ha
    rcases Nat.lt_or_ge k n with hlt | hge
    · have HGD := Lib.hid (HO.out _ (itx_mem (i := k) (by rw [HLn.out]; exact hlt)))
      have HIT := Lib.hid (items_at HC.out hlt)
      have HRB := Lib.hid (runB_take HO.out k (by rw [HLn.out]; exact hk))
      have HRS := Lib.hid (runB_succ (L := L) (k := k) (by rw [HLn.out]; exact hlt))
      go_wp2_with fail
      go_loopw [7] (fun i wr => ∃ (j : Nat) (u : CellD), j ≤ (itx L k).2.length ∧ i = .int .i64 j ∧ Blk wr b4 53 #[.bool false, .float .f64 0] ∧ Blk wr (b4 + 1) 53 #[.bool u.1, .float .f64 u.2] ∧ CellOk u ∧ absC u = cellOf ((runB (L.take k)).1 ++ tagN (itx L k).1 (itx L k).2 j) key ∧ Fr (fun _ => False) w wr) (fun i _ => (itx L k).2.length - (intOf i).toNat)
      case atStart => exact ⟨0, u, Nat.zero_le _, rfl, H4r.out, H5r.out, HU.out, by rw [HAu.out]; unfold tagN; simp, HG.out⟩
      case round =>
        obtain ⟨j, v, hj, rfl, h4, h5, hv, ha, hG⟩ := hrel
        have HGs := Lib.hid hG
        have H4s := Lib.hid h4
        have H5s := Lib.hid h5
        have HV := Lib.hid hv
        have HAv := Lib.hid ha
        clear hG h4 h5 hv ha
        obtain ⟨b, off, Ab, cb, rfl, hcb, hCw, h0w, h1w, h2w⟩ := HIT.out
        have h2 := HGs.out.cell h2w (fun h => h)
        have HCw := Lib.hid hCw
        clear h0w h1w hCw
        have hmx : (itx L k).2.length ≤ 9223372036854775807 := HCw.out.2.1
        rcases Nat.lt_or_ge j (itx L k).2.length with hlj | hgj
        · obtain ⟨bb, ob, rfl, c0, c1, c2⟩ := cmds_at (Kd.C_below HCw.out (HGs.out.below (fun _ _ h => h))) hlj
          have hse := beq_list (a := (cmx (itx L k).2 j).2.1) (b := key)
          have HTS := Lib.hid (tagN_succ (itx L k).1 (itx L k).2 j)
          have HCM := Lib.hid (HGD.out _ (cmx_mem hlj))
          by_cases hkk : (cmx (itx L k).2 j).2.1 = key
          · rw [cdec_true hkk] at hse
            have HKK := Lib.hid hkk
            clear hkk
            go_wp2_with fail
            obtain ⟨Wd, hWd⟩ : ∃ W, W = wr.drew := ⟨_, rfl⟩
            have HWD := Lib.hid hWd
            have hFd : Fr (fun _ => False) wr Wd := by rw [hWd]; exact (Fr.refl _ _).drew
            obtain ⟨St, hSt⟩ : ∃ St : World → Prop, St = Fr (fun _ => False) Wd := ⟨_, rfl⟩
            have HT := Lib.hid (show ∀ w', Fr (fun _ => False) Wd w' → At St w' from fun w' h => by unfold At; rw [hSt]; exact h)
            have lift : ∀ (q : Addr) (u : Value), wr.cell? q = some u → ∀ w', At St w' → w'.cell? q = some u := fun q u hq w' h => by replace h := h.out; rw [hSt] at h; exact (hFd.trans h).cell hq (fun h => h)
            have l0 := lift ⟨b, off + k * 3 + 1 + 1, none⟩ _ h2
            have l1 := lift ⟨bb, ob + j * 3, none⟩ _ c0
            have l2 := lift ⟨bb, ob + j * 3 + 1, none⟩ _ c1
            have l3 := lift ⟨bb, ob + j * 3 + 1 + 1, none⟩ _ c2
            have l4 := lift ⟨b4 + 1, 0, none⟩ _ (H5s.out.cell 0)
            have l5 := lift ⟨b4 + 1, 1, none⟩ _ (H5s.out.cell 1)
            have hT0 := HT.out Wd (Fr.refl _ _)
            have HFd := Lib.hid hFd
            clear lift hSt h2 h2w c0 c1 c2 hse hWd hFd
            refine rt_start [13] (At St) 14 (by kernel_rfl) rfl ?_
            rw [← HWD.out]
            refine rt_take 0 (v := ?_) rfl (by kernel_rfl) (by kernel_rfl) (by kernel_rfl) (by kernel_rfl) (fun _ _ _ h => h) (by rfl) (by first | assumption | exact HS0 _ rfl | exact HT.out _ (by repeat (first | exact Fr.refl _ _ | apply Fr.drew | refine Fr.alloc ?_ _))) ?_ ?_
            rotate_left 1
            · intro w hSw; go_simp <;> with_reducible rfl
            try simp only [Act.put, List.setIfInBounds_toArray, List.set_cons_zero, List.set_cons_succ]
            refine rt_free 1 (v := ?_) rfl (by kernel_rfl) (by kernel_rfl) (by kernel_rfl) (by kernel_rfl) (fun _ _ _ h => h) (by rfl) (fun _ => by first | assumption | exact HS0 _ rfl | exact HT.out _ (by repeat (first | exact Fr.refl _ _ | apply Fr.drew | refine Fr.alloc ?_ _))) ?_ ?_
            rotate_left 1
            · intro w; go_simp <;> with_reducible rfl
            try simp only [Act.put, List.setIfInBounds_toArray, List.set_cons_zero, List.set_cons_succ]
            refine rt_free 2 (v := ?_) rfl (by kernel_rfl) (by kernel_rfl) (by kernel_rfl) (by kernel_rfl) (fun _ _ _ h => h) (by rfl) (fun _ => by first | assumption | exact HS0 _ rfl | exact HT.out _ (by repeat (first | exact Fr.refl _ _ | apply Fr.drew | refine Fr.alloc ?_ _))) ?_ ?_
            rotate_left 1
            · intro w; go_simp <;> with_reducible rfl
            try simp only [Act.put, List.setIfInBounds_toArray, List.set_cons_zero, List.set_cons_succ]
            refine rt_free 3 (v := ?_) rfl (by kernel_rfl) (by kernel_rfl) (by kernel_rfl) (by kernel_rfl) (fun _ _ _ h => h) (by rfl) (fun _ => by first | assumption | exact HS0 _ rfl | exact HT.out _ (by repeat (first | exact Fr.refl _ _ | apply Fr.drew | refine Fr.alloc ?_ _))) ?_ ?_
            rotate_left 1
            · intro w; go_simp <;> with_reducible rfl
            try simp only [Act.put, List.setIfInBounds_toArray, List.set_cons_zero, List.set_cons_succ]
            refine rt_free 4 (v := ?_) rfl (by kernel_rfl) (by kernel_rfl) (by kernel_rfl) (by kernel_rfl) (fun _ _ _ h => h) (by rfl) (fun _ => by first | assumption | exact HS0 _ rfl | exact HT.out _ (by repeat (first | exact Fr.refl _ _ | apply Fr.drew | refine Fr.alloc ?_ _))) ?_ ?_
            rotate_left 1
            · intro w; go_simp <;> with_reducible rfl
            try simp only [Act.put, List.setIfInBounds_toArray, List.set_cons_zero, List.set_cons_succ]
            refine rt_take 5 (v := ?_) rfl (by kernel_rfl) (by kernel_rfl) (by kernel_rfl) (by kernel_rfl) (fun _ _ _ h => h) (by rfl) (by first | assumption | exact HS0 _ rfl | exact HT.out _ (by repeat (first | exact Fr.refl _ _ | apply Fr.drew | refine Fr.alloc ?_ _))) ?_ ?_
            rotate_left 1
            · intro w hSw; go_simp <;> with_reducible rfl
            try simp only [Act.put, List.setIfInBounds_toArray, List.set_cons_zero, List.set_cons_succ]
            refine rt_free 6 (v := ?_) rfl (by kernel_rfl) (by kernel_rfl) (by kernel_rfl) (by kernel_rfl) (fun _ _ _ h => h) (by rfl) (fun _ => by first | assumption | exact HS0 _ rfl | exact HT.out _ (by repeat (first | exact Fr.refl _ _ | apply Fr.drew | refine Fr.alloc ?_ _))) ?_ ?_
            rotate_left 1
            · intro w; go_simp <;> with_reducible rfl
            try simp only [Act.put, List.setIfInBounds_toArray, List.set_cons_zero, List.set_cons_succ]
            refine rt_free 7 (v := ?_) rfl (by kernel_rfl) (by kernel_rfl) (by kernel_rfl) (by kernel_rfl) (fun _ _ _ h => h) (by rfl) (fun _ => by first | assumption | exact HS0 _ rfl | exact HT.out _ (by repeat (first | exact Fr.refl _ _ | apply Fr.drew | refine Fr.alloc ?_ _))) ?_ ?_
            rotate_left 1
            · intro w; go_simp <;> with_reducible rfl
            try simp only [Act.put, List.setIfInBounds_toArray, List.set_cons_zero, List.set_cons_succ]
            refine rt_take 8 (v := ?_) rfl (by kernel_rfl) (by kernel_rfl) (by kernel_rfl) (by kernel_rfl) (fun _ _ _ h => h) (by rfl) (by first | assumption | exact HS0 _ rfl | exact HT.out _ (by repeat (first | exact Fr.refl _ _ | apply Fr.drew | refine Fr.alloc ?_ _))) ?_ ?_
            rotate_left 1
            · intro w hSw; go_simp <;> with_reducible rfl
            try simp only [Act.put, List.setIfInBounds_toArray, List.set_cons_zero, List.set_cons_succ]
            refine rt_one 9 rfl (by kernel_rfl) (fun K hK => ?_)
            go_simp
            refine (ref_do v (cmx (itx L k).2 j) Wd HV.out HCM.out).mono ?_
            rintro r W3 ⟨p, q, rfl, hp, hq, hpo, hqo, hF3⟩
            have hT3 := HT.out _ hF3
            go_wp2_with fail
            refine hK.out (At St) _ _ (fun _ h => h) (fun _ => by (assumption)) ?_
            clear hK K
            try simp only [Act.put, List.setIfInBounds_toArray, List.set_cons_zero, List.set_cons_succ]
            refine rt_free 10 (v := ?_) rfl (by kernel_rfl) (by kernel_rfl) (by kernel_rfl) (by kernel_rfl) (fun _ _ _ h => h) (by rfl) (fun _ => by first | assumption | exact HS0 _ rfl | exact HT.out _ (by repeat (first | exact Fr.refl _ _ | apply Fr.drew | refine Fr.alloc ?_ _))) ?_ ?_
            rotate_left 1
            · intro w; go_simp <;> with_reducible rfl
            try simp only [Act.put, List.setIfInBounds_toArray, List.set_cons_zero, List.set_cons_succ]
            refine rt_free 11 (v := ?_) rfl (by kernel_rfl) (by kernel_rfl) (by kernel_rfl) (by kernel_rfl) (fun _ _ _ h => h) (by rfl) (fun _ => by first | assumption | exact HS0 _ rfl | exact HT.out _ (by repeat (first | exact Fr.refl _ _ | apply Fr.drew | refine Fr.alloc ?_ _))) ?_ ?_
            rotate_left 1
            · intro w; go_simp <;> with_reducible rfl
            try simp only [Act.put, List.setIfInBounds_toArray, List.set_cons_zero, List.set_cons_succ]
            refine rt_free 12 (v := ?_) rfl (by kernel_rfl) (by kernel_rfl) (by kernel_rfl) (by kernel_rfl) (fun _ _ _ h => h) (by rfl) (fun _ => by first | assumption | exact HS0 _ rfl | exact HT.out _ (by repeat (first | exact Fr.refl _ _ | apply Fr.drew | refine Fr.alloc ?_ _))) ?_ ?_
            rotate_left 1
            · intro w; go_simp <;> with_reducible rfl
            try simp only [Act.put, List.setIfInBounds_toArray, List.set_cons_zero, List.set_cons_succ]
            refine rt_one 13 rfl (by kernel_rfl) (fun K hK => ?_)
            have h43 := (H4s.out.fr HFd.out (fun h => h)).fr hF3 (fun h => h)
            have h53 := (H5s.out.fr HFd.out (fun h => h)).fr hF3 (fun h => h)
            have z0 := h53.cell 0
            have z1 := h53.cell 1
            have zf := h53.frozen
            simp only [List.getElem?_toArray, List.getElem?_cons_zero, List.getElem?_cons_succ] at z0 z1
            go_simp
            refine hK.out (At St) _ _ (fun _ h => h) (late_abs (by kernel_rfl)) ?_
            clear hK K
            try simp only [Act.put, List.setIfInBounds_toArray, List.set_cons_zero, List.set_cons_succ]
            refine rt_done (by kernel_rfl) ?_
            clear l0 l1 l2 l3 l4 l5 hT0 hT3 z0 z1 zf
            have H43 := Lib.hid h43
            have H53 := Lib.hid h53
            have HF3 := Lib.hid hF3
            have HP := Lib.hid hp
            have HPO := Lib.hid hpo
            clear h43 h53 hF3 hp hq hpo hqo
            go_wp2_with fail
            go_roundw
            case rel =>
              refine ⟨j + 1, p, by omega, by go_num, H43.out.far2 (by omega) _ _, Blk.set2 H53.out, HPO.out, ?_, ((HGs.out.trans HFd.out).trans HF3.out).set2 (.inr (by have := HB4.out; omega)) _ _⟩
              rw [HP.out, HTS.out, ← List.append_assoc, cellOf_snoc, ← HAv.out]
              unfold cellStep
              rw [cdec_true HKK.out, cond_true, HAv.out]
            case measure => simp [intOf]; omega
          · rw [cdec_false hkk] at hse
            have HKK := Lib.hid hkk
            clear hkk
            go_wp2_with fail
            go_roundw
            case rel =>
              refine ⟨j + 1, v, by omega, by go_num, H4s.out, H5s.out, HV.out, ?_, HGs.out⟩
              rw [HAv.out, HTS.out, ← List.append_assoc, cellOf_snoc]
              unfold cellStep
              rw [cdec_false HKK.out, cond_false]
            case measure => simp [intOf]; omega
        · obtain rfl : j = (itx L k).2.length := by omega
          have tjj : decide ((itx L k).2.length < (itx L k).2.length) = false := decide_eq_false (by omega)
          go_wp2_with fail
          go_roundw
          case rel =>
            refine ⟨k + 1, v, by omega, by go_num, H4s.out, H5s.out, HV.out, ?_, HGs.out⟩
            rw [HAv.out, HRS.out]
            rfl
          case measure => simp [intOf]; omega
    · obtain rfl : n = k := by omega
      have tnn : decide (n < n) = false := decide_eq_false (by omega)
      have hl : L.take n = L := by rw [← HLn.out]; exact List.take_length
      have ha := HAu.out
      rw [hl] at ha
      have HA2 := Lib.hid ha
      have z0 := H5r.out.cell 0
      have z1 := H5r.out.cell 1
      have z2 := H4r.out.cell 0
      have z3 := H4r.out.cell 1
      have zf := H4r.out.frozen
      simp only [List.getElem?_toArray, List.getElem?_cons_zero, List.getElem?_cons_succ] at z0 z1 z2 z3
      clear ha
      go_wp2_with fail
      exact bodyPost_ret (results_cell_row Try.results26 _ _ b4 _ _ _ _ rfl (Blk.set2 H4r.out) Try.underlying53 rfl (by kernel_rfl)) rfl ⟨u, rfl, HA2.out, HU.out, HG.out.set2 (.inr (by have := HB4.out; omega)) _ _⟩
set_option maxRecDepth 100000 in
set_option maxHeartbeats 4000000 in
theorem ref_log13 (A : Option Addr) (n c : Nat) (L : List Item) (key : ByteArray) (w : World) (hC : itemK.C w A n L) (hL : ItemsGood L) (hn : n ≤ 1000) (h8 : ∀ it ∈ L, it.2.length ≤ 8) :
    Calls Try.prog 32 #[.slice A n c, .string key] w fun r w' => ∃ v, r = .returned v ∧ wrK.R 67 w' w.heap.size (fun b => w.heap.size ≤ b) v (logOf (runB L).1 key) ∧ Fr (fun _ => False) w w' := by
  have HLn := Lib.hid (show L.length = n from hC.1)
  have HC := Lib.hid hC
  have HO := Lib.hid hL
  have H8 := Lib.hid h8
  have hF := (Fr.refl (fun _ => False) w).alloc (.cells #[] 67)
  have HR0 := Lib.hid (R_empty wrK 67 w)
  have HF := Lib.hid hF
  clear hF hC hL h8
  go_enter Try.func32, Try.ntmps32
  go_wp2_with fail
  go_loopw [5, 6] (fun u i wr => ∃ k : Nat, k ≤ n ∧ i = .int .i64 k ∧ wrK.R 67 wr w.heap.size (fun b => w.heap.size ≤ b) u (logOf (runB (L.take k)).1 key) ∧ (runB (L.take k)).1.length ≤ 8 * k ∧ Fr (fun _ => False) w wr) (fun _ i _ => n - (intOf i).toNat)
  case atStart => exact ⟨0, Nat.zero_le _, rfl, HR0.out, Nat.le_refl _, HF.out⟩
  case round =>
    obtain ⟨k, hk, rfl, hR, hlen, hG⟩ := hrel
    have HG := Lib.hid hG
    have HR := Lib.hid hR
    have HLE := Lib.hid hlen
    clear hG hR hlen
    rcases Nat.lt_or_ge k n with hlt | hge
    · have HGD := Lib.hid (HO.out _ (itx_mem (i := k) (by rw [HLn.out]; exact hlt)))
      have HI8 := Lib.hid (H8.out _ (itx_mem (i := k) (by rw [HLn.out]; exact hlt)))
      have HIT := Lib.hid (items_at HC.out hlt)
      have HRS := Lib.hid (runB_succ (L := L) (k := k) (by rw [HLn.out]; exact hlt))
      go_wp2_with fail
      go_loopw [5, 7] (fun u i wr => ∃ j : Nat, j ≤ (itx L k).2.length ∧ i = .int .i64 j ∧ wrK.R 67 wr w.heap.size (fun b => w.heap.size ≤ b) u (logOf ((runB (L.take k)).1 ++ tagN (itx L k).1 (itx L k).2 j) key) ∧ Fr (fun _ => False) w wr) (fun _ i _ => (itx L k).2.length - (intOf i).toNat)
      case atStart => exact ⟨0, Nat.zero_le _, rfl, by unfold tagN; simp; exact HR.out, HG.out⟩
      case round =>
        obtain ⟨j, hj, rfl, hR, hG⟩ := hrel
        have HGs := Lib.hid hG
        have HRs := Lib.hid hR
        clear hG hR
        obtain ⟨b, off, Ab, cb, rfl, hcb, hCw, h0w, h1w, h2w⟩ := HIT.out
        have h0 := HGs.out.cell h0w (fun h => h)
        have h1 := HGs.out.cell h1w (fun h => h)
        have h2 := HGs.out.cell h2w (fun h => h)
        have HCw := Lib.hid hCw
        clear h0w h1w h2w hCw
        have hmx : (itx L k).2.length ≤ 9223372036854775807 := HCw.out.2.1
        rcases Nat.lt_or_ge j (itx L k).2.length with hlj | hgj
        · obtain ⟨bb, ob, rfl, c0, c1, c2⟩ := cmds_at (Kd.C_below HCw.out (HGs.out.below (fun _ _ h => h))) hlj
          have hse := beq_list (a := (cmx (itx L k).2 j).2.1) (b := key)
          have HTS := Lib.hid (tagN_succ (itx L k).1 (itx L k).2 j)
          have HCM := Lib.hid (HGD.out _ (cmx_mem hlj))
          have same : ¬ wrote key ((itx L k).1, (j : Int), cmx (itx L k).2 j) → logOf ((runB (L.take k)).1 ++ tagN (itx L k).1 (itx L k).2 (j + 1)) key = logOf ((runB (L.take k)).1 ++ tagN (itx L k).1 (itx L k).2 j) key := fun h => by
            rw [HTS.out, ← List.append_assoc, logOf_no h]
          have HSAME := Lib.hid same
          clear same
          by_cases hkk : (cmx (itx L k).2 j).2.1 = key
          · rw [cdec_true hkk] at hse
            have HKK := Lib.hid hkk
            clear hkk
            go_wp2_with fail
            refine (ref_cmd_right (cmx (itx L k).2 j).1 (cmx (itx L k).2 j).2.1 (cmx (itx L k).2 j).2.2 _ HCM.out.1 HCM.out.2).mono ?_
            rintro r w3 ⟨rfl, hF3⟩
            have a0 := hF3.cell h0 (fun h => h)
            have a1 := hF3.cell h1 (fun h => h)
            have a2 := hF3.cell h2 (fun h => h)
            have d0 := hF3.cell c0 (fun h => h)
            clear h0 h1 h2 c0 c1 c2
            by_cases hok : cmdOk (cmx (itx L k).2 j)
            · rw [cdec_true (show cmdOk ((cmx (itx L k).2 j).1, (cmx (itx L k).2 j).2.1, (cmx (itx L k).2 j).2.2) from hok)]
              by_cases hk1 : (cmx (itx L k).2 j).1 = 1
              · have t1 : ((cmx (itx L k).2 j).1 != 1) = false := by simp [hk1]
                have HS2 := Lib.hid (HSAME.out fun h => h.2.2 hk1)
                have HR3 := Lib.hid (Kd.R_below HRs.out (hF3.below (fun _ _ h => h)))
                have HF3 := Lib.hid hF3
                clear hk1 hok hF3
                go_wp2_with fail
                go_roundw
                case rel =>
                  refine ⟨j + 1, by omega, by go_num, ?_, HGs.out.trans HF3.out⟩
                  rw [HS2.out]; exact HR3.out
                case measure => simp [intOf]; omega
              · have t1 : ((cmx (itx L k).2 j).1 != 1) = true := by simpa using hk1
                have hyes := logOf_yes (H := (runB (L.take k)).1 ++ tagN (itx L k).1 (itx L k).2 j) (e := ((itx L k).1, (j : Int), cmx (itx L k).2 j)) (key := key) ⟨HKK.out, hok, hk1⟩
                rw [List.append_assoc, ← HTS.out] at hyes
                have HY := Lib.hid hyes
                have HR3 := Lib.hid (Kd.R_below HRs.out (hF3.below (fun _ _ h => h)))
                have HG3 := Lib.hid (HGs.out.trans hF3)
                have hll := logOf_len ((runB (L.take k)).1 ++ tagN (itx L k).1 (itx L k).2 j) key
                rw [List.length_append, tagN_len] at hll
                have HLL := Lib.hid hll
                clear hk1 hok hF3 hyes hll hse
                go_wp2_with (at_builtin; refine Kd.R_append wrK w.heap.size rfl (.tmp 59) (.tmp 67) 57 67 _ 24 rfl Try.underlying57 info_wr rfl (by decide) (by decide) u5 (logOf ((runB (L.take k)).1 ++ tagN (itx L k).1 (itx L k).2 j) key) ((itx L k).1, (j : Int)) (wrCells ((itx L k).1, (j : Int))) (fun b => w.heap.size ≤ b) (fun _ => False) (by rfl) (by rfl) (wrK_M _ _ _ _) (fun _ h => h.elim) (fun b hb => Nat.le_trans HG3.out.size hb) HR3.out (Below.refl _ _) HG3.out.size (by have h1 := HLL.out; have h2 := HLE.out; have h3 := HI8.out; omega) ?_; intro v1 w5 hR1 hB1 hg1 hat1; have HR1 := Lib.hid hR1; have HG1 := Lib.hid hg1; clear hR1 hB1 hg1 hat1)
                go_roundw
                case rel =>
                  refine ⟨j + 1, by omega, by go_num, ?_, HG3.out.trans' (Fr.of_grown HG1.out) (fun i hi h => by have := Kd.R_base HR3.out i h.symm; omega)⟩
                  rw [HY.out]; exact HR1.out
                case measure => simp [intOf]; omega
            · rw [cdec_false (show ¬ cmdOk ((cmx (itx L k).2 j).1, (cmx (itx L k).2 j).2.1, (cmx (itx L k).2 j).2.2) from hok)]
              have HS2 := Lib.hid (HSAME.out fun h => hok h.2.1)
              have HR3 := Lib.hid (Kd.R_below HRs.out (hF3.below (fun _ _ h => h)))
              have HF3 := Lib.hid hF3
              clear hok hF3
              go_wp2_with fail
              go_roundw
              case rel =>
                refine ⟨j + 1, by omega, by go_num, ?_, HGs.out.trans HF3.out⟩
                rw [HS2.out]; exact HR3.out
              case measure => simp [intOf]; omega
          · rw [cdec_false hkk] at hse
            have HS2 := Lib.hid (HSAME.out fun h => hkk h.1)
            clear hkk
            go_wp2_with fail
            go_roundw
            case rel =>
              refine ⟨j + 1, by omega, by go_num, ?_, HGs.out⟩
              rw [HS2.out]; exact HRs.out
            case measure => simp [intOf]; omega
        · obtain rfl : j = (itx L k).2.length := by omega
          have tjj : decide ((itx L k).2.length < (itx L k).2.length) = false := decide_eq_false (by omega)
          go_wp2_with fail
          go_roundw
          case rel =>
            refine ⟨k + 1, by omega, by go_num, ?_, ?_, HGs.out⟩
            · rw [HRS.out]; exact HRs.out
            · rw [HRS.out]
              show ((runB (L.take k)).1 ++ tagN (itx L k).1 (itx L k).2 (itx L k).2.length).length ≤ _
              rw [List.length_append, tagN_len]
              have h1 := HLE.out; have h2 := HI8.out; omega
          case measure => simp [intOf]; omega
    · obtain rfl : n = k := by omega
      have tnn : decide (n < n) = false := decide_eq_false (by omega)
      have hl : L.take n = L := by rw [← HLn.out]; exact List.take_length
      go_wp2_with fail
      go_ret
      exact ⟨_, rfl, by rw [← hl]; exact HR.out, HG.out⟩
end Go.Proofs.Ytepfhcimmbkilaa
/- All keys of items. -/
namespace Go.Proofs.Ytepfhcimmbkilaa
open Go.RowKit
open Go.Proofs.YtepfhcimmbkilaaW.PrintWords

def cmdsI (L : List Item) : List Cmd := L.flatMap (·.2)
theorem cmdsI_succ {L : List Item} {k : Nat} (h : k < L.length) : cmdsI (L.take (k + 1)) = cmdsI (L.take k) ++ (itx L k).2 := by
  unfold cmdsI
  rw [List.take_succ_eq_append_getElem h, List.flatMap_append, ← itx_eq h]
  simp
theorem cmdsI_len {L : List Item} (h8 : ∀ it ∈ L, it.2.length ≤ 8) : ∀ k, k ≤ L.length → (cmdsI (L.take k)).length ≤ 8 * k
  | 0, _ => by simp [cmdsI]
  | k + 1, h => by
    rw [cmdsI_succ (by omega), List.length_append]
    have h1 := cmdsI_len h8 k (by omega)
    have h2 := h8 _ (itx_mem (i := k) (by omega))
    omega
set_option maxRecDepth 100000 in
set_option maxHeartbeats 4000000 in
theorem ref_all13 (A : Option Addr) (n c : Nat) (L : List Item) (w : World) (hC : itemK.C w A n L) (hn : n ≤ 1000) (h8 : ∀ it ∈ L, it.2.length ≤ 8) :
    Calls Try.prog 14 #[.slice A n c] w fun r w' => ∃ v, r = .returned v ∧ strK.R 9 w' w.heap.size (fun b => w.heap.size ≤ b) v (keysR (cmdsI L)) ∧ Fr (fun _ => False) w w' := by
  have HLn := Lib.hid (show L.length = n from hC.1)
  have HC := Lib.hid hC
  have H8 := Lib.hid h8
  have HF := Lib.hid ((Fr.refl (fun _ => False) w).alloc (.cells #[] 37))
  have HR0 := Lib.hid (R_empty cmdK 37 w)
  clear hC h8
  go_enter Try.func14, Try.ntmps14
  go_wp2_with fail
  go_loopw [3, 4] (fun u i wr => ∃ k : Nat, k ≤ n ∧ i = .int .i64 k ∧ cmdK.R 37 wr w.heap.size (fun b => w.heap.size ≤ b) u (cmdsI (L.take k)) ∧ Fr (fun _ => False) w wr) (fun _ i _ => n - (intOf i).toNat)
  case atStart => exact ⟨0, Nat.zero_le _, rfl, HR0.out, HF.out⟩
  case round =>
    obtain ⟨k, hk, rfl, hR, hG⟩ := hrel
    have HG := Lib.hid hG
    have HR := Lib.hid hR
    clear hG hR
    rcases Nat.lt_or_ge k n with hlt | hge
    · obtain ⟨b, off, Ab, cb, rfl, hcb, hCw, h0w, h1w, h2w⟩ := items_at HC.out hlt
      have h0 := HG.out.cell h0w (fun h => h)
      have h1 := HG.out.cell h1w (fun h => h)
      have h2 := HG.out.cell h2w (fun h => h)
      have hC2 := Kd.C_below hCw (HG.out.below (fun _ _ h => h))
      have hl0 := cmdsI_len H8.out k (by rw [HLn.out]; exact hk)
      have hl8 := H8.out _ (itx_mem (i := k) (by rw [HLn.out]; exact hlt))
      have HSUC := Lib.hid (cmdsI_succ (L := L) (k := k) (by rw [HLn.out]; exact hlt))
      obtain ⟨v3, W3, hr3, hR3, hg3, _⟩ := R_rows_run (P := Try.prog) cmdK w.heap.size 28 28 37 _ 32 Try.underlying28 info_cmd rfl (by decide) (by decide) u3 (cmdsI (L.take k)) (itx L k).2 Ab (itx L k).2.length cb (fun b => w.heap.size ≤ b) (fun _ => False) HR.out hC2 (fun x cs h => by rw [cmdFlat.K h]; exact cmdFlat.M _ _ _ _) (fun _ h => h.elim) (fun b hb => Nat.le_trans HG.out.size hb) HG.out.size (by omega)
      have hr3' := bi_append hr3
      have HR3 := Lib.hid hR3
      have HG3 := Lib.hid hg3
      clear h0w h1w h2w hCw hC2 hl0 hl8 hR3 hg3 hr3
      go_wp2_with (at_builtin; refine wpl_builtin2 rfl rfl rfl rfl hr3' ?_)
      go_roundw
      case rel =>
        refine ⟨k + 1, by omega, by go_num, ?_, HG.out.trans' (Fr.of_grown HG3.out) (fun i hi h => by have := Kd.R_base HR.out i h.symm; omega)⟩
        rw [HSUC.out]; exact HR3.out
      case measure => simp [intOf]; omega
    · obtain rfl : n = k := by omega
      have tnn : decide (n < n) = false := decide_eq_false (by omega)
      have hl : L.take n = L := by rw [← HLn.out]; exact List.take_length
      have hR := HR.out
      rw [hl] at hR
      have hl0 := cmdsI_len H8.out n (by rw [HLn.out]; exact Nat.le_refl _)
      rw [hl] at hl0
      obtain ⟨A3, c3, rfl⟩ := Kd.R_slice hR
      have HCk := Lib.hid (Kd.R_reads' hR).2.2
      have HL0 := Lib.hid hl0
      clear hR hl0 hl
      go_wp2_with fail
      refine (ref_keys7 A3 (cmdsI L).length c3 (cmdsI L) wr HCk.out (by have := HL0.out; omega)).mono ?_
      rintro r w2 ⟨v, rfl, hR2, hF2⟩
      have HR2 := Lib.hid hR2
      have HF2 := Lib.hid hF2
      clear hR2 hF2
      go_wp2_with fail
      go_ret
      exact ⟨_, rfl, Kd.R_mono (Kd.R_lower HR2.out HG.out.size) (fun b hb => Nat.le_trans HG.out.size hb), HG.out.trans HF2.out⟩
end Go.Proofs.Ytepfhcimmbkilaa
/- Items: those that may be, in new rows; whether results are the same. -/
namespace Go.Proofs.Ytepfhcimmbkilaa
open Go.RowKit
open Go.Proofs.YtepfhcimmbkilaaW.PrintWords

theorem item_K {w : World} {a : Item} {A : Option Addr} {c : Nat} (hc : a.2.length ≤ c) (h : cmdK.C w A a.2.length a.2) : itemK.K w a (itemCells a A c) :=
  ⟨[.int .i64 a.1.1, .int .i64 a.1.2], [.slice A a.2.length c], rfl, idK.K_of_M (idK_M w 0 (fun _ => True) a.1), A, c, rfl, hc, h⟩
/-- Items whose batches lie where they came in. -/
abbrev itF (w0 : World) : Kd Item := Kd.fixed itemK w0
theorem itF_C {w0 w : World} (hb : Below w0.heap.size w0 w) {A : Option Addr} {n : Nat} {L : List Item} (h : (itF w0).C w A n L) : itemK.C w A n L :=
  Kd.C_read (d := itemK) (dm := itF w0) rfl (fun x cs hk => itemK.K_below hb hk) h
theorem info_it2 : (Try.prog.info? 30).map (fun i => (i.zero, i.size, i.bytes)) = some (some (.agg #[.int .i64 0, .int .i64 0, .slice none 0 0]), itemK.sz, 40) := by kernel_rfl
theorem goodI_succ {L : List Item} {k : Nat} (h : k < L.length) : goodI (L.take (k + 1)) = goodI (L.take k) ++ (if errBat (itx L k).2 = 0 then [itx L k] else []) := by
  rw [List.take_succ_eq_append_getElem h, ← itx_eq h]
  unfold goodI
  rw [List.filter_append]
  congr 1
  by_cases he : errBat (itx L k).2 = 0
  · rw [if_pos he, List.filter_cons_of_pos (by simpa using he)]; rfl
  · rw [if_neg he, List.filter_cons_of_neg (by simpa using he)]; rfl
theorem goodI_len (L : List Item) : (goodI L).length ≤ L.length := List.length_filter_le _ _
end Go.Proofs.Ytepfhcimmbkilaa
/- Two vaults behind items: what their being the same means. -/
namespace Go.Proofs.Ytepfhcimmbkilaa
open Go.RowKit
open Go.Proofs.YtepfhcimmbkilaaW.PrintWords

theorem Applied.yes {w w' : World} {S : Nat → Prop} {g m : Nat} {H : List HE} {id : Int × Int} {L : List Cmd} {r : Ending} (h : Applied w S g H m id L r w') (he : errBat L = 0) :
    ∃ v S', r = .returned (.tuple #[v, .int .i64 0]) ∧ VaultRep w' S' g (H ++ tagN id L L.length) (m + 1) ∧ (∀ b, S' b → S b ∨ w.heap.size ≤ b) ∧ Fr S w w' := by
  rcases h with ⟨_, v, S', h1, h2, h3, h4, _⟩ | ⟨h, _⟩
  · exact ⟨v, S', h1, h2, h3, h4⟩
  · exact absurd he h
theorem Applied.no {w w' : World} {S : Nat → Prop} {g m : Nat} {H : List HE} {id : Int × Int} {L : List Cmd} {r : Ending} (h : Applied w S g H m id L r w') (he : ¬ errBat L = 0) :
    r = .returned (.tuple #[.slice none 0 0, .int .i64 (errBat L)]) ∧ Fr (fun _ => False) w w' := by
  rcases h with ⟨h, _⟩ | ⟨_, h1, h2⟩
  · exact absurd h he
  · exact ⟨h1, h2⟩
theorem row_apply {w wr W2 : World} {e : TypeId} {base : Nat} {S1 S2 Q : Nat → Prop} {u : Value} {xs : List Item} (hR : (itF w).R e wr base (fun b => ¬ S1 b ∧ Q b) u xs) (hS2 : ∀ b, S2 b → S1 b ∨ wr.heap.size ≤ b) (hF : Fr S1 wr W2) : (itF w).R e W2 base (fun b => ¬ S2 b ∧ Q b) u xs :=
  Kd.R_mono (Kd.R_step (Kd.R_mono (Kd.R_bound hR) (ok' := fun b => (¬ S2 b ∧ Q b) ∧ ¬ S1 b) (fun b hb => ⟨⟨fun h => (hS2 b h).elim hb.1.1 (fun h => absurd hb.2.2.1 (by omega)), hb.1.2⟩, hb.1.1⟩)) (fun b hb hl => hF.block b hl hb.2)) (fun b hb => hb.1)
theorem itF_own {w0 w : World} {e : TypeId} {base : Nat} {ok : Nat → Prop} {v : Value} {xs : List Item} (h : (itF w0).R e w base ok v xs) : (itF w0).R e w base (fun b => v.ownBlock = some b) v xs := by
  obtain ⟨_, inner, hown, hr⟩ := h
  exact ⟨fun k hk => hk, inner, hown, hr.imp_ (fun x c h => h)⟩
/-- The first k items are applied to the vault at g; those that may be stand in the row u. W0: where the loop began; S0: the vault's blocks then; x: the row's. -/
def VRow (w W0 wr : World) (S0 : Nat → Prop) (x g : Nat) (L : List Item) (k : Nat) (u : Value) : Prop :=
  ∃ (S1 : Nat → Prop) (m : Nat), m ≤ k ∧ VaultRep wr S1 g (runI (L.take k)).1 m ∧ (∀ b, S1 b → S0 b ∨ W0.heap.size ≤ b) ∧ (itF w).R 30 wr w.heap.size (fun b => ¬ S1 b ∧ (b = x ∨ W0.heap.size ≤ b)) u (goodI (L.take k)) ∧ Fr (fun b => S0 b ∨ b = x) W0 wr
theorem VRow.start {w W0 : World} {S0 : Nat → Prop} {x g : Nat} (L : List Item) {u : Value} (h : VaultRep W0 S0 g [] 0) (hx : ¬ S0 x) (hR : (itF w).R 30 W0 w.heap.size (fun b => b = x) u []) : VRow w W0 W0 S0 x g L 0 u :=
  ⟨S0, 0, Nat.le_refl _, h, fun b h => .inl h, Kd.R_mono hR (fun b hb => ⟨by rw [hb]; exact hx, .inl hb⟩), Fr.refl _ _⟩
theorem own_new (b x : Nat) (h : (Value.slice (some ⟨x, 0, none⟩) 0 0).ownBlock = some b) : b = x := by
  simp [Value.ownBlock] at h
  omega

def PKey (a b : List Item) (key : ByteArray) : Prop := cellOf (runB a).1 key = cellOf (runB b).1 key ∧ logOf (runB a).1 key = logOf (runB b).1 key
theorem tagN_mem {id : Int × Int} {L : List Cmd} {e : HE} (h : e ∈ tagN id L L.length) : e.2.2 ∈ L := by
  unfold tagN at h
  obtain ⟨i, hi, rfl⟩ := List.mem_map.1 h
  have hl := List.mem_range.1 hi
  show cmx L i ∈ L
  rw [cmx_eq hl]
  exact List.getElem_mem hl
theorem runB_mem' : ∀ (L : List Item) (s : List HE × List Rs) (e : HE), e ∈ (L.foldl stepB s).1 → e ∈ s.1 ∨ e.2.2 ∈ cmdsI L := by
  intro L
  induction L with
  | nil => intro s e h; exact .inl h
  | cons it L ih =>
    intro s e h
    have hcm : cmdsI (it :: L) = it.2 ++ cmdsI L := rfl
    rw [hcm]
    rcases ih (stepB s it) e h with h | h
    · rcases List.mem_append.1 (show e ∈ s.1 ++ tagN it.1 it.2 it.2.length from h) with h | h
      · exact .inl h
      · exact .inr (List.mem_append_left _ (tagN_mem h))
    · exact .inr (List.mem_append_right _ h)
theorem runB_mem {L : List Item} {e : HE} (h : e ∈ (runB L).1) : e.2.2 ∈ cmdsI L := (runB_mem' L _ e h).elim (fun h => by cases h) id
theorem foldl_no (key : ByteArray) : ∀ (H : List HE) (c : CellD), (∀ e ∈ H, e.2.2.2.1 ≠ key) → H.foldl (cellStep key) c = c := by
  intro H
  induction H with
  | nil => intro c _; rfl
  | cons e H ih =>
    intro c h
    rw [List.foldl_cons, show cellStep key c e = c from by unfold cellStep; rw [cdec_false (h e (List.mem_cons_self ..))]; rfl]
    exact ih c (fun e' he' => h e' (List.mem_cons_of_mem _ he'))
theorem cellOf_no {H : List HE} {key : ByteArray} (h : ∀ e ∈ H, e.2.2.2.1 ≠ key) : cellOf H key = (false, 0) := foldl_no key H _ h
theorem logOf_none {H : List HE} {key : ByteArray} (h : ∀ e ∈ H, e.2.2.2.1 ≠ key) : logOf H key = [] := by
  unfold logOf
  rw [List.filter_eq_nil_iff.2 (fun e he => by rw [cdec_false (fun hw : wrote key e => h e he hw.1)]; decide)]
  rfl
theorem same_keys (a b : List Item) : (∀ s ∈ keysR (cmdsI (a ++ b)), PKey a b s) ↔ SameH (runB a).1 (runB b).1 := by
  constructor
  · intro h k
    by_cases hk : k ∈ keysR (cmdsI (a ++ b))
    · exact h k hk
    · have hcm : cmdsI (a ++ b) = cmdsI a ++ cmdsI b := List.flatMap_append
      have no : ∀ c ∈ cmdsI (a ++ b), c.2.1 ≠ k := fun c hc he => hk ((keysR_mem _ _).2 ⟨c, hc, he⟩)
      rw [hcm] at no
      have na : ∀ e ∈ (runB a).1, e.2.2.2.1 ≠ k := fun e he => no _ (List.mem_append_left _ (runB_mem he))
      have nb : ∀ e ∈ (runB b).1, e.2.2.2.1 ≠ k := fun e he => no _ (List.mem_append_right _ (runB_mem he))
      rw [cellOf_no na, cellOf_no nb, logOf_none na, logOf_none nb]
      exact ⟨rfl, rfl⟩
  · intro h s _
    exact h s
theorem SameH.symm {H H' : List HE} (h : SameH H H') : SameH H' H := fun k => ⟨(h k).1.symm, (h k).2.symm⟩
end Go.Proofs.Ytepfhcimmbkilaa
/- What just some commands make of a key: cell.Fold, fold.Only. -/
namespace Go.Proofs.Ytepfhcimmbkilaa
open Go.RowKit
open Go.Proofs.YtepfhcimmbkilaaW.PrintWords

noncomputable def foldC (L : List Cmd) : CellD := L.foldl (fun c x => (doC c x).1) (false, 0)
theorem foldC_snoc (L : List Cmd) (x : Cmd) : foldC (L ++ [x]) = (doC (foldC L) x).1 := by unfold foldC; rw [List.foldl_append]; rfl
theorem foldC_canon : ∀ (L : List Cmd) (c : CellD), (∀ x ∈ L, CmdGood x) → CellC c → CellC (L.foldl (fun c x => (doC c x).1) c)
  | [], c, _, hc => hc
  | x :: L, c, hL, hc => foldC_canon L _ (fun y hy => hL y (List.mem_cons_of_mem _ hy)) (doC_canon hc (hL x List.mem_cons_self)).1
theorem foldC_ok {L : List Cmd} (hL : ∀ x ∈ L, CmdGood x) : CellC (foldC L) := foldC_canon L _ hL ⟨cell0_ok, rfl⟩
theorem take_cmx {L : List Cmd} {k : Nat} (h : k < L.length) : L.take (k + 1) = L.take k ++ [cmx L k] := by rw [List.take_succ_eq_append_getElem h, cmx_eq h]
def selP (key : ByteArray) (W : List Wr) (id : Int × Int) (L : List Cmd) (i : Nat) : Prop := (cmx L i).2.1 = key ∧ ((id, (i : Int)) : Wr) ∈ W
noncomputable def selN (key : ByteArray) (W : List Wr) (id : Int × Int) (L : List Cmd) : Nat → List Cmd
  | 0 => []
  | k + 1 => selN key W id L k ++ (bif cdec (selP key W id L k) then [cmx L k] else [])
noncomputable def selI (key : ByteArray) (W : List Wr) (L : List Item) : Nat → List Cmd
  | 0 => []
  | k + 1 => selI key W L k ++ (if errBat (itx L k).2 = 0 then selN key W (itx L k).1 (itx L k).2 (itx L k).2.length else [])
theorem selN_good {key : ByteArray} {W : List Wr} {id : Int × Int} {L : List Cmd} (hL : ∀ x ∈ L, CmdGood x) : ∀ k, k ≤ L.length → (∀ x ∈ selN key W id L k, CmdGood x) ∧ (selN key W id L k).length ≤ k
  | 0, _ => ⟨fun x hx => absurd hx List.not_mem_nil, Nat.le_refl _⟩
  | k + 1, hk => by
    obtain ⟨h1, h2⟩ := selN_good (key := key) (W := W) (id := id) hL k (by omega)
    unfold selN
    cases cdec (selP key W id L k)
    · rw [cond_false, List.append_nil]; exact ⟨h1, by omega⟩
    · rw [cond_true]
      refine ⟨fun x hx => ?_, by rw [List.length_append, List.length_singleton]; omega⟩
      rcases List.mem_append.1 hx with hx | hx
      · exact h1 x hx
      · rw [List.mem_singleton.1 hx]; exact hL _ (cmx_mem (by omega))
theorem selI_good {key : ByteArray} {W : List Wr} {L : List Item} (hL : ItemsGood L) : ∀ k, k ≤ L.length → (∀ x ∈ selI key W L k, CmdGood x) ∧ (selI key W L k).length ≤ 8 * k
  | 0, _ => ⟨fun x hx => absurd hx List.not_mem_nil, Nat.le_refl _⟩
  | k + 1, hk => by
    obtain ⟨h1, h2⟩ := selI_good (key := key) (W := W) hL k (by omega)
    unfold selI
    split
    · rename_i he
      have hl := errBat_len he
      obtain ⟨h3, h4⟩ := selN_good (key := key) (W := W) (id := (itx L k).1) (hL _ (itx_mem (i := k) (by omega))) _ (Nat.le_refl _)
      refine ⟨fun x hx => (List.mem_append.1 hx).elim (h1 x) (h3 x), by rw [List.length_append]; omega⟩
    · rw [List.append_nil]; exact ⟨h1, by omega⟩
end Go.Proofs.Ytepfhcimmbkilaa
/- Layer 14's works; the law FoldPrefix. -/
namespace Go.Proofs.Ytepfhcimmbkilaa
open Go.RowKit
open Go.Proofs.YtepfhcimmbkilaaW.PrintWords

abbrev kA : ByteArray := ⟨#[97]⟩
abbrev one64 : Nat := 4607182418800017408
abbrev two64 : Nat := 4611686018427387904
abbrev c14a : Cmd := (2, kA, one64)
abbrev c14b : Cmd := (4, kA, one64)
abbrev B14 : List Cmd := [c14a, c14b]
abbrev L14 : List Item := [((1, 1), B14)]
theorem keyA : keyOk kA := by
  refine ⟨fun i h => ?_, by decide, by decide⟩
  have : i = 0 := by have : kA.size = 1 := rfl; omega
  subst this
  exact show charK 97 from .inl ⟨by decide, by decide⟩
theorem ok14a : cmdOk c14a := ⟨.inr (.inl rfl), keyA, fun h => by rcases h with h | h <;> cases h⟩
theorem ok14b : cmdOk c14b := ⟨.inr (.inr (.inr rfl)), keyA, fun h => by rcases h with h | h <;> cases h⟩
theorem bat14 : errBat B14 = 0 := errBat_ok (by decide) fun i hi => by
  have : i = 0 ∨ i = 1 := by have : B14.length = 2 := rfl; omega
  rcases this with rfl | rfl
  · exact ok14a
  · exact ok14b
theorem good14 : ItemsGood L14 := fun it hit x hx => by
  rw [List.mem_singleton.1 hit] at hx
  rcases List.mem_cons.1 hx with rfl | hx
  · exact ⟨by decide, by decide⟩
  · rw [List.mem_singleton.1 hx]; exact ⟨by decide, by decide⟩
theorem run14 : runI L14 = ([((1, 1), 0, c14a), ((1, 1), 1, c14b)], toldN [] (1, 1) B14 2) := by
  show stepI ([], []) ((1, 1), B14) = _
  unfold stepI
  rw [if_pos bat14]
  rfl
theorem sum14 : sumC (canonP one64) one64 = two64 := by decide +kernel
theorem can14 : canonP one64 = one64 := by decide +kernel
theorem cell14 : cellOf (runI L14).1 kA = (true, two64) := by
  rw [run14]
  show cellStep kA (cellStep kA (false, 0) ((1, 1), 0, c14a)) ((1, 1), 1, c14b) = _
  unfold cellStep
  rw [cdec_true rfl]
  show (doC (doC (false, 0) c14a).1 c14b).1 = _
  rw [doC_put ok14a rfl, doC_add ok14b rfl]
  exact congrArg (Prod.mk true) sum14
theorem log14 : logOf (runI L14).1 kA = [((1, 1), 0), ((1, 1), 1)] := by
  rw [run14]
  have h1 : logOf ([] ++ [((1, 1), 0, c14a)]) kA = logOf [] kA ++ [((1, 1), 0)] := logOf_yes ⟨rfl, ok14a, by decide⟩
  have h2 : logOf (([] ++ [((1, 1), 0, c14a)]) ++ [((1, 1), 1, c14b)]) kA = logOf ([] ++ [((1, 1), 0, c14a)]) kA ++ [((1, 1), 1)] := logOf_yes ⟨rfl, ok14b, by decide⟩
  rw [h1] at h2
  exact h2
theorem only14 : foldC (selI kA [((1, 1), 0)] L14 L14.length) = (true, one64) := by
  have h1 : selN kA [((1, 1), 0)] (1, 1) B14 2 = [c14a] := by
    show ([] ++ (bif cdec (selP kA [((1, 1), 0)] (1, 1) B14 0) then [c14a] else [])) ++ (bif cdec (selP kA [((1, 1), 0)] (1, 1) B14 1) then [c14b] else []) = _
    rw [cdec_true (show selP kA [((1, 1), 0)] (1, 1) B14 0 from ⟨rfl, by decide⟩), cdec_false (show ¬ selP kA [((1, 1), 0)] (1, 1) B14 1 from fun h => absurd h.2 (by decide))]
    rfl
  show foldC ([] ++ (if errBat B14 = 0 then selN kA [((1, 1), 0)] (1, 1) B14 2 else [])) = _
  rw [if_pos bat14, h1]
  show (doC (false, 0) c14a).1 = _
  rw [doC_put ok14a rfl]
  exact congrArg (Prod.mk true) can14
theorem feq_two (w : World) : (binOp .eql 35 (.float .f64 two64) (.float .f64 two64)).run Try.prog w = .ok (.bool true) w := by kernel_rfl
theorem feq_one (w : World) : (binOp .eql 35 (.float .f64 one64) (.float .f64 one64)).run Try.prog w = .ok (.bool true) w := by kernel_rfl
theorem field_two (w : World) : (Instr.field 53 (cellV (true, two64)) 1).run Try.prog w = .ok (.float .f64 two64) w := by kernel_rfl
theorem field_one (w : World) : (Instr.field 53 (cellV (true, one64)) 1).run Try.prog w = .ok (.float .f64 one64) w := by kernel_rfl
end Go.Proofs.Ytepfhcimmbkilaa
