/- Texts of VaultApplies, merged (28 of 33): Works13, Tells13. -/
import Derived.Test.YtepfhcimmbkilaaGVaultApplies17
import Derived.Test.YtepfhcimmbkilaaGVaultApplies27
import Derived.Test.YtepfhcimmbkilaaGVaultApplies21
import Derived.Test.YtepfhcimmbkilaaGVaultApplies26
import Derived.Test.YtepfhcimmbkilaaGVaultApplies16
import Derived.Test.YtepfhcimmbkilaaGVaultApplies23
set_option linter.unusedVariables false
set_option linter.unusedSimpArgs false
/- Layer 13's works. -/
namespace Go.Proofs.Ytepfhcimmbkilaa
open Go.RowKit
open Go.Proofs.YtepfhcimmbkilaaW.PrintWords

theorem vault_count (g n : Nat) (S : Nat → Prop) (H : List HE) (w : World) (h : VaultRep w S g H n) :
    Calls Try.prog 16 #[.pointer (some ⟨g, 0, none⟩)] w fun r w' => r = .returned (.int .i64 n) ∧ Fr (fun _ => False) w w' := by
  obtain ⟨mc, ml, F, Lh, hV⟩ := h
  have h2 : w.cell? ⟨g, 2, none⟩ = _ := hV.blk.cell 2
  clear hV
  go_enter Try.func16, Try.ntmps16
  go_wp2_with fail
  go_ret
  exact ⟨rfl, Fr.refl _ _⟩
abbrev c13a : Cmd := (2, kA, two64)
abbrev c13b : Cmd := (1, kA, 0)
abbrev B13 : List Cmd := [c13a, c13b]
theorem ok13a : cmdOk c13a := ⟨.inr (.inl rfl), keyA, fun h => by rcases h with h | h <;> cases h⟩
theorem ok13b : cmdOk c13b := ⟨.inl rfl, keyA, fun _ => rfl⟩
theorem bat13 : errBat B13 = 0 := errBat_ok (by decide) fun i hi => by
  have : i = 0 ∨ i = 1 := by have : B13.length = 2 := rfl; omega
  rcases this with rfl | rfl
  · exact ok13a
  · exact ok13b
theorem good13 : ∀ x ∈ B13, CmdGood x := fun x hx => by
  rcases List.mem_cons.1 hx with rfl | hx
  · exact ⟨by decide, by decide⟩
  · rw [List.mem_singleton.1 hx]; exact ⟨by decide, by decide⟩
theorem can13 : canonP two64 = two64 := by decide +kernel
theorem tag13 : ([] : List HE) ++ tagN (1, 1) B13 2 = [((1, 1), 0, c13a), ((1, 1), 1, c13b)] := rfl
theorem cell13a : cellOf [((1, 1), 0, c13a)] kA = (true, two64) := by
  show cellStep kA (false, 0) ((1, 1), 0, c13a) = _
  unfold cellStep
  rw [cdec_true rfl]
  show (doC (false, 0) c13a).1 = _
  rw [doC_put ok13a rfl]
  exact congrArg (Prod.mk true) can13
theorem cell13 : cellOf [((1, 1), 0, c13a), ((1, 1), 1, c13b)] kA = (true, two64) := by
  have h := cellOf_snoc [((1, 1), 0, c13a)] ((1, 1), 1, c13b) kA
  rw [cell13a] at h
  refine h.trans ?_
  unfold cellStep
  rw [cdec_true rfl]
  show (doC (true, two64) c13b).1 = _
  rw [doC_get ok13b rfl]
theorem log13 : (logOf [((1, 1), 0, c13a), ((1, 1), 1, c13b)] kA).length = 1 := by
  have h1 : logOf ([] ++ [((1, 1), 0, c13a)]) kA = logOf [] kA ++ [((1, 1), 0)] := logOf_yes ⟨rfl, ok13a, by decide⟩
  have h2 : logOf (([] ++ [((1, 1), 0, c13a)]) ++ [((1, 1), 1, c13b)]) kA = logOf ([] ++ [((1, 1), 0, c13a)]) kA := logOf_no fun h => h.2.2 rfl
  rw [h1] at h2
  exact (congrArg List.length h2).trans rfl
theorem told13 : toldN [] (1, 1) B13 2 = [((1, 1), 0, (false, 0)), ((1, 1), 1, (true, two64))] := by
  show [((1, 1), ((0 : Nat) : Int), (doC (cellOf ([] ++ tagN (1, 1) B13 0) kA) c13a).2), ((1, 1), ((1 : Nat) : Int), (doC (cellOf [((1, 1), 0, c13a)] kA) c13b).2)] = _
  rw [doC_put ok13a rfl, cell13a, doC_get ok13b rfl]
  rfl
set_option maxRecDepth 100000 in
set_option maxHeartbeats 4000000 in
theorem works13 (w : World) : Calls Try.prog 5 #[] w fun r w' => r = .returned (.bool true) ∧ Fr (fun _ => False) w w' := by
  have hf2 := feq_two
  have hd2 := field_two
  go_enter Try.func5, Try.ntmps5
  go_wp2_with fail
  refine (vault_new w).mono ?_
  rintro r w1 ⟨g, S, rfl, hV, hS, hF⟩
  have HV := Lib.hid hV
  have HS := Lib.hid hS
  have HF := Lib.hid hF
  clear hV hS hF
  go_wp2_with fail
  have hb1 := Blk.new w1 37 #[.int .i64 2, .string kA, .float .f64 two64, .int .i64 1, .string kA, .float .f64 0]
  have hF1 := (Fr.refl (fun _ => False) w1).alloc (.cells #[.int .i64 2, .string kA, .float .f64 two64, .int .i64 1, .string kA, .float .f64 0] 37)
  have hV1 := HV.out.fr hF1 (fun _ _ h => h)
  have hlt := HV.out.lt
  refine (vault_apply (1, 1) (some ⟨w1.heap.size, 0, none⟩) 2 2 B13 g 0 S [] _ hV1 (cmdFlat.blk_C (L := B13) hb1 (by decide)) (fun _ ad ha hs => by cases ha; exact absurd (hlt _ hs) (by simp)) good13 (fun _ h => by cases h) (by decide) (by decide)).mono ?_
  rintro r W2 (⟨he, v, S2, rfl, hV2, hS2, hF2, hR2⟩ | ⟨he, rfl, hF2⟩)
  · obtain ⟨A2, c2, rfl⟩ := Kd.R_slice hR2
    rw [show B13.length = 2 from rfl, told13] at hR2
    rw [show (toldN [] (1, 1) B13 B13.length).length = 2 from rfl]
    have hC2 : resK.C W2 A2 2 _ := (Kd.R_reads' hR2).2.2
    obtain ⟨b, off, rfl, _, _, _, k3, _⟩ := ress_at hC2 (i := 0) (by decide)
    obtain ⟨b', off', he', _, _, _, _, m4⟩ := ress_at hC2 (i := 1) (by decide)
    cases he'
    have hVt : VaultRep W2 S2 g [((1, 1), 0, c13a), ((1, 1), 1, c13b)] 1 := hV2
    have HV2 := Lib.hid hVt
    have hFa := Lib.hid ((HF.out.trans hF1).trans' hF2 (fun i hi h => by have := HS.out i h; omega))
    clear hV2 hF2 hR2 hC2 hb1 hF1 hV1 hlt hS2 hVt he
    replace k3 : W2.cell? ⟨b, off + 3, none⟩ = some (.bool false) := by rw [Nat.zero_mul, Nat.add_zero] at k3; exact k3
    replace m4 : W2.cell? ⟨b, off + 5 + 3 + 1, none⟩ = some (.float .f64 two64) := by rw [Nat.one_mul] at m4; exact m4
    go_wp2_with fail
    refine (vault_get g 1 S2 _ kA W2 HV2.out (by decide)).mono ?_
    rintro r W3 ⟨rfl, hF3⟩
    rw [cell13]
    have HF3 := Lib.hid hF3
    clear hF3
    go_wp2_with fail
    refine (vault_log g 1 S2 _ kA W3 (HV2.out.fr HF3.out (fun _ _ h => h)) (by decide) (by decide)).mono ?_
    rintro r W4 ⟨v4, rfl, hR4, hF4⟩
    obtain ⟨A4, c4, rfl⟩ := Kd.R_slice hR4
    rw [log13]
    have HF4 := Lib.hid (HF3.out.trans hF4)
    clear hF4 hR4
    go_wp2_with fail
    refine (vault_count g 1 S2 _ W4 (HV2.out.fr HF4.out (fun _ _ h => h))).mono ?_
    rintro r W5 ⟨rfl, hF5⟩
    have HF5 := Lib.hid (HF4.out.trans hF5)
    clear hF5
    go_wp2_with fail
    go_ret
    exact ⟨rfl, hFa.out.trans HF5.out⟩
  · exact absurd bat13 he
end Go.Proofs.Ytepfhcimmbkilaa
/- Has a vault what items make, and does one of items write? -/
namespace Go.Proofs.Ytepfhcimmbkilaa
open Go.RowKit
open Go.Proofs.YtepfhcimmbkilaaW.PrintWords

theorem runB_good {L : List Item} (hL : ItemsGood L) : HGood (runB L).1 := by
  have := runB_take hL L.length (Nat.le_refl _)
  rwa [List.take_length] at this
def Wrote (H : List HE) : Prop := ∃ s, logOf H s ≠ []
theorem wrote_none {H : List HE} (h : ¬ Wrote H) (s : ByteArray) : logOf H s = [] := Classical.byContradiction fun hn => h ⟨s, hn⟩
set_option maxRecDepth 100000 in
set_option maxHeartbeats 8000000 in
theorem tells13 (g : Nat) (S : Nat → Prop) (A : Option Addr) (n c : Nat) (L : List Item) (key : ByteArray) (w : World) (hV : VaultRep w S g (runB L).1 n) (hC : itemK.C w A n L) (hL : ItemsGood L) (hn : n ≤ 20) (h8 : ∀ it ∈ L, it.2.length ≤ 8) (hk : key.size ≤ maxLen) :
    Calls Try.prog 12 #[.pointer (some ⟨g, 0, none⟩), .slice A n c, .string key] w fun r w' => r = .returned (.bool true) ∧ Fr (fun _ => False) w w' := by
  have hHl := runB_len8 h8
  rw [show L.length = n from hC.1] at hHl
  have HC := Lib.hid hC
  have HV := Lib.hid hV
  have HO := Lib.hid hL
  have H8 := Lib.hid h8
  have HGD := Lib.hid (runB_good hL)
  have HHL := Lib.hid hHl
  clear hC hV hL h8 hHl
  go_enter Try.func12, Try.ntmps12
  go_wp2_with fail
  refine (vault_get g n S _ key w HV.out hk).mono ?_
  rintro r w1 ⟨rfl, hF⟩
  have F1 := Lib.hid hF
  clear hF
  go_wp2_with fail
  refine (ref_cell13 A n c L key w1 (Kd.C_below HC.out (F1.out.below (fun _ _ h => h))) HO.out (by omega)).mono ?_
  rintro r w2 ⟨u, rfl, hu, huo, hF⟩
  have F2 := Lib.hid (F1.out.trans hF)
  clear hF
  obtain ⟨u0, hu0⟩ : ∃ x, x = cellOf (runB L).1 key := ⟨_, rfl⟩
  have hcc := cellOf_canon HGD.out key
  rw [← hu0] at hu hcc ⊢
  have huu := Lib.hid (hcc.2.trans hu.symm)
  have huo := Lib.hid huo
  have hcc := Lib.hid hcc
  clear hu hu0
  go_wp2_with fail
  refine (ref_cell_same u0 u w2 hcc.out.1 huo.out).mono ?_
  rintro r w3 ⟨rfl, hF⟩
  rw [decide_eq_true huu.out]
  have F3 := Lib.hid (F2.out.trans hF)
  clear hF huu huo hcc
  go_wp2_with fail
  refine (vault_keys g n S _ w3 (HV.out.fr F3.out (fun _ _ h => h)) (by have := HHL.out; omega)).mono ?_
  rintro r w4 ⟨v1, ks1, rfl, hR1, hK1, hF⟩
  obtain ⟨A1, c1, rfl⟩ := Kd.R_slice hR1
  have HR1 := Lib.hid hR1
  have F4 := Lib.hid (F3.out.trans hF)
  clear hF hR1
  go_wp2_with fail
  refine (ref_keys13 A n c L w4 (Kd.C_below HC.out (F4.out.below (fun _ _ h => h))) HO.out (by omega) H8.out).mono ?_
  rintro r w5 ⟨v2, ks2, rfl, hR2, hK2, hF⟩
  obtain ⟨A2, c2, rfl⟩ := Kd.R_slice hR2
  obtain rfl : ks1 = ks2 := hK1.one hK2 (fun _ => rfl)
  have HL1 := Lib.hid (hK1.len)
  have HC1 := Lib.hid (Kd.C_below (Kd.R_reads' HR1.out).2.2 (hF.below (fun _ _ h => h)))
  have HC2 := Lib.hid (Kd.R_reads' hR2).2.2
  have F5 := Lib.hid (F4.out.trans hF)
  clear hF hR2 hK1 hK2 HR1
  go_wp2_with fail
  refine (ref_sameTexts A1 A2 _ c1 _ c2 ks1 ks1 w5 HC1.out HC2.out (by have := HL1.out; have := HHL.out; omega) (by have := HL1.out; have := HHL.out; omega)).mono ?_
  rintro r w6 ⟨rfl, hF⟩
  rw [decide_eq_true rfl]
  have F6 := Lib.hid (F5.out.trans hF)
  clear hF HC1 HC2 HL1
  go_wp2_with fail
  refine (vault_log g n S _ key w6 (HV.out.fr F6.out (fun _ _ h => h)) hk (by have := HHL.out; omega)).mono ?_
  rintro r w7 ⟨v3, rfl, hR3, hF⟩
  obtain ⟨A3, c3, rfl⟩ := Kd.R_slice hR3
  have HR3 := Lib.hid hR3
  have F7 := Lib.hid (F6.out.trans hF)
  have HLG := Lib.hid (logOf_len (runB L).1 key)
  clear hF hR3
  go_wp2_with fail
  refine (ref_log13 A n c L key w7 (Kd.C_below HC.out (F7.out.below (fun _ _ h => h))) HO.out (by omega) H8.out).mono ?_
  rintro r w8 ⟨v4, rfl, hR4, hF⟩
  obtain ⟨A4, c4, rfl⟩ := Kd.R_slice hR4
  have HC3 := Lib.hid (Kd.C_below (Kd.R_reads' HR3.out).2.2 (hF.below (fun _ _ h => h)))
  have HC4 := Lib.hid (Kd.R_reads' hR4).2.2
  have F8 := Lib.hid (F7.out.trans hF)
  clear hF hR4 HR3
  go_wp2_with fail
  refine (ref_sameLog A3 A4 _ c3 _ c4 _ _ w8 HC3.out HC4.out (by have := HLG.out; have := HHL.out; omega) (by have := HLG.out; have := HHL.out; omega)).mono ?_
  rintro r w9 ⟨rfl, hF⟩
  rw [decide_eq_true rfl]
  have F9 := Lib.hid (F8.out.trans hF)
  clear hF HC3 HC4 HLG
  go_wp2_with fail
  refine (vault_count g n S _ w9 (HV.out.fr F9.out (fun _ _ h => h))).mono ?_
  rintro r w10 ⟨rfl, hF⟩
  have F10 := Lib.hid (F9.out.trans hF)
  clear hF
  go_wp2_with fail
  refine (vault_digest g n S _ w10 (HV.out.fr F10.out (fun _ _ h => h)) HGD.out (by have := HHL.out; omega)).mono ?_
  rintro r w11 ⟨k1, hK1, rfl, hF⟩
  have F11 := Lib.hid (F10.out.trans hF)
  have HK1 := Lib.hid hK1
  obtain ⟨d1, hd1⟩ : ∃ d, d = digV (runB L).1 k1 := ⟨_, rfl⟩
  rw [← hd1]
  have HD1 := Lib.hid hd1
  clear hF hd1 hK1
  go_wp2_with fail
  refine (ref_digest13 A n c L w11 (Kd.C_below HC.out (F11.out.below (fun _ _ h => h))) HO.out (by omega) H8.out).mono ?_
  rintro r w12 ⟨k2, hK2, rfl, hF⟩
  obtain rfl : k1 = k2 := HK1.out.one hK2 (fun _ => rfl)
  rw [← HD1.out]
  have F12 := Lib.hid (F11.out.trans hF)
  clear hF hK2
  go_wp2_with fail
  go_ret
  exact ⟨rfl, F12.out⟩
set_option maxRecDepth 100000 in
set_option maxHeartbeats 8000000 in
theorem some13 (A : Option Addr) (n c : Nat) (L : List Item) (w : World) (hC : itemK.C w A n L) (hL : ItemsGood L) (hn : n ≤ 1000) (h8 : ∀ it ∈ L, it.2.length ≤ 8) :
    Calls Try.prog 15 #[.slice A n c] w fun r w' => r = .returned (.bool (cdec (Wrote (runB L).1))) ∧ Fr (fun _ => False) w w' := by
  have HLn := Lib.hid (show L.length = n from hC.1)
  have HC := Lib.hid hC
  have HO := Lib.hid hL
  have H8 := Lib.hid h8
  obtain ⟨res, hres⟩ : ∃ r, r = cdec (Wrote (runB L).1) := ⟨_, rfl⟩
  rw [← hres]
  have HRES := Lib.hid hres
  clear hC hL h8 hres
  go_enter Try.func15, Try.ntmps15
  go_wp2_with fail
  refine (ref_all13 A n c L w HC.out hn H8.out).mono ?_
  rintro r w1 ⟨v1, rfl, hR1, hF1⟩
  obtain ⟨A1, c1, rfl⟩ := Kd.R_slice hR1
  have hkl := keysI_len H8.out
  rw [HLn.out] at hkl
  have HKM := Lib.hid (show ∀ s, logOf (runB L).1 s ≠ [] → s ∈ keysR (cmdsI L) from fun s hs => by
    rw [keysR_mem]
    refine Classical.byContradiction fun hn => hs (logOf_none fun e he hk => hn ⟨e.2.2, runB_mem he, hk⟩))
  obtain ⟨K, hK⟩ : ∃ K, K = keysR (cmdsI L) := ⟨_, rfl⟩
  rw [← hK] at hR1 hkl HKM ⊢
  have HCK := Lib.hid (Kd.R_reads' hR1).2.2
  have HF1 := Lib.hid hF1
  have HLB := Lib.hid (fun s => logOf_len (runB L).1 s)
  have HRL := Lib.hid (runB_len8 H8.out)
  clear hR1 hF1 hK
  go_wp2_with fail
  go_loopw [4] (fun i wr => ∃ k : Nat, k ≤ K.length ∧ i = .int .i64 k ∧ (∀ s ∈ K.take k, logOf (runB L).1 s = []) ∧ Fr (fun _ => False) w1 wr) (fun i _ => K.length - (intOf i).toNat)
  case atStart => exact ⟨0, Nat.zero_le _, rfl, (fun s hs => by cases hs), Fr.refl _ _⟩
  case round =>
    obtain ⟨k, hk, rfl, hz, hG⟩ := hrel
    have HZ := Lib.hid hz
    have HG := Lib.hid hG
    clear hz hG
    rcases Nat.lt_or_ge k K.length with hlt | hge
    · obtain ⟨b, off, rfl, h0⟩ := strs_at (Kd.C_below HCK.out (HG.out.below (fun _ _ h => h))) hlt
      have HTK := Lib.hid (take_stx hlt)
      obtain ⟨s, hs⟩ : ∃ s, s = stx K k := ⟨_, rfl⟩
      rw [← hs] at h0 HTK
      clear hs
      have HGw := Lib.hid (HF1.out.trans HG.out)
      go_wp2_with fail
      refine (ref_log13 A n c L s wr (Kd.C_below HC.out (HGw.out.below (fun _ _ h => h))) HO.out hn H8.out).mono ?_
      rintro r w2 ⟨v2, rfl, hR2, hF2⟩
      obtain ⟨A2, c2, rfl⟩ := Kd.R_slice hR2
      have HG2 := Lib.hid (HG.out.trans hF2)
      obtain ⟨lg, hlg⟩ : ∃ lg, lg = logOf (runB L).1 s := ⟨_, rfl⟩
      rw [← hlg]
      have HLG := Lib.hid hlg
      have hll := HLB.out s
      rw [← hlg] at hll
      have hrl := HRL.out
      rw [HLn.out] at hrl
      obtain ⟨m, hm⟩ : ∃ m, m = lg.length := ⟨_, rfl⟩
      rw [← hm] at hll ⊢
      have hmb : m ≤ 8000 := by omega
      have HM := Lib.hid hm
      clear hR2 hF2 hlg hll hrl hm
      rcases Nat.eq_zero_or_pos m with hz | hp
      · subst hz
        go_wp2_with fail
        go_roundw
        case rel =>
          refine ⟨k + 1, by omega, by go_num, fun s' hs' => ?_, HG2.out⟩
          rw [HTK.out] at hs'
          rcases List.mem_append.1 hs' with hs' | hs'
          · exact HZ.out s' hs'
          · cases List.mem_singleton.1 hs'
            rw [← HLG.out]
            exact List.eq_nil_of_length_eq_zero HM.out.symm
        case measure => simp [intOf]; omega
      · have tp : decide ((0 : Int) < (m : Int)) = true := decide_eq_true (by omega)
        have tp' : decide (0 < m) = true := decide_eq_true hp
        have hrt : res = true := by
          rw [HRES.out]
          refine cdec_true ⟨s, fun hn => ?_⟩
          rw [← HLG.out] at hn
          have := HM.out
          rw [hn] at this
          exact absurd this (by simp; omega)
        have HRT := Lib.hid hrt
        clear hrt
        go_wp2_with fail
        go_ret
        exact ⟨by rw [HRT.out]; rfl, HF1.out.trans HG2.out⟩
    · obtain rfl : k = K.length := by omega
      have tkk : decide (K.length < K.length) = false := decide_eq_false (by omega)
      have hrt : res = false := by
        rw [HRES.out]
        refine cdec_false fun ⟨s, hs⟩ => hs ?_
        have := HKM.out s hs
        have h2 := HZ.out
        rw [List.take_length] at h2
        exact h2 s this
      have HRT := Lib.hid hrt
      clear hrt
      go_wp2_with fail
      go_ret
      exact ⟨by rw [HRT.out]; rfl, HF1.out.trans HG.out⟩
end Go.Proofs.Ytepfhcimmbkilaa
