/- Texts of VaultApplies, merged (32 of 33): Applies13. -/
import Derived.Test.YtepfhcimmbkilaaGVaultApplies31
set_option linter.unusedVariables false
set_option linter.unusedSimpArgs false
/- VaultApplies' walk. -/
namespace Go.Proofs.Ytepfhcimmbkilaa
open Go.RowKit
open Go.Proofs.YtepfhcimmbkilaaW.PrintWords

theorem wrap64_in (j : Int) (h0 : -9223372036854775808 ≤ j) (h1 : j ≤ 9223372036854775807) : IntKind.i64.wrap j = j := by
  simp only [IntKind.wrap, IntKind.signed, IntKind.bits]
  first | omega | go_num
abbrev c77 : Cmd := (2, kA, 4635118810238550016)
theorem good77 : ∀ x ∈ [c77], CmdGood x := fun x hx => by
  rw [List.mem_singleton.1 hx]; exact ⟨by decide, by decide⟩
set_option maxRecDepth 100000 in
set_option maxHeartbeats 16000000 in
theorem lawApplies13 (A : Option Addr) (n c : Nat) (L : List Item) (key : ByteArray) (tw : Int) (w : World) (hC : itemK.C w A n L) (hL : ItemsGood L) (hk : key.size ≤ maxLen) (htw0 : 0 ≤ tw) (htw1 : tw ≤ 255) :
    Calls Try.prog 3 #[.slice A n c, .string key, .int .u8 tw] w fun r w' => r = .returned (.bool true) ∧ Fr (fun _ => False) w w' := by
  have hmx : n ≤ 9223372036854775807 := hC.2.1
  have HLn := Lib.hid (show L.length = n from hC.1)
  have HC := Lib.hid hC
  have HO := Lib.hid hL
  clear hC hL
  rcases Nat.lt_or_ge 20 n with hb1 | hb1
  · have t1 : decide ((20 : Int) < (n : Int)) = true := decide_eq_true (by omega)
    have t1' : decide (20 < n) = true := decide_eq_true (by omega)
    go_enter Try.func3, Try.ntmps3
    go_wp2_with fail
    refine (works13 _).mono ?_
    rintro e w1 ⟨rfl, hF1⟩
    go_wp2_with fail
    go_ret
    exact ⟨rfl, hF1⟩
  · have t1 : decide ((20 : Int) < (n : Int)) = false := decide_eq_false (by omega)
    have t1' : decide (20 < n) = false := decide_eq_false (by omega)
    go_enter Try.func3, Try.ntmps3
    go_wp2_with fail
    refine (vault_new w).mono ?_
    rintro r w1 ⟨g0, S0, rfl, hV, hS, hF⟩
    have HV0 := Lib.hid (hV.fr ((Fr.refl (fun _ => False) w1).alloc (.cells #[] 30)) (fun _ _ h => h))
    have HS0 := Lib.hid hS
    have HF0 := Lib.hid (hF.alloc (.cells #[] 30))
    have HR0 := Lib.hid (Kd.R_mono (Kd.R_lower (R_empty (itF w) 30 w1) hF.size) (ok' := fun b => ¬ S0 b ∧ w.heap.size ≤ b) (fun b hb => ⟨fun h => absurd (hV.lt b h) (by omega), Nat.le_trans hF.size hb⟩))
    clear hV hS hF t1 t1'
    go_wp2_with fail
    go_loopw [7, 8, 9] (fun v u i wr => ∃ (k g : Nat) (S1 : Nat → Prop), k ≤ n ∧ i = .int .i64 k ∧ v = .pointer (some ⟨g, 0, none⟩) ∧ VaultRep wr S1 g (runB (goodI (L.take k))).1 (goodI (L.take k)).length ∧ (∀ b, S1 b → w.heap.size ≤ b) ∧ (itF w).R 30 wr w.heap.size (fun b => ¬ S1 b ∧ w.heap.size ≤ b) u (goodI (L.take k)) ∧ Fr (fun _ => False) w wr) (fun _ _ i _ => n - (intOf i).toNat)
    case atStart => exact ⟨0, g0, S0, Nat.zero_le _, rfl, rfl, HV0.out, HS0.out, HR0.out, HF0.out⟩
    case round =>
      clear HV0 HS0 HR0 HF0
      obtain ⟨k, g, S, hk9, rfl, rfl, hV, hS, hR, hG⟩ := hrel
      have hgl := goodI_len (L.take k)
      rw [List.length_take] at hgl
      have HGI := Lib.hid (show ItemsGood (goodI (L.take k)) from goodI_good (fun it hi => HO.out it (List.mem_of_mem_take hi)))
      have HVA := Lib.hid (show ∀ it ∈ goodI (L.take k), errBat it.2 = 0 from fun it hi => by simpa using (List.mem_filter.1 hi).2)
      obtain ⟨D, hD⟩ : ∃ D, D = goodI (L.take k) := ⟨_, rfl⟩
      rw [← hD] at hV hR HGI HVA hgl
      have HD := Lib.hid hD
      have hdk : D.length ≤ k := by omega
      have H8 := Lib.hid (show ∀ it ∈ D, it.2.length ≤ 8 from fun it hi => errBat_len (HVA.out it hi))
      have hHL := runB_len8 H8.out
      have HHL := Lib.hid (show (runB D).1.length ≤ 160 from by omega)
      have HGH := Lib.hid (runB_good HGI.out)
      have HDK := Lib.hid hdk
      have HV := Lib.hid hV
      have HS := Lib.hid hS
      have HR := Lib.hid hR
      have HG := Lib.hid hG
      clear hV hS hR hG hgl hD hdk hHL
      rcases Nat.lt_or_ge k n with hlt | hge
      · obtain ⟨b, off, Ab, cb, rfl, hcb, hCw, h0w, h1w, h2w⟩ := items_at HC.out hlt
        have HSU := Lib.hid (goodI_succ (L := L) (k := k) (by rw [HLn.out]; exact hlt))
        have HGD := Lib.hid (HO.out _ (itx_mem (i := k) (by rw [HLn.out]; exact hlt)))
        have HK := Lib.hid (item_K hcb hCw)
        have HCw := Lib.hid hCw
        have H0 := Lib.hid h0w
        have H1 := Lib.hid h1w
        have H2 := Lib.hid h2w
        obtain ⟨it, hit⟩ : ∃ it, it = itx L k := ⟨_, rfl⟩
        rw [← hit] at hcb HSU HGD HK HCw H0 H1 H2
        have c2 := HG.out.cell H2.out (fun h => h)
        clear hCw h0w h1w h2w hit hcb
        rcases Nat.lt_or_ge 20 it.2.length with hb2 | hb2
        · have t2 : decide ((20 : Int) < (it.2.length : Int)) = true := decide_eq_true (by omega)
          have t2' : decide (20 < it.2.length) = true := decide_eq_true (by omega)
          go_wp2_with fail
          refine (works13 _).mono ?_
          rintro e w9 ⟨rfl, hF9⟩
          go_wp2_with fail
          go_ret
          exact ⟨rfl, HG.out.trans hF9⟩
        · have t2 : decide ((20 : Int) < (it.2.length : Int)) = false := decide_eq_false (by omega)
          have t2' : decide (20 < it.2.length) = false := decide_eq_false (by omega)
          have HB20 := Lib.hid hb2
          have twr : IntKind.i64.wrap tw = tw := wrap64_in tw (by omega) (by omega)
          clear hb2
          by_cases hq : (k : Int) = tw
          · have tq : decide ((k : Int) = tw) = true := decide_eq_true hq
            have tqb : ((k : Int) == tw) = true := by simpa using hq
            clear hq
            go_wp2_with fail
            refine (vault_twin g D.length S (runB D).1 wr HV.out (by have := HHL.out; omega)).mono ?_
            rintro r w4 ⟨g4, S4, rfl, hV4, hS4, hF4⟩
            have hb5 := Blk.new w4 37 #[.int .i64 2, .string kA, .float .f64 4635118810238550016]
            have hF5 := (Fr.refl (fun _ => False) w4).alloc (.cells #[.int .i64 2, .string kA, .float .f64 4635118810238550016] 37)
            have HVo := Lib.hid ((HV.out.fr hF4 (fun _ _ h => h)).fr hF5 (fun _ _ h => h))
            have HV4 := Lib.hid hV4
            have HS4 := Lib.hid hS4
            have HF4 := Lib.hid (hF4.trans hF5)
            have HV5 := Lib.hid (hV4.fr hF5 (fun _ _ h => h))
            have HB5 := Lib.hid hb5
            have HSL := Lib.hid hF4.size
            clear hV4 hS4 hF4 hb5 hF5
            go_wp2_with fail
            refine (vault_apply (0, 0) (some ⟨w4.heap.size, 0, none⟩) 1 1 [c77] g D.length S (runB D).1 _ HVo.out (cmdFlat.blk_C (L := [c77]) HB5.out (by decide)) (fun _ ad ha hs => by cases ha; exact absurd (HV.out.lt _ hs) (by have := HSL.out; simp; omega)) good77 HGH.out (by have := HDK.out; omega) (by have := HHL.out; omega)).mono ?_
            rintro r W hAp
            obtain ⟨vo, So, rfl, _, _, hFo, _⟩ := hAp.both2 HVo.out
            have hFw : Fr S wr W := (HF4.out.mono (fun _ _ h => h.elim)).trans' hFo (fun i hi h => h)
            have HV6 := Lib.hid (HV5.out.fr hFo (fun b h4 h => by have h1 := HS4.out b h4; have h2 := HV.out.lt b h; omega))
            have HS6 := Lib.hid (show ∀ b, S4 b → w.heap.size ≤ b from fun b hb => Nat.le_trans HG.out.size (HS4.out b hb))
            have HR6 := Lib.hid (Kd.R_mono (row_apply (S2 := S) HR.out (fun b hb => .inl hb) hFw) (ok' := fun b => w.heap.size ≤ b) (fun b hb => hb.2))
            have HR6 := Lib.hid (show (itF w).R 30 W w.heap.size (fun b => ¬ S4 b ∧ w.heap.size ≤ b) u8 D from Kd.R_mono (Kd.R_step (Kd.R_bound HR.out) (fun b hb hl => hFw.block b hl hb.1.1)) (fun b hb => ⟨fun h => by have h1 := HS4.out b h; have h2 := hb.2.2.1; omega, hb.1.2⟩))
            have HG6 := Lib.hid (HG.out.trans' hFw (fun i hi h => by have := HS.out i h; omega))
            clear hAp hFo hFw HVo HV4 HF4 HV5 HB5 HSL tq tqb twr t2 t2'
            have HCb := Lib.hid (Kd.C_below HCw.out (HG6.out.below (fun _ _ h => h)))
            obtain ⟨St, hSt⟩ : ∃ St : World → Prop, St = Fr S4 W := ⟨_, rfl⟩
            have HT := Lib.hid (show ∀ w', Fr S4 W w' → At St w' from fun w' h => by unfold At; rw [hSt]; exact h)
            have lift : ∀ (q : Addr) (u : Value), w.cell? q = some u → ∀ w', At St w' → w'.cell? q = some u := fun q u hq w' h => by replace h := h.out; rw [hSt] at h; exact h.cell (HG6.out.cell hq (fun h => h)) (fun hs => by have h1 := World.block_lt_of_cell? w _ hq; have h2 := HS6.out _ hs; omega)
            have l0 := lift _ _ H0.out
            have l1 := lift _ _ H1.out
            have l2 := lift _ _ H2.out
            have hFr := (Fr.refl (fun _ => False) W).drew
            have hT0 := HT.out _ (hFr.mono (fun _ _ h => h.elim))
            clear lift hSt
            go_wp2_with fail
            refine rt_start [] (At St) 19 (by kernel_rfl) rfl ?_
            generalize W.drew = Wn at hFr hT0 ⊢
            refine rt_free 0 (v := ?_) rfl (by kernel_rfl) (by kernel_rfl) (by kernel_rfl) (by kernel_rfl) (fun _ _ _ h => h) (by rfl) (fun _ => by first | assumption | exact HS0 _ rfl | exact HT.out _ (by repeat (first | exact Fr.refl _ _ | apply Fr.drew | refine Fr.alloc ?_ _))) ?_ ?_
            rotate_left 1
            · intro w; go_simp <;> with_reducible rfl
            try simp only [Act.put, List.setIfInBounds_toArray, List.set_cons_zero, List.set_cons_succ]
            refine rt_free 1 (v := ?_) rfl (by kernel_rfl) (by kernel_rfl) (by kernel_rfl) (by kernel_rfl) (fun _ _ _ h => h) (by rfl) (fun _ => by first | assumption | exact HS0 _ rfl | exact HT.out _ (by repeat (first | exact Fr.refl _ _ | apply Fr.drew | refine Fr.alloc ?_ _))) ?_ ?_
            rotate_left 1
            · intro w; go_simp <;> with_reducible rfl
            try simp only [Act.put, List.setIfInBounds_toArray, List.set_cons_zero, List.set_cons_succ]
            refine rt_free 2 (v := ?_) rfl (by kernel_rfl) (by kernel_rfl) (by kernel_rfl) (by kernel_rfl) (fun _ _ _ h => h) (by rfl) (fun _ => by first | assumption | exact HS0 _ rfl | exact HT.out _ (by repeat (first | exact Fr.refl _ _ | apply Fr.drew | refine Fr.alloc ?_ _))) ?_ ?_
            rotate_left 1
            · intro w; go_simp <;> with_reducible rfl
            try simp only [Act.put, List.setIfInBounds_toArray, List.set_cons_zero, List.set_cons_succ]
            refine rt_free 3 (v := ?_) rfl (by kernel_rfl) (by kernel_rfl) (by kernel_rfl) (by kernel_rfl) (fun _ _ _ h => h) (by rfl) (fun _ => by first | assumption | exact HS0 _ rfl | exact HT.out _ (by repeat (first | exact Fr.refl _ _ | apply Fr.drew | refine Fr.alloc ?_ _))) ?_ ?_
            rotate_left 1
            · intro w; go_simp <;> with_reducible rfl
            try simp only [Act.put, List.setIfInBounds_toArray, List.set_cons_zero, List.set_cons_succ]
            refine rt_free 4 (v := ?_) rfl (by kernel_rfl) (by kernel_rfl) (by kernel_rfl) (by kernel_rfl) (fun _ _ _ h => h) (by rfl) (fun _ => by first | assumption | exact HS0 _ rfl | exact HT.out _ (by repeat (first | exact Fr.refl _ _ | apply Fr.drew | refine Fr.alloc ?_ _))) ?_ ?_
            rotate_left 1
            · intro w; go_simp <;> with_reducible rfl
            try simp only [Act.put, List.setIfInBounds_toArray, List.set_cons_zero, List.set_cons_succ]
            refine rt_take 5 (v := ?_) rfl (by kernel_rfl) (by kernel_rfl) (by kernel_rfl) (by kernel_rfl) (fun _ _ _ h => h) (by rfl) (by first | assumption | exact HS0 _ rfl | exact HT.out _ (by repeat (first | exact Fr.refl _ _ | apply Fr.drew | refine Fr.alloc ?_ _))) ?_ ?_
            rotate_left 1
            · intro w hSw; go_simp <;> with_reducible rfl
            try simp only [Act.put, List.setIfInBounds_toArray, List.set_cons_zero, List.set_cons_succ]
            refine rt_free 7 (v := ?_) rfl (by kernel_rfl) (by kernel_rfl) (by kernel_rfl) (by kernel_rfl) (fun _ _ _ h => h) (by rfl) (fun _ => by first | assumption | exact HS0 _ rfl | exact HT.out _ (by repeat (first | exact Fr.refl _ _ | apply Fr.drew | refine Fr.alloc ?_ _))) ?_ ?_
            rotate_left 1
            · intro w; go_simp <;> with_reducible rfl
            try simp only [Act.put, List.setIfInBounds_toArray, List.set_cons_zero, List.set_cons_succ]
            refine rt_free 8 (v := ?_) rfl (by kernel_rfl) (by kernel_rfl) (by kernel_rfl) (by kernel_rfl) (fun _ _ _ h => h) (by rfl) (fun _ => by first | assumption | exact HS0 _ rfl | exact HT.out _ (by repeat (first | exact Fr.refl _ _ | apply Fr.drew | refine Fr.alloc ?_ _))) ?_ ?_
            rotate_left 1
            · intro w; go_simp <;> with_reducible rfl
            try simp only [Act.put, List.setIfInBounds_toArray, List.set_cons_zero, List.set_cons_succ]
            refine rt_free 9 (v := ?_) rfl (by kernel_rfl) (by kernel_rfl) (by kernel_rfl) (by kernel_rfl) (fun _ _ _ h => h) (by rfl) (fun _ => by first | assumption | exact HS0 _ rfl | exact HT.out _ (by repeat (first | exact Fr.refl _ _ | apply Fr.drew | refine Fr.alloc ?_ _))) ?_ ?_
            rotate_left 1
            · intro w; go_simp <;> with_reducible rfl
            try simp only [Act.put, List.setIfInBounds_toArray, List.set_cons_zero, List.set_cons_succ]
            refine rt_free 10 (v := ?_) rfl (by kernel_rfl) (by kernel_rfl) (by kernel_rfl) (by kernel_rfl) (fun _ _ _ h => h) (by rfl) (fun _ => by first | assumption | exact HS0 _ rfl | exact HT.out _ (by repeat (first | exact Fr.refl _ _ | apply Fr.drew | refine Fr.alloc ?_ _))) ?_ ?_
            rotate_left 1
            · intro w; go_simp <;> with_reducible rfl
            try simp only [Act.put, List.setIfInBounds_toArray, List.set_cons_zero, List.set_cons_succ]
            refine rt_take 11 (v := ?_) rfl (by kernel_rfl) (by kernel_rfl) (by kernel_rfl) (by kernel_rfl) (fun _ _ _ h => h) (by rfl) (by first | assumption | exact HS0 _ rfl | exact HT.out _ (by repeat (first | exact Fr.refl _ _ | apply Fr.drew | refine Fr.alloc ?_ _))) ?_ ?_
            rotate_left 1
            · intro w hSw; go_simp <;> with_reducible rfl
            try simp only [Act.put, List.setIfInBounds_toArray, List.set_cons_zero, List.set_cons_succ]
            refine rt_one 6 rfl (by kernel_rfl) (fun K hK => ?_)
            go_simp
            have hRc := Kd.R_mono (Kd.R_lower (R_empty cmdK 37 Wn) hFr.size) (ok' := fun k => W.heap.size ≤ k) (fun k hk => Nat.le_trans hFr.size hk)
            replace hFr := hFr.alloc (.cells #[] 37)
            generalize Wn.heap.size = gi at hRc ⊢
            generalize World.alloc _ _ = Wn at hRc hFr ⊢
            have hTn := HT.out _ (hFr.mono (fun _ _ h => h.elim))
            refine hK.out (At St) _ _ (fun _ h => h) (fun _ => by (assumption)) ?_
            clear hK K
            try simp only [Act.put, List.setIfInBounds_toArray, List.set_cons_zero, List.set_cons_succ]
            refine rt_one 12 rfl (by kernel_rfl) (fun K hK => ?_)
            obtain ⟨Ac, cc, Wn, hr, hRn, hgn⟩ := app_flat (P := Try.prog) cmdFlat (xs := it.2) (n := it.2.length) (c := cb) 28 28 _ 32 Try.underlying28 info_cmd rfl (by decide) (by decide) hRc (Kd.C_below HCb.out (hFr.below (fun _ _ h => h))) (fun k hk => Nat.le_trans hFr.size hk) hFr.size (by have := HB20.out; omega)
            refine step_builtin2 rfl rfl rfl rfl (bi_append hr) ?_
            replace hFr := hFr.trans' (Fr.of_grown hgn) (fun i hi h => by have := Kd.R_base hRc i h.symm; omega)
            clear hRc
            have hRc := hRn
            clear hRn
            have hTn := HT.out _ (hFr.mono (fun _ _ h => h.elim))
            refine hK.out (At St) _ _ (fun _ h => h) (fun _ => by (assumption)) ?_
            clear hK K
            try simp only [Act.put, List.setIfInBounds_toArray, List.set_cons_zero, List.set_cons_succ]
            refine rt_one 13 rfl (by kernel_rfl) (fun K hK => ?_)
            go_simp
            have hCc := (Kd.R_reads' hRc).2.2
            refine (vault_apply it.1 Ac it.2.length cc it.2 g4 D.length S4 (runB D).1 _ (HV6.out.fr hFr (fun _ _ h => h)) hCc (fun hp ad ha hs => by have h1 := Kd.R_base hRc ad.block (by rw [ha]; rfl); have h2 := HV6.out.lt _ hs; omega) HGD.out HGH.out (by have := HDK.out; omega) (by have := HHL.out; omega)).mono ?_
            rintro r W2 hAp
            obtain ⟨v2, S2, rfl, hV2, hS2, hF2, hR2⟩ := hAp.both2 (HV6.out.fr hFr (fun _ _ h => h))
            obtain ⟨At2, ct, rfl⟩ := Kd.R_slice hR2
            have hG2 : Fr S4 W W2 := (hFr.mono (fun _ _ h => h.elim)).trans hF2
            have hS2' : ∀ b, S2 b → S4 b ∨ W.heap.size ≤ b := fun b hb => (hS2 b hb).elim .inl (fun h => .inr (Nat.le_trans hFr.size h))
            have hT2 := HT.out _ hG2
            have HTR := Lib.hid (Kd.R_mono (Kd.R_bound hR2) (ok' := fun b => W.heap.size ≤ b) (fun b hb => Nat.le_trans hFr.size hb.2.1))
            have HV2 := Lib.hid hV2
            have HR2 := Lib.hid (row_apply HR6.out hS2' hG2)
            have HG2 := Lib.hid (HG6.out.trans' hG2 (fun i hi h => by have := HS6.out i h; omega))
            have HS2 := Lib.hid (show ∀ b, S2 b → w.heap.size ≤ b from fun b hb => (hS2' b hb).elim (HS6.out b) (fun h => Nat.le_trans HG6.out.size h))
            clear hAp hV2 hS2 hF2 hR2 hG2 hS2' hCc hRc hFr hTn hT0
            go_wp2_with fail
            refine hK.out (At St) _ _ (fun _ h => h) (fun _ => by (assumption)) ?_
            clear hK K
            try simp only [Act.put, List.setIfInBounds_toArray, List.set_cons_zero, List.set_cons_succ]
            refine rt_free 14 (v := ?_) rfl (by kernel_rfl) (by kernel_rfl) (by kernel_rfl) (by kernel_rfl) (fun _ _ _ h => h) (by rfl) (fun _ => by first | assumption | exact HS0 _ rfl | exact HT.out _ (by repeat (first | exact Fr.refl _ _ | apply Fr.drew | refine Fr.alloc ?_ _))) ?_ ?_
            rotate_left 1
            · intro w; go_simp <;> with_reducible rfl
            try simp only [Act.put, List.setIfInBounds_toArray, List.set_cons_zero, List.set_cons_succ]
            refine rt_free 15 (v := ?_) rfl (by kernel_rfl) (by kernel_rfl) (by kernel_rfl) (by kernel_rfl) (fun _ _ _ h => h) (by rfl) (fun _ => by first | assumption | exact HS0 _ rfl | exact HT.out _ (by repeat (first | exact Fr.refl _ _ | apply Fr.drew | refine Fr.alloc ?_ _))) ?_ ?_
            rotate_left 1
            · intro w; go_simp <;> with_reducible rfl
            try simp only [Act.put, List.setIfInBounds_toArray, List.set_cons_zero, List.set_cons_succ]
            refine rt_free 16 (v := ?_) rfl (by kernel_rfl) (by kernel_rfl) (by kernel_rfl) (by kernel_rfl) (fun _ _ _ h => h) (by rfl) (fun _ => by first | assumption | exact HS0 _ rfl | exact HT.out _ (by repeat (first | exact Fr.refl _ _ | apply Fr.drew | refine Fr.alloc ?_ _))) ?_ ?_
            rotate_left 1
            · intro w; go_simp <;> with_reducible rfl
            try simp only [Act.put, List.setIfInBounds_toArray, List.set_cons_zero, List.set_cons_succ]
            refine rt_free 17 (v := ?_) rfl (by kernel_rfl) (by kernel_rfl) (by kernel_rfl) (by kernel_rfl) (fun _ _ _ h => h) (by rfl) (fun _ => by first | assumption | exact HS0 _ rfl | exact HT.out _ (by repeat (first | exact Fr.refl _ _ | apply Fr.drew | refine Fr.alloc ?_ _))) ?_ ?_
            rotate_left 1
            · intro w; go_simp <;> with_reducible rfl
            try simp only [Act.put, List.setIfInBounds_toArray, List.set_cons_zero, List.set_cons_succ]
            refine rt_free 18 (v := ?_) rfl (by kernel_rfl) (by kernel_rfl) (by kernel_rfl) (by kernel_rfl) (fun _ _ _ h => h) (by rfl) (fun _ => by first | assumption | exact HS0 _ rfl | exact HT.out _ (by repeat (first | exact Fr.refl _ _ | apply Fr.drew | refine Fr.alloc ?_ _))) ?_ ?_
            rotate_left 1
            · intro w; go_simp <;> with_reducible rfl
            try simp only [Act.put, List.setIfInBounds_toArray, List.set_cons_zero, List.set_cons_succ]
            refine rt_done (by kernel_rfl) ?_
            clear l0 l1 l2 hT2 c2
            have a2 := HG2.out.cell H2.out (fun h => h)
            obtain ⟨E, hE⟩ : ∃ E, E = errBat it.2 := ⟨_, rfl⟩
            rw [← hE]
            have HE := Lib.hid hE
            have teE : (E != E) = false := by simp
            clear hE HCb HT
            go_wp2_with fail
            refine (ref_bat Ab it.2.length cb it.2 W2 (Kd.C_below HCw.out (HG2.out.below (fun _ _ h => h))) HGD.out).mono ?_
            rintro r W3 ⟨rfl, hF3⟩
            rw [← HE.out]
            have HG3 := Lib.hid (HG2.out.trans hF3)
            have HV3 := Lib.hid (HV2.out.fr hF3 (fun _ _ h => h))
            have HR3 := Lib.hid (Kd.R_below HR2.out (hF3.below (fun _ _ h => h)))
            have HTR3 := Lib.hid (Kd.R_below HTR.out (hF3.below (fun _ _ h => h)))
            clear a2 hF3 HV2 HR2 HTR HG2
            by_cases he : E = 0
            · have he' : errBat it.2 = 0 := by rw [← HE.out]; exact he
              have HEE := Lib.hid he'
              have hsu := HSU.out
              rw [if_pos he'] at hsu
              have HV4 := Lib.hid (show VaultRep W3 S2 g4 (runB (D ++ [it])).1 (D.length + 1) from by have h := HV3.out; rw [← runB_apH D it he', if_pos he'] at h; exact h)
              have HSU2 := Lib.hid hsu
              have HB8 := Lib.hid (errBat_len he')
              subst he
              have b0 := HG3.out.cell H0.out (fun h => h)
              have b1 := HG3.out.cell H1.out (fun h => h)
              have b2 := HG3.out.cell H2.out (fun h => h)
              clear he' hsu HV3
              go_wp2_with (at_builtin; refine Kd.R_append (itF w) w.heap.size rfl (.tmp 79) (.tmp 84) 22 30 _ 40 rfl Try.underlying22 info_it2 rfl (show 0 < itemK.sz by decide) (by decide) u8 D it (itemCells it Ab cb) (fun b => ¬ S2 b ∧ w.heap.size ≤ b) (fun _ => False) (by rfl) (by rfl) HK.out (fun _ h => h.elim) (fun b hb => ⟨fun h => absurd (HV4.out.lt b h) (by omega), Nat.le_trans HG3.out.size hb⟩) HR3.out (Below.refl _ _) HG3.out.size (by have := HDK.out; omega) ?_; intro v1 W4 hR1 hB1 hg1 hat1; have HR4 := Lib.hid hR1; have HG4 := Lib.hid hg1; clear hR1 hB1 hg1 hat1)
              obtain ⟨A1, c1, rfl⟩ := Kd.R_slice HR4.out
              have hF4 : Fr (fun b => ¬ S2 b ∧ w.heap.size ≤ b) W3 W4 := (Fr.of_grown HG4.out).mono (fun i hi h => HR3.out.1 i h.symm)
              have HV5 := Lib.hid (HV4.out.fr hF4 (fun b hb h => h.1 hb))
              have HG5 := Lib.hid (HG3.out.trans' hF4 (fun i hi h => by have := h.2; omega))
              have HTR5 := Lib.hid (Kd.R_step HTR3.out (fun b hb hl => HG4.out.block b hl (fun e => by have := Kd.R_lt HR6.out b e.symm; omega)))
              have HI5 := Lib.hid (show ItemsGood (D ++ [it]) from fun x hx => (List.mem_append.1 hx).elim (HGI.out x) (fun h => by rw [List.mem_singleton.1 h]; exact HGD.out))
              have H85 := Lib.hid (show ∀ x ∈ D ++ [it], x.2.length ≤ 8 from fun x hx => (List.mem_append.1 hx).elim (H8.out x) (fun h => by rw [List.mem_singleton.1 h]; exact HB8.out))
              have HL5 := Lib.hid (show (D ++ [it]).length = D.length + 1 from by simp)
              obtain ⟨_, hc1, hC1⟩ := Kd.R_reads' HR4.out
              have HC5 := Lib.hid (itF_C (HG5.out.below (fun _ _ h => h)) hC1)
              have HC1 := Lib.hid hc1
              clear hF4 b0 b1 b2 hC1 hc1 HV4 HR3
              try go_wp2_with fail
              refine (ref_results13 A1 (D.length + 1) c1 (D ++ [it]) W4 (by rw [← HL5.out]; exact HC5.out) HI5.out (by have := HDK.out; omega) (by rw [← HL5.out]; exact HC1.out) H85.out).mono ?_
              rintro r W5 ⟨v5, T, rfl, hR5, hT5, hok5, hF5⟩
              obtain ⟨A5, c5, rfl⟩ := Kd.R_slice hR5
              obtain ⟨hTl, hTd⟩ := told_last hT5 HGI.out HGD.out HEE.out
              obtain ⟨_, hcT, hCT⟩ := Kd.R_reads' hR5
              have hmT := hCT.2.1
              obtain ⟨M, hM⟩ : ∃ M, M = (runB D).2.length := ⟨_, rfl⟩
              rw [← hM] at hTl hTd
              obtain ⟨i0, hi, hz0, hz1, hz2⟩ := info_parts info_res
              have hcut := cut_from (P := Try.prog) 31 55 .i64 Try.underlying31 hi 5 hz1 A5 T.length c5 (M : Int) (by omega) (by omega)
              simp only [Int.toNat_natCast] at hcut
              have hCd := Kd.C_drop (c := c5) hCT (m := M) (by omega) hcT
              rw [show (T.drop M).length = T.length - M from List.length_drop] at hCd
              have hCd : resK.C W5 (if c5 = M then A5 else A5.map (·.add (M * 5))) (T.length - M) (T.drop M) := hCd
              obtain ⟨A6, hA6⟩ : ∃ A6, A6 = (if c5 = M then A5 else A5.map (·.add (M * 5))) := ⟨_, rfl⟩
              rw [← hA6] at hcut hCd
              clear hA6
              obtain ⟨nT, hnT⟩ : ∃ x, x = T.length := ⟨_, rfl⟩
              rw [← hnT] at hTl hmT hcT hcut hCd ⊢
              have tsub : IntKind.i64.wrap ((nT : Int) - (it.2.length : Int)) = (M : Int) := by rw [wrap64_in _ (by omega) (by omega)]; omega
              have HCD := Lib.hid hCd
              have HTD := Lib.hid hTd
              have HOK5 := Lib.hid (show ∀ x ∈ T.drop M, CellOk x.2.2 from fun x hx => hok5 x (List.mem_of_mem_drop hx))
              have HTL := Lib.hid hTl
              have HF5 := Lib.hid hF5
              have e2 := (HG5.out.trans hF5).cell H2.out (fun h => h)
              clear hR5 hT5 hok5 hTl hTd hcT hCT hmT hCd hnT hM hF5
              go_wp2_with fail
              clear hcut tsub e2 hi hz0 hz1 hz2
              refine (same_results At2 A6 _ ct _ _ (apT (runB D).1 it.1 it.2) (T.drop M) W5 (Kd.R_reads' (Kd.R_below HTR5.out (HF5.out.below (fun _ _ h => h)))).2.2 HCD.out HTD.out (apT_ok HGH.out HGD.out) HOK5.out).mono ?_
              rintro r W6 ⟨rfl, hF6⟩
              have HF6 := Lib.hid (HF5.out.trans hF6)
              clear hF6
              go_wp2_with fail
              refine (tells13 g4 S2 A1 (D.length + 1) c1 (D ++ [it]) key W6 (HV5.out.fr HF6.out (fun _ _ h => h)) (Kd.C_below (by rw [← HL5.out]; exact HC5.out) (HF6.out.below (fun _ _ h => h))) HI5.out (by have := HDK.out; omega) H85.out hk).mono ?_
              rintro r W7 ⟨rfl, hF7⟩
              have HF7 := Lib.hid (HF6.out.trans hF7)
              clear hF7
              go_wp2_with fail
              go_roundw
              case rel =>
                refine ⟨k + 1, g4, S2, by omega, by go_num, rfl, ?_, HS2.out, ?_, HG5.out.trans HF7.out⟩
                · rw [HSU2.out, ← HD.out, HL5.out]
                  exact HV5.out.fr HF7.out (fun _ _ h => h)
                · rw [HSU2.out, ← HD.out]
                  exact Kd.R_below (by rw [← HL5.out]; exact HR4.out) (HF7.out.below (fun _ _ h => h))
              case measure => simp [intOf]; omega
            · have he' : ¬ errBat it.2 = 0 := by rw [← HE.out]; exact he
              have hsu := HSU.out
              rw [if_neg he', List.append_nil, ← HD.out] at hsu
              have hnt : (apT (runB D).1 it.1 it.2).length = 0 := by unfold apT; rw [if_neg he']; rfl
              rw [hnt]
              have HV4 := Lib.hid (show VaultRep W3 S2 g4 (runB D).1 D.length from by have h := HV3.out; unfold apH at h; rw [if_neg he', if_neg he'] at h; exact h)
              have HSU2 := Lib.hid hsu
              have tne : (E == 0) = false := by simpa using he
              have tne' : (E != 0) = true := by simpa using he
              clear he' hsu HV3 hnt
              go_wp2_with fail
              go_roundw
              case rel =>
                refine ⟨k + 1, g4, S2, by omega, by go_num, rfl, ?_, HS2.out, ?_, HG3.out⟩
                · rw [HSU2.out]
                  exact HV4.out
                · rw [HSU2.out]
                  exact HR3.out
              case measure => simp [intOf]; omega
          · have tq : decide ((k : Int) = tw) = false := decide_eq_false hq
            have tqb : ((k : Int) == tw) = false := by simpa using hq
            clear hq
            have HCb := Lib.hid (Kd.C_below HCw.out (HG.out.below (fun _ _ h => h)))
            obtain ⟨St, hSt⟩ : ∃ St : World → Prop, St = Fr S wr := ⟨_, rfl⟩
            have HT := Lib.hid (show ∀ w', Fr S wr w' → At St w' from fun w' h => by unfold At; rw [hSt]; exact h)
            have lift : ∀ (q : Addr) (u : Value), w.cell? q = some u → ∀ w', At St w' → w'.cell? q = some u := fun q u hq w' h => by replace h := h.out; rw [hSt] at h; exact h.cell (HG.out.cell hq (fun h => h)) (fun hs => by have h1 := World.block_lt_of_cell? w _ hq; have h2 := HS.out _ hs; omega)
            have l0 := lift _ _ H0.out
            have l1 := lift _ _ H1.out
            have l2 := lift _ _ H2.out
            have hFr := (Fr.refl (fun _ => False) wr).drew
            have hT0 := HT.out _ (hFr.mono (fun _ _ h => h.elim))
            clear lift hSt
            go_wp2_with fail
            refine rt_start [] (At St) 19 (by kernel_rfl) rfl ?_
            generalize wr.drew = Wn at hFr hT0 ⊢
            refine rt_free 0 (v := ?_) rfl (by kernel_rfl) (by kernel_rfl) (by kernel_rfl) (by kernel_rfl) (fun _ _ _ h => h) (by rfl) (fun _ => by first | assumption | exact HS0 _ rfl | exact HT.out _ (by repeat (first | exact Fr.refl _ _ | apply Fr.drew | refine Fr.alloc ?_ _))) ?_ ?_
            rotate_left 1
            · intro w; go_simp <;> with_reducible rfl
            try simp only [Act.put, List.setIfInBounds_toArray, List.set_cons_zero, List.set_cons_succ]
            refine rt_free 1 (v := ?_) rfl (by kernel_rfl) (by kernel_rfl) (by kernel_rfl) (by kernel_rfl) (fun _ _ _ h => h) (by rfl) (fun _ => by first | assumption | exact HS0 _ rfl | exact HT.out _ (by repeat (first | exact Fr.refl _ _ | apply Fr.drew | refine Fr.alloc ?_ _))) ?_ ?_
            rotate_left 1
            · intro w; go_simp <;> with_reducible rfl
            try simp only [Act.put, List.setIfInBounds_toArray, List.set_cons_zero, List.set_cons_succ]
            refine rt_free 2 (v := ?_) rfl (by kernel_rfl) (by kernel_rfl) (by kernel_rfl) (by kernel_rfl) (fun _ _ _ h => h) (by rfl) (fun _ => by first | assumption | exact HS0 _ rfl | exact HT.out _ (by repeat (first | exact Fr.refl _ _ | apply Fr.drew | refine Fr.alloc ?_ _))) ?_ ?_
            rotate_left 1
            · intro w; go_simp <;> with_reducible rfl
            try simp only [Act.put, List.setIfInBounds_toArray, List.set_cons_zero, List.set_cons_succ]
            refine rt_free 3 (v := ?_) rfl (by kernel_rfl) (by kernel_rfl) (by kernel_rfl) (by kernel_rfl) (fun _ _ _ h => h) (by rfl) (fun _ => by first | assumption | exact HS0 _ rfl | exact HT.out _ (by repeat (first | exact Fr.refl _ _ | apply Fr.drew | refine Fr.alloc ?_ _))) ?_ ?_
            rotate_left 1
            · intro w; go_simp <;> with_reducible rfl
            try simp only [Act.put, List.setIfInBounds_toArray, List.set_cons_zero, List.set_cons_succ]
            refine rt_free 4 (v := ?_) rfl (by kernel_rfl) (by kernel_rfl) (by kernel_rfl) (by kernel_rfl) (fun _ _ _ h => h) (by rfl) (fun _ => by first | assumption | exact HS0 _ rfl | exact HT.out _ (by repeat (first | exact Fr.refl _ _ | apply Fr.drew | refine Fr.alloc ?_ _))) ?_ ?_
            rotate_left 1
            · intro w; go_simp <;> with_reducible rfl
            try simp only [Act.put, List.setIfInBounds_toArray, List.set_cons_zero, List.set_cons_succ]
            refine rt_take 5 (v := ?_) rfl (by kernel_rfl) (by kernel_rfl) (by kernel_rfl) (by kernel_rfl) (fun _ _ _ h => h) (by rfl) (by first | assumption | exact HS0 _ rfl | exact HT.out _ (by repeat (first | exact Fr.refl _ _ | apply Fr.drew | refine Fr.alloc ?_ _))) ?_ ?_
            rotate_left 1
            · intro w hSw; go_simp <;> with_reducible rfl
            try simp only [Act.put, List.setIfInBounds_toArray, List.set_cons_zero, List.set_cons_succ]
            refine rt_free 7 (v := ?_) rfl (by kernel_rfl) (by kernel_rfl) (by kernel_rfl) (by kernel_rfl) (fun _ _ _ h => h) (by rfl) (fun _ => by first | assumption | exact HS0 _ rfl | exact HT.out _ (by repeat (first | exact Fr.refl _ _ | apply Fr.drew | refine Fr.alloc ?_ _))) ?_ ?_
            rotate_left 1
            · intro w; go_simp <;> with_reducible rfl
            try simp only [Act.put, List.setIfInBounds_toArray, List.set_cons_zero, List.set_cons_succ]
            refine rt_free 8 (v := ?_) rfl (by kernel_rfl) (by kernel_rfl) (by kernel_rfl) (by kernel_rfl) (fun _ _ _ h => h) (by rfl) (fun _ => by first | assumption | exact HS0 _ rfl | exact HT.out _ (by repeat (first | exact Fr.refl _ _ | apply Fr.drew | refine Fr.alloc ?_ _))) ?_ ?_
            rotate_left 1
            · intro w; go_simp <;> with_reducible rfl
            try simp only [Act.put, List.setIfInBounds_toArray, List.set_cons_zero, List.set_cons_succ]
            refine rt_free 9 (v := ?_) rfl (by kernel_rfl) (by kernel_rfl) (by kernel_rfl) (by kernel_rfl) (fun _ _ _ h => h) (by rfl) (fun _ => by first | assumption | exact HS0 _ rfl | exact HT.out _ (by repeat (first | exact Fr.refl _ _ | apply Fr.drew | refine Fr.alloc ?_ _))) ?_ ?_
            rotate_left 1
            · intro w; go_simp <;> with_reducible rfl
            try simp only [Act.put, List.setIfInBounds_toArray, List.set_cons_zero, List.set_cons_succ]
            refine rt_free 10 (v := ?_) rfl (by kernel_rfl) (by kernel_rfl) (by kernel_rfl) (by kernel_rfl) (fun _ _ _ h => h) (by rfl) (fun _ => by first | assumption | exact HS0 _ rfl | exact HT.out _ (by repeat (first | exact Fr.refl _ _ | apply Fr.drew | refine Fr.alloc ?_ _))) ?_ ?_
            rotate_left 1
            · intro w; go_simp <;> with_reducible rfl
            try simp only [Act.put, List.setIfInBounds_toArray, List.set_cons_zero, List.set_cons_succ]
            refine rt_take 11 (v := ?_) rfl (by kernel_rfl) (by kernel_rfl) (by kernel_rfl) (by kernel_rfl) (fun _ _ _ h => h) (by rfl) (by first | assumption | exact HS0 _ rfl | exact HT.out _ (by repeat (first | exact Fr.refl _ _ | apply Fr.drew | refine Fr.alloc ?_ _))) ?_ ?_
            rotate_left 1
            · intro w hSw; go_simp <;> with_reducible rfl
            try simp only [Act.put, List.setIfInBounds_toArray, List.set_cons_zero, List.set_cons_succ]
            refine rt_one 6 rfl (by kernel_rfl) (fun K hK => ?_)
            go_simp
            have hRc := Kd.R_mono (Kd.R_lower (R_empty cmdK 37 Wn) hFr.size) (ok' := fun k => wr.heap.size ≤ k) (fun k hk => Nat.le_trans hFr.size hk)
            replace hFr := hFr.alloc (.cells #[] 37)
            generalize Wn.heap.size = gi at hRc ⊢
            generalize World.alloc _ _ = Wn at hRc hFr ⊢
            have hTn := HT.out _ (hFr.mono (fun _ _ h => h.elim))
            refine hK.out (At St) _ _ (fun _ h => h) (fun _ => by (assumption)) ?_
            clear hK K
            try simp only [Act.put, List.setIfInBounds_toArray, List.set_cons_zero, List.set_cons_succ]
            refine rt_one 12 rfl (by kernel_rfl) (fun K hK => ?_)
            obtain ⟨Ac, cc, Wn, hr, hRn, hgn⟩ := app_flat (P := Try.prog) cmdFlat (xs := it.2) (n := it.2.length) (c := cb) 28 28 _ 32 Try.underlying28 info_cmd rfl (by decide) (by decide) hRc (Kd.C_below HCb.out (hFr.below (fun _ _ h => h))) (fun k hk => Nat.le_trans hFr.size hk) hFr.size (by have := HB20.out; omega)
            refine step_builtin2 rfl rfl rfl rfl (bi_append hr) ?_
            replace hFr := hFr.trans' (Fr.of_grown hgn) (fun i hi h => by have := Kd.R_base hRc i h.symm; omega)
            clear hRc
            have hRc := hRn
            clear hRn
            have hTn := HT.out _ (hFr.mono (fun _ _ h => h.elim))
            refine hK.out (At St) _ _ (fun _ h => h) (fun _ => by (assumption)) ?_
            clear hK K
            try simp only [Act.put, List.setIfInBounds_toArray, List.set_cons_zero, List.set_cons_succ]
            refine rt_one 13 rfl (by kernel_rfl) (fun K hK => ?_)
            go_simp
            have hCc := (Kd.R_reads' hRc).2.2
            refine (vault_apply it.1 Ac it.2.length cc it.2 g D.length S (runB D).1 _ (HV.out.fr hFr (fun _ _ h => h)) hCc (fun hp ad ha hs => by have h1 := Kd.R_base hRc ad.block (by rw [ha]; rfl); have h2 := HV.out.lt _ hs; omega) HGD.out HGH.out (by have := HDK.out; omega) (by have := HHL.out; omega)).mono ?_
            rintro r W2 hAp
            obtain ⟨v2, S2, rfl, hV2, hS2, hF2, hR2⟩ := hAp.both2 (HV.out.fr hFr (fun _ _ h => h))
            obtain ⟨At2, ct, rfl⟩ := Kd.R_slice hR2
            have hG2 : Fr S wr W2 := (hFr.mono (fun _ _ h => h.elim)).trans hF2
            have hS2' : ∀ b, S2 b → S b ∨ wr.heap.size ≤ b := fun b hb => (hS2 b hb).elim .inl (fun h => .inr (Nat.le_trans hFr.size h))
            have hT2 := HT.out _ hG2
            have HTR := Lib.hid (Kd.R_mono (Kd.R_bound hR2) (ok' := fun b => wr.heap.size ≤ b) (fun b hb => Nat.le_trans hFr.size hb.2.1))
            have HV2 := Lib.hid hV2
            have HR2 := Lib.hid (row_apply HR.out hS2' hG2)
            have HG2 := Lib.hid (HG.out.trans' hG2 (fun i hi h => by have := HS.out i h; omega))
            have HS2 := Lib.hid (show ∀ b, S2 b → w.heap.size ≤ b from fun b hb => (hS2' b hb).elim (HS.out b) (fun h => Nat.le_trans HG.out.size h))
            clear hAp hV2 hS2 hF2 hR2 hG2 hS2' hCc hRc hFr hTn hT0
            go_wp2_with fail
            refine hK.out (At St) _ _ (fun _ h => h) (fun _ => by (assumption)) ?_
            clear hK K
            try simp only [Act.put, List.setIfInBounds_toArray, List.set_cons_zero, List.set_cons_succ]
            refine rt_free 14 (v := ?_) rfl (by kernel_rfl) (by kernel_rfl) (by kernel_rfl) (by kernel_rfl) (fun _ _ _ h => h) (by rfl) (fun _ => by first | assumption | exact HS0 _ rfl | exact HT.out _ (by repeat (first | exact Fr.refl _ _ | apply Fr.drew | refine Fr.alloc ?_ _))) ?_ ?_
            rotate_left 1
            · intro w; go_simp <;> with_reducible rfl
            try simp only [Act.put, List.setIfInBounds_toArray, List.set_cons_zero, List.set_cons_succ]
            refine rt_free 15 (v := ?_) rfl (by kernel_rfl) (by kernel_rfl) (by kernel_rfl) (by kernel_rfl) (fun _ _ _ h => h) (by rfl) (fun _ => by first | assumption | exact HS0 _ rfl | exact HT.out _ (by repeat (first | exact Fr.refl _ _ | apply Fr.drew | refine Fr.alloc ?_ _))) ?_ ?_
            rotate_left 1
            · intro w; go_simp <;> with_reducible rfl
            try simp only [Act.put, List.setIfInBounds_toArray, List.set_cons_zero, List.set_cons_succ]
            refine rt_free 16 (v := ?_) rfl (by kernel_rfl) (by kernel_rfl) (by kernel_rfl) (by kernel_rfl) (fun _ _ _ h => h) (by rfl) (fun _ => by first | assumption | exact HS0 _ rfl | exact HT.out _ (by repeat (first | exact Fr.refl _ _ | apply Fr.drew | refine Fr.alloc ?_ _))) ?_ ?_
            rotate_left 1
            · intro w; go_simp <;> with_reducible rfl
            try simp only [Act.put, List.setIfInBounds_toArray, List.set_cons_zero, List.set_cons_succ]
            refine rt_free 17 (v := ?_) rfl (by kernel_rfl) (by kernel_rfl) (by kernel_rfl) (by kernel_rfl) (fun _ _ _ h => h) (by rfl) (fun _ => by first | assumption | exact HS0 _ rfl | exact HT.out _ (by repeat (first | exact Fr.refl _ _ | apply Fr.drew | refine Fr.alloc ?_ _))) ?_ ?_
            rotate_left 1
            · intro w; go_simp <;> with_reducible rfl
            try simp only [Act.put, List.setIfInBounds_toArray, List.set_cons_zero, List.set_cons_succ]
            refine rt_free 18 (v := ?_) rfl (by kernel_rfl) (by kernel_rfl) (by kernel_rfl) (by kernel_rfl) (fun _ _ _ h => h) (by rfl) (fun _ => by first | assumption | exact HS0 _ rfl | exact HT.out _ (by repeat (first | exact Fr.refl _ _ | apply Fr.drew | refine Fr.alloc ?_ _))) ?_ ?_
            rotate_left 1
            · intro w; go_simp <;> with_reducible rfl
            try simp only [Act.put, List.setIfInBounds_toArray, List.set_cons_zero, List.set_cons_succ]
            refine rt_done (by kernel_rfl) ?_
            clear l0 l1 l2 hT2 c2
            have a2 := HG2.out.cell H2.out (fun h => h)
            obtain ⟨E, hE⟩ : ∃ E, E = errBat it.2 := ⟨_, rfl⟩
            rw [← hE]
            have HE := Lib.hid hE
            have teE : (E != E) = false := by simp
            clear hE HCb HT
            go_wp2_with fail
            refine (ref_bat Ab it.2.length cb it.2 W2 (Kd.C_below HCw.out (HG2.out.below (fun _ _ h => h))) HGD.out).mono ?_
            rintro r W3 ⟨rfl, hF3⟩
            rw [← HE.out]
            have HG3 := Lib.hid (HG2.out.trans hF3)
            have HV3 := Lib.hid (HV2.out.fr hF3 (fun _ _ h => h))
            have HR3 := Lib.hid (Kd.R_below HR2.out (hF3.below (fun _ _ h => h)))
            have HTR3 := Lib.hid (Kd.R_below HTR.out (hF3.below (fun _ _ h => h)))
            clear a2 hF3 HV2 HR2 HTR HG2
            by_cases he : E = 0
            · have he' : errBat it.2 = 0 := by rw [← HE.out]; exact he
              have HEE := Lib.hid he'
              have hsu := HSU.out
              rw [if_pos he'] at hsu
              have HV4 := Lib.hid (show VaultRep W3 S2 g (runB (D ++ [it])).1 (D.length + 1) from by have h := HV3.out; rw [← runB_apH D it he', if_pos he'] at h; exact h)
              have HSU2 := Lib.hid hsu
              have HB8 := Lib.hid (errBat_len he')
              subst he
              have b0 := HG3.out.cell H0.out (fun h => h)
              have b1 := HG3.out.cell H1.out (fun h => h)
              have b2 := HG3.out.cell H2.out (fun h => h)
              clear he' hsu HV3
              go_wp2_with (at_builtin; refine Kd.R_append (itF w) w.heap.size rfl (.tmp 79) (.tmp 84) 22 30 _ 40 rfl Try.underlying22 info_it2 rfl (show 0 < itemK.sz by decide) (by decide) u8 D it (itemCells it Ab cb) (fun b => ¬ S2 b ∧ w.heap.size ≤ b) (fun _ => False) (by rfl) (by rfl) HK.out (fun _ h => h.elim) (fun b hb => ⟨fun h => absurd (HV4.out.lt b h) (by omega), Nat.le_trans HG3.out.size hb⟩) HR3.out (Below.refl _ _) HG3.out.size (by have := HDK.out; omega) ?_; intro v1 W4 hR1 hB1 hg1 hat1; have HR4 := Lib.hid hR1; have HG4 := Lib.hid hg1; clear hR1 hB1 hg1 hat1)
              obtain ⟨A1, c1, rfl⟩ := Kd.R_slice HR4.out
              have hF4 : Fr (fun b => ¬ S2 b ∧ w.heap.size ≤ b) W3 W4 := (Fr.of_grown HG4.out).mono (fun i hi h => HR3.out.1 i h.symm)
              have HV5 := Lib.hid (HV4.out.fr hF4 (fun b hb h => h.1 hb))
              have HG5 := Lib.hid (HG3.out.trans' hF4 (fun i hi h => by have := h.2; omega))
              have HTR5 := Lib.hid (Kd.R_step HTR3.out (fun b hb hl => HG4.out.block b hl (fun e => by have := Kd.R_lt HR.out b e.symm; omega)))
              have HI5 := Lib.hid (show ItemsGood (D ++ [it]) from fun x hx => (List.mem_append.1 hx).elim (HGI.out x) (fun h => by rw [List.mem_singleton.1 h]; exact HGD.out))
              have H85 := Lib.hid (show ∀ x ∈ D ++ [it], x.2.length ≤ 8 from fun x hx => (List.mem_append.1 hx).elim (H8.out x) (fun h => by rw [List.mem_singleton.1 h]; exact HB8.out))
              have HL5 := Lib.hid (show (D ++ [it]).length = D.length + 1 from by simp)
              obtain ⟨_, hc1, hC1⟩ := Kd.R_reads' HR4.out
              have HC5 := Lib.hid (itF_C (HG5.out.below (fun _ _ h => h)) hC1)
              have HC1 := Lib.hid hc1
              clear hF4 b0 b1 b2 hC1 hc1 HV4 HR3
              try go_wp2_with fail
              refine (ref_results13 A1 (D.length + 1) c1 (D ++ [it]) W4 (by rw [← HL5.out]; exact HC5.out) HI5.out (by have := HDK.out; omega) (by rw [← HL5.out]; exact HC1.out) H85.out).mono ?_
              rintro r W5 ⟨v5, T, rfl, hR5, hT5, hok5, hF5⟩
              obtain ⟨A5, c5, rfl⟩ := Kd.R_slice hR5
              obtain ⟨hTl, hTd⟩ := told_last hT5 HGI.out HGD.out HEE.out
              obtain ⟨_, hcT, hCT⟩ := Kd.R_reads' hR5
              have hmT := hCT.2.1
              obtain ⟨M, hM⟩ : ∃ M, M = (runB D).2.length := ⟨_, rfl⟩
              rw [← hM] at hTl hTd
              obtain ⟨i0, hi, hz0, hz1, hz2⟩ := info_parts info_res
              have hcut := cut_from (P := Try.prog) 31 55 .i64 Try.underlying31 hi 5 hz1 A5 T.length c5 (M : Int) (by omega) (by omega)
              simp only [Int.toNat_natCast] at hcut
              have hCd := Kd.C_drop (c := c5) hCT (m := M) (by omega) hcT
              rw [show (T.drop M).length = T.length - M from List.length_drop] at hCd
              have hCd : resK.C W5 (if c5 = M then A5 else A5.map (·.add (M * 5))) (T.length - M) (T.drop M) := hCd
              obtain ⟨A6, hA6⟩ : ∃ A6, A6 = (if c5 = M then A5 else A5.map (·.add (M * 5))) := ⟨_, rfl⟩
              rw [← hA6] at hcut hCd
              clear hA6
              obtain ⟨nT, hnT⟩ : ∃ x, x = T.length := ⟨_, rfl⟩
              rw [← hnT] at hTl hmT hcT hcut hCd ⊢
              have tsub : IntKind.i64.wrap ((nT : Int) - (it.2.length : Int)) = (M : Int) := by rw [wrap64_in _ (by omega) (by omega)]; omega
              have HCD := Lib.hid hCd
              have HTD := Lib.hid hTd
              have HOK5 := Lib.hid (show ∀ x ∈ T.drop M, CellOk x.2.2 from fun x hx => hok5 x (List.mem_of_mem_drop hx))
              have HTL := Lib.hid hTl
              have HF5 := Lib.hid hF5
              have e2 := (HG5.out.trans hF5).cell H2.out (fun h => h)
              clear hR5 hT5 hok5 hTl hTd hcT hCT hmT hCd hnT hM hF5
              go_wp2_with fail
              clear hcut tsub e2 hi hz0 hz1 hz2
              refine (same_results At2 A6 _ ct _ _ (apT (runB D).1 it.1 it.2) (T.drop M) W5 (Kd.R_reads' (Kd.R_below HTR5.out (HF5.out.below (fun _ _ h => h)))).2.2 HCD.out HTD.out (apT_ok HGH.out HGD.out) HOK5.out).mono ?_
              rintro r W6 ⟨rfl, hF6⟩
              have HF6 := Lib.hid (HF5.out.trans hF6)
              clear hF6
              go_wp2_with fail
              refine (tells13 g S2 A1 (D.length + 1) c1 (D ++ [it]) key W6 (HV5.out.fr HF6.out (fun _ _ h => h)) (Kd.C_below (by rw [← HL5.out]; exact HC5.out) (HF6.out.below (fun _ _ h => h))) HI5.out (by have := HDK.out; omega) H85.out hk).mono ?_
              rintro r W7 ⟨rfl, hF7⟩
              have HF7 := Lib.hid (HF6.out.trans hF7)
              clear hF7
              go_wp2_with fail
              go_roundw
              case rel =>
                refine ⟨k + 1, g, S2, by omega, by go_num, rfl, ?_, HS2.out, ?_, HG5.out.trans HF7.out⟩
                · rw [HSU2.out, ← HD.out, HL5.out]
                  exact HV5.out.fr HF7.out (fun _ _ h => h)
                · rw [HSU2.out, ← HD.out]
                  exact Kd.R_below (by rw [← HL5.out]; exact HR4.out) (HF7.out.below (fun _ _ h => h))
              case measure => simp [intOf]; omega
            · have he' : ¬ errBat it.2 = 0 := by rw [← HE.out]; exact he
              have hsu := HSU.out
              rw [if_neg he', List.append_nil, ← HD.out] at hsu
              have hnt : (apT (runB D).1 it.1 it.2).length = 0 := by unfold apT; rw [if_neg he']; rfl
              rw [hnt]
              have HV4 := Lib.hid (show VaultRep W3 S2 g (runB D).1 D.length from by have h := HV3.out; unfold apH at h; rw [if_neg he', if_neg he'] at h; exact h)
              have HSU2 := Lib.hid hsu
              have tne : (E == 0) = false := by simpa using he
              have tne' : (E != 0) = true := by simpa using he
              clear he' hsu HV3 hnt
              go_wp2_with fail
              go_roundw
              case rel =>
                refine ⟨k + 1, g, S2, by omega, by go_num, rfl, ?_, HS2.out, ?_, HG3.out⟩
                · rw [HSU2.out]
                  exact HV4.out
                · rw [HSU2.out]
                  exact HR3.out
              case measure => simp [intOf]; omega
      · obtain rfl : n = k := by omega
        have tnn : decide (n < n) = false := decide_eq_false (by omega)
        obtain ⟨A1, c1, rfl⟩ := Kd.R_slice HR.out
        obtain ⟨_, _, hC1⟩ := Kd.R_reads' HR.out
        have HC1 := Lib.hid (itF_C (HG.out.below (fun _ _ h => h)) hC1)
        have HNL := Lib.hid (nil_law HVA.out)
        obtain ⟨y, hy⟩ : ∃ y, y = cdec (SameH [] (runB D).1) := ⟨_, rfl⟩
        obtain ⟨z, hz⟩ : ∃ z, z = cdec (Wrote (runB D).1) := ⟨_, rfl⟩
        rw [← hy, ← hz] at HNL
        have HY := Lib.hid hy
        have HZ := Lib.hid hz
        clear hC1 hy hz
        go_wp2_with fail
        refine (vault_apply_nil _).mono ?_
        rintro r x1 ⟨rfl, hF1⟩
        have F1 := Lib.hid hF1
        clear hF1
        go_wp2_with fail
        refine (tells13 g S A1 D.length c1 D kA x1 (HV.out.fr F1.out (fun _ _ h => h)) (Kd.C_below HC1.out (F1.out.below (fun _ _ h => h))) HGI.out (by have := HDK.out; omega) H8.out (by decide)).mono ?_
        rintro r x2 ⟨rfl, hF2⟩
        have F2 := Lib.hid (F1.out.trans hF2)
        clear hF2
        go_wp2_with fail
        refine (vault_twin g D.length S (runB D).1 x2 (HV.out.fr F2.out (fun _ _ h => h)) (by have := HHL.out; omega)).mono ?_
        rintro r x3 ⟨g2, S2, rfl, hV3, hS3, hF3⟩
        have F3 := Lib.hid (F2.out.trans hF3)
        have HVT := Lib.hid hV3
        clear hF3 hV3 hS3
        go_wp2_with fail
        refine (vault_same g g2 _ _ S S2 (runB D).1 (runB D).1 x3 (HV.out.fr F3.out (fun _ _ h => h)) HVT.out HGH.out HGH.out).mono ?_
        rintro r x4 ⟨rfl, hF4⟩
        rw [cdec_true (show SameH (runB D).1 (runB D).1 from fun s => ⟨rfl, rfl⟩)]
        have F4 := Lib.hid (F3.out.trans hF4)
        clear hF4
        go_wp2_with fail
        refine (vault_same_nil g D.length S (runB D).1 x4 (HV.out.fr F4.out (fun _ _ h => h)) HGH.out).mono ?_
        rintro r x5 ⟨rfl, hF5⟩
        rw [← HY.out]
        have F5 := Lib.hid (F4.out.trans hF5)
        clear hF5
        go_wp2_with fail
        refine (ref_all13 A1 D.length c1 D x5 (Kd.C_below HC1.out (F5.out.below (fun _ _ h => h))) (by have := HDK.out; omega) H8.out).mono ?_
        rintro r x6 ⟨v6, rfl, hR6, hF6⟩
        obtain ⟨A6, c6, rfl⟩ := Kd.R_slice hR6
        have F6 := Lib.hid (F5.out.trans hF6)
        obtain ⟨nK, hnK⟩ : ∃ x, x = (keysR (cmdsI D)).length := ⟨_, rfl⟩
        rw [← hnK] at HNL ⊢
        clear hF6 hR6 hnK
        rcases Nat.eq_zero_or_pos nK with hz | hp
        · subst hz
          have hyt : y = true := by rw [HNL.out]; rfl
          subst hyt
          go_wp2_with fail
          refine (vault_count_nil _).mono ?_
          rintro r x7 ⟨rfl, hF7⟩
          go_wp2_with fail
          refine (vault_twin_nil _).mono ?_
          rintro r x8 ⟨rfl, hF8⟩
          go_wp2_with fail
          refine (works13 _).mono ?_
          rintro r x9 ⟨rfl, hF9⟩
          go_wp2_with fail
          go_ret
          exact ⟨rfl, HG.out.trans (((F6.out.trans hF7).trans hF8).trans hF9)⟩

        · have tk : decide (nK = 0) = false := decide_eq_false (by omega)
          have tk' : (nK == 0) = false := by simp; omega
          have tk2 : ((nK : Int) == 0) = false := by simp; omega
          have hyz : y = !z := by rw [HNL.out, tk]; rfl
          subst hyz
          have hbb : ((!z) == (!z)) = true := by simp
          go_wp2_with fail
          refine (some13 A1 D.length c1 D x6 (Kd.C_below HC1.out (F6.out.below (fun _ _ h => h))) HGI.out (by have := HDK.out; omega) H8.out).mono ?_
          rintro r x7 ⟨rfl, hF7⟩
          rw [← HZ.out]
          have F7 := Lib.hid (F6.out.trans hF7)
          clear hF7
          go_wp2_with fail
          refine (vault_count_nil _).mono ?_
          rintro r x7 ⟨rfl, hF7⟩
          go_wp2_with fail
          refine (vault_twin_nil _).mono ?_
          rintro r x8 ⟨rfl, hF8⟩
          go_wp2_with fail
          refine (works13 _).mono ?_
          rintro r x9 ⟨rfl, hF9⟩
          go_wp2_with fail
          go_ret
          exact ⟨rfl, HG.out.trans (((F7.out.trans hF7).trans hF8).trans hF9)⟩
end Go.Proofs.Ytepfhcimmbkilaa
