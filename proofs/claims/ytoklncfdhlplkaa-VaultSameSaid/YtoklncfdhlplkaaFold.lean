/- Items, and what package fold makes of them. -/
import Derived.Test.YtoklncfdhlplkaaVaultA
import Derived.Test.YtoklncfdhlplkaaVaultG
set_option linter.unusedVariables false
set_option linter.unusedSimpArgs false
namespace Go.Proofs.Ytoklncfdhlplkaa
open Go.RowKit
open Go.Proofs.YtoklncfdhlplkaaW.PrintWords

abbrev Item := (Int × Int) × List Cmd
def itemK : Kd Item := Kd.pair idK (Kd.slice 60 cmdK)
abbrev itemCells (a : Item) (A : Option Addr) (c : Nat) : List Value := [.int .i64 a.1.1, .int .i64 a.1.2, .slice A a.2.length c]
theorem itemK_K {w : World} {a : Item} {c : List Value} (h : itemK.K w a c) : ∃ A cb, c = itemCells a A cb ∧ a.2.length ≤ cb ∧ cmdK.C w A a.2.length a.2 := by
  obtain ⟨c0, c1, rfl, h0, ⟨A, cb, rfl, hl, hC⟩⟩ := h
  rw [idK_K h0]
  exact ⟨A, cb, rfl, hl, hC⟩
def itx (L : List Item) (i : Nat) : Item := L.getD i ((0, 0), [])
theorem itx_eq {L : List Item} {i : Nat} (h : i < L.length) : itx L i = L[i] := by unfold itx; rw [List.getD_eq_getElem?_getD, List.getElem?_eq_getElem h]; rfl
theorem itx_mem {L : List Item} {i : Nat} (h : i < L.length) : itx L i ∈ L := by rw [itx_eq h]; exact List.getElem_mem h
theorem items_at {w : World} {A : Option Addr} {n : Nat} {L : List Item} (h : itemK.C w A n L) {i : Nat} (hi : i < n) :
    ∃ b off Ab cb, A = some ⟨b, off, none⟩ ∧ (itx L i).2.length ≤ cb ∧ cmdK.C w Ab (itx L i).2.length (itx L i).2 ∧ w.cell? ⟨b, off + i * 3, none⟩ = some (.int .i64 (itx L i).1.1) ∧ w.cell? ⟨b, off + i * 3 + 1, none⟩ = some (.int .i64 (itx L i).1.2) ∧
      w.cell? ⟨b, off + i * 3 + 1 + 1, none⟩ = some (.slice Ab (itx L i).2.length cb) := by
  obtain ⟨b, off, c, hi', hA, hc, hk, hcell⟩ := C_at h (by decide) hi
  rw [← itx_eq hi'] at hk
  obtain ⟨Ab, cb, rfl, hl, hC⟩ := itemK_K hk
  have hs : itemK.sz = 3 := rfl
  rw [hs] at hcell
  exact ⟨b, off, Ab, cb, hA, hl, hC, hcell 0 _ rfl, hcell 1 _ rfl, hcell 2 _ rfl⟩
/-- One item more: the history, and what was told. -/
noncomputable def stepI (s : List HE × List Rs) (it : Item) : List HE × List Rs := if errBat it.2 = 0 then (s.1 ++ tagN it.1 it.2 it.2.length, s.2 ++ toldN s.1 it.1 it.2 it.2.length) else s
noncomputable def runI (L : List Item) : List HE × List Rs := L.foldl stepI ([], [])
theorem runI_succ {L : List Item} {k : Nat} (h : k < L.length) : runI (L.take (k + 1)) = stepI (runI (L.take k)) (itx L k) := by
  unfold runI
  rw [List.take_succ_eq_append_getElem h, List.foldl_append, ← itx_eq h]
  rfl
def ItemsGood (L : List Item) : Prop := ∀ it ∈ L, ∀ x ∈ it.2, CmdGood x
theorem stepI_good {s : List HE × List Rs} {it : Item} (hs : HGood s.1) (hi : ∀ x ∈ it.2, CmdGood x) : HGood (stepI s it).1 := by
  unfold stepI
  split
  · exact hs.append (tagN_good (Nat.le_refl _) hi)
  · exact hs
theorem errBat_len {L : List Cmd} (h : errBat L = 0) : L.length ≤ 8 := by
  rcases errBat_cases L with h1 | h1 | h1
  · exact h1.2.1
  · omega
  · omega
theorem stepI_len (s : List HE × List Rs) (it : Item) : (stepI s it).1.length ≤ s.1.length + 8 ∧ (stepI s it).2.length ≤ s.2.length + 8 := by
  unfold stepI
  split
  · rename_i h
    have := errBat_len h
    simp only [List.length_append, tagN_len, toldN_len]
    omega
  · omega
theorem runI_take {L : List Item} (hL : ItemsGood L) : ∀ k, k ≤ L.length → HGood (runI (L.take k)).1 ∧ (runI (L.take k)).1.length ≤ 8 * k ∧ (runI (L.take k)).2.length ≤ 8 * k
  | 0, _ => ⟨fun e he => absurd he (by rw [List.take_zero]; exact List.not_mem_nil), Nat.le_refl _, Nat.le_refl _⟩
  | k + 1, hk => by
    obtain ⟨h1, h2, h3⟩ := runI_take hL k (by omega)
    rw [runI_succ (by omega)]
    have h4 := stepI_len (runI (L.take k)) (itx L k)
    exact ⟨stepI_good h1 (hL _ (itx_mem (by omega))), by omega, by omega⟩
set_option maxRecDepth 100000 in
set_option maxHeartbeats 4000000 in
theorem fold_all (A : Option Addr) (n c : Nat) (L : List Item) (w : World) (hC : itemK.C w A n L) (hL : ItemsGood L) (hn : n ≤ 1000) :
    Calls Try.prog 41 #[.slice A n c] w fun r w' => ∃ g S m v, r = .returned (.tuple #[.pointer (some ⟨g, 0, none⟩), v]) ∧ VaultRep w' S g (runI L).1 m ∧ (∀ b, S b → w.heap.size ≤ b) ∧ resK.R 62 w' w.heap.size (fun b => ¬ S b) v (runI L).2 ∧ Fr (fun _ => False) w w' := by
  have HLn := Lib.hid (show L.length = n from hC.1)
  have HC := Lib.hid hC
  have HO := Lib.hid hL
  clear hC hL
  go_enter Try.func41, Try.ntmps41
  go_wp2_with fail
  refine (vault_new w).mono ?_
  rintro r w1 ⟨g, S, rfl, hV, hS, hF⟩
  have HV := Lib.hid hV
  have HS := Lib.hid hS
  have HF := Lib.hid hF
  clear hV hS hF
  go_wp2_with fail
  go_loopw [5, 13] (fun u5 i wr => ∃ (k : Nat) (S' : Nat → Prop) (m : Nat), k ≤ n ∧ i = .int .i64 k ∧ m ≤ k ∧ VaultRep wr S' g (runI (L.take k)).1 m ∧ (∀ b, S' b → w.heap.size ≤ b) ∧ Fr (fun _ => False) w wr ∧ resK.R 62 wr w.heap.size (fun b => ¬ S' b) u5 (runI (L.take k)).2) (fun _ i _ => n - (intOf i).toNat)
  case atStart => exact ⟨0, S, 0, Nat.zero_le _, rfl, Nat.le_refl _, HV.out, HS.out, HF.out, Kd.R_nil _ _ _ _ _⟩
  case round =>
    obtain ⟨k, S', m, hk, rfl, hm, hV, hS, hG, hR⟩ := hrel
    have HV := Lib.hid hV
    have HS' := Lib.hid hS
    have HG := Lib.hid hG
    have HR := Lib.hid hR
    clear hV hS hG hR
    rcases Nat.lt_or_ge k n with hlt | hge
    · obtain ⟨b, off, Ab, cb, rfl, hcb, hCw, h0w, h1w, h2w⟩ := items_at HC.out hlt
      have h0 := HG.out.cell h0w (fun h => h)
      have h1 := HG.out.cell h1w (fun h => h)
      have h2 := HG.out.cell h2w (fun h => h)
      have hCb := Kd.C_below hCw (HG.out.below (fun _ _ h => h))
      have hrun := runI_take HO.out k (by rw [HLn.out]; omega)
      have HRUN := Lib.hid hrun
      have hsuc := runI_succ (L := L) (k := k) (by rw [HLn.out]; exact hlt)
      have HSUC := Lib.hid hsuc
      have hgood := HO.out _ (itx_mem (i := k) (by rw [HLn.out]; exact hlt))
      have HGD := Lib.hid hgood
      have hA0 : 0 < (itx L k).2.length → ∀ ad, Ab = some ad → ¬ S' ad.block := fun hp ad ha hs => by
        obtain ⟨b1, o1, ha1, h3, _⟩ := cmds_at hCw hp
        rw [ha] at ha1
        cases ha1
        have h4 := World.block_lt_of_cell? w _ h3
        have h5 := HS'.out _ hs
        simp only at h4 h5
        omega
      have hf := (Fr.refl (fun _ => False) wr).alloc (.cells #[.int .i64 (itx L k).1.1, .int .i64 (itx L k).1.2, .slice Ab (itx L k).2.length cb] 80)
      have HF1 := Lib.hid hf
      have HCB := Lib.hid hCb
      have HA0 := Lib.hid hA0
      clear hsuc hrun hgood hf hCb hCw h0w h1w h2w hA0
      have hb9 : errBat (itx L k).2 = 0 → (itx L k).2.length ≤ 8 := errBat_len
      have HB9 := Lib.hid hb9
      clear hb9
      go_wp2_with fail
      have hV1 := HV.out.fr HF1.out (fun _ _ h => h)
      refine (vault_apply (itx L k).1 Ab (itx L k).2.length cb (itx L k).2 g m S' (runI (L.take k)).1 _ hV1 (Kd.C_below HCB.out (HF1.out.below (fun _ _ h => h))) HA0.out HGD.out HRUN.out.1 (by omega) (by have := HRUN.out.2.1; omega)).mono ?_
      have hR1 := Kd.R_below HR.out (HF1.out.below (fun _ _ h => h))
      rintro r W2 (⟨he, v, S2, rfl, hV2, hS2, hF2, hR2⟩ | ⟨he, rfl, hF2⟩)
      · have hlt2 := hV1.lt
        have hGa : Fr (fun _ => False) w W2 := (HG.out.trans HF1.out).trans' hF2 (fun i hi h => by have := HS'.out i h; omega)
        have hRo : resK.R 62 W2 w.heap.size (fun b => ¬ S2 b) u5 (runI (L.take k)).2 := by
          refine Kd.R_step (Kd.R_mono (Kd.R_bound hR1) (ok' := fun b => ¬ S2 b ∧ ¬ S' b) (fun b hb => ⟨fun h => (hS2 b h).elim hb.1 (fun h => absurd hb.2.2.1 (by omega)), hb.1⟩)) (fun b hb hl => hF2.block b hl hb.2) |> fun h => Kd.R_mono h (fun b hb => hb.1)
        obtain ⟨A2, c2, rfl⟩ := Kd.R_slice hR2
        have hC2 := (Kd.R_reads' hR2).2.2
        rw [toldN_len] at hC2
        have hl8 := HB9.out he
        obtain ⟨v3, W3, hr3, hR3, hg3, _⟩ := R_rows_run (P := Try.prog) resK w.heap.size 26 26 62 _ 40 Try.underlying26 info_res rfl (by decide) (by decide) u5 (runI (L.take k)).2 (toldN (runI (L.take k)).1 (itx L k).1 (itx L k).2 (itx L k).2.length) A2 (itx L k).2.length c2 (fun b => ¬ S2 b) (fun _ => False) hRo hC2 (fun x cs h => by rw [resK_K h]; exact resK_M _ _ _ _) (fun _ h => h.elim) (fun b hb h => absurd (hV2.lt b h) (by omega)) hGa.size (by have := HRUN.out.2.2; omega)
        rw [toldN_len]
        have hr3' := bi_append hr3
        have hst : stepI (runI (L.take k)) (itx L k) = ((runI (L.take k)).1 ++ tagN (itx L k).1 (itx L k).2 (itx L k).2.length, (runI (L.take k)).2 ++ toldN (runI (L.take k)).1 (itx L k).1 (itx L k).2 (itx L k).2.length) := if_pos he
        have HST := Lib.hid hst
        have HV2 := Lib.hid hV2
        have HS2 := Lib.hid hS2
        have HGa := Lib.hid hGa
        have HRo := Lib.hid hRo
        have HR3 := Lib.hid hR3
        have HG3 := Lib.hid hg3
        clear hV1 hR1 he hV2 hS2 hF2 hR2 hlt2 hGa hRo hC2 hR3 hg3 hr3 hst h0 h1 h2 hl8
        go_wp2_with (at_builtin; refine wpl_builtin2 rfl rfl rfl rfl hr3' ?_)
        go_roundw
        case rel =>
          refine ⟨k + 1, S2, m + 1, by omega, by go_num, by omega, ?_, fun b hb => (HS2.out b hb).elim (HS'.out b) (fun h => Nat.le_trans (HG.out.trans HF1.out).size h), HGa.out.trans' (Fr.of_grown HG3.out) (fun i hi h => by have := Kd.R_base HRo.out i h.symm; omega), ?_⟩
          · rw [HSUC.out, HST.out]
            exact HV2.out.fr (Fr.of_grown HG3.out) (fun b hb h => HRo.out.1 b h.symm hb)
          · rw [HSUC.out, HST.out]
            exact HR3.out
        case measure => simp [intOf]; omega
      · obtain ⟨v3, W3, hr3, hR3, hg3, _⟩ := R_rows_run (P := Try.prog) resK w.heap.size 26 26 62 _ 40 Try.underlying26 info_res rfl (by decide) (by decide) u5 (runI (L.take k)).2 [] none 0 0 (fun b => ¬ S' b) (fun _ => False) (Kd.R_below hR1 (hF2.below (fun _ _ h => h))) (Kd.C_nil resK W2) (fun x cs h => by rw [resK_K h]; exact resK_M _ _ _ _) (fun _ h => h.elim) (fun b hb h => absurd ((hV1.fr hF2 (fun _ _ h => h)).lt b h) (by omega)) ((HG.out.trans HF1.out).trans hF2).size (by have := HRUN.out.2.2; omega)
        have hr3' := bi_append hr3
        have hst : stepI (runI (L.take k)) (itx L k) = runI (L.take k) := if_neg he
        have HST := Lib.hid hst
        have HV2 := Lib.hid (hV1.fr hF2 (fun _ _ h => h))
        have HGa := Lib.hid ((HG.out.trans HF1.out).trans hF2)
        have HRo := Lib.hid (Kd.R_below hR1 (hF2.below (fun _ _ h => h)))
        rw [List.append_nil] at hR3
        have HR3 := Lib.hid hR3
        have HG3 := Lib.hid hg3
        clear hV1 hR1 he hF2 hR3 hg3 hr3 hst h0 h1 h2
        go_wp2_with (at_builtin; refine wpl_builtin2 rfl rfl rfl rfl hr3' ?_)
        go_roundw
        case rel =>
          refine ⟨k + 1, S', m, by omega, by go_num, by omega, ?_, HS'.out, HGa.out.trans' (Fr.of_grown HG3.out) (fun i hi h => by have := Kd.R_base HRo.out i h.symm; omega), ?_⟩
          · rw [HSUC.out, HST.out]
            exact HV2.out.fr (Fr.of_grown HG3.out) (fun b hb h => HRo.out.1 b h.symm hb)
          · rw [HSUC.out, HST.out]
            exact HR3.out
        case measure => simp [intOf]; omega
    · obtain rfl : n = k := by omega
      have tnn : decide (n < n) = false := decide_eq_false (by omega)
      clear hk hge
      go_wp2_with fail
      go_ret2
      have hlen : L.take n = L := by rw [← HLn.out]; exact List.take_length
      refine ⟨g, S', m, _, rfl, ?_, HS'.out, ?_, HG.out⟩
      · rw [← hlen]; exact HV.out
      · rw [← hlen]; exact HR.out
end Go.Proofs.Ytoklncfdhlplkaa
