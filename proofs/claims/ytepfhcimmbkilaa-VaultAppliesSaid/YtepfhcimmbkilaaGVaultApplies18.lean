/- Texts of VaultApplies, merged (18 of 33): Ref13, All13, Ref13B. -/
import Derived.Test.YtepfhcimmbkilaaGVaultApplies16
import Derived.Test.YtepfhcimmbkilaaGVaultApplies11
set_option linter.unusedVariables false
set_option linter.unusedSimpArgs false
/- What the reference makes of items: a key's cell, its log. -/
namespace Go.Proofs.Ytepfhcimmbkilaa
open Go.RowKit
open Go.Proofs.YtepfhcimmbkilaaW.PrintWords

noncomputable def stepB (s : List HE × List Rs) (it : Item) : List HE × List Rs := (s.1 ++ tagN it.1 it.2 it.2.length, s.2 ++ toldN s.1 it.1 it.2 it.2.length)
noncomputable def runB (L : List Item) : List HE × List Rs := L.foldl stepB ([], [])
theorem runB_succ {L : List Item} {k : Nat} (h : k < L.length) : runB (L.take (k + 1)) = stepB (runB (L.take k)) (itx L k) := by
  unfold runB
  rw [List.take_succ_eq_append_getElem h, List.foldl_append, ← itx_eq h]
  rfl
theorem runB_take {L : List Item} (hL : ItemsGood L) : ∀ k, k ≤ L.length → HGood (runB (L.take k)).1
  | 0, _ => fun e he => absurd he (by rw [List.take_zero]; exact List.not_mem_nil)
  | k + 1, hk => by
    rw [runB_succ (by omega)]
    exact (runB_take hL k (by omega)).append (tagN_good (Nat.le_refl _) (hL _ (itx_mem (by omega))))
noncomputable def goodI (L : List Item) : List Item := L.filter fun it => decide (errBat it.2 = 0)
theorem runI_good (L : List Item) (s : List HE × List Rs) : L.foldl stepI s = (goodI L).foldl stepB s := by
  induction L generalizing s with
  | nil => rfl
  | cons it L ih =>
    by_cases h : errBat it.2 = 0
    · have : goodI (it :: L) = it :: goodI L := List.filter_cons_of_pos (by simpa using h)
      rw [this, List.foldl_cons, List.foldl_cons, ih]
      unfold stepI stepB
      rw [if_pos h]
    · have : goodI (it :: L) = goodI L := List.filter_cons_of_neg (by simpa using h)
      rw [this, List.foldl_cons, ih]
      unfold stepI
      rw [if_neg h]
theorem runI_eq (L : List Item) : runI L = runB (goodI L) := runI_good L _
theorem goodI_good {L : List Item} (h : ItemsGood L) : ItemsGood (goodI L) := fun it hi => h it ((List.mem_filter.1 hi).1)
/-- A key's cell hangs on the commands alone, not on whose they are. -/
theorem cellOf_any (H : List HE) (id id' : Int × Int) (L : List Cmd) (key : ByteArray) : ∀ k, cellOf (H ++ tagN id L k) key = cellOf (H ++ tagN id' L k) key
  | 0 => rfl
  | k + 1 => by
    rw [tagN_succ, tagN_succ, ← List.append_assoc, ← List.append_assoc, cellOf_snoc, cellOf_snoc, cellOf_any H id id' L key k]
    rfl
set_option maxRecDepth 100000 in
set_option maxHeartbeats 4000000 in
theorem ref_cell13 (A : Option Addr) (n c : Nat) (L : List Item) (key : ByteArray) (w : World) (hC : itemK.C w A n L) (hL : ItemsGood L) (hn : n ≤ 100000) :
    Calls Try.prog 26 #[.slice A n c, .string key] w fun r w' => ∃ u, r = .returned (cellV u) ∧ absC u = cellOf (runB L).1 key ∧ CellOk u ∧ Fr (fun _ => False) w w' := by
  have HLn := Lib.hid (show L.length = n from hC.1)
  have HC := Lib.hid hC
  have HO := Lib.hid hL
  have h4 := (Blk.new w 53 #[.bool false, .float .f64 0]).alloc (.cells #[.bool false, .float .f64 0] 53)
  have h5 := Blk.new (w.alloc (.cells #[.bool false, .float .f64 0] 53)) 53 #[.bool false, .float .f64 0]
  rw [World.size_alloc] at h5
  have hF := ((Fr.refl (fun _ => False) w).alloc (.cells #[.bool false, .float .f64 0] 53)).alloc (.cells #[.bool false, .float .f64 0] 53)
  have H4 := Lib.hid h4
  have H5 := Lib.hid h5
  have HF := Lib.hid hF
  obtain ⟨b4, hb4⟩ : ∃ b, b = w.heap.size := ⟨_, rfl⟩
  have HB4 := Lib.hid hb4
  clear h4 h5 hF hC hL hb4
  go_enter Try.func26, Try.ntmps26
  go_wp2_with fail
  rw [← HB4.out]
  go_loopw [6] (fun i wr => ∃ (k : Nat) (u : CellD), k ≤ n ∧ i = .int .i64 k ∧ Blk wr b4 53 #[.bool false, .float .f64 0] ∧ Blk wr (b4 + 1) 53 #[.bool u.1, .float .f64 u.2] ∧ CellOk u ∧ absC u = cellOf (runB (L.take k)).1 key ∧ Fr (fun _ => False) w wr) (fun i _ => n - (intOf i).toNat)
  case atStart => exact ⟨0, (false, 0), Nat.zero_le _, rfl, by rw [HB4.out]; exact H4.out, by rw [HB4.out]; exact H5.out, cell0_ok, rfl, HF.out⟩
  case round =>
    obtain ⟨k, u, hk, rfl, h4, h5, hu, ha, hG⟩ := hrel
    have HG := Lib.hid hG
    have H4r := Lib.hid h4
    have H5r := Lib.hid h5
    have HU := Lib.hid hu
    have HAu := Lib.hid ha
    clear hG h4 h5 hu ha
    rcases Nat.lt_or_ge k n with hlt | hge
    · have HGD := Lib.hid (HO.out _ (itx_mem (i := k) (by rw [HLn.out]; exact hlt)))
      have HIT := Lib.hid (items_at HC.out hlt)
      have HRB := Lib.hid (runB_take HO.out k (by rw [HLn.out]; exact hk))
      have HRS := Lib.hid (runB_succ (L := L) (k := k) (by rw [HLn.out]; exact hlt))
      go_wp2_with fail
      go_loopw [7] (fun i wr => ∃ (j : Nat) (u : CellD), j ≤ (itx L k).2.length ∧ i = .int .i64 j ∧ Blk wr b4 53 #[.bool false, .float .f64 0] ∧ Blk wr (b4 + 1) 53 #[.bool u.1, .float .f64 u.2] ∧ CellOk u ∧ absC u = cellOf ((runB (L.take k)).1 ++ tagN (itx L k).1 (itx L k).2 j) key ∧ Fr (fun _ => False) w wr) (fun i _ => (itx L k).2.length - (intOf i).toNat)
      case atStart => exact ⟨0, u, Nat.zero_le _, rfl, H4r.out, H5r.out, HU.out, by rw [HAu.out]; unfold tagN; simp, HG.out⟩
      case round =>
        obtain ⟨j, v, hj, rfl, h4, h5, hv, ha, hG⟩ := hrel
        have HGs := Lib.hid hG
        have H4s := Lib.hid h4
        have H5s := Lib.hid h5
        have HV := Lib.hid hv
        have HAv := Lib.hid ha
        clear hG h4 h5 hv ha
        obtain ⟨b, off, Ab, cb, rfl, hcb, hCw, h0w, h1w, h2w⟩ := HIT.out
        have h2 := HGs.out.cell h2w (fun h => h)
        have HCw := Lib.hid hCw
        clear h0w h1w hCw
        have hmx : (itx L k).2.length ≤ 9223372036854775807 := HCw.out.2.1
        rcases Nat.lt_or_ge j (itx L k).2.length with hlj | hgj
        · obtain ⟨bb, ob, rfl, c0, c1, c2⟩ := cmds_at (Kd.C_below HCw.out (HGs.out.below (fun _ _ h => h))) hlj
          have hse := beq_list (a := (cmx (itx L k).2 j).2.1) (b := key)
          have HTS := Lib.hid (tagN_succ (itx L k).1 (itx L k).2 j)
          have HCM := Lib.hid (HGD.out _ (cmx_mem hlj))
          by_cases hkk : (cmx (itx L k).2 j).2.1 = key
          · rw [cdec_true hkk] at hse
            have HKK := Lib.hid hkk
            clear hkk
            go_wp2_with fail
            obtain ⟨Wd, hWd⟩ : ∃ W, W = wr.drew := ⟨_, rfl⟩
            have HWD := Lib.hid hWd
            have hFd : Fr (fun _ => False) wr Wd := by rw [hWd]; exact (Fr.refl _ _).drew
            obtain ⟨St, hSt⟩ : ∃ St : World → Prop, St = Fr (fun _ => False) Wd := ⟨_, rfl⟩
            have HT := Lib.hid (show ∀ w', Fr (fun _ => False) Wd w' → At St w' from fun w' h => by unfold At; rw [hSt]; exact h)
            have lift : ∀ (q : Addr) (u : Value), wr.cell? q = some u → ∀ w', At St w' → w'.cell? q = some u := fun q u hq w' h => by replace h := h.out; rw [hSt] at h; exact (hFd.trans h).cell hq (fun h => h)
            have l0 := lift ⟨b, off + k * 3 + 1 + 1, none⟩ _ h2
            have l1 := lift ⟨bb, ob + j * 3, none⟩ _ c0
            have l2 := lift ⟨bb, ob + j * 3 + 1, none⟩ _ c1
            have l3 := lift ⟨bb, ob + j * 3 + 1 + 1, none⟩ _ c2
            have l4 := lift ⟨b4 + 1, 0, none⟩ _ (H5s.out.cell 0)
            have l5 := lift ⟨b4 + 1, 1, none⟩ _ (H5s.out.cell 1)
            have hT0 := HT.out Wd (Fr.refl _ _)
            have HFd := Lib.hid hFd
            clear lift hSt h2 h2w c0 c1 c2 hse hWd hFd
            refine rt_start [13] (At St) 14 (by kernel_rfl) rfl ?_
            rw [← HWD.out]
            refine rt_take 0 (v := ?_) rfl (by kernel_rfl) (by kernel_rfl) (by kernel_rfl) (by kernel_rfl) (fun _ _ _ h => h) (by rfl) (by first | assumption | exact HS0 _ rfl | exact HT.out _ (by repeat (first | exact Fr.refl _ _ | apply Fr.drew | refine Fr.alloc ?_ _))) ?_ ?_
            rotate_left 1
            · intro w hSw; go_simp <;> with_reducible rfl
            try simp only [Act.put, List.setIfInBounds_toArray, List.set_cons_zero, List.set_cons_succ]
            refine rt_free 1 (v := ?_) rfl (by kernel_rfl) (by kernel_rfl) (by kernel_rfl) (by kernel_rfl) (fun _ _ _ h => h) (by rfl) (fun _ => by first | assumption | exact HS0 _ rfl | exact HT.out _ (by repeat (first | exact Fr.refl _ _ | apply Fr.drew | refine Fr.alloc ?_ _))) ?_ ?_
            rotate_left 1
            · intro w; go_simp <;> with_reducible rfl
            try simp only [Act.put, List.setIfInBounds_toArray, List.set_cons_zero, List.set_cons_succ]
            refine rt_free 2 (v := ?_) rfl (by kernel_rfl) (by kernel_rfl) (by kernel_rfl) (by kernel_rfl) (fun _ _ _ h => h) (by rfl) (fun _ => by first | assumption | exact HS0 _ rfl | exact HT.out _ (by repeat (first | exact Fr.refl _ _ | apply Fr.drew | refine Fr.alloc ?_ _))) ?_ ?_
            rotate_left 1
            · intro w; go_simp <;> with_reducible rfl
            try simp only [Act.put, List.setIfInBounds_toArray, List.set_cons_zero, List.set_cons_succ]
            refine rt_free 3 (v := ?_) rfl (by kernel_rfl) (by kernel_rfl) (by kernel_rfl) (by kernel_rfl) (fun _ _ _ h => h) (by rfl) (fun _ => by first | assumption | exact HS0 _ rfl | exact HT.out _ (by repeat (first | exact Fr.refl _ _ | apply Fr.drew | refine Fr.alloc ?_ _))) ?_ ?_
            rotate_left 1
            · intro w; go_simp <;> with_reducible rfl
            try simp only [Act.put, List.setIfInBounds_toArray, List.set_cons_zero, List.set_cons_succ]
            refine rt_free 4 (v := ?_) rfl (by kernel_rfl) (by kernel_rfl) (by kernel_rfl) (by kernel_rfl) (fun _ _ _ h => h) (by rfl) (fun _ => by first | assumption | exact HS0 _ rfl | exact HT.out _ (by repeat (first | exact Fr.refl _ _ | apply Fr.drew | refine Fr.alloc ?_ _))) ?_ ?_
            rotate_left 1
            · intro w; go_simp <;> with_reducible rfl
            try simp only [Act.put, List.setIfInBounds_toArray, List.set_cons_zero, List.set_cons_succ]
            refine rt_take 5 (v := ?_) rfl (by kernel_rfl) (by kernel_rfl) (by kernel_rfl) (by kernel_rfl) (fun _ _ _ h => h) (by rfl) (by first | assumption | exact HS0 _ rfl | exact HT.out _ (by repeat (first | exact Fr.refl _ _ | apply Fr.drew | refine Fr.alloc ?_ _))) ?_ ?_
            rotate_left 1
            · intro w hSw; go_simp <;> with_reducible rfl
            try simp only [Act.put, List.setIfInBounds_toArray, List.set_cons_zero, List.set_cons_succ]
            refine rt_free 6 (v := ?_) rfl (by kernel_rfl) (by kernel_rfl) (by kernel_rfl) (by kernel_rfl) (fun _ _ _ h => h) (by rfl) (fun _ => by first | assumption | exact HS0 _ rfl | exact HT.out _ (by repeat (first | exact Fr.refl _ _ | apply Fr.drew | refine Fr.alloc ?_ _))) ?_ ?_
            rotate_left 1
            · intro w; go_simp <;> with_reducible rfl
            try simp only [Act.put, List.setIfInBounds_toArray, List.set_cons_zero, List.set_cons_succ]
            refine rt_free 7 (v := ?_) rfl (by kernel_rfl) (by kernel_rfl) (by kernel_rfl) (by kernel_rfl) (fun _ _ _ h => h) (by rfl) (fun _ => by first | assumption | exact HS0 _ rfl | exact HT.out _ (by repeat (first | exact Fr.refl _ _ | apply Fr.drew | refine Fr.alloc ?_ _))) ?_ ?_
            rotate_left 1
            · intro w; go_simp <;> with_reducible rfl
            try simp only [Act.put, List.setIfInBounds_toArray, List.set_cons_zero, List.set_cons_succ]
            refine rt_take 8 (v := ?_) rfl (by kernel_rfl) (by kernel_rfl) (by kernel_rfl) (by kernel_rfl) (fun _ _ _ h => h) (by rfl) (by first | assumption | exact HS0 _ rfl | exact HT.out _ (by repeat (first | exact Fr.refl _ _ | apply Fr.drew | refine Fr.alloc ?_ _))) ?_ ?_
            rotate_left 1
            · intro w hSw; go_simp <;> with_reducible rfl
            try simp only [Act.put, List.setIfInBounds_toArray, List.set_cons_zero, List.set_cons_succ]
            refine rt_one 9 rfl (by kernel_rfl) (fun K hK => ?_)
            go_simp
            refine (ref_do v (cmx (itx L k).2 j) Wd HV.out HCM.out).mono ?_
            rintro r W3 ⟨p, q, rfl, hp, hq, hpo, hqo, hF3⟩
            have hT3 := HT.out _ hF3
            go_wp2_with fail
            refine hK.out (At St) _ _ (fun _ h => h) (fun _ => by (assumption)) ?_
            clear hK K
            try simp only [Act.put, List.setIfInBounds_toArray, List.set_cons_zero, List.set_cons_succ]
            refine rt_free 10 (v := ?_) rfl (by kernel_rfl) (by kernel_rfl) (by kernel_rfl) (by kernel_rfl) (fun _ _ _ h => h) (by rfl) (fun _ => by first | assumption | exact HS0 _ rfl | exact HT.out _ (by repeat (first | exact Fr.refl _ _ | apply Fr.drew | refine Fr.alloc ?_ _))) ?_ ?_
            rotate_left 1
            · intro w; go_simp <;> with_reducible rfl
            try simp only [Act.put, List.setIfInBounds_toArray, List.set_cons_zero, List.set_cons_succ]
            refine rt_free 11 (v := ?_) rfl (by kernel_rfl) (by kernel_rfl) (by kernel_rfl) (by kernel_rfl) (fun _ _ _ h => h) (by rfl) (fun _ => by first | assumption | exact HS0 _ rfl | exact HT.out _ (by repeat (first | exact Fr.refl _ _ | apply Fr.drew | refine Fr.alloc ?_ _))) ?_ ?_
            rotate_left 1
            · intro w; go_simp <;> with_reducible rfl
            try simp only [Act.put, List.setIfInBounds_toArray, List.set_cons_zero, List.set_cons_succ]
            refine rt_free 12 (v := ?_) rfl (by kernel_rfl) (by kernel_rfl) (by kernel_rfl) (by kernel_rfl) (fun _ _ _ h => h) (by rfl) (fun _ => by first | assumption | exact HS0 _ rfl | exact HT.out _ (by repeat (first | exact Fr.refl _ _ | apply Fr.drew | refine Fr.alloc ?_ _))) ?_ ?_
            rotate_left 1
            · intro w; go_simp <;> with_reducible rfl
            try simp only [Act.put, List.setIfInBounds_toArray, List.set_cons_zero, List.set_cons_succ]
            refine rt_one 13 rfl (by kernel_rfl) (fun K hK => ?_)
            have h43 := (H4s.out.fr HFd.out (fun h => h)).fr hF3 (fun h => h)
            have h53 := (H5s.out.fr HFd.out (fun h => h)).fr hF3 (fun h => h)
            have z0 := h53.cell 0
            have z1 := h53.cell 1
            have zf := h53.frozen
            simp only [List.getElem?_toArray, List.getElem?_cons_zero, List.getElem?_cons_succ] at z0 z1
            go_simp
            refine hK.out (At St) _ _ (fun _ h => h) (late_abs (by kernel_rfl)) ?_
            clear hK K
            try simp only [Act.put, List.setIfInBounds_toArray, List.set_cons_zero, List.set_cons_succ]
            refine rt_done (by kernel_rfl) ?_
            clear l0 l1 l2 l3 l4 l5 hT0 hT3 z0 z1 zf
            have H43 := Lib.hid h43
            have H53 := Lib.hid h53
            have HF3 := Lib.hid hF3
            have HP := Lib.hid hp
            have HPO := Lib.hid hpo
            clear h43 h53 hF3 hp hq hpo hqo
            go_wp2_with fail
            go_roundw
            case rel =>
              refine ⟨j + 1, p, by omega, by go_num, H43.out.far2 (by omega) _ _, Blk.set2 H53.out, HPO.out, ?_, ((HGs.out.trans HFd.out).trans HF3.out).set2 (.inr (by have := HB4.out; omega)) _ _⟩
              rw [HP.out, HTS.out, ← List.append_assoc, cellOf_snoc, ← HAv.out]
              unfold cellStep
              rw [cdec_true HKK.out, cond_true, HAv.out]
            case measure => simp [intOf]; omega
          · rw [cdec_false hkk] at hse
            have HKK := Lib.hid hkk
            clear hkk
            go_wp2_with fail
            go_roundw
            case rel =>
              refine ⟨j + 1, v, by omega, by go_num, H4s.out, H5s.out, HV.out, ?_, HGs.out⟩
              rw [HAv.out, HTS.out, ← List.append_assoc, cellOf_snoc]
              unfold cellStep
              rw [cdec_false HKK.out, cond_false]
            case measure => simp [intOf]; omega
        · obtain rfl : j = (itx L k).2.length := by omega
          have tjj : decide ((itx L k).2.length < (itx L k).2.length) = false := decide_eq_false (by omega)
          go_wp2_with fail
          go_roundw
          case rel =>
            refine ⟨k + 1, v, by omega, by go_num, H4s.out, H5s.out, HV.out, ?_, HGs.out⟩
            rw [HAv.out, HRS.out]
            rfl
          case measure => simp [intOf]; omega
    · obtain rfl : n = k := by omega
      have tnn : decide (n < n) = false := decide_eq_false (by omega)
      have hl : L.take n = L := by rw [← HLn.out]; exact List.take_length
      have ha := HAu.out
      rw [hl] at ha
      have HA2 := Lib.hid ha
      have z0 := H5r.out.cell 0
      have z1 := H5r.out.cell 1
      have z2 := H4r.out.cell 0
      have z3 := H4r.out.cell 1
      have zf := H4r.out.frozen
      simp only [List.getElem?_toArray, List.getElem?_cons_zero, List.getElem?_cons_succ] at z0 z1 z2 z3
      clear ha
      go_wp2_with fail
      exact bodyPost_ret (results_cell_row Try.results26 _ _ b4 _ _ _ _ rfl (Blk.set2 H4r.out) Try.underlying53 rfl (by kernel_rfl)) rfl ⟨u, rfl, HA2.out, HU.out, HG.out.set2 (.inr (by have := HB4.out; omega)) _ _⟩
set_option maxRecDepth 100000 in
set_option maxHeartbeats 4000000 in
theorem ref_log13 (A : Option Addr) (n c : Nat) (L : List Item) (key : ByteArray) (w : World) (hC : itemK.C w A n L) (hL : ItemsGood L) (hn : n ≤ 1000) (h8 : ∀ it ∈ L, it.2.length ≤ 8) :
    Calls Try.prog 32 #[.slice A n c, .string key] w fun r w' => ∃ v, r = .returned v ∧ wrK.R 67 w' w.heap.size (fun b => w.heap.size ≤ b) v (logOf (runB L).1 key) ∧ Fr (fun _ => False) w w' := by
  have HLn := Lib.hid (show L.length = n from hC.1)
  have HC := Lib.hid hC
  have HO := Lib.hid hL
  have H8 := Lib.hid h8
  have hF := (Fr.refl (fun _ => False) w).alloc (.cells #[] 67)
  have HR0 := Lib.hid (R_empty wrK 67 w)
  have HF := Lib.hid hF
  clear hF hC hL h8
  go_enter Try.func32, Try.ntmps32
  go_wp2_with fail
  go_loopw [5, 6] (fun u i wr => ∃ k : Nat, k ≤ n ∧ i = .int .i64 k ∧ wrK.R 67 wr w.heap.size (fun b => w.heap.size ≤ b) u (logOf (runB (L.take k)).1 key) ∧ (runB (L.take k)).1.length ≤ 8 * k ∧ Fr (fun _ => False) w wr) (fun _ i _ => n - (intOf i).toNat)
  case atStart => exact ⟨0, Nat.zero_le _, rfl, HR0.out, Nat.le_refl _, HF.out⟩
  case round =>
    obtain ⟨k, hk, rfl, hR, hlen, hG⟩ := hrel
    have HG := Lib.hid hG
    have HR := Lib.hid hR
    have HLE := Lib.hid hlen
    clear hG hR hlen
    rcases Nat.lt_or_ge k n with hlt | hge
    · have HGD := Lib.hid (HO.out _ (itx_mem (i := k) (by rw [HLn.out]; exact hlt)))
      have HI8 := Lib.hid (H8.out _ (itx_mem (i := k) (by rw [HLn.out]; exact hlt)))
      have HIT := Lib.hid (items_at HC.out hlt)
      have HRS := Lib.hid (runB_succ (L := L) (k := k) (by rw [HLn.out]; exact hlt))
      go_wp2_with fail
      go_loopw [5, 7] (fun u i wr => ∃ j : Nat, j ≤ (itx L k).2.length ∧ i = .int .i64 j ∧ wrK.R 67 wr w.heap.size (fun b => w.heap.size ≤ b) u (logOf ((runB (L.take k)).1 ++ tagN (itx L k).1 (itx L k).2 j) key) ∧ Fr (fun _ => False) w wr) (fun _ i _ => (itx L k).2.length - (intOf i).toNat)
      case atStart => exact ⟨0, Nat.zero_le _, rfl, by unfold tagN; simp; exact HR.out, HG.out⟩
      case round =>
        obtain ⟨j, hj, rfl, hR, hG⟩ := hrel
        have HGs := Lib.hid hG
        have HRs := Lib.hid hR
        clear hG hR
        obtain ⟨b, off, Ab, cb, rfl, hcb, hCw, h0w, h1w, h2w⟩ := HIT.out
        have h0 := HGs.out.cell h0w (fun h => h)
        have h1 := HGs.out.cell h1w (fun h => h)
        have h2 := HGs.out.cell h2w (fun h => h)
        have HCw := Lib.hid hCw
        clear h0w h1w h2w hCw
        have hmx : (itx L k).2.length ≤ 9223372036854775807 := HCw.out.2.1
        rcases Nat.lt_or_ge j (itx L k).2.length with hlj | hgj
        · obtain ⟨bb, ob, rfl, c0, c1, c2⟩ := cmds_at (Kd.C_below HCw.out (HGs.out.below (fun _ _ h => h))) hlj
          have hse := beq_list (a := (cmx (itx L k).2 j).2.1) (b := key)
          have HTS := Lib.hid (tagN_succ (itx L k).1 (itx L k).2 j)
          have HCM := Lib.hid (HGD.out _ (cmx_mem hlj))
          have same : ¬ wrote key ((itx L k).1, (j : Int), cmx (itx L k).2 j) → logOf ((runB (L.take k)).1 ++ tagN (itx L k).1 (itx L k).2 (j + 1)) key = logOf ((runB (L.take k)).1 ++ tagN (itx L k).1 (itx L k).2 j) key := fun h => by
            rw [HTS.out, ← List.append_assoc, logOf_no h]
          have HSAME := Lib.hid same
          clear same
          by_cases hkk : (cmx (itx L k).2 j).2.1 = key
          · rw [cdec_true hkk] at hse
            have HKK := Lib.hid hkk
            clear hkk
            go_wp2_with fail
            refine (ref_cmd_right (cmx (itx L k).2 j).1 (cmx (itx L k).2 j).2.1 (cmx (itx L k).2 j).2.2 _ HCM.out.1 HCM.out.2).mono ?_
            rintro r w3 ⟨rfl, hF3⟩
            have a0 := hF3.cell h0 (fun h => h)
            have a1 := hF3.cell h1 (fun h => h)
            have a2 := hF3.cell h2 (fun h => h)
            have d0 := hF3.cell c0 (fun h => h)
            clear h0 h1 h2 c0 c1 c2
            by_cases hok : cmdOk (cmx (itx L k).2 j)
            · rw [cdec_true (show cmdOk ((cmx (itx L k).2 j).1, (cmx (itx L k).2 j).2.1, (cmx (itx L k).2 j).2.2) from hok)]
              by_cases hk1 : (cmx (itx L k).2 j).1 = 1
              · have t1 : ((cmx (itx L k).2 j).1 != 1) = false := by simp [hk1]
                have HS2 := Lib.hid (HSAME.out fun h => h.2.2 hk1)
                have HR3 := Lib.hid (Kd.R_below HRs.out (hF3.below (fun _ _ h => h)))
                have HF3 := Lib.hid hF3
                clear hk1 hok hF3
                go_wp2_with fail
                go_roundw
                case rel =>
                  refine ⟨j + 1, by omega, by go_num, ?_, HGs.out.trans HF3.out⟩
                  rw [HS2.out]; exact HR3.out
                case measure => simp [intOf]; omega
              · have t1 : ((cmx (itx L k).2 j).1 != 1) = true := by simpa using hk1
                have hyes := logOf_yes (H := (runB (L.take k)).1 ++ tagN (itx L k).1 (itx L k).2 j) (e := ((itx L k).1, (j : Int), cmx (itx L k).2 j)) (key := key) ⟨HKK.out, hok, hk1⟩
                rw [List.append_assoc, ← HTS.out] at hyes
                have HY := Lib.hid hyes
                have HR3 := Lib.hid (Kd.R_below HRs.out (hF3.below (fun _ _ h => h)))
                have HG3 := Lib.hid (HGs.out.trans hF3)
                have hll := logOf_len ((runB (L.take k)).1 ++ tagN (itx L k).1 (itx L k).2 j) key
                rw [List.length_append, tagN_len] at hll
                have HLL := Lib.hid hll
                clear hk1 hok hF3 hyes hll hse
                go_wp2_with (at_builtin; refine Kd.R_append wrK w.heap.size rfl (.tmp 59) (.tmp 67) 57 67 _ 24 rfl Try.underlying57 info_wr rfl (by decide) (by decide) u5 (logOf ((runB (L.take k)).1 ++ tagN (itx L k).1 (itx L k).2 j) key) ((itx L k).1, (j : Int)) (wrCells ((itx L k).1, (j : Int))) (fun b => w.heap.size ≤ b) (fun _ => False) (by rfl) (by rfl) (wrK_M _ _ _ _) (fun _ h => h.elim) (fun b hb => Nat.le_trans HG3.out.size hb) HR3.out (Below.refl _ _) HG3.out.size (by have h1 := HLL.out; have h2 := HLE.out; have h3 := HI8.out; omega) ?_; intro v1 w5 hR1 hB1 hg1 hat1; have HR1 := Lib.hid hR1; have HG1 := Lib.hid hg1; clear hR1 hB1 hg1 hat1)
                go_roundw
                case rel =>
                  refine ⟨j + 1, by omega, by go_num, ?_, HG3.out.trans' (Fr.of_grown HG1.out) (fun i hi h => by have := Kd.R_base HR3.out i h.symm; omega)⟩
                  rw [HY.out]; exact HR1.out
                case measure => simp [intOf]; omega
            · rw [cdec_false (show ¬ cmdOk ((cmx (itx L k).2 j).1, (cmx (itx L k).2 j).2.1, (cmx (itx L k).2 j).2.2) from hok)]
              have HS2 := Lib.hid (HSAME.out fun h => hok h.2.1)
              have HR3 := Lib.hid (Kd.R_below HRs.out (hF3.below (fun _ _ h => h)))
              have HF3 := Lib.hid hF3
              clear hok hF3
              go_wp2_with fail
              go_roundw
              case rel =>
                refine ⟨j + 1, by omega, by go_num, ?_, HGs.out.trans HF3.out⟩
                rw [HS2.out]; exact HR3.out
              case measure => simp [intOf]; omega
          · rw [cdec_false hkk] at hse
            have HS2 := Lib.hid (HSAME.out fun h => hkk h.1)
            clear hkk
            go_wp2_with fail
            go_roundw
            case rel =>
              refine ⟨j + 1, by omega, by go_num, ?_, HGs.out⟩
              rw [HS2.out]; exact HRs.out
            case measure => simp [intOf]; omega
        · obtain rfl : j = (itx L k).2.length := by omega
          have tjj : decide ((itx L k).2.length < (itx L k).2.length) = false := decide_eq_false (by omega)
          go_wp2_with fail
          go_roundw
          case rel =>
            refine ⟨k + 1, by omega, by go_num, ?_, ?_, HGs.out⟩
            · rw [HRS.out]; exact HRs.out
            · rw [HRS.out]
              show ((runB (L.take k)).1 ++ tagN (itx L k).1 (itx L k).2 (itx L k).2.length).length ≤ _
              rw [List.length_append, tagN_len]
              have h1 := HLE.out; have h2 := HI8.out; omega
          case measure => simp [intOf]; omega
    · obtain rfl : n = k := by omega
      have tnn : decide (n < n) = false := decide_eq_false (by omega)
      have hl : L.take n = L := by rw [← HLn.out]; exact List.take_length
      go_wp2_with fail
      go_ret
      exact ⟨_, rfl, by rw [← hl]; exact HR.out, HG.out⟩
end Go.Proofs.Ytepfhcimmbkilaa
/- All keys of items. -/
namespace Go.Proofs.Ytepfhcimmbkilaa
open Go.RowKit
open Go.Proofs.YtepfhcimmbkilaaW.PrintWords

def cmdsI (L : List Item) : List Cmd := L.flatMap (·.2)
theorem cmdsI_succ {L : List Item} {k : Nat} (h : k < L.length) : cmdsI (L.take (k + 1)) = cmdsI (L.take k) ++ (itx L k).2 := by
  unfold cmdsI
  rw [List.take_succ_eq_append_getElem h, List.flatMap_append, ← itx_eq h]
  simp
theorem cmdsI_len {L : List Item} (h8 : ∀ it ∈ L, it.2.length ≤ 8) : ∀ k, k ≤ L.length → (cmdsI (L.take k)).length ≤ 8 * k
  | 0, _ => by simp [cmdsI]
  | k + 1, h => by
    rw [cmdsI_succ (by omega), List.length_append]
    have h1 := cmdsI_len h8 k (by omega)
    have h2 := h8 _ (itx_mem (i := k) (by omega))
    omega
set_option maxRecDepth 100000 in
set_option maxHeartbeats 4000000 in
theorem ref_all13 (A : Option Addr) (n c : Nat) (L : List Item) (w : World) (hC : itemK.C w A n L) (hn : n ≤ 1000) (h8 : ∀ it ∈ L, it.2.length ≤ 8) :
    Calls Try.prog 14 #[.slice A n c] w fun r w' => ∃ v, r = .returned v ∧ strK.R 9 w' w.heap.size (fun b => w.heap.size ≤ b) v (keysR (cmdsI L)) ∧ Fr (fun _ => False) w w' := by
  have HLn := Lib.hid (show L.length = n from hC.1)
  have HC := Lib.hid hC
  have H8 := Lib.hid h8
  have HF := Lib.hid ((Fr.refl (fun _ => False) w).alloc (.cells #[] 37))
  have HR0 := Lib.hid (R_empty cmdK 37 w)
  clear hC h8
  go_enter Try.func14, Try.ntmps14
  go_wp2_with fail
  go_loopw [3, 4] (fun u i wr => ∃ k : Nat, k ≤ n ∧ i = .int .i64 k ∧ cmdK.R 37 wr w.heap.size (fun b => w.heap.size ≤ b) u (cmdsI (L.take k)) ∧ Fr (fun _ => False) w wr) (fun _ i _ => n - (intOf i).toNat)
  case atStart => exact ⟨0, Nat.zero_le _, rfl, HR0.out, HF.out⟩
  case round =>
    obtain ⟨k, hk, rfl, hR, hG⟩ := hrel
    have HG := Lib.hid hG
    have HR := Lib.hid hR
    clear hG hR
    rcases Nat.lt_or_ge k n with hlt | hge
    · obtain ⟨b, off, Ab, cb, rfl, hcb, hCw, h0w, h1w, h2w⟩ := items_at HC.out hlt
      have h0 := HG.out.cell h0w (fun h => h)
      have h1 := HG.out.cell h1w (fun h => h)
      have h2 := HG.out.cell h2w (fun h => h)
      have hC2 := Kd.C_below hCw (HG.out.below (fun _ _ h => h))
      have hl0 := cmdsI_len H8.out k (by rw [HLn.out]; exact hk)
      have hl8 := H8.out _ (itx_mem (i := k) (by rw [HLn.out]; exact hlt))
      have HSUC := Lib.hid (cmdsI_succ (L := L) (k := k) (by rw [HLn.out]; exact hlt))
      obtain ⟨v3, W3, hr3, hR3, hg3, _⟩ := R_rows_run (P := Try.prog) cmdK w.heap.size 28 28 37 _ 32 Try.underlying28 info_cmd rfl (by decide) (by decide) u3 (cmdsI (L.take k)) (itx L k).2 Ab (itx L k).2.length cb (fun b => w.heap.size ≤ b) (fun _ => False) HR.out hC2 (fun x cs h => by rw [cmdFlat.K h]; exact cmdFlat.M _ _ _ _) (fun _ h => h.elim) (fun b hb => Nat.le_trans HG.out.size hb) HG.out.size (by omega)
      have hr3' := bi_append hr3
      have HR3 := Lib.hid hR3
      have HG3 := Lib.hid hg3
      clear h0w h1w h2w hCw hC2 hl0 hl8 hR3 hg3 hr3
      go_wp2_with (at_builtin; refine wpl_builtin2 rfl rfl rfl rfl hr3' ?_)
      go_roundw
      case rel =>
        refine ⟨k + 1, by omega, by go_num, ?_, HG.out.trans' (Fr.of_grown HG3.out) (fun i hi h => by have := Kd.R_base HR.out i h.symm; omega)⟩
        rw [HSUC.out]; exact HR3.out
      case measure => simp [intOf]; omega
    · obtain rfl : n = k := by omega
      have tnn : decide (n < n) = false := decide_eq_false (by omega)
      have hl : L.take n = L := by rw [← HLn.out]; exact List.take_length
      have hR := HR.out
      rw [hl] at hR
      have hl0 := cmdsI_len H8.out n (by rw [HLn.out]; exact Nat.le_refl _)
      rw [hl] at hl0
      obtain ⟨A3, c3, rfl⟩ := Kd.R_slice hR
      have HCk := Lib.hid (Kd.R_reads' hR).2.2
      have HL0 := Lib.hid hl0
      clear hR hl0 hl
      go_wp2_with fail
      refine (ref_keys7 A3 (cmdsI L).length c3 (cmdsI L) wr HCk.out (by have := HL0.out; omega)).mono ?_
      rintro r w2 ⟨v, rfl, hR2, hF2⟩
      have HR2 := Lib.hid hR2
      have HF2 := Lib.hid hF2
      clear hR2 hF2
      go_wp2_with fail
      go_ret
      exact ⟨_, rfl, Kd.R_mono (Kd.R_lower HR2.out HG.out.size) (fun b hb => Nat.le_trans HG.out.size hb), HG.out.trans HF2.out⟩
end Go.Proofs.Ytepfhcimmbkilaa
/- Items: those that may be, in new rows; whether results are the same. -/
namespace Go.Proofs.Ytepfhcimmbkilaa
open Go.RowKit
open Go.Proofs.YtepfhcimmbkilaaW.PrintWords

theorem item_K {w : World} {a : Item} {A : Option Addr} {c : Nat} (hc : a.2.length ≤ c) (h : cmdK.C w A a.2.length a.2) : itemK.K w a (itemCells a A c) :=
  ⟨[.int .i64 a.1.1, .int .i64 a.1.2], [.slice A a.2.length c], rfl, idK.K_of_M (idK_M w 0 (fun _ => True) a.1), A, c, rfl, hc, h⟩
/-- Items whose batches lie where they came in. -/
abbrev itF (w0 : World) : Kd Item := Kd.fixed itemK w0
theorem itF_C {w0 w : World} (hb : Below w0.heap.size w0 w) {A : Option Addr} {n : Nat} {L : List Item} (h : (itF w0).C w A n L) : itemK.C w A n L :=
  Kd.C_read (d := itemK) (dm := itF w0) rfl (fun x cs hk => itemK.K_below hb hk) h
theorem info_it2 : (Try.prog.info? 30).map (fun i => (i.zero, i.size, i.bytes)) = some (some (.agg #[.int .i64 0, .int .i64 0, .slice none 0 0]), itemK.sz, 40) := by kernel_rfl
theorem goodI_succ {L : List Item} {k : Nat} (h : k < L.length) : goodI (L.take (k + 1)) = goodI (L.take k) ++ (if errBat (itx L k).2 = 0 then [itx L k] else []) := by
  rw [List.take_succ_eq_append_getElem h, ← itx_eq h]
  unfold goodI
  rw [List.filter_append]
  congr 1
  by_cases he : errBat (itx L k).2 = 0
  · rw [if_pos he, List.filter_cons_of_pos (by simpa using he)]; rfl
  · rw [if_neg he, List.filter_cons_of_neg (by simpa using he)]; rfl
theorem goodI_len (L : List Item) : (goodI L).length ≤ L.length := List.length_filter_le _ _
end Go.Proofs.Ytepfhcimmbkilaa
