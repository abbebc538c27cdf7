/- What just some commands make of a key, by the law's own reckoning; all writers' commands make its cell. -/
import Derived.Test.YtoklncfdhlplkaaFoldO
import Derived.Test.YtoklncfdhlplkaaRef13B
set_option linter.unusedVariables false
set_option linter.unusedSimpArgs false
namespace Go.Proofs.Ytoklncfdhlplkaa
open Go.RowKit
open Go.Proofs.YtoklncfdhlplkaaW.PrintWords

noncomputable def selB (key : ByteArray) (W : List Wr) (L : List Item) : List Cmd := L.flatMap fun it => selN key W it.1 it.2 it.2.length
theorem selB_snoc (key : ByteArray) (W : List Wr) (L : List Item) (it : Item) : selB key W (L ++ [it]) = selB key W L ++ selN key W it.1 it.2 it.2.length := by
  unfold selB; rw [List.flatMap_append]; simp
theorem selI_good' (key : ByteArray) (W : List Wr) (L : List Item) : ∀ k, k ≤ L.length → selI key W L k = selB key W (goodI (L.take k))
  | 0, _ => rfl
  | k + 1, hk => by
    rw [goodI_succ (by omega)]
    show selI key W L k ++ (if errBat (itx L k).2 = 0 then selN key W (itx L k).1 (itx L k).2 (itx L k).2.length else []) = _
    rw [selI_good' key W L k (by omega)]
    split
    · rw [selB_snoc]
    · rw [List.append_nil, List.append_nil]
theorem selI_eq (key : ByteArray) (W : List Wr) (L : List Item) : selI key W L L.length = selB key W (goodI L) := by
  rw [selI_good' key W L _ (Nat.le_refl _), List.take_length]
theorem selN_mem {key : ByteArray} {W : List Wr} {id : Int × Int} {L : List Cmd} : ∀ k, k ≤ L.length → ∀ x ∈ selN key W id L k, x ∈ L
  | 0, _, x, hx => absurd hx List.not_mem_nil
  | k + 1, hk, x, hx => by
    have hx' : x ∈ selN key W id L k ++ (bif cdec (selP key W id L k) then [cmx L k] else []) := hx
    rcases List.mem_append.1 hx' with hx | hx
    · exact selN_mem k (by omega) x hx
    · cases hq : cdec (selP key W id L k)
      · rw [hq, cond_false] at hx; exact absurd hx List.not_mem_nil
      · rw [hq, cond_true] at hx; rw [List.mem_singleton.1 hx]; exact cmx_mem (by omega)
set_option maxRecDepth 100000 in
set_option maxHeartbeats 4000000 in
theorem ref_only (A B : Option Addr) (n c nw cw : Nat) (L : List Item) (W : List Wr) (key : ByteArray) (w : World) (hC : itemK.C w A n L) (hW : wrK.C w B nw W) (hL : ItemsGood L) (hn : n ≤ 1000) (hnw : nw ≤ 1000) :
    Calls Try.prog 24 #[.slice A n c, .string key, .slice B nw cw] w fun r w' => ∃ u, r = .returned (cellV u) ∧ absC u = foldC (selB key W L) ∧ CellOk u ∧ Fr (fun _ => False) w w' := by
  have HLn := Lib.hid (show L.length = n from hC.1)
  have HWn := Lib.hid (show W.length = nw from hW.1)
  have HC := Lib.hid hC
  have HW := Lib.hid hW
  have HO := Lib.hid hL
  have h6 := (Blk.new w 40 #[.bool false, .float .f64 0]).alloc (.cells #[.bool false, .float .f64 0] 40)
  have h7 := Blk.new (w.alloc (.cells #[.bool false, .float .f64 0] 40)) 40 #[.bool false, .float .f64 0]
  rw [World.size_alloc] at h7
  have hF := ((Fr.refl (fun _ => False) w).alloc (.cells #[.bool false, .float .f64 0] 40)).alloc (.cells #[.bool false, .float .f64 0] 40)
  have H6 := Lib.hid h6
  have H7 := Lib.hid h7
  have HF := Lib.hid hF
  obtain ⟨b6, hb6⟩ : ∃ b, b = w.heap.size := ⟨_, rfl⟩
  have HB6 := Lib.hid hb6
  clear h6 h7 hF hC hL hb6 hW
  go_enter Try.func24, Try.ntmps24
  go_wp2_with fail
  rw [← HB6.out]
  go_loopw [8] (fun i wr => ∃ (k : Nat) (u : CellD), k ≤ n ∧ i = .int .i64 k ∧ Blk wr b6 40 #[.bool false, .float .f64 0] ∧ Blk wr (b6 + 1) 40 #[.bool u.1, .float .f64 u.2] ∧ CellOk u ∧ absC u = foldC (selB key W (L.take k)) ∧ Fr (fun _ => False) w wr) (fun i _ => n - (intOf i).toNat)
  case atStart => exact ⟨0, (false, 0), Nat.zero_le _, rfl, by rw [HB6.out]; exact H6.out, by rw [HB6.out]; exact H7.out, cell0_ok, rfl, HF.out⟩
  case round =>
    obtain ⟨k, u, hk, rfl, h6, h7, hu, ha, hG⟩ := hrel
    have HG := Lib.hid hG
    have H6r := Lib.hid h6
    have H7r := Lib.hid h7
    have HU := Lib.hid hu
    have HAu := Lib.hid ha
    clear hG h6 h7 hu ha
    rcases Nat.lt_or_ge k n with hlt | hge
    · have HGD := Lib.hid (HO.out _ (itx_mem (i := k) (by rw [HLn.out]; exact hlt)))
      have HIT := Lib.hid (items_at HC.out hlt)
      have hts : L.take (k + 1) = L.take k ++ [itx L k] := by rw [List.take_succ_eq_append_getElem (by rw [HLn.out]; exact hlt), itx_eq (by rw [HLn.out]; exact hlt)]
      have HTS := Lib.hid hts
      clear hts
      go_wp2_with fail
      go_loopw [9] (fun i wr => ∃ (j : Nat) (u : CellD), j ≤ (itx L k).2.length ∧ i = .int .i64 j ∧ Blk wr b6 40 #[.bool false, .float .f64 0] ∧ Blk wr (b6 + 1) 40 #[.bool u.1, .float .f64 u.2] ∧ CellOk u ∧ absC u = foldC (selB key W (L.take k) ++ selN key W (itx L k).1 (itx L k).2 j) ∧ Fr (fun _ => False) w wr) (fun i _ => (itx L k).2.length - (intOf i).toNat)
      case atStart => exact ⟨0, u, Nat.zero_le _, rfl, H6r.out, H7r.out, HU.out, by rw [HAu.out]; unfold selN; rw [List.append_nil], HG.out⟩
      case round =>
        obtain ⟨j, v, hj, rfl, h6, h7, hv, ha, hG⟩ := hrel
        have HGs := Lib.hid hG
        have H6s := Lib.hid h6
        have H7s := Lib.hid h7
        have HV := Lib.hid hv
        have HAv := Lib.hid ha
        clear hG h6 h7 hv ha
        obtain ⟨b, off, Ab, cb, rfl, hcb, hCw, h0w, h1w, h2w⟩ := HIT.out
        have h2 := HGs.out.cell h2w (fun h => h)
        have HCw := Lib.hid hCw
        have H0w := Lib.hid h0w
        have H1w := Lib.hid h1w
        have H2w := Lib.hid h2w
        clear h0w h1w h2w hCw
        have hmx : (itx L k).2.length ≤ 9223372036854775807 := HCw.out.2.1
        rcases Nat.lt_or_ge j (itx L k).2.length with hlj | hgj
        · have HCM := Lib.hid (HGD.out _ (cmx_mem hlj))
          go_wp2_with fail
          go_loopw [10] (fun i wr => ∃ v' : CellD, Blk wr b6 40 #[.bool false, .float .f64 0] ∧ Blk wr (b6 + 1) 40 #[.bool v'.1, .float .f64 v'.2] ∧ CellOk v' ∧ Fr (fun _ => False) w wr ∧ ((∃ m : Nat, m ≤ nw ∧ i = .int .i64 m ∧ v' = v ∧ ∀ x, x < m → ¬ (wrx W x = ((itx L k).1, (j : Int)) ∧ (cmx (itx L k).2 j).2.1 = key)) ∨ (i = .int .i64 ((nw + 1 : Nat) : Int) ∧ absC v' = foldC (selB key W (L.take k) ++ selN key W (itx L k).1 (itx L k).2 (j + 1))))) (fun i _ => nw + 1 - (intOf i).toNat)
          case atStart => exact ⟨v, H6s.out, H7s.out, HV.out, HGs.out, .inl ⟨0, Nat.zero_le _, rfl, rfl, fun _ h => by omega⟩⟩
          case round =>
            obtain ⟨v', h6, h7, hv, hG, hor⟩ := hrel
            have HGt := Lib.hid hG
            have H6t := Lib.hid h6
            have H7t := Lib.hid h7
            have HVt := Lib.hid hv
            clear hG h6 h7 hv h2
            rcases hor with ⟨m, hm, rfl, rfl, hno⟩ | ⟨rfl, hdone⟩
            · rcases Nat.lt_or_ge m nw with hlm | hgm
              · obtain ⟨wb, wo, rfl, e0w, e1w, e2w⟩ := wrs_at HW.out hlm
                obtain ⟨bb, ob, rfl, c0w, c1w, c2w⟩ := cmds_at HCw.out hlj
                have e0 := HGt.out.cell e0w (fun h => h)
                have e1 := HGt.out.cell e1w (fun h => h)
                have e2 := HGt.out.cell e2w (fun h => h)
                have c0 := HGt.out.cell c0w (fun h => h)
                have c1 := HGt.out.cell c1w (fun h => h)
                have c2 := HGt.out.cell c2w (fun h => h)
                have i0 := HGt.out.cell H0w.out (fun h => h)
                have i1 := HGt.out.cell H1w.out (fun h => h)
                have i2 := HGt.out.cell H2w.out (fun h => h)
                have he := eqWr (wrx W m) ((itx L k).1, (j : Int))
                have hse := beq_list (a := (cmx (itx L k).2 j).2.1) (b := key)
                have HNO := Lib.hid hno
                have hwm : wrx W m ∈ W := wrx_mem (by rw [HWn.out]; exact hlm)
                have HWM := Lib.hid hwm
                clear e0w e1w e2w c0w c1w c2w hno hwm
                by_cases hq : wrx W m = ((itx L k).1, (j : Int))
                · rw [decide_eq_true hq] at he
                  have HQ := Lib.hid hq
                  clear hq
                  by_cases hkk : (cmx (itx L k).2 j).2.1 = key
                  · rw [cdec_true hkk] at hse
                    have HKK := Lib.hid hkk
                    clear hkk
                    go_wp2_with fail
                    go_quiet (fail)
                    rename_i nd
                    go_wp2_with fail
                    generalize hWq : wr.drewN _ = Wq
                    have hFq : Fr (fun _ => False) wr Wq := by rw [← hWq]; exact (Fr.refl _ _).drewN _
                    have HFq := Lib.hid hFq
                    obtain ⟨Wd, hWd⟩ : ∃ W, W = Wq.drew := ⟨_, rfl⟩
                    have HWD := Lib.hid hWd
                    have hFd : Fr (fun _ => False) wr Wd := by rw [hWd]; exact hFq.drew
                    obtain ⟨St, hSt⟩ : ∃ St : World → Prop, St = Fr (fun _ => False) Wd := ⟨_, rfl⟩
                    have HT := Lib.hid (show ∀ w', Fr (fun _ => False) Wd w' → At St w' from fun w' h => by unfold At; rw [hSt]; exact h)
                    have lift : ∀ (q : Addr) (u : Value), wr.cell? q = some u → ∀ w', At St w' → w'.cell? q = some u := fun q u hq w' h => by replace h := h.out; rw [hSt] at h; exact (hFd.trans h).cell hq (fun h => h)
                    have l0 := lift _ _ i2
                    have l1 := lift _ _ c0
                    have l2 := lift _ _ c1
                    have l3 := lift _ _ c2
                    have l4 := lift ⟨b6 + 1, 0, none⟩ _ (H7t.out.cell 0)
                    have l5 := lift ⟨b6 + 1, 1, none⟩ _ (H7t.out.cell 1)
                    have hT0 := HT.out Wd (Fr.refl _ _)
                    have HFd := Lib.hid hFd
                    clear lift hSt hWd hFd hFq hWq e0 e1 e2 c0 c1 c2 i0 i1 i2 he hse
                    refine rt_start [13] (At St) 14 (by kernel_rfl) rfl ?_
                    rw [← HWD.out]
                    refine rt_take 0 (v := ?_) rfl (by kernel_rfl) (by kernel_rfl) (by kernel_rfl) (by kernel_rfl) (fun _ _ _ h => h) (by rfl) (by first | assumption | exact HS0 _ rfl | exact HT.out _ (by repeat (first | exact Fr.refl _ _ | apply Fr.drew | refine Fr.alloc ?_ _))) ?_ ?_
                    rotate_left 1
                    · intro w hSw; go_simp <;> with_reducible rfl
                    try simp only [Act.put, List.setIfInBounds_toArray, List.set_cons_zero, List.set_cons_succ]
                    refine rt_free 1 (v := ?_) rfl (by kernel_rfl) (by kernel_rfl) (by kernel_rfl) (by kernel_rfl) (fun _ _ _ h => h) (by rfl) (fun _ => by first | assumption | exact HS0 _ rfl | exact HT.out _ (by repeat (first | exact Fr.refl _ _ | apply Fr.drew | refine Fr.alloc ?_ _))) ?_ ?_
                    rotate_left 1
                    · intro w; go_simp <;> with_reducible rfl
                    try simp only [Act.put, List.setIfInBounds_toArray, List.set_cons_zero, List.set_cons_succ]
                    refine rt_free 2 (v := ?_) rfl (by kernel_rfl) (by kernel_rfl) (by kernel_rfl) (by kernel_rfl) (fun _ _ _ h => h) (by rfl) (fun _ => by first | assumption | exact HS0 _ rfl | exact HT.out _ (by repeat (first | exact Fr.refl _ _ | apply Fr.drew | refine Fr.alloc ?_ _))) ?_ ?_
                    rotate_left 1
                    · intro w; go_simp <;> with_reducible rfl
                    try simp only [Act.put, List.setIfInBounds_toArray, List.set_cons_zero, List.set_cons_succ]
                    refine rt_free 3 (v := ?_) rfl (by kernel_rfl) (by kernel_rfl) (by kernel_rfl) (by kernel_rfl) (fun _ _ _ h => h) (by rfl) (fun _ => by first | assumption | exact HS0 _ rfl | exact HT.out _ (by repeat (first | exact Fr.refl _ _ | apply Fr.drew | refine Fr.alloc ?_ _))) ?_ ?_
                    rotate_left 1
                    · intro w; go_simp <;> with_reducible rfl
                    try simp only [Act.put, List.setIfInBounds_toArray, List.set_cons_zero, List.set_cons_succ]
                    refine rt_free 4 (v := ?_) rfl (by kernel_rfl) (by kernel_rfl) (by kernel_rfl) (by kernel_rfl) (fun _ _ _ h => h) (by rfl) (fun _ => by first | assumption | exact HS0 _ rfl | exact HT.out _ (by repeat (first | exact Fr.refl _ _ | apply Fr.drew | refine Fr.alloc ?_ _))) ?_ ?_
                    rotate_left 1
                    · intro w; go_simp <;> with_reducible rfl
                    try simp only [Act.put, List.setIfInBounds_toArray, List.set_cons_zero, List.set_cons_succ]
                    refine rt_take 5 (v := ?_) rfl (by kernel_rfl) (by kernel_rfl) (by kernel_rfl) (by kernel_rfl) (fun _ _ _ h => h) (by rfl) (by first | assumption | exact HS0 _ rfl | exact HT.out _ (by repeat (first | exact Fr.refl _ _ | apply Fr.drew | refine Fr.alloc ?_ _))) ?_ ?_
                    rotate_left 1
                    · intro w hSw; go_simp <;> with_reducible rfl
                    try simp only [Act.put, List.setIfInBounds_toArray, List.set_cons_zero, List.set_cons_succ]
                    refine rt_free 6 (v := ?_) rfl (by kernel_rfl) (by kernel_rfl) (by kernel_rfl) (by kernel_rfl) (fun _ _ _ h => h) (by rfl) (fun _ => by first | assumption | exact HS0 _ rfl | exact HT.out _ (by repeat (first | exact Fr.refl _ _ | apply Fr.drew | refine Fr.alloc ?_ _))) ?_ ?_
                    rotate_left 1
                    · intro w; go_simp <;> with_reducible rfl
                    try simp only [Act.put, List.setIfInBounds_toArray, List.set_cons_zero, List.set_cons_succ]
                    refine rt_free 7 (v := ?_) rfl (by kernel_rfl) (by kernel_rfl) (by kernel_rfl) (by kernel_rfl) (fun _ _ _ h => h) (by rfl) (fun _ => by first | assumption | exact HS0 _ rfl | exact HT.out _ (by repeat (first | exact Fr.refl _ _ | apply Fr.drew | refine Fr.alloc ?_ _))) ?_ ?_
                    rotate_left 1
                    · intro w; go_simp <;> with_reducible rfl
                    try simp only [Act.put, List.setIfInBounds_toArray, List.set_cons_zero, List.set_cons_succ]
                    refine rt_take 8 (v := ?_) rfl (by kernel_rfl) (by kernel_rfl) (by kernel_rfl) (by kernel_rfl) (fun _ _ _ h => h) (by rfl) (by first | assumption | exact HS0 _ rfl | exact HT.out _ (by repeat (first | exact Fr.refl _ _ | apply Fr.drew | refine Fr.alloc ?_ _))) ?_ ?_
                    rotate_left 1
                    · intro w hSw; go_simp <;> with_reducible rfl
                    try simp only [Act.put, List.setIfInBounds_toArray, List.set_cons_zero, List.set_cons_succ]
                    refine rt_one 9 rfl (by kernel_rfl) (fun K hK => ?_)
                    go_simp
                    refine (ref_do v' (cmx (itx L k).2 j) Wd HVt.out HCM.out).mono ?_
                    rintro r W3 ⟨p, q, rfl, hp, hq, hpo, hqo, hF3⟩
                    have hT3 := HT.out _ hF3
                    go_wp2_with fail
                    refine hK.out (At St) _ _ (fun _ h => h) (fun _ => by (assumption)) ?_
                    clear hK K
                    try simp only [Act.put, List.setIfInBounds_toArray, List.set_cons_zero, List.set_cons_succ]
                    refine rt_free 10 (v := ?_) rfl (by kernel_rfl) (by kernel_rfl) (by kernel_rfl) (by kernel_rfl) (fun _ _ _ h => h) (by rfl) (fun _ => by first | assumption | exact HS0 _ rfl | exact HT.out _ (by repeat (first | exact Fr.refl _ _ | apply Fr.drew | refine Fr.alloc ?_ _))) ?_ ?_
                    rotate_left 1
                    · intro w; go_simp <;> with_reducible rfl
                    try simp only [Act.put, List.setIfInBounds_toArray, List.set_cons_zero, List.set_cons_succ]
                    refine rt_free 11 (v := ?_) rfl (by kernel_rfl) (by kernel_rfl) (by kernel_rfl) (by kernel_rfl) (fun _ _ _ h => h) (by rfl) (fun _ => by first | assumption | exact HS0 _ rfl | exact HT.out _ (by repeat (first | exact Fr.refl _ _ | apply Fr.drew | refine Fr.alloc ?_ _))) ?_ ?_
                    rotate_left 1
                    · intro w; go_simp <;> with_reducible rfl
                    try simp only [Act.put, List.setIfInBounds_toArray, List.set_cons_zero, List.set_cons_succ]
                    refine rt_free 12 (v := ?_) rfl (by kernel_rfl) (by kernel_rfl) (by kernel_rfl) (by kernel_rfl) (fun _ _ _ h => h) (by rfl) (fun _ => by first | assumption | exact HS0 _ rfl | exact HT.out _ (by repeat (first | exact Fr.refl _ _ | apply Fr.drew | refine Fr.alloc ?_ _))) ?_ ?_
                    rotate_left 1
                    · intro w; go_simp <;> with_reducible rfl
                    try simp only [Act.put, List.setIfInBounds_toArray, List.set_cons_zero, List.set_cons_succ]
                    refine rt_one 13 rfl (by kernel_rfl) (fun K hK => ?_)
                    have h63 := (H6t.out.fr HFd.out (fun h => h)).fr hF3 (fun h => h)
                    have h73 := (H7t.out.fr HFd.out (fun h => h)).fr hF3 (fun h => h)
                    have z0 := h73.cell 0
                    have z1 := h73.cell 1
                    have zf := h73.frozen
                    simp only [List.getElem?_toArray, List.getElem?_cons_zero, List.getElem?_cons_succ] at z0 z1
                    go_simp
                    refine hK.out (At St) _ _ (fun _ h => h) (late_abs (by kernel_rfl)) ?_
                    clear hK K
                    try simp only [Act.put, List.setIfInBounds_toArray, List.set_cons_zero, List.set_cons_succ]
                    refine rt_done (by kernel_rfl) ?_
                    clear l0 l1 l2 l3 l4 l5 hT0 hT3 z0 z1 zf
                    have H63 := Lib.hid h63
                    have H73 := Lib.hid h73
                    have HF3 := Lib.hid hF3
                    have HP := Lib.hid hp
                    have HPO := Lib.hid hpo
                    clear h63 h73 hF3 hp hq hpo hqo
                    go_wp2_with fail
                    go_roundw
                    case rel =>
                      refine ⟨p, H63.out.far2 (by omega) _ _, Blk.set2 H73.out, HPO.out, ((HGt.out.trans HFd.out).trans HF3.out).set2 (.inr (by have := HB6.out; omega)) _ _, .inr ⟨by go_num, ?_⟩⟩
                      have hsel : selN key W (itx L k).1 (itx L k).2 (j + 1) = selN key W (itx L k).1 (itx L k).2 j ++ [cmx (itx L k).2 j] := by
                        show _ ++ (bif cdec (selP key W (itx L k).1 (itx L k).2 j) then _ else _) = _
                        rw [cdec_true (show selP key W (itx L k).1 (itx L k).2 j from ⟨HKK.out, by rw [← HQ.out]; exact HWM.out⟩), cond_true]
                      rw [HP.out, HAv.out, hsel, ← List.append_assoc, foldC_snoc]
                    case measure => simp [intOf]; omega
                  · rw [cdec_false hkk] at hse
                    have HKK := Lib.hid hkk
                    clear hkk
                    go_wp2_with fail
                    go_quiet (fail)
                    go_wp2_with fail
                    go_roundw
                    case rel =>
                      refine ⟨v', H6t.out.drewN _, H7t.out.drewN _, HVt.out, HGt.out.drewN _, .inl ⟨m + 1, by omega, by go_num, rfl, fun x hx h => HKK.out h.2⟩⟩
                    case measure => simp [intOf]; omega
                · rw [decide_eq_false hq] at he
                  have HQ := Lib.hid hq
                  clear hq
                  go_wp2_with fail
                  go_quiet (fail)
                  go_wp2_with fail
                  go_roundw
                  case rel =>
                    refine ⟨v', H6t.out.drewN _, H7t.out.drewN _, HVt.out, HGt.out.drewN _, .inl ⟨m + 1, by omega, by go_num, rfl, fun x hx h => ?_⟩⟩
                    rcases Nat.lt_or_ge x m with hx' | hx'
                    · exact HNO.out x hx' h
                    · obtain rfl : x = m := by omega
                      exact HQ.out h.1
                  case measure => simp [intOf]; omega
              · obtain rfl : m = nw := by omega
                have tmm : decide (m < m) = false := decide_eq_false (by omega)
                have hsel : selN key W (itx L k).1 (itx L k).2 (j + 1) = selN key W (itx L k).1 (itx L k).2 j := by
                  show _ ++ (bif cdec (selP key W (itx L k).1 (itx L k).2 j) then _ else _) = _
                  rw [cdec_false (show ¬ selP key W (itx L k).1 (itx L k).2 j from fun h => by
                    obtain ⟨x, hx, he⟩ := List.mem_iff_getElem.1 h.2
                    exact hno x (by rw [← HWn.out]; exact hx) ⟨by rw [wrx_eq hx]; exact he, h.1⟩), cond_false, List.append_nil]
                have HSEL := Lib.hid hsel
                clear hno hsel hgm hm
                go_wp2_with fail
                go_roundw
                case rel => exact ⟨j + 1, v', by omega, by go_num, H6t.out, H7t.out, HVt.out, by rw [HAv.out, HSEL.out], HGt.out⟩
                case measure => simp [intOf]; omega
            · have tnw : decide (((nw + 1 : Nat) : Int) < (nw : Int)) = false := decide_eq_false (by omega)
              have HDN := Lib.hid hdone
              clear hdone
              go_wp2_with fail
              go_roundw
              case rel => exact ⟨j + 1, v', by omega, by go_num, H6t.out, H7t.out, HVt.out, HDN.out, HGt.out⟩
              case measure => simp [intOf]; omega
        · obtain rfl : j = (itx L k).2.length := by omega
          have tjj : decide ((itx L k).2.length < (itx L k).2.length) = false := decide_eq_false (by omega)
          go_wp2_with fail
          go_roundw
          case rel =>
            refine ⟨k + 1, v, by omega, by go_num, H6s.out, H7s.out, HV.out, ?_, HGs.out⟩
            rw [HAv.out, HTS.out, selB_snoc]
          case measure => simp [intOf]; omega
    · obtain rfl : n = k := by omega
      have tnn : decide (n < n) = false := decide_eq_false (by omega)
      have hl : L.take n = L := by rw [← HLn.out]; exact List.take_length
      have ha := HAu.out
      rw [hl] at ha
      have HA2 := Lib.hid ha
      have z0 := H7r.out.cell 0
      have z1 := H7r.out.cell 1
      have z2 := H6r.out.cell 0
      have z3 := H6r.out.cell 1
      have zf := H6r.out.frozen
      simp only [List.getElem?_toArray, List.getElem?_cons_zero, List.getElem?_cons_succ] at z0 z1 z2 z3
      clear ha
      go_wp2_with fail
      exact bodyPost_ret (results_cell_row Try.results24 _ _ b6 _ _ _ _ rfl (Blk.set2 H6r.out) Try.underlying40 rfl (by kernel_rfl)) rfl ⟨u, rfl, HA2.out, HU.out, HG.out.set2 (.inr (by have := HB6.out; omega)) _ _⟩
end Go.Proofs.Ytoklncfdhlplkaa
