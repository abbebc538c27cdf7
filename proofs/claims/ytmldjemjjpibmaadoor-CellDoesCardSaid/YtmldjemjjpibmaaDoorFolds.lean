/- CellFolds' walk. -/
import Derived.Test.YtmldjemjjpibmaaDoorWorks12
set_option linter.unusedVariables false
set_option linter.unusedSimpArgs false
namespace Go.Proofs.YtmldjemjjpibmaaDoor
open Go.RowKit
open Go.Proofs.YtmldjemjjpibmaaDoorW.PrintWords

def CellC (c : CellD) : Prop := CellOk c ∧ absC c = c
theorem doC_canon {c : CellD} {x : Cmd} (hc : CellC c) (hx : CmdGood x) : CellC (doC c x).1 ∧ CellC (doC c x).2 := by
  have h0 : CellC (false, 0) := ⟨cell0_ok, rfl⟩
  by_cases hq : cmdOk x
  · rcases hq.1 with hk | hk | hk | hk
    · rw [doC_get hq hk]; exact ⟨hc, hc⟩
    · rw [doC_put hq hk]; exact ⟨⟨canon_lt hx.2, by show (true, canonP (canonP _)) = _; rw [canon_canon]⟩, hc⟩
    · rw [doC_del hq hk]; exact ⟨h0, hc⟩
    · rw [doC_add hq hk]; exact ⟨⟨sumC_lt _ _, by show (true, canonP _) = _; rw [canon_sumC]⟩, ⟨sumC_lt _ _, by show (true, canonP _) = _; rw [canon_sumC]⟩⟩
  · rw [doC_bad hq]; exact ⟨hc, h0⟩
/-- What the first k make of nothing. -/
noncomputable def foldN (L : List Cmd) : Nat → CellD
  | 0 => (false, 0)
  | k + 1 => (doC (foldN L k) (cmx L k)).1
theorem foldN_canon {L : List Cmd} (hL : ∀ x ∈ L, CmdGood x) : ∀ k, k ≤ L.length → CellC (foldN L k)
  | 0, _ => ⟨cell0_ok, rfl⟩
  | k + 1, h => (doC_canon (foldN_canon hL k (by omega)) (hL _ (cmx_mem (by omega)))).1
set_option maxRecDepth 100000 in
set_option maxHeartbeats 4000000 in
theorem cell_fold (A : Option Addr) (n c : Nat) (L : List Cmd) (w : World) (hC : cmdK.C w A n L) (hL : ∀ x ∈ L, CmdGood x) (hn : n ≤ 100000) :
    Calls Tryd.prog 15 #[.slice A n c] w fun r w' => r = .returned (cellV (foldN L n)) ∧ Fr (fun _ => False) w w' := by
  have HLn := Lib.hid (show L.length = n from hC.1)
  have HC := Lib.hid hC
  have HO := Lib.hid hL
  clear hC hL
  go_enter Tryd.func15, Tryd.ntmps15
  go_wp2_with fail
  go_loopw [9] (fun i wr => ∃ k : Nat, k ≤ n ∧ i = .int .i64 k ∧ Blk wr w.heap.size 24 #[.bool false, .float .f64 0] ∧ Blk wr (w.heap.size + 1) 24 #[.bool (foldN L k).1, .float .f64 (foldN L k).2] ∧ Fr (fun _ => False) w wr) (fun i _ => n - (intOf i).toNat)
  case atStart =>
    refine ⟨0, Nat.zero_le _, rfl, ?_, ?_, ((Fr.refl (fun _ => False) w).alloc _).alloc _⟩
    · exact (Blk.newAt w _ rfl _ _).alloc _
    · exact Blk.newAt (w.alloc _) _ (by simp) _ _
  case round =>
    obtain ⟨k, hk, rfl, hR, hB, hG⟩ := hrel
    have HR := Lib.hid hR
    have HB := Lib.hid hB
    have HG := Lib.hid hG
    clear hR hB hG
    rcases Nat.lt_or_ge k n with hlt | hge
    · obtain ⟨b, off, rfl, h0, h1, h2⟩ := cmds_at (Kd.C_below HC.out (HG.out.below (fun _ _ h => h))) hlt
      have hcn := foldN_canon HO.out k (by rw [HLn.out]; exact hk)
      obtain ⟨u, hu⟩ : ∃ u, u = foldN L k := ⟨_, rfl⟩
      rw [← hu] at HB hcn
      have b0 := (HB.out.alloc (.cells #[.int .i64 (cmx L k).1, .string (cmx L k).2.1, .float .f64 (cmx L k).2.2] 26)).cell 0
      have b1 := (HB.out.alloc (.cells #[.int .i64 (cmx L k).1, .string (cmx L k).2.1, .float .f64 (cmx L k).2.2] 26)).cell 1
      simp only [List.getElem?_toArray, List.getElem?_cons_zero, List.getElem?_cons_succ] at b0 b1
      have HU := Lib.hid hu
      have HCN := Lib.hid hcn
      clear hu hcn
      go_wp2_with fail
      refine (cell_do u (cmx L k) _ HCN.out.1 (HO.out _ (cmx_mem (i := k) (by rw [HLn.out]; exact hlt)))).mono ?_
      rintro r w2 ⟨rfl, hF2⟩
      rw [HCN.out.2]
      have HB2 := Lib.hid ((HB.out.alloc _).fr hF2 (fun h => h))
      have HR2 := Lib.hid ((HR.out.alloc _).fr hF2 (fun h => h))
      have F2 := Lib.hid ((HG.out.alloc _).trans hF2)
      have hs : foldN L (k + 1) = (doC u (cmx L k)).1 := by rw [HU.out]; rfl
      obtain ⟨y, hy⟩ : ∃ y, y = (doC u (cmx L k)).1 := ⟨_, rfl⟩
      rw [← hy] at hs ⊢
      have HS := Lib.hid hs
      have x0 := HB2.out.cell 0
      have x1 := HB2.out.cell 1
      have xf := HB2.out.frozen
      simp only [List.getElem?_toArray, List.getElem?_cons_zero, List.getElem?_cons_succ] at x0 x1
      clear hF2 b0 b1 h0 h1 h2 hs hy
      go_wp2_with fail
      go_roundw
      case rel =>
        refine ⟨k + 1, by omega, by go_num, HR2.out.far2 (by omega) _ _, ?_, F2.out.set2 (.inr (Nat.le_succ _)) _ _⟩
        rw [HS.out]
        exact Blk.set2 HB2.out
      case measure => simp [intOf]; omega
    · obtain rfl : n = k := by omega
      have tnn : decide (n < n) = false := decide_eq_false (by omega)
      obtain ⟨u, hu⟩ : ∃ u, u = foldN L n := ⟨_, rfl⟩
      rw [← hu] at HB
      have HU := Lib.hid hu
      have b0 := HB.out.cell 0
      have b1 := HB.out.cell 1
      have r0 := HR.out.cell 0
      have r1 := HR.out.cell 1
      have rf := HR.out.frozen
      simp only [List.getElem?_toArray, List.getElem?_cons_zero, List.getElem?_cons_succ] at b0 b1 r0 r1
      clear hu
      go_wp2_with fail
      exact bodyPost_ret (results_cell_row Tryd.results15 _ _ w.heap.size _ _ _ _ rfl (Blk.set2 HR.out) Tryd.underlying24 rfl (by kernel_rfl)) rfl ⟨by rw [← HU.out], HG.out.set2 (.inr (Nat.le_refl _)) _ _⟩
theorem ref_plain (u : CellD) (hu : CellC u) (w : World) : Calls Tryd.prog 9 #[cellV u] w fun r w' => r = .returned (.bool true) ∧ Fr (fun _ => False) w w' := by
  obtain ⟨f, x⟩ := u
  have HF := Lib.hid ((Fr.refl (fun _ => False) w).alloc (.cells #[.bool f, .float .f64 x] 24))
  cases f
  · have hx : x = 0 := by have := hu.2; rw [absC_no] at this; injection this with _ h; exact h.symm
    subst hx
    have hk : kindP 0 = 4 := by decide +kernel
    go_enter Tryd.func9, Tryd.ntmps9
    go_wp2_with fail
    refine (ref_kind 0 (by decide) _).mono ?_
    rintro r w2 ⟨rfl, hF2⟩
    rw [hk]
    subst hF2
    go_wp2_with fail
    go_ret
    exact ⟨rfl, HF.out⟩
  · go_enter Tryd.func9, Tryd.ntmps9
    go_wp2_with fail
    go_ret
    exact ⟨rfl, HF.out⟩
set_option maxRecDepth 100000 in
set_option maxHeartbeats 4000000 in
theorem lawFolds12 (A : Option Addr) (n c : Nat) (L : List Cmd) (w : World) (hC : cmdK.C w A n L) (hL : ∀ x ∈ L, CmdGood x) :
    Calls Tryd.prog 5 #[.slice A n c] w fun r w' => r = .returned (.bool true) ∧ Fr (fun _ => False) w w' := by
  have HLn := Lib.hid (show L.length = n from hC.1)
  have hmx : n ≤ 9223372036854775807 := hC.2.1
  have HC := Lib.hid hC
  have HO := Lib.hid hL
  clear hC hL
  rcases Nat.lt_or_ge 200 n with hb | hb
  · have t1 : decide (200 < n) = true := decide_eq_true (by omega)
    have t1' : decide ((200 : Int) < (n : Int)) = true := decide_eq_true (by omega)
    go_enter Tryd.func5, Tryd.ntmps5
    go_wp2_with fail
    refine (works12 _).mono ?_
    rintro e w1 ⟨rfl, hF1⟩
    go_wp2_with fail
    go_ret
    exact ⟨rfl, hF1⟩
  have t1 : decide (200 < n) = false := decide_eq_false (by omega)
  have t1' : decide ((200 : Int) < (n : Int)) = false := decide_eq_false (by omega)
  go_enter Tryd.func5, Tryd.ntmps5
  go_wp2_with fail
  go_loopw [4] (fun i wr => ∃ (k : Nat) (v : CellD), k ≤ n ∧ i = .int .i64 k ∧ Blk wr w.heap.size 24 #[.bool v.1, .float .f64 v.2] ∧ absC v = foldN L k ∧ CellOk v ∧ Fr (fun _ => False) w wr) (fun i _ => n - (intOf i).toNat)
  case atStart => exact ⟨0, (false, 0), Nat.zero_le _, rfl, Blk.newAt w _ rfl _ _, rfl, cell0_ok, (Fr.refl (fun _ => False) w).alloc _⟩
  case round =>
    obtain ⟨k, v, hk, rfl, hB, hv, hvo, hG⟩ := hrel
    have HB := Lib.hid hB
    have HV := Lib.hid hv
    have HVO := Lib.hid hvo
    have HG := Lib.hid hG
    clear hB hv hvo hG
    rcases Nat.lt_or_ge k n with hlt | hge
    · obtain ⟨b, off, rfl, h0, h1, h2⟩ := cmds_at (Kd.C_below HC.out (HG.out.below (fun _ _ h => h))) hlt
      have HCM := Lib.hid (HO.out _ (cmx_mem (i := k) (by rw [HLn.out]; exact hlt)))
      obtain ⟨St, hSt⟩ : ∃ St : World → Prop, St = Fr (fun _ => False) wr := ⟨_, rfl⟩
      have HT := Lib.hid (show ∀ w', Fr (fun _ => False) wr w' → At St w' from fun w' h => by unfold At; rw [hSt]; exact h)
      have lift : ∀ (q : Addr) (u : Value), wr.cell? q = some u → ∀ w', At St w' → w'.cell? q = some u := fun q u hq w' h => by replace h := h.out; rw [hSt] at h; exact h.cell hq (fun h => h)
      have l1 := lift _ _ h0
      have l2 := lift _ _ h1
      have l3 := lift _ _ h2
      have l4 := lift ⟨w.heap.size, 0, none⟩ _ (HB.out.cell 0)
      have l5 := lift ⟨w.heap.size, 1, none⟩ _ (HB.out.cell 1)
      have hT0 := HT.out wr.drew (Fr.refl _ _).drew
      clear lift hSt h0 h1 h2
      go_wp2_with fail
      refine rt_start [9] (At St) 10 (by kernel_rfl) rfl ?_
      refine rt_take 0 (v := ?_) rfl (by kernel_rfl) (by kernel_rfl) (by kernel_rfl) (by kernel_rfl) (fun _ _ _ h => h) (by rfl) (by first | assumption | exact HS0 _ rfl | exact HT.out _ (by repeat (first | exact Fr.refl _ _ | apply Fr.drew | refine Fr.alloc ?_ _))) ?_ ?_
      rotate_left 1
      · intro w hSw; go_simp <;> with_reducible rfl
      try simp only [Act.put, List.setIfInBounds_toArray, List.set_cons_zero, List.set_cons_succ]
      refine rt_free 1 (v := ?_) rfl (by kernel_rfl) (by kernel_rfl) (by kernel_rfl) (by kernel_rfl) (fun _ _ _ h => h) (by rfl) (fun _ => by first | assumption | exact HS0 _ rfl | exact HT.out _ (by repeat (first | exact Fr.refl _ _ | apply Fr.drew | refine Fr.alloc ?_ _))) ?_ ?_
      rotate_left 1
      · intro w; go_simp <;> with_reducible rfl
      try simp only [Act.put, List.setIfInBounds_toArray, List.set_cons_zero, List.set_cons_succ]
      refine rt_free 2 (v := ?_) rfl (by kernel_rfl) (by kernel_rfl) (by kernel_rfl) (by kernel_rfl) (fun _ _ _ h => h) (by rfl) (fun _ => by first | assumption | exact HS0 _ rfl | exact HT.out _ (by repeat (first | exact Fr.refl _ _ | apply Fr.drew | refine Fr.alloc ?_ _))) ?_ ?_
      rotate_left 1
      · intro w; go_simp <;> with_reducible rfl
      try simp only [Act.put, List.setIfInBounds_toArray, List.set_cons_zero, List.set_cons_succ]
      refine rt_free 3 (v := ?_) rfl (by kernel_rfl) (by kernel_rfl) (by kernel_rfl) (by kernel_rfl) (fun _ _ _ h => h) (by rfl) (fun _ => by first | assumption | exact HS0 _ rfl | exact HT.out _ (by repeat (first | exact Fr.refl _ _ | apply Fr.drew | refine Fr.alloc ?_ _))) ?_ ?_
      rotate_left 1
      · intro w; go_simp <;> with_reducible rfl
      try simp only [Act.put, List.setIfInBounds_toArray, List.set_cons_zero, List.set_cons_succ]
      refine rt_take 4 (v := ?_) rfl (by kernel_rfl) (by kernel_rfl) (by kernel_rfl) (by kernel_rfl) (fun _ _ _ h => h) (by rfl) (by first | assumption | exact HS0 _ rfl | exact HT.out _ (by repeat (first | exact Fr.refl _ _ | apply Fr.drew | refine Fr.alloc ?_ _))) ?_ ?_
      rotate_left 1
      · intro w hSw; go_simp <;> with_reducible rfl
      try simp only [Act.put, List.setIfInBounds_toArray, List.set_cons_zero, List.set_cons_succ]
      refine rt_one 5 rfl (by kernel_rfl) (fun K hK => ?_)
      go_simp
      refine (ref_do v (cmx L k) _ HVO.out HCM.out).mono ?_
      rintro r W3 ⟨p, q, rfl, hp, hq, hpo, hqo, hF3⟩
      have hF3' := (Fr.refl (fun _ => False) wr).drew.trans hF3
      have hT3 := HT.out _ hF3'
      go_wp2_with fail
      refine hK.out (At St) _ _ (fun _ h => h) (fun _ => by (assumption)) ?_
      clear hK K
      try simp only [Act.put, List.setIfInBounds_toArray, List.set_cons_zero, List.set_cons_succ]
      refine rt_free 6 (v := ?_) rfl (by kernel_rfl) (by kernel_rfl) (by kernel_rfl) (by kernel_rfl) (fun _ _ _ h => h) (by rfl) (fun _ => by first | assumption | exact HS0 _ rfl | exact HT.out _ (by repeat (first | exact Fr.refl _ _ | apply Fr.drew | refine Fr.alloc ?_ _))) ?_ ?_
      rotate_left 1
      · intro w; go_simp <;> with_reducible rfl
      try simp only [Act.put, List.setIfInBounds_toArray, List.set_cons_zero, List.set_cons_succ]
      refine rt_free 7 (v := ?_) rfl (by kernel_rfl) (by kernel_rfl) (by kernel_rfl) (by kernel_rfl) (fun _ _ _ h => h) (by rfl) (fun _ => by first | assumption | exact HS0 _ rfl | exact HT.out _ (by repeat (first | exact Fr.refl _ _ | apply Fr.drew | refine Fr.alloc ?_ _))) ?_ ?_
      rotate_left 1
      · intro w; go_simp <;> with_reducible rfl
      try simp only [Act.put, List.setIfInBounds_toArray, List.set_cons_zero, List.set_cons_succ]
      refine rt_free 8 (v := ?_) rfl (by kernel_rfl) (by kernel_rfl) (by kernel_rfl) (by kernel_rfl) (fun _ _ _ h => h) (by rfl) (fun _ => by first | assumption | exact HS0 _ rfl | exact HT.out _ (by repeat (first | exact Fr.refl _ _ | apply Fr.drew | refine Fr.alloc ?_ _))) ?_ ?_
      rotate_left 1
      · intro w; go_simp <;> with_reducible rfl
      try simp only [Act.put, List.setIfInBounds_toArray, List.set_cons_zero, List.set_cons_succ]
      refine rt_one 9 rfl (by kernel_rfl) (fun K hK => ?_)
      have h73 := HB.out.fr hF3' (fun h => h)
      have z0 := h73.cell 0
      have z1 := h73.cell 1
      have zf := h73.frozen
      simp only [List.getElem?_toArray, List.getElem?_cons_zero, List.getElem?_cons_succ] at z0 z1
      go_simp
      refine hK.out (At St) _ _ (fun _ h => h) (late_abs (by kernel_rfl)) ?_
      clear hK K
      try simp only [Act.put, List.setIfInBounds_toArray, List.set_cons_zero, List.set_cons_succ]
      refine rt_done (by kernel_rfl) ?_
      have H73 := Lib.hid h73
      have HF3 := Lib.hid hF3'
      have HP := Lib.hid hp
      have HPO := Lib.hid hpo
      clear l1 l2 l3 l4 l5 hT0 hT3 z0 z1 zf h73 hF3 hF3' hp hq hpo hqo
      go_wp2_with fail
      go_roundw
      case rel =>
        refine ⟨k + 1, p, by omega, by go_num, Blk.set2 H73.out, ?_, HPO.out, (HG.out.trans HF3.out).set2 (.inr (Nat.le_refl _)) _ _⟩
        rw [HP.out, HV.out]
        rfl
      case measure => simp [intOf]; omega
    · obtain rfl : n = k := by omega
      have tnn : decide (n < n) = false := decide_eq_false (by omega)
      go_wp2_with fail
      refine (cell_fold A n c L wr (Kd.C_below HC.out (HG.out.below (fun _ _ h => h))) HO.out (by omega)).mono ?_
      rintro r w2 ⟨rfl, hF2⟩
      have hcn := foldN_canon HO.out n (by rw [HLn.out]; exact Nat.le_refl _)
      obtain ⟨u, hu⟩ : ∃ u, u = foldN L n := ⟨_, rfl⟩
      rw [← hu] at HV hcn ⊢
      have HCN := Lib.hid hcn
      have HB2 := Lib.hid (HB.out.fr hF2 (fun h => h))
      have F2 := Lib.hid (HG.out.trans hF2)
      obtain ⟨W, hW⟩ : ∃ W, W = w2.alloc (.cells #[.bool u.1, .float .f64 u.2] 24) := ⟨_, rfl⟩
      have HB3 := Lib.hid (show Blk W w.heap.size 24 #[.bool v.1, .float .f64 v.2] from by rw [hW]; exact HB2.out.alloc _)
      have HX3 := Lib.hid (show Blk W w2.heap.size 24 #[.bool u.1, .float .f64 u.2] from by rw [hW]; exact Blk.newAt w2 _ rfl _ _)
      have F3 := Lib.hid (show Fr (fun _ => False) w W from by rw [hW]; exact F2.out.alloc _)
      have b0 := HB3.out.cell 0
      have b1 := HB3.out.cell 1
      simp only [List.getElem?_toArray, List.getElem?_cons_zero, List.getElem?_cons_succ] at b0 b1
      clear hF2 hu hcn
      rw [hW] at b0 b1
      go_wp2_with fail
      rw [← hW]
      refine (ref_cell_same u v W HCN.out.1 HVO.out).mono ?_
      rintro r w4 ⟨rfl, hF4⟩
      rw [decide_eq_true (show absC u = absC v from by rw [HCN.out.2, HV.out])]
      have F4 := Lib.hid (F3.out.trans hF4)
      have HX4 := Lib.hid (HX3.out.fr hF4 (fun h => h))
      have x0 := HX4.out.cell 0
      have x1 := HX4.out.cell 1
      simp only [List.getElem?_toArray, List.getElem?_cons_zero, List.getElem?_cons_succ] at x0 x1
      clear b0 b1 hF4 hW
      go_wp2_with fail
      refine (ref_plain u HCN.out _).mono ?_
      rintro r w5 ⟨rfl, hF5⟩
      have F5 := Lib.hid (F4.out.trans hF5)
      clear hF5 x0 x1
      go_wp2_with fail
      refine (works12 _).mono ?_
      rintro r w6 ⟨rfl, hF6⟩
      have F6 := Lib.hid (F5.out.trans hF6)
      clear hF6
      go_wp2_with fail
      go_ret
      exact ⟨rfl, F6.out⟩
end Go.Proofs.YtmldjemjjpibmaaDoor
