/- Cells: what a command makes of one by the reference; which are the same, by the program and by the reference. -/
import Derived.Test.YtmldjemjjpibmaaDoorCell
set_option linter.unusedVariables false
set_option linter.unusedSimpArgs false
namespace Go.Proofs.YtmldjemjjpibmaaDoor
open Go.RowKit
open Go.Proofs.YtmldjemjjpibmaaDoorW.PrintWords

theorem cell0_ok : CellOk (false, 0) := Nat.zero_lt_of_lt (by decide : 0 < 18446744073709551616)
set_option maxHeartbeats 2000000 in
theorem ref_do (c : CellD) (x : Cmd) (w : World) (hc : CellOk c) (hx : CmdGood x) :
    Calls Tryd.prog 7 #[cellV c, cmdV x] w fun r w' => ∃ u t, r = .returned (.tuple #[cellV u, cellV t]) ∧ absC u = (doC (absC c) x).1 ∧ absC t = (doC (absC c) x).2 ∧ CellOk u ∧ CellOk t ∧ Fr (fun _ => False) w w' := by
  obtain ⟨k, s, v⟩ := x
  obtain ⟨hs, hv⟩ := hx
  simp only at hs hv
  obtain ⟨f, y⟩ := c
  have hy0 : (0 : Nat) < 18446744073709551616 := by decide
  cases f
  · have hF : Fr (fun _ => False) w _ := ((((Fr.refl (fun _ => False) w).alloc (.cells #[.bool false, .float .f64 0] 24)).alloc (.cells #[.int .i64 k, .string s, .float .f64 v] 26)).alloc (.cells #[.bool false, .float .f64 0] 24)).alloc (.cells #[.bool false, .float .f64 0] 24)
    have hC := (((Blk.new w 24 #[.bool false, .float .f64 0]).alloc (.cells #[.int .i64 k, .string s, .float .f64 v] 26)).alloc (.cells #[.bool false, .float .f64 0] 24)).alloc (.cells #[.bool false, .float .f64 0] 24)
    have hX := ((Blk.new (w.alloc (.cells #[.bool false, .float .f64 0] 24)) 26 #[.int .i64 k, .string s, .float .f64 v]).alloc (.cells #[.bool false, .float .f64 0] 24)).alloc (.cells #[.bool false, .float .f64 0] 24)
    have hR := (Blk.new ((w.alloc (.cells #[.bool false, .float .f64 0] 24)).alloc (.cells #[.int .i64 k, .string s, .float .f64 v] 26)) 24 #[.bool false, .float .f64 0]).alloc (.cells #[.bool false, .float .f64 0] 24)
    have hT := Blk.new (((w.alloc (.cells #[.bool false, .float .f64 0] 24)).alloc (.cells #[.int .i64 k, .string s, .float .f64 v] 26)).alloc (.cells #[.bool false, .float .f64 0] 24)) 24 #[.bool false, .float .f64 0]
    rw [World.size_alloc] at hX
    rw [World.size_alloc, World.size_alloc] at hR
    rw [World.size_alloc, World.size_alloc, World.size_alloc] at hT
    go_enter Tryd.func7, Tryd.ntmps7
    go_wp2_with fail
    have hcx := fun w => ref_cmd_right k s v w hs hv
    refine (hcx _).mono ?_
    rintro r w4 ⟨rfl, hF4⟩
    replace hF := hF.trans hF4
    replace hC := hC.fr hF4 (fun h => h)
    replace hX := hX.fr hF4 (fun h => h)
    replace hR := hR.fr hF4 (fun h => h)
    replace hT := hT.fr hF4 (fun h => h)
    clear hF4
    have c0 := hC.cell 0
    have c1 := hC.cell 1
    have x0 := hX.cell 0
    have x1 := hX.cell 1
    have x2 := hX.cell 2
    have r0 := hR.cell 0
    have r1 := hR.cell 1
    have rf := hR.frozen
    have t0 := hT.cell 0
    have t1 := hT.cell 1
    have tf := hT.frozen
    simp only [List.getElem?_toArray, List.getElem?_cons_zero, List.getElem?_cons_succ] at c0 c1 x0 x1 x2 r0 r1 t0 t1
    have hl4 := Lib.hid hT.lt
    by_cases hq : cmdOk (k, s, v)
    · rw [cdec_true hq]
      have HQ := Lib.hid hq
      have hk := hq.1
      simp only at hk
      clear hq
      rcases hk with hk | hk | hk | hk
      · subst hk
        go_wp2_with fail
        obtain ⟨St, hSt⟩ : ∃ St : World → Prop, St = Fr (fun b => b = w.heap.size + 1 + 1) w4 := ⟨_, rfl⟩
        have HT := Lib.hid (show ∀ w', Fr (fun b => b = w.heap.size + 1 + 1) w4 w' → At St w' from fun w' h => by unfold At; rw [hSt]; exact h)
        have lift : ∀ (q : Addr) (u : Value), q.block ≠ w.heap.size + 1 + 1 → w4.cell? q = some u → ∀ w', At St w' → w'.cell? q = some u := fun q u hb hq w' h => by replace h := h.out; rw [hSt] at h; exact h.cell hq hb
        have l0 := lift ⟨w.heap.size, 0, none⟩ _ (by simp only []; omega) c0
        have l1 := lift ⟨w.heap.size, 1, none⟩ _ (by simp only []; omega) c1
        have hT0 := HT.out w4.drew (Fr.refl _ _).drew
        have hT1 := HT.out _ ((Fr.refl (fun b => b = w.heap.size + 1 + 1) w4).drew.set2 (.inl rfl) (.bool false) (.float .f64 0))
        clear hSt lift
        refine rt_start [3] (At St) 4 (by kernel_rfl) rfl ?_
        refine rt_take 0 (v := ?_) rfl (by kernel_rfl) (by kernel_rfl) (by kernel_rfl) (by kernel_rfl) (fun _ _ _ h => h) (by rfl) (by first | assumption | exact HS0 _ rfl | exact HT.out _ (by repeat (first | exact Fr.refl _ _ | apply Fr.drew | refine Fr.alloc ?_ _))) ?_ ?_
        rotate_left 1
        · intro w hSw; go_simp <;> with_reducible rfl
        try simp only [Act.put, List.setIfInBounds_toArray, List.set_cons_zero, List.set_cons_succ]
        refine rt_take 1 (v := ?_) rfl (by kernel_rfl) (by kernel_rfl) (by kernel_rfl) (by kernel_rfl) (fun _ _ _ h => h) (by rfl) (by first | assumption | exact HS0 _ rfl | exact HT.out _ (by repeat (first | exact Fr.refl _ _ | apply Fr.drew | refine Fr.alloc ?_ _))) ?_ ?_
        rotate_left 1
        · intro w hSw; go_simp <;> with_reducible rfl
        try simp only [Act.put, List.setIfInBounds_toArray, List.set_cons_zero, List.set_cons_succ]
        refine rt_one 2 rfl (by kernel_rfl) (fun K hK => ?_)
        go_simp
        refine hK.out (At St) _ _ (fun _ h => h) (fun _ => by (assumption)) ?_
        clear hK K
        try simp only [Act.put, List.setIfInBounds_toArray, List.set_cons_zero, List.set_cons_succ]
        refine rt_one 3 rfl (by kernel_rfl) (fun K hK => ?_)
        go_simp
        refine hK.out (At St) _ _ (fun _ h => h) (late_abs (by kernel_rfl)) ?_
        clear hK K
        try simp only [Act.put, List.setIfInBounds_toArray, List.set_cons_zero, List.set_cons_succ]
        refine rt_done (by kernel_rfl) ?_
        go_wp2_with fail
        exact bodyPost_ret (results_cc Tryd.results7 _ _ (w.heap.size + 1 + 1) (w.heap.size + 1 + 1 + 1) _ _ _ _ _ _ _ _ rfl (Blk.far2 (Blk.set2 hR.drew) (by omega) _ _) Tryd.underlying24 rfl (by kernel_rfl) rfl (Blk.set2 (Blk.far2 hT.drew (by omega) _ _)) Tryd.underlying24 rfl (by kernel_rfl)) rfl ⟨(false, 0), (false, 0), rfl, (by rw [doC_get HQ.out rfl] <;> rfl), (by rw [doC_get HQ.out rfl] <;> rfl), cell0_ok, cell0_ok, (hF.drew.set2 (.inr (by omega)) _ _).set2 (.inr (by omega)) _ _⟩

      · subst hk
        go_wp2_with fail
        obtain ⟨St, hSt⟩ : ∃ St : World → Prop, St = Fr (fun b => b = w.heap.size + 1 + 1) w4 := ⟨_, rfl⟩
        have HT := Lib.hid (show ∀ w', Fr (fun b => b = w.heap.size + 1 + 1) w4 w' → At St w' from fun w' h => by unfold At; rw [hSt]; exact h)
        have lift : ∀ (q : Addr) (u : Value), q.block ≠ w.heap.size + 1 + 1 → w4.cell? q = some u → ∀ w', At St w' → w'.cell? q = some u := fun q u hb hq w' h => by replace h := h.out; rw [hSt] at h; exact h.cell hq hb
        have l0 := lift ⟨w.heap.size, 0, none⟩ _ (by simp only []; omega) c0
        have l1 := lift ⟨w.heap.size, 1, none⟩ _ (by simp only []; omega) c1
        have l2 := lift ⟨w.heap.size + 1, 2, none⟩ _ (by simp only []; omega) x2
        have hT0 := HT.out w4.drew (Fr.refl _ _).drew
        have hT1 := HT.out _ ((Fr.refl (fun b => b = w.heap.size + 1 + 1) w4).drew.set2 (.inl rfl) (.bool true) (.float .f64 v))
        clear hSt lift
        refine rt_start [5] (At St) 6 (by kernel_rfl) rfl ?_
        refine rt_free 0 (v := ?_) rfl (by kernel_rfl) (by kernel_rfl) (by kernel_rfl) (by kernel_rfl) (fun _ _ _ h => h) (by rfl) (fun _ => by first | assumption | exact HS0 _ rfl | exact HT.out _ (by repeat (first | exact Fr.refl _ _ | apply Fr.drew | refine Fr.alloc ?_ _))) ?_ ?_
        rotate_left 1
        · intro w; go_simp <;> with_reducible rfl
        try simp only [Act.put, List.setIfInBounds_toArray, List.set_cons_zero, List.set_cons_succ]
        refine rt_take 1 (v := ?_) rfl (by kernel_rfl) (by kernel_rfl) (by kernel_rfl) (by kernel_rfl) (fun _ _ _ h => h) (by rfl) (by first | assumption | exact HS0 _ rfl | exact HT.out _ (by repeat (first | exact Fr.refl _ _ | apply Fr.drew | refine Fr.alloc ?_ _))) ?_ ?_
        rotate_left 1
        · intro w hSw; go_simp <;> with_reducible rfl
        try simp only [Act.put, List.setIfInBounds_toArray, List.set_cons_zero, List.set_cons_succ]
        refine rt_free 2 (v := ?_) rfl (by kernel_rfl) (by kernel_rfl) (by kernel_rfl) (by kernel_rfl) (fun _ _ _ h => h) (by rfl) (fun _ => by first | assumption | exact HS0 _ rfl | exact HT.out _ (by repeat (first | exact Fr.refl _ _ | apply Fr.drew | refine Fr.alloc ?_ _))) ?_ ?_
        rotate_left 1
        · intro w; go_simp <;> with_reducible rfl
        try simp only [Act.put, List.setIfInBounds_toArray, List.set_cons_zero, List.set_cons_succ]
        refine rt_take 3 (v := ?_) rfl (by kernel_rfl) (by kernel_rfl) (by kernel_rfl) (by kernel_rfl) (fun _ _ _ h => h) (by rfl) (by first | assumption | exact HS0 _ rfl | exact HT.out _ (by repeat (first | exact Fr.refl _ _ | apply Fr.drew | refine Fr.alloc ?_ _))) ?_ ?_
        rotate_left 1
        · intro w hSw; go_simp <;> with_reducible rfl
        try simp only [Act.put, List.setIfInBounds_toArray, List.set_cons_zero, List.set_cons_succ]
        refine rt_one 4 rfl (by kernel_rfl) (fun K hK => ?_)
        go_simp
        refine hK.out (At St) _ _ (fun _ h => h) (fun _ => by (assumption)) ?_
        clear hK K
        try simp only [Act.put, List.setIfInBounds_toArray, List.set_cons_zero, List.set_cons_succ]
        refine rt_one 5 rfl (by kernel_rfl) (fun K hK => ?_)
        go_simp
        refine hK.out (At St) _ _ (fun _ h => h) (late_abs (by kernel_rfl)) ?_
        clear hK K
        try simp only [Act.put, List.setIfInBounds_toArray, List.set_cons_zero, List.set_cons_succ]
        refine rt_done (by kernel_rfl) ?_
        go_wp2_with fail
        exact bodyPost_ret (results_cc Tryd.results7 _ _ (w.heap.size + 1 + 1) (w.heap.size + 1 + 1 + 1) _ _ _ _ _ _ _ _ rfl (Blk.far2 (Blk.set2 hR.drew) (by omega) _ _) Tryd.underlying24 rfl (by kernel_rfl) rfl (Blk.set2 (Blk.far2 hT.drew (by omega) _ _)) Tryd.underlying24 rfl (by kernel_rfl)) rfl ⟨(true, v), (false, 0), rfl, (by rw [doC_put HQ.out rfl] <;> rfl), (by rw [doC_put HQ.out rfl] <;> rfl), hv, cell0_ok, (hF.drew.set2 (.inr (by omega)) _ _).set2 (.inr (by omega)) _ _⟩

      · subst hk
        go_wp2_with fail
        obtain ⟨St, hSt⟩ : ∃ St : World → Prop, St = Fr (fun b => b = w.heap.size + 1 + 1) w4 := ⟨_, rfl⟩
        have HT := Lib.hid (show ∀ w', Fr (fun b => b = w.heap.size + 1 + 1) w4 w' → At St w' from fun w' h => by unfold At; rw [hSt]; exact h)
        have lift : ∀ (q : Addr) (u : Value), q.block ≠ w.heap.size + 1 + 1 → w4.cell? q = some u → ∀ w', At St w' → w'.cell? q = some u := fun q u hb hq w' h => by replace h := h.out; rw [hSt] at h; exact h.cell hq hb
        have l0 := lift ⟨w.heap.size, 0, none⟩ _ (by simp only []; omega) c0
        have l1 := lift ⟨w.heap.size, 1, none⟩ _ (by simp only []; omega) c1
        have hT0 := HT.out w4.drew (Fr.refl _ _).drew
        have hT1 := HT.out _ ((Fr.refl (fun b => b = w.heap.size + 1 + 1) w4).drew.set2 (.inl rfl) (.bool false) (.float .f64 0))
        clear hSt lift
        refine rt_start [3] (At St) 4 (by kernel_rfl) rfl ?_
        refine rt_free 0 (v := ?_) rfl (by kernel_rfl) (by kernel_rfl) (by kernel_rfl) (by kernel_rfl) (fun _ _ _ h => h) (by rfl) (fun _ => by first | assumption | exact HS0 _ rfl | exact HT.out _ (by repeat (first | exact Fr.refl _ _ | apply Fr.drew | refine Fr.alloc ?_ _))) ?_ ?_
        rotate_left 1
        · intro w; go_simp <;> with_reducible rfl
        try simp only [Act.put, List.setIfInBounds_toArray, List.set_cons_zero, List.set_cons_succ]
        refine rt_take 1 (v := ?_) rfl (by kernel_rfl) (by kernel_rfl) (by kernel_rfl) (by kernel_rfl) (fun _ _ _ h => h) (by rfl) (by first | assumption | exact HS0 _ rfl | exact HT.out _ (by repeat (first | exact Fr.refl _ _ | apply Fr.drew | refine Fr.alloc ?_ _))) ?_ ?_
        rotate_left 1
        · intro w hSw; go_simp <;> with_reducible rfl
        try simp only [Act.put, List.setIfInBounds_toArray, List.set_cons_zero, List.set_cons_succ]
        refine rt_one 2 rfl (by kernel_rfl) (fun K hK => ?_)
        go_simp
        refine hK.out (At St) _ _ (fun _ h => h) (fun _ => by (assumption)) ?_
        clear hK K
        try simp only [Act.put, List.setIfInBounds_toArray, List.set_cons_zero, List.set_cons_succ]
        refine rt_one 3 rfl (by kernel_rfl) (fun K hK => ?_)
        go_simp
        refine hK.out (At St) _ _ (fun _ h => h) (late_abs (by kernel_rfl)) ?_
        clear hK K
        try simp only [Act.put, List.setIfInBounds_toArray, List.set_cons_zero, List.set_cons_succ]
        refine rt_done (by kernel_rfl) ?_
        go_wp2_with fail
        exact bodyPost_ret (results_cc Tryd.results7 _ _ (w.heap.size + 1 + 1) (w.heap.size + 1 + 1 + 1) _ _ _ _ _ _ _ _ rfl (Blk.far2 (Blk.set2 hR.drew) (by omega) _ _) Tryd.underlying24 rfl (by kernel_rfl) rfl (Blk.set2 (Blk.far2 hT.drew (by omega) _ _)) Tryd.underlying24 rfl (by kernel_rfl)) rfl ⟨(false, 0), (false, 0), rfl, (by rw [doC_del HQ.out rfl] <;> rfl), (by rw [doC_del HQ.out rfl] <;> rfl), cell0_ok, cell0_ok, (hF.drew.set2 (.inr (by omega)) _ _).set2 (.inr (by omega)) _ _⟩

      · subst hk
        obtain ⟨u, wS, hu, hrun, hFS, hor⟩ := add_any 0 v hy0 hv w4
        replace hC := (hC.fr hFS (fun h => h)).alloc (.cells #[.bool true, .float .f64 u] 24)
        replace hR := (hR.fr hFS (fun h => h)).alloc (.cells #[.bool true, .float .f64 u] 24)
        replace hT := (hT.fr hFS (fun h => h)).alloc (.cells #[.bool true, .float .f64 u] 24)
        replace hF := (hF.trans hFS).alloc (.cells #[.bool true, .float .f64 u] 24)
        have hlS := hFS.size
        have hlt := hT.lt
        rw [World.size_alloc] at hlt
        have hN5 := Blk.new wS 24 #[.bool true, .float .f64 u]
        obtain ⟨W5, hW5⟩ : ∃ W, wS.alloc (.cells #[.bool true, .float .f64 u] 24) = W := ⟨_, rfl⟩
        obtain ⟨n5, hn5⟩ : ∃ n, wS.heap.size = n := ⟨_, rfl⟩
        rw [hW5] at hN5 hC hR hT hF
        rw [hn5] at hN5 hlt
        have n0 := hN5.cell 0
        have n1 := hN5.cell 1
        have r0' := hR.cell 0
        have r1' := hR.cell 1
        have rf' := hR.frozen
        have t0' := hT.cell 0
        have t1' := hT.cell 1
        have tf' := hT.frozen
        simp only [List.getElem?_toArray, List.getElem?_cons_zero, List.getElem?_cons_succ] at n0 n1 r0' r1' t0' t1'
        have HOR := Lib.hid hor
        have q5 : w.heap.size + 1 + 1 + 1 < n5 := by have := hl4.out; omega
        have HU := Lib.hid hu
        clear hor hFS hu hlS hlt
        go_wp2_with fail
        obtain ⟨St, hSt⟩ : ∃ St : World → Prop, St = Fr (fun b => b = w.heap.size + 1 + 1) W5 := ⟨_, rfl⟩
        have HT := Lib.hid (show ∀ w', Fr (fun b => b = w.heap.size + 1 + 1) W5 w' → At St w' from fun w' h => by unfold At; rw [hSt]; exact h)
        have lift : ∀ (q : Addr) (u : Value), q.block ≠ w.heap.size + 1 + 1 → W5.cell? q = some u → ∀ w', At St w' → w'.cell? q = some u := fun q u hb hq w' h => by replace h := h.out; rw [hSt] at h; exact h.cell hq hb
        have l0 := lift ⟨n5, 0, none⟩ _ (by simp only []; omega) n0
        have l1 := lift ⟨n5, 1, none⟩ _ (by simp only []; omega) n1
        have hT0 := HT.out W5.drew (Fr.refl _ _).drew
        have hT1 := HT.out _ ((Fr.refl (fun b => b = w.heap.size + 1 + 1) W5).drew.set2 (.inl rfl) (.bool true) (.float .f64 u))
        clear hSt lift
        refine rt_start [3] (At St) 4 (by kernel_rfl) rfl ?_
        refine rt_take 0 (v := ?_) rfl (by kernel_rfl) (by kernel_rfl) (by kernel_rfl) (by kernel_rfl) (fun _ _ _ h => h) (by rfl) (by first | assumption | exact HS0 _ rfl | exact HT.out _ (by repeat (first | exact Fr.refl _ _ | apply Fr.drew | refine Fr.alloc ?_ _))) ?_ ?_
        rotate_left 1
        · intro w hSw; go_simp <;> with_reducible rfl
        try simp only [Act.put, List.setIfInBounds_toArray, List.set_cons_zero, List.set_cons_succ]
        refine rt_take 1 (v := ?_) rfl (by kernel_rfl) (by kernel_rfl) (by kernel_rfl) (by kernel_rfl) (fun _ _ _ h => h) (by rfl) (by first | assumption | exact HS0 _ rfl | exact HT.out _ (by repeat (first | exact Fr.refl _ _ | apply Fr.drew | refine Fr.alloc ?_ _))) ?_ ?_
        rotate_left 1
        · intro w hSw; go_simp <;> with_reducible rfl
        try simp only [Act.put, List.setIfInBounds_toArray, List.set_cons_zero, List.set_cons_succ]
        refine rt_one 2 rfl (by kernel_rfl) (fun K hK => ?_)
        go_simp
        refine hK.out (At St) _ _ (fun _ h => h) (fun _ => by (assumption)) ?_
        clear hK K
        try simp only [Act.put, List.setIfInBounds_toArray, List.set_cons_zero, List.set_cons_succ]
        refine rt_one 3 rfl (by kernel_rfl) (fun K hK => ?_)
        go_simp
        refine hK.out (At St) _ _ (fun _ h => h) (late_abs (by kernel_rfl)) ?_
        clear hK K
        try simp only [Act.put, List.setIfInBounds_toArray, List.set_cons_zero, List.set_cons_succ]
        refine rt_done (by kernel_rfl) ?_
        go_wp2_with fail
        exact bodyPost_ret (results_cc Tryd.results7 _ _ (w.heap.size + 1 + 1) (w.heap.size + 1 + 1 + 1) _ _ _ _ _ _ _ _ rfl (Blk.far2 (Blk.set2 hR.drew) (by omega) _ _) Tryd.underlying24 rfl (by kernel_rfl) rfl (Blk.set2 (Blk.far2 hT.drew (by omega) _ _)) Tryd.underlying24 rfl (by kernel_rfl)) rfl ⟨(true, u), (true, u), rfl, (by rw [doC_add HQ.out rfl]; exact (congrArg (Prod.mk true) ((sumC_of HOR.out).trans (rfl)))), (by rw [doC_add HQ.out rfl]; exact (congrArg (Prod.mk true) ((sumC_of HOR.out).trans (rfl)))), HU.out, HU.out, (hF.drew.set2 (.inr (by omega)) _ _).set2 (.inr (by omega)) _ _⟩

    · rw [cdec_false hq]
      have HQ := Lib.hid hq
      clear hq
      go_wp2_with fail
      exact bodyPost_ret (results_cc Tryd.results7 _ _ (w.heap.size + 1 + 1) (w.heap.size + 1 + 1 + 1) _ _ _ _ _ _ _ _ rfl (Blk.far2 (Blk.set2 hR) (by omega) _ _) Tryd.underlying24 rfl (by kernel_rfl) rfl (Blk.set2 (Blk.far2 hT (by omega) _ _)) Tryd.underlying24 rfl (by kernel_rfl)) rfl ⟨(false, 0), (false, 0), rfl, (by rw [doC_bad HQ.out] <;> rfl), (by rw [doC_bad HQ.out] <;> rfl), cell0_ok, cell0_ok, (hF.set2 (.inr (by omega)) _ _).set2 (.inr (by omega)) _ _⟩

  · have hF : Fr (fun _ => False) w _ := ((((Fr.refl (fun _ => False) w).alloc (.cells #[.bool true, .float .f64 y] 24)).alloc (.cells #[.int .i64 k, .string s, .float .f64 v] 26)).alloc (.cells #[.bool false, .float .f64 0] 24)).alloc (.cells #[.bool false, .float .f64 0] 24)
    have hC := (((Blk.new w 24 #[.bool true, .float .f64 y]).alloc (.cells #[.int .i64 k, .string s, .float .f64 v] 26)).alloc (.cells #[.bool false, .float .f64 0] 24)).alloc (.cells #[.bool false, .float .f64 0] 24)
    have hX := ((Blk.new (w.alloc (.cells #[.bool true, .float .f64 y] 24)) 26 #[.int .i64 k, .string s, .float .f64 v]).alloc (.cells #[.bool false, .float .f64 0] 24)).alloc (.cells #[.bool false, .float .f64 0] 24)
    have hR := (Blk.new ((w.alloc (.cells #[.bool true, .float .f64 y] 24)).alloc (.cells #[.int .i64 k, .string s, .float .f64 v] 26)) 24 #[.bool false, .float .f64 0]).alloc (.cells #[.bool false, .float .f64 0] 24)
    have hT := Blk.new (((w.alloc (.cells #[.bool true, .float .f64 y] 24)).alloc (.cells #[.int .i64 k, .string s, .float .f64 v] 26)).alloc (.cells #[.bool false, .float .f64 0] 24)) 24 #[.bool false, .float .f64 0]
    rw [World.size_alloc] at hX
    rw [World.size_alloc, World.size_alloc] at hR
    rw [World.size_alloc, World.size_alloc, World.size_alloc] at hT
    go_enter Tryd.func7, Tryd.ntmps7
    go_wp2_with fail
    have hcx := fun w => ref_cmd_right k s v w hs hv
    refine (hcx _).mono ?_
    rintro r w4 ⟨rfl, hF4⟩
    replace hF := hF.trans hF4
    replace hC := hC.fr hF4 (fun h => h)
    replace hX := hX.fr hF4 (fun h => h)
    replace hR := hR.fr hF4 (fun h => h)
    replace hT := hT.fr hF4 (fun h => h)
    clear hF4
    have c0 := hC.cell 0
    have c1 := hC.cell 1
    have x0 := hX.cell 0
    have x1 := hX.cell 1
    have x2 := hX.cell 2
    have r0 := hR.cell 0
    have r1 := hR.cell 1
    have rf := hR.frozen
    have t0 := hT.cell 0
    have t1 := hT.cell 1
    have tf := hT.frozen
    simp only [List.getElem?_toArray, List.getElem?_cons_zero, List.getElem?_cons_succ] at c0 c1 x0 x1 x2 r0 r1 t0 t1
    have hl4 := Lib.hid hT.lt
    by_cases hq : cmdOk (k, s, v)
    · rw [cdec_true hq]
      have HQ := Lib.hid hq
      have hk := hq.1
      simp only at hk
      clear hq
      rcases hk with hk | hk | hk | hk
      · subst hk
        go_wp2_with fail
        obtain ⟨St, hSt⟩ : ∃ St : World → Prop, St = Fr (fun b => b = w.heap.size + 1 + 1) w4 := ⟨_, rfl⟩
        have HT := Lib.hid (show ∀ w', Fr (fun b => b = w.heap.size + 1 + 1) w4 w' → At St w' from fun w' h => by unfold At; rw [hSt]; exact h)
        have lift : ∀ (q : Addr) (u : Value), q.block ≠ w.heap.size + 1 + 1 → w4.cell? q = some u → ∀ w', At St w' → w'.cell? q = some u := fun q u hb hq w' h => by replace h := h.out; rw [hSt] at h; exact h.cell hq hb
        have l0 := lift ⟨w.heap.size, 0, none⟩ _ (by simp only []; omega) c0
        have l1 := lift ⟨w.heap.size, 1, none⟩ _ (by simp only []; omega) c1
        have hT0 := HT.out w4.drew (Fr.refl _ _).drew
        have hT1 := HT.out _ ((Fr.refl (fun b => b = w.heap.size + 1 + 1) w4).drew.set2 (.inl rfl) (.bool true) (.float .f64 y))
        clear hSt lift
        refine rt_start [3] (At St) 4 (by kernel_rfl) rfl ?_
        refine rt_take 0 (v := ?_) rfl (by kernel_rfl) (by kernel_rfl) (by kernel_rfl) (by kernel_rfl) (fun _ _ _ h => h) (by rfl) (by first | assumption | exact HS0 _ rfl | exact HT.out _ (by repeat (first | exact Fr.refl _ _ | apply Fr.drew | refine Fr.alloc ?_ _))) ?_ ?_
        rotate_left 1
        · intro w hSw; go_simp <;> with_reducible rfl
        try simp only [Act.put, List.setIfInBounds_toArray, List.set_cons_zero, List.set_cons_succ]
        refine rt_take 1 (v := ?_) rfl (by kernel_rfl) (by kernel_rfl) (by kernel_rfl) (by kernel_rfl) (fun _ _ _ h => h) (by rfl) (by first | assumption | exact HS0 _ rfl | exact HT.out _ (by repeat (first | exact Fr.refl _ _ | apply Fr.drew | refine Fr.alloc ?_ _))) ?_ ?_
        rotate_left 1
        · intro w hSw; go_simp <;> with_reducible rfl
        try simp only [Act.put, List.setIfInBounds_toArray, List.set_cons_zero, List.set_cons_succ]
        refine rt_one 2 rfl (by kernel_rfl) (fun K hK => ?_)
        go_simp
        refine hK.out (At St) _ _ (fun _ h => h) (fun _ => by (assumption)) ?_
        clear hK K
        try simp only [Act.put, List.setIfInBounds_toArray, List.set_cons_zero, List.set_cons_succ]
        refine rt_one 3 rfl (by kernel_rfl) (fun K hK => ?_)
        go_simp
        refine hK.out (At St) _ _ (fun _ h => h) (late_abs (by kernel_rfl)) ?_
        clear hK K
        try simp only [Act.put, List.setIfInBounds_toArray, List.set_cons_zero, List.set_cons_succ]
        refine rt_done (by kernel_rfl) ?_
        go_wp2_with fail
        exact bodyPost_ret (results_cc Tryd.results7 _ _ (w.heap.size + 1 + 1) (w.heap.size + 1 + 1 + 1) _ _ _ _ _ _ _ _ rfl (Blk.far2 (Blk.set2 hR.drew) (by omega) _ _) Tryd.underlying24 rfl (by kernel_rfl) rfl (Blk.set2 (Blk.far2 hT.drew (by omega) _ _)) Tryd.underlying24 rfl (by kernel_rfl)) rfl ⟨(true, y), (true, y), rfl, (by rw [doC_get HQ.out rfl] <;> rfl), (by rw [doC_get HQ.out rfl] <;> rfl), hc, hc, (hF.drew.set2 (.inr (by omega)) _ _).set2 (.inr (by omega)) _ _⟩

      · subst hk
        go_wp2_with fail
        obtain ⟨St, hSt⟩ : ∃ St : World → Prop, St = Fr (fun b => b = w.heap.size + 1 + 1) w4 := ⟨_, rfl⟩
        have HT := Lib.hid (show ∀ w', Fr (fun b => b = w.heap.size + 1 + 1) w4 w' → At St w' from fun w' h => by unfold At; rw [hSt]; exact h)
        have lift : ∀ (q : Addr) (u : Value), q.block ≠ w.heap.size + 1 + 1 → w4.cell? q = some u → ∀ w', At St w' → w'.cell? q = some u := fun q u hb hq w' h => by replace h := h.out; rw [hSt] at h; exact h.cell hq hb
        have l0 := lift ⟨w.heap.size, 0, none⟩ _ (by simp only []; omega) c0
        have l1 := lift ⟨w.heap.size, 1, none⟩ _ (by simp only []; omega) c1
        have l2 := lift ⟨w.heap.size + 1, 2, none⟩ _ (by simp only []; omega) x2
        have hT0 := HT.out w4.drew (Fr.refl _ _).drew
        have hT1 := HT.out _ ((Fr.refl (fun b => b = w.heap.size + 1 + 1) w4).drew.set2 (.inl rfl) (.bool true) (.float .f64 v))
        clear hSt lift
        refine rt_start [5] (At St) 6 (by kernel_rfl) rfl ?_
        refine rt_free 0 (v := ?_) rfl (by kernel_rfl) (by kernel_rfl) (by kernel_rfl) (by kernel_rfl) (fun _ _ _ h => h) (by rfl) (fun _ => by first | assumption | exact HS0 _ rfl | exact HT.out _ (by repeat (first | exact Fr.refl _ _ | apply Fr.drew | refine Fr.alloc ?_ _))) ?_ ?_
        rotate_left 1
        · intro w; go_simp <;> with_reducible rfl
        try simp only [Act.put, List.setIfInBounds_toArray, List.set_cons_zero, List.set_cons_succ]
        refine rt_take 1 (v := ?_) rfl (by kernel_rfl) (by kernel_rfl) (by kernel_rfl) (by kernel_rfl) (fun _ _ _ h => h) (by rfl) (by first | assumption | exact HS0 _ rfl | exact HT.out _ (by repeat (first | exact Fr.refl _ _ | apply Fr.drew | refine Fr.alloc ?_ _))) ?_ ?_
        rotate_left 1
        · intro w hSw; go_simp <;> with_reducible rfl
        try simp only [Act.put, List.setIfInBounds_toArray, List.set_cons_zero, List.set_cons_succ]
        refine rt_free 2 (v := ?_) rfl (by kernel_rfl) (by kernel_rfl) (by kernel_rfl) (by kernel_rfl) (fun _ _ _ h => h) (by rfl) (fun _ => by first | assumption | exact HS0 _ rfl | exact HT.out _ (by repeat (first | exact Fr.refl _ _ | apply Fr.drew | refine Fr.alloc ?_ _))) ?_ ?_
        rotate_left 1
        · intro w; go_simp <;> with_reducible rfl
        try simp only [Act.put, List.setIfInBounds_toArray, List.set_cons_zero, List.set_cons_succ]
        refine rt_take 3 (v := ?_) rfl (by kernel_rfl) (by kernel_rfl) (by kernel_rfl) (by kernel_rfl) (fun _ _ _ h => h) (by rfl) (by first | assumption | exact HS0 _ rfl | exact HT.out _ (by repeat (first | exact Fr.refl _ _ | apply Fr.drew | refine Fr.alloc ?_ _))) ?_ ?_
        rotate_left 1
        · intro w hSw; go_simp <;> with_reducible rfl
        try simp only [Act.put, List.setIfInBounds_toArray, List.set_cons_zero, List.set_cons_succ]
        refine rt_one 4 rfl (by kernel_rfl) (fun K hK => ?_)
        go_simp
        refine hK.out (At St) _ _ (fun _ h => h) (fun _ => by (assumption)) ?_
        clear hK K
        try simp only [Act.put, List.setIfInBounds_toArray, List.set_cons_zero, List.set_cons_succ]
        refine rt_one 5 rfl (by kernel_rfl) (fun K hK => ?_)
        go_simp
        refine hK.out (At St) _ _ (fun _ h => h) (late_abs (by kernel_rfl)) ?_
        clear hK K
        try simp only [Act.put, List.setIfInBounds_toArray, List.set_cons_zero, List.set_cons_succ]
        refine rt_done (by kernel_rfl) ?_
        go_wp2_with fail
        exact bodyPost_ret (results_cc Tryd.results7 _ _ (w.heap.size + 1 + 1) (w.heap.size + 1 + 1 + 1) _ _ _ _ _ _ _ _ rfl (Blk.far2 (Blk.set2 hR.drew) (by omega) _ _) Tryd.underlying24 rfl (by kernel_rfl) rfl (Blk.set2 (Blk.far2 hT.drew (by omega) _ _)) Tryd.underlying24 rfl (by kernel_rfl)) rfl ⟨(true, v), (true, y), rfl, (by rw [doC_put HQ.out rfl] <;> rfl), (by rw [doC_put HQ.out rfl] <;> rfl), hv, hc, (hF.drew.set2 (.inr (by omega)) _ _).set2 (.inr (by omega)) _ _⟩

      · subst hk
        go_wp2_with fail
        obtain ⟨St, hSt⟩ : ∃ St : World → Prop, St = Fr (fun b => b = w.heap.size + 1 + 1) w4 := ⟨_, rfl⟩
        have HT := Lib.hid (show ∀ w', Fr (fun b => b = w.heap.size + 1 + 1) w4 w' → At St w' from fun w' h => by unfold At; rw [hSt]; exact h)
        have lift : ∀ (q : Addr) (u : Value), q.block ≠ w.heap.size + 1 + 1 → w4.cell? q = some u → ∀ w', At St w' → w'.cell? q = some u := fun q u hb hq w' h => by replace h := h.out; rw [hSt] at h; exact h.cell hq hb
        have l0 := lift ⟨w.heap.size, 0, none⟩ _ (by simp only []; omega) c0
        have l1 := lift ⟨w.heap.size, 1, none⟩ _ (by simp only []; omega) c1
        have hT0 := HT.out w4.drew (Fr.refl _ _).drew
        have hT1 := HT.out _ ((Fr.refl (fun b => b = w.heap.size + 1 + 1) w4).drew.set2 (.inl rfl) (.bool false) (.float .f64 0))
        clear hSt lift
        refine rt_start [3] (At St) 4 (by kernel_rfl) rfl ?_
        refine rt_free 0 (v := ?_) rfl (by kernel_rfl) (by kernel_rfl) (by kernel_rfl) (by kernel_rfl) (fun _ _ _ h => h) (by rfl) (fun _ => by first | assumption | exact HS0 _ rfl | exact HT.out _ (by repeat (first | exact Fr.refl _ _ | apply Fr.drew | refine Fr.alloc ?_ _))) ?_ ?_
        rotate_left 1
        · intro w; go_simp <;> with_reducible rfl
        try simp only [Act.put, List.setIfInBounds_toArray, List.set_cons_zero, List.set_cons_succ]
        refine rt_take 1 (v := ?_) rfl (by kernel_rfl) (by kernel_rfl) (by kernel_rfl) (by kernel_rfl) (fun _ _ _ h => h) (by rfl) (by first | assumption | exact HS0 _ rfl | exact HT.out _ (by repeat (first | exact Fr.refl _ _ | apply Fr.drew | refine Fr.alloc ?_ _))) ?_ ?_
        rotate_left 1
        · intro w hSw; go_simp <;> with_reducible rfl
        try simp only [Act.put, List.setIfInBounds_toArray, List.set_cons_zero, List.set_cons_succ]
        refine rt_one 2 rfl (by kernel_rfl) (fun K hK => ?_)
        go_simp
        refine hK.out (At St) _ _ (fun _ h => h) (fun _ => by (assumption)) ?_
        clear hK K
        try simp only [Act.put, List.setIfInBounds_toArray, List.set_cons_zero, List.set_cons_succ]
        refine rt_one 3 rfl (by kernel_rfl) (fun K hK => ?_)
        go_simp
        refine hK.out (At St) _ _ (fun _ h => h) (late_abs (by kernel_rfl)) ?_
        clear hK K
        try simp only [Act.put, List.setIfInBounds_toArray, List.set_cons_zero, List.set_cons_succ]
        refine rt_done (by kernel_rfl) ?_
        go_wp2_with fail
        exact bodyPost_ret (results_cc Tryd.results7 _ _ (w.heap.size + 1 + 1) (w.heap.size + 1 + 1 + 1) _ _ _ _ _ _ _ _ rfl (Blk.far2 (Blk.set2 hR.drew) (by omega) _ _) Tryd.underlying24 rfl (by kernel_rfl) rfl (Blk.set2 (Blk.far2 hT.drew (by omega) _ _)) Tryd.underlying24 rfl (by kernel_rfl)) rfl ⟨(false, 0), (true, y), rfl, (by rw [doC_del HQ.out rfl] <;> rfl), (by rw [doC_del HQ.out rfl] <;> rfl), cell0_ok, hc, (hF.drew.set2 (.inr (by omega)) _ _).set2 (.inr (by omega)) _ _⟩

      · subst hk
        obtain ⟨u, wS, hu, hrun, hFS, hor⟩ := add_any y v hc hv w4
        replace hC := (hC.fr hFS (fun h => h)).alloc (.cells #[.bool true, .float .f64 u] 24)
        replace hR := (hR.fr hFS (fun h => h)).alloc (.cells #[.bool true, .float .f64 u] 24)
        replace hT := (hT.fr hFS (fun h => h)).alloc (.cells #[.bool true, .float .f64 u] 24)
        replace hF := (hF.trans hFS).alloc (.cells #[.bool true, .float .f64 u] 24)
        have hlS := hFS.size
        have hlt := hT.lt
        rw [World.size_alloc] at hlt
        have hN5 := Blk.new wS 24 #[.bool true, .float .f64 u]
        obtain ⟨W5, hW5⟩ : ∃ W, wS.alloc (.cells #[.bool true, .float .f64 u] 24) = W := ⟨_, rfl⟩
        obtain ⟨n5, hn5⟩ : ∃ n, wS.heap.size = n := ⟨_, rfl⟩
        rw [hW5] at hN5 hC hR hT hF
        rw [hn5] at hN5 hlt
        have n0 := hN5.cell 0
        have n1 := hN5.cell 1
        have r0' := hR.cell 0
        have r1' := hR.cell 1
        have rf' := hR.frozen
        have t0' := hT.cell 0
        have t1' := hT.cell 1
        have tf' := hT.frozen
        simp only [List.getElem?_toArray, List.getElem?_cons_zero, List.getElem?_cons_succ] at n0 n1 r0' r1' t0' t1'
        have HOR := Lib.hid hor
        have q5 : w.heap.size + 1 + 1 + 1 < n5 := by have := hl4.out; omega
        have HU := Lib.hid hu
        clear hor hFS hu hlS hlt
        go_wp2_with fail
        obtain ⟨St, hSt⟩ : ∃ St : World → Prop, St = Fr (fun b => b = w.heap.size + 1 + 1) W5 := ⟨_, rfl⟩
        have HT := Lib.hid (show ∀ w', Fr (fun b => b = w.heap.size + 1 + 1) W5 w' → At St w' from fun w' h => by unfold At; rw [hSt]; exact h)
        have lift : ∀ (q : Addr) (u : Value), q.block ≠ w.heap.size + 1 + 1 → W5.cell? q = some u → ∀ w', At St w' → w'.cell? q = some u := fun q u hb hq w' h => by replace h := h.out; rw [hSt] at h; exact h.cell hq hb
        have l0 := lift ⟨n5, 0, none⟩ _ (by simp only []; omega) n0
        have l1 := lift ⟨n5, 1, none⟩ _ (by simp only []; omega) n1
        have hT0 := HT.out W5.drew (Fr.refl _ _).drew
        have hT1 := HT.out _ ((Fr.refl (fun b => b = w.heap.size + 1 + 1) W5).drew.set2 (.inl rfl) (.bool true) (.float .f64 u))
        clear hSt lift
        refine rt_start [3] (At St) 4 (by kernel_rfl) rfl ?_
        refine rt_take 0 (v := ?_) rfl (by kernel_rfl) (by kernel_rfl) (by kernel_rfl) (by kernel_rfl) (fun _ _ _ h => h) (by rfl) (by first | assumption | exact HS0 _ rfl | exact HT.out _ (by repeat (first | exact Fr.refl _ _ | apply Fr.drew | refine Fr.alloc ?_ _))) ?_ ?_
        rotate_left 1
        · intro w hSw; go_simp <;> with_reducible rfl
        try simp only [Act.put, List.setIfInBounds_toArray, List.set_cons_zero, List.set_cons_succ]
        refine rt_take 1 (v := ?_) rfl (by kernel_rfl) (by kernel_rfl) (by kernel_rfl) (by kernel_rfl) (fun _ _ _ h => h) (by rfl) (by first | assumption | exact HS0 _ rfl | exact HT.out _ (by repeat (first | exact Fr.refl _ _ | apply Fr.drew | refine Fr.alloc ?_ _))) ?_ ?_
        rotate_left 1
        · intro w hSw; go_simp <;> with_reducible rfl
        try simp only [Act.put, List.setIfInBounds_toArray, List.set_cons_zero, List.set_cons_succ]
        refine rt_one 2 rfl (by kernel_rfl) (fun K hK => ?_)
        go_simp
        refine hK.out (At St) _ _ (fun _ h => h) (fun _ => by (assumption)) ?_
        clear hK K
        try simp only [Act.put, List.setIfInBounds_toArray, List.set_cons_zero, List.set_cons_succ]
        refine rt_one 3 rfl (by kernel_rfl) (fun K hK => ?_)
        go_simp
        refine hK.out (At St) _ _ (fun _ h => h) (late_abs (by kernel_rfl)) ?_
        clear hK K
        try simp only [Act.put, List.setIfInBounds_toArray, List.set_cons_zero, List.set_cons_succ]
        refine rt_done (by kernel_rfl) ?_
        go_wp2_with fail
        exact bodyPost_ret (results_cc Tryd.results7 _ _ (w.heap.size + 1 + 1) (w.heap.size + 1 + 1 + 1) _ _ _ _ _ _ _ _ rfl (Blk.far2 (Blk.set2 hR.drew) (by omega) _ _) Tryd.underlying24 rfl (by kernel_rfl) rfl (Blk.set2 (Blk.far2 hT.drew (by omega) _ _)) Tryd.underlying24 rfl (by kernel_rfl)) rfl ⟨(true, u), (true, u), rfl, (by rw [doC_add HQ.out rfl]; exact (congrArg (Prod.mk true) ((sumC_of HOR.out).trans ((sumC_l y v).symm)))), (by rw [doC_add HQ.out rfl]; exact (congrArg (Prod.mk true) ((sumC_of HOR.out).trans ((sumC_l y v).symm)))), HU.out, HU.out, (hF.drew.set2 (.inr (by omega)) _ _).set2 (.inr (by omega)) _ _⟩

    · rw [cdec_false hq]
      have HQ := Lib.hid hq
      clear hq
      go_wp2_with fail
      exact bodyPost_ret (results_cc Tryd.results7 _ _ (w.heap.size + 1 + 1) (w.heap.size + 1 + 1 + 1) _ _ _ _ _ _ _ _ rfl (Blk.far2 (Blk.set2 hR) (by omega) _ _) Tryd.underlying24 rfl (by kernel_rfl) rfl (Blk.set2 (Blk.far2 hT (by omega) _ _)) Tryd.underlying24 rfl (by kernel_rfl)) rfl ⟨(true, y), (false, 0), rfl, (by rw [doC_bad HQ.out] <;> rfl), (by rw [doC_bad HQ.out] <;> rfl), hc, cell0_ok, (hF.set2 (.inr (by omega)) _ _).set2 (.inr (by omega)) _ _⟩

set_option maxHeartbeats 1000000 in
theorem cell_same (a b : CellD) (w : World) (ha : CellOk a) (hb : CellOk b) : Calls Tryd.prog 10 #[cellV a, cellV b] w fun r w' => r = .returned (.bool (decide (absC a = absC b))) ∧ Fr (fun _ => False) w w' := by
  obtain ⟨f, x⟩ := a
  obtain ⟨g, y⟩ := b
  have hF := ((Fr.refl (fun _ => False) w).alloc (.cells #[.bool f, .float .f64 x] 24)).alloc (.cells #[.bool g, .float .f64 y] 24)
  cases f <;> cases g
  · go_enter Tryd.func10, Tryd.ntmps10
    go_wp2_with fail
    go_ret
    exact ⟨rfl, hF⟩
  · rw [decide_eq_false (show ¬ absC (false, x) = absC (true, y) from fun h => by rw [absC_no, absC_yes] at h; cases h)]
    go_enter Tryd.func10, Tryd.ntmps10
    go_wp2_with fail
    go_ret
    exact ⟨rfl, hF⟩
  · rw [decide_eq_false (show ¬ absC (true, x) = absC (false, y) from fun h => by rw [absC_no, absC_yes] at h; cases h)]
    go_enter Tryd.func10, Tryd.ntmps10
    go_wp2_with fail
    go_ret
    exact ⟨rfl, hF⟩
  · have hd : decide (absC (true, x) = absC (true, y)) = decide (key x = key y) := by
      rw [absC_yes, absC_yes]
      by_cases h : canonP x = canonP y
      · rw [decide_eq_true ((key_canon ha hb).1 h), h]; simp
      · rw [decide_eq_false fun e => h ((key_canon ha hb).2 e), decide_eq_false fun e => h (Prod.mk.inj e).2]
    rw [hd]
    clear hd
    go_enter Tryd.func10, Tryd.ntmps10
    go_wp2_with fail
    refine (real_same x y _ ha hb).mono ?_
    rintro r w2 ⟨rfl, rfl⟩
    go_wp2_with fail
    go_ret
    exact ⟨rfl, hF⟩
set_option maxHeartbeats 1000000 in
theorem ref_cell_same (a b : CellD) (w : World) (ha : CellOk a) (hb : CellOk b) : Calls Tryd.prog 8 #[cellV a, cellV b] w fun r w' => r = .returned (.bool (decide (absC a = absC b))) ∧ Fr (fun _ => False) w w' := by
  obtain ⟨f, x⟩ := a
  obtain ⟨g, y⟩ := b
  have hF := ((Fr.refl (fun _ => False) w).alloc (.cells #[.bool f, .float .f64 x] 24)).alloc (.cells #[.bool g, .float .f64 y] 24)
  cases f <;> cases g
  · go_enter Tryd.func8, Tryd.ntmps8
    go_wp2_with fail
    go_ret
    exact ⟨rfl, hF⟩
  · rw [decide_eq_false (show ¬ absC (false, x) = absC (true, y) from fun h => by rw [absC_no, absC_yes] at h; cases h)]
    go_enter Tryd.func8, Tryd.ntmps8
    go_wp2_with fail
    go_ret
    exact ⟨rfl, hF⟩
  · rw [decide_eq_false (show ¬ absC (true, x) = absC (false, y) from fun h => by rw [absC_no, absC_yes] at h; cases h)]
    go_enter Tryd.func8, Tryd.ntmps8
    go_wp2_with fail
    go_ret
    exact ⟨rfl, hF⟩
  · have hd : decide (absC (true, x) = absC (true, y)) = decide (key x = key y) := by
      rw [absC_yes, absC_yes]
      by_cases h : canonP x = canonP y
      · rw [decide_eq_true ((key_canon ha hb).1 h), h]; simp
      · rw [decide_eq_false fun e => h ((key_canon ha hb).2 e), decide_eq_false fun e => h (Prod.mk.inj e).2]
    rw [hd]
    clear hd
    go_enter Tryd.func8, Tryd.ntmps8
    go_wp2_with fail
    refine (ref_same x y _ ha hb).mono ?_
    rintro r w2 ⟨rfl, rfl⟩
    go_wp2_with fail
    go_ret
    exact ⟨rfl, hF⟩
end Go.Proofs.YtmldjemjjpibmaaDoor
