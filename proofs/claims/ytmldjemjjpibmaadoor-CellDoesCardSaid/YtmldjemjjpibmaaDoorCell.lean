/- Cells: what a command makes of one, by the program and by the reference. -/
import Derived.Test.YtmldjemjjpibmaaDoorBatC
import Derived.Test.YtmldjemjjpibmaaDoorFltA
set_option linter.unusedVariables false
set_option linter.unusedSimpArgs false
namespace Go.Proofs.YtmldjemjjpibmaaDoor
open Go.RowKit
open Go.Proofs.YtmldjemjjpibmaaDoorW.PrintWords

abbrev CellD := Bool × Nat
abbrev cellV (c : CellD) : Value := .agg #[.bool c.1, .float .f64 c.2]
def CellOk (c : CellD) : Prop := c.2 < 18446744073709551616
def absC (c : CellD) : CellD := if c.1 = true then (true, canonP c.2) else (false, 0)
theorem absC_yes (x : Nat) : absC (true, x) = (true, canonP x) := rfl
theorem absC_no (x : Nat) : absC (false, x) = (false, 0) := rfl
theorem absC_ok {c : CellD} (h : CellOk c) : CellOk (absC c) := by
  unfold absC CellOk
  split
  · exact canon_lt h
  · exact Nat.zero_lt_of_lt (by decide : 0 < 18446744073709551616)
theorem absC_absC (c : CellD) : absC (absC c) = absC c := by
  obtain ⟨f, x⟩ := c
  cases f
  · rfl
  · rw [absC_yes, absC_yes, canon_canon]
/-- What a command makes of a cell, and what it tells. -/
noncomputable def doC (c : CellD) (x : Cmd) : CellD × CellD :=
  bif cdec (cmdOk x) then (if x.1 = 2 then ((true, canonP x.2.2), c) else if x.1 = 3 then ((false, 0), c) else if x.1 = 4 then ((true, sumC c.2 x.2.2), (true, sumC c.2 x.2.2)) else (c, c)) else (c, (false, 0))
theorem doC_bad {c : CellD} {x : Cmd} (h : ¬ cmdOk x) : doC c x = (c, (false, 0)) := by unfold doC; rw [cdec_false h]; rfl
theorem doC_put {c : CellD} {x : Cmd} (h : cmdOk x) (hk : x.1 = 2) : doC c x = ((true, canonP x.2.2), c) := by unfold doC; rw [cdec_true h, cond_true, if_pos hk]
theorem doC_del {c : CellD} {x : Cmd} (h : cmdOk x) (hk : x.1 = 3) : doC c x = ((false, 0), c) := by unfold doC; rw [cdec_true h, cond_true, if_neg (by omega), if_pos hk]
theorem doC_add {c : CellD} {x : Cmd} (h : cmdOk x) (hk : x.1 = 4) : doC c x = ((true, sumC c.2 x.2.2), (true, sumC c.2 x.2.2)) := by unfold doC; rw [cdec_true h, cond_true, if_neg (by omega), if_neg (by omega), if_pos hk]
theorem doC_get {c : CellD} {x : Cmd} (h : cmdOk x) (hk : x.1 = 1) : doC c x = (c, c) := by unfold doC; rw [cdec_true h, cond_true, if_neg (by omega), if_neg (by omega), if_neg (by omega)]

theorem cell_some (x : Nat) (w : World) : Calls Tryd.prog 18 #[.float .f64 x] w fun r w' => r = .returned (cellV (true, canonP x)) ∧ Fr (fun _ => False) w w' := by
  have hF := (Fr.refl (fun _ => False) w).alloc (.cells #[.bool false, .float .f64 0] 24)
  have hB := Blk.new w 24 #[.bool false, .float .f64 0]
  go_enter Tryd.func18, Tryd.ntmps18
  go_wp2_with fail
  refine (real_canon x _).mono ?_
  rintro r w2 ⟨rfl, rfl⟩
  go_wp2_with fail
  exact bodyPost_ret (results_cell_row Tryd.results18 _ _ w.heap.size _ _ _ _ rfl (Blk.new w 24 #[.bool true, .float .f64 (canonP x)]) Tryd.underlying24 rfl (by kernel_rfl)) rfl ⟨rfl, (Fr.refl (fun _ => False) w).alloc _⟩
theorem Fr.set2 {S : Nat → Prop} {a w : World} {g : Nat} (h : Fr S a w) (hg : S g ∨ a.heap.size ≤ g) (u v : Value) : Fr S a ((w.setCell ⟨g, 0, none⟩ u).setCell ⟨g, 1, none⟩ v) :=
  (h.setCell (p := ⟨g, 0, none⟩) hg u).setCell (p := ⟨g, 1, none⟩) hg v
theorem Blk.set2 {w : World} {g : Nat} {t : TypeId} {a b u v : Value} (h : Blk w g t #[a, b]) : Blk ((w.setCell ⟨g, 0, none⟩ u).setCell ⟨g, 1, none⟩ v) g t #[u, v] := (h.set_ 0 u).set_ 1 v
theorem Blk.far2 {w : World} {g k : Nat} {t : TypeId} {cs : Array Value} (h : Blk w g t cs) (hne : g ≠ k) (u v : Value) : Blk ((w.setCell ⟨k, 0, none⟩ u).setCell ⟨k, 1, none⟩ v) g t cs := (h.far (p := ⟨k, 0, none⟩) hne u).far (p := ⟨k, 1, none⟩) hne v
theorem cell_plain (c : CellD) (w : World) : Calls Tryd.prog 16 #[cellV c] w fun r w' => r = .returned (cellV (absC c)) ∧ Fr (fun _ => False) w w' := by
  obtain ⟨f, x⟩ := c
  cases f
  · have hF := ((Fr.refl (fun _ => False) w).alloc (.cells #[.bool false, .float .f64 x] 24)).alloc (.cells #[.bool false, .float .f64 0] 24)
    have hB := Blk.new (w.alloc (.cells #[.bool false, .float .f64 x] 24)) 24 #[.bool false, .float .f64 0]
    rw [World.size_alloc] at hB
    go_enter Tryd.func16, Tryd.ntmps16
    go_wp2_with fail
    exact bodyPost_ret (results_cell_row Tryd.results16 _ _ (w.heap.size + 1) _ _ _ _ rfl hB Tryd.underlying24 rfl (by kernel_rfl)) rfl ⟨rfl, hF⟩
  · have hF := ((Fr.refl (fun _ => False) w).alloc (.cells #[.bool true, .float .f64 x] 24)).alloc (.cells #[.bool false, .float .f64 0] 24)
    have hB := Blk.new (w.alloc (.cells #[.bool true, .float .f64 x] 24)) 24 #[.bool false, .float .f64 0]
    rw [World.size_alloc] at hB
    go_enter Tryd.func16, Tryd.ntmps16
    go_wp2_with fail
    refine (cell_some x _).mono ?_
    rintro r w2 ⟨rfl, hF2⟩
    replace hB := hB.fr hF2 (fun h => h)
    replace hF := hF.trans hF2
    have b0 := hB.cell 0
    have b1 := hB.cell 1
    have bf := hB.frozen
    simp only [List.getElem?_toArray, List.getElem?_cons_zero, List.getElem?_cons_succ] at b0 b1
    clear hF2
    go_wp2_with fail
    exact bodyPost_ret (results_cell_row Tryd.results16 _ _ (w.heap.size + 1) _ _ _ _ rfl hB.set2 Tryd.underlying24 rfl (by kernel_rfl)) rfl ⟨rfl, hF.set2 (.inr (Nat.le_succ _)) _ _⟩
set_option maxHeartbeats 2000000 in
theorem cell_do (c : CellD) (x : Cmd) (w : World) (hc : CellOk c) (hx : CmdGood x) :
    Calls Tryd.prog 6 #[cellV c, cmdV x] w fun r w' => r = .returned (.tuple #[cellV (doC (absC c) x).1, cellV (doC (absC c) x).2]) ∧ Fr (fun _ => False) w w' := by
  obtain ⟨k, s, v⟩ := x
  obtain ⟨hs, hv⟩ := hx
  simp only at hs hv
  have ha := absC_ok hc
  obtain ⟨d, hd⟩ : ∃ d, d = absC c := ⟨_, rfl⟩
  have hpl := fun w => cell_plain c w
  rw [← hd] at ha hpl ⊢
  obtain ⟨f, y⟩ := c
  obtain ⟨df, dy⟩ := d
  have HD := Lib.hid hd
  clear hd
  have hF : Fr (fun _ => False) w _ := ((((Fr.refl (fun _ => False) w).alloc (.cells #[.bool f, .float .f64 y] 24)).alloc (.cells #[.int .i64 k, .string s, .float .f64 v] 26)).alloc (.cells #[.bool false, .float .f64 0] 24)).alloc (.cells #[.bool false, .float .f64 0] 24)
  have hC := (((Blk.new w 24 #[.bool f, .float .f64 y]).alloc (.cells #[.int .i64 k, .string s, .float .f64 v] 26)).alloc (.cells #[.bool false, .float .f64 0] 24)).alloc (.cells #[.bool false, .float .f64 0] 24)
  have hX := ((Blk.new (w.alloc (.cells #[.bool f, .float .f64 y] 24)) 26 #[.int .i64 k, .string s, .float .f64 v]).alloc (.cells #[.bool false, .float .f64 0] 24)).alloc (.cells #[.bool false, .float .f64 0] 24)
  have hR := (Blk.new ((w.alloc (.cells #[.bool f, .float .f64 y] 24)).alloc (.cells #[.int .i64 k, .string s, .float .f64 v] 26)) 24 #[.bool false, .float .f64 0]).alloc (.cells #[.bool false, .float .f64 0] 24)
  have hT := Blk.new (((w.alloc (.cells #[.bool f, .float .f64 y] 24)).alloc (.cells #[.int .i64 k, .string s, .float .f64 v] 26)).alloc (.cells #[.bool false, .float .f64 0] 24)) 24 #[.bool false, .float .f64 0]
  rw [World.size_alloc] at hX
  rw [World.size_alloc, World.size_alloc] at hR
  rw [World.size_alloc, World.size_alloc, World.size_alloc] at hT
  go_enter Tryd.func6, Tryd.ntmps6
  go_wp2_with fail
  refine (hpl _).mono ?_
  rintro r w2 ⟨rfl, hF2⟩
  replace hF := hF.trans hF2
  replace hC := hC.fr hF2 (fun h => h)
  replace hX := hX.fr hF2 (fun h => h)
  replace hR := hR.fr hF2 (fun h => h)
  replace hT := hT.fr hF2 (fun h => h)
  have c0 := hC.cell 0
  have c1 := hC.cell 1
  have cf := hC.frozen
  have x0 := hX.cell 0
  have x1 := hX.cell 1
  have x2 := hX.cell 2
  simp only [List.getElem?_toArray, List.getElem?_cons_zero, List.getElem?_cons_succ] at c0 c1 x0 x1 x2
  clear hF2
  go_wp2_with fail
  have hcx := fun w => cmd_check k s v w hs hv
  refine (hcx _).mono ?_
  rintro r w4 ⟨rfl, hF4⟩
  have ne1 : w.heap.size + 1 ≠ w.heap.size := by omega
  have ne2 : w.heap.size + 1 + 1 ≠ w.heap.size := by omega
  have ne3 : w.heap.size + 1 + 1 + 1 ≠ w.heap.size := by omega
  replace hF := (hF.set2 (.inr (Nat.le_refl _)) (.bool df) (.float .f64 dy)).trans hF4
  replace hC := (Blk.set2 hC (u := .bool df) (v := .float .f64 dy)).fr hF4 (fun h => h)
  replace hX := (hX.far2 ne1 (.bool df) (.float .f64 dy)).fr hF4 (fun h => h)
  replace hR := (hR.far2 ne2 (.bool df) (.float .f64 dy)).fr hF4 (fun h => h)
  replace hT := (hT.far2 ne3 (.bool df) (.float .f64 dy)).fr hF4 (fun h => h)
  clear c0 c1 cf x0 x1 x2 hF4
  have c0 := hC.cell 0
  have c1 := hC.cell 1
  have x0 := hX.cell 0
  have x1 := hX.cell 1
  have x2 := hX.cell 2
  have r0 := hR.cell 0
  have r1 := hR.cell 1
  have rf := hR.frozen
  have t0 := hT.cell 0
  have t1 := hT.cell 1
  have tf := hT.frozen
  simp only [List.getElem?_toArray, List.getElem?_cons_zero, List.getElem?_cons_succ] at c0 c1 x0 x1 x2 r0 r1 t0 t1
  by_cases hq : cmdOk (k, s, v)
  · rw [errCmd_ok hq]
    have HQ := Lib.hid hq
    have hk := hq.1
    simp only at hk
    clear hq r0 r1 rf t0 t1 tf
    have hl5 := hT.lt
    have hN5 := Blk.new w4 24 #[.bool df, .float .f64 dy]
    replace hC := hC.alloc (.cells #[.bool df, .float .f64 dy] 24)
    replace hX := hX.alloc (.cells #[.bool df, .float .f64 dy] 24)
    replace hR := hR.alloc (.cells #[.bool df, .float .f64 dy] 24)
    replace hT := hT.alloc (.cells #[.bool df, .float .f64 dy] 24)
    replace hF := hF.alloc (.cells #[.bool df, .float .f64 dy] 24)
    obtain ⟨W5, hW5⟩ : ∃ W, w4.alloc (.cells #[.bool df, .float .f64 dy] 24) = W := ⟨_, rfl⟩
    obtain ⟨n5, hn5⟩ : ∃ n, w4.heap.size = n := ⟨_, rfl⟩
    rw [hW5] at hN5 hC hX hR hT hF
    rw [hn5] at hN5 hl5
    have c0' := hC.cell 0
    have c1' := hC.cell 1
    have x0' := hX.cell 0
    have x1' := hX.cell 1
    have x2' := hX.cell 2
    have r0' := hR.cell 0
    have r1' := hR.cell 1
    have rf' := hR.frozen
    have t0' := hT.cell 0
    have t1' := hT.cell 1
    have tf' := hT.frozen
    have n0' := hN5.cell 0
    have n1' := hN5.cell 1
    have nf' := hN5.frozen
    simp only [List.getElem?_toArray, List.getElem?_cons_zero, List.getElem?_cons_succ] at c0' c1' x0' x1' x2' r0' r1' t0' t1' n0' n1'

    clear ne1 ne2 ne3
    rcases hk with hk | hk | hk | hk
    · subst hk
      go_wp2_with fail
      obtain ⟨St, hSt⟩ : ∃ St : World → Prop, St = Fr (fun b => b = w.heap.size + 1 + 1) W5 := ⟨_, rfl⟩
      have HT := Lib.hid (show ∀ w', Fr (fun b => b = w.heap.size + 1 + 1) W5 w' → At St w' from fun w' h => by unfold At; rw [hSt]; exact h)
      have lift : ∀ (q : Addr) (u : Value), q.block ≠ w.heap.size + 1 + 1 → W5.cell? q = some u → ∀ w', At St w' → w'.cell? q = some u := fun q u hb hq w' h => by replace h := h.out; rw [hSt] at h; exact h.cell hq hb
      have l0 := lift ⟨n5, 0, none⟩ _ (by simp only []; omega) n0'
      have l1 := lift ⟨n5, 1, none⟩ _ (by simp only []; omega) n1'
      have l2 := lift ⟨w.heap.size, 0, none⟩ _ (by simp only []; omega) c0'
      have l3 := lift ⟨w.heap.size, 1, none⟩ _ (by simp only []; omega) c1'
      have hT0 := HT.out W5.drew (Fr.refl _ _).drew
      have hT1 := HT.out _ ((Fr.refl (fun b => b = w.heap.size + 1 + 1) W5).drew.set2 (.inl rfl) (.bool df) (.float .f64 dy))
      clear hSt lift
      refine rt_start [3] (At St) 4 (by kernel_rfl) rfl ?_
      refine rt_take 0 (v := ?_) rfl (by kernel_rfl) (by kernel_rfl) (by kernel_rfl) (by kernel_rfl) (fun _ _ _ h => h) (by rfl) (by first | assumption | exact HS0 _ rfl | exact HT.out _ (by repeat (first | exact Fr.refl _ _ | apply Fr.drew | refine Fr.alloc ?_ _))) ?_ ?_
      rotate_left 1
      · intro w hSw; go_simp <;> with_reducible rfl
      try simp only [Act.put, List.setIfInBounds_toArray, List.set_cons_zero, List.set_cons_succ]
      refine rt_take 1 (v := ?_) rfl (by kernel_rfl) (by kernel_rfl) (by kernel_rfl) (by kernel_rfl) (fun _ _ _ h => h) (by rfl) (by first | assumption | exact HS0 _ rfl | exact HT.out _ (by repeat (first | exact Fr.refl _ _ | apply Fr.drew | refine Fr.alloc ?_ _))) ?_ ?_
      rotate_left 1
      · intro w hSw; go_simp <;> with_reducible rfl
      try simp only [Act.put, List.setIfInBounds_toArray, List.set_cons_zero, List.set_cons_succ]
      refine rt_one 2 rfl (by kernel_rfl) (fun K hK => ?_)
      go_simp
      refine hK.out (At St) _ _ (fun _ h => h) (fun _ => by (assumption)) ?_
      clear hK K
      try simp only [Act.put, List.setIfInBounds_toArray, List.set_cons_zero, List.set_cons_succ]
      refine rt_one 3 rfl (by kernel_rfl) (fun K hK => ?_)
      go_simp
      refine hK.out (At St) _ _ (fun _ h => h) (late_abs (by kernel_rfl)) ?_
      clear hK K
      try simp only [Act.put, List.setIfInBounds_toArray, List.set_cons_zero, List.set_cons_succ]
      refine rt_done (by kernel_rfl) ?_
      go_wp2_with fail
      exact bodyPost_ret (results_cc Tryd.results6 _ _ (w.heap.size + 1 + 1) (w.heap.size + 1 + 1 + 1) _ _ _ _ _ _ _ _ rfl (Blk.far2 (Blk.set2 hR.drew) (by omega) _ _) Tryd.underlying24 rfl (by kernel_rfl) rfl (Blk.set2 (Blk.far2 hT.drew (by omega) _ _)) Tryd.underlying24 rfl (by kernel_rfl)) rfl ⟨by rw [doC_get HQ.out rfl], (hF.drew.set2 (.inr (by omega)) _ _).set2 (.inr (by omega)) _ _⟩
    · subst hk
      have hNq := hN5
      go_wp2_with fail
      refine (cell_some v _).mono ?_
      rintro r w6 ⟨rfl, hF6⟩
      replace hN5 := (hN5.fr hF6 (fun h => h)).set2 (u := .bool true) (v := .float .f64 (canonP v))
      replace hC := (hC.fr hF6 (fun h => h)).far2 (k := n5) (by omega) (.bool true) (.float .f64 (canonP v))
      replace hR := (hR.fr hF6 (fun h => h)).far2 (k := n5) (by omega) (.bool true) (.float .f64 (canonP v))
      replace hT := (hT.fr hF6 (fun h => h)).far2 (k := n5) (by omega) (.bool true) (.float .f64 (canonP v))
      have n6 := (hNq.fr hF6 (fun h => h)).cell 0
      have n7 := (hNq.fr hF6 (fun h => h)).cell 1
      have n8 := (hNq.fr hF6 (fun h => h)).frozen
      simp only [List.getElem?_toArray, List.getElem?_cons_zero, List.getElem?_cons_succ] at n6 n7
      replace hF := (hF.trans hF6).set2 (g := n5) (.inr (by omega)) (.bool true) (.float .f64 (canonP v))
      obtain ⟨W7, hW7⟩ : ∃ W, (w6.setCell ⟨n5, 0, none⟩ (.bool true)).setCell ⟨n5, 1, none⟩ (.float .f64 (canonP v)) = W := ⟨_, rfl⟩
      rw [hW7] at hN5 hC hR hT hF
      clear n0' n1' nf' c0' c1' r0' r1' rf' t0' t1' tf' hF6
      have n0' := hN5.cell 0
      have n1' := hN5.cell 1
      have c0' := hC.cell 0
      have c1' := hC.cell 1
      have r0' := hR.cell 0
      have r1' := hR.cell 1
      have rf' := hR.frozen
      have t0' := hT.cell 0
      have t1' := hT.cell 1
      have tf' := hT.frozen
      simp only [List.getElem?_toArray, List.getElem?_cons_zero, List.getElem?_cons_succ] at n0' n1' c0' c1' r0' r1' t0' t1'
      go_wp2_with fail
      obtain ⟨St, hSt⟩ : ∃ St : World → Prop, St = Fr (fun b => b = w.heap.size + 1 + 1) W7 := ⟨_, rfl⟩
      have HT := Lib.hid (show ∀ w', Fr (fun b => b = w.heap.size + 1 + 1) W7 w' → At St w' from fun w' h => by unfold At; rw [hSt]; exact h)
      have lift : ∀ (q : Addr) (u : Value), q.block ≠ w.heap.size + 1 + 1 → W7.cell? q = some u → ∀ w', At St w' → w'.cell? q = some u := fun q u hb hq w' h => by replace h := h.out; rw [hSt] at h; exact h.cell hq hb
      have l0 := lift ⟨n5, 0, none⟩ _ (by simp only []; omega) n0'
      have l1 := lift ⟨n5, 1, none⟩ _ (by simp only []; omega) n1'
      have l2 := lift ⟨w.heap.size, 0, none⟩ _ (by simp only []; omega) c0'
      have l3 := lift ⟨w.heap.size, 1, none⟩ _ (by simp only []; omega) c1'
      have hT0 := HT.out W7.drew (Fr.refl _ _).drew
      have hT1 := HT.out _ ((Fr.refl (fun b => b = w.heap.size + 1 + 1) W7).drew.set2 (.inl rfl) (.bool true) (.float .f64 (canonP v)))
      clear hSt lift
      refine rt_start [3] (At St) 4 (by kernel_rfl) rfl ?_
      refine rt_take 0 (v := ?_) rfl (by kernel_rfl) (by kernel_rfl) (by kernel_rfl) (by kernel_rfl) (fun _ _ _ h => h) (by rfl) (by first | assumption | exact HS0 _ rfl | exact HT.out _ (by repeat (first | exact Fr.refl _ _ | apply Fr.drew | refine Fr.alloc ?_ _))) ?_ ?_
      rotate_left 1
      · intro w hSw; go_simp <;> with_reducible rfl
      try simp only [Act.put, List.setIfInBounds_toArray, List.set_cons_zero, List.set_cons_succ]
      refine rt_take 1 (v := ?_) rfl (by kernel_rfl) (by kernel_rfl) (by kernel_rfl) (by kernel_rfl) (fun _ _ _ h => h) (by rfl) (by first | assumption | exact HS0 _ rfl | exact HT.out _ (by repeat (first | exact Fr.refl _ _ | apply Fr.drew | refine Fr.alloc ?_ _))) ?_ ?_
      rotate_left 1
      · intro w hSw; go_simp <;> with_reducible rfl
      try simp only [Act.put, List.setIfInBounds_toArray, List.set_cons_zero, List.set_cons_succ]
      refine rt_one 2 rfl (by kernel_rfl) (fun K hK => ?_)
      go_simp
      refine hK.out (At St) _ _ (fun _ h => h) (fun _ => by (assumption)) ?_
      clear hK K
      try simp only [Act.put, List.setIfInBounds_toArray, List.set_cons_zero, List.set_cons_succ]
      refine rt_one 3 rfl (by kernel_rfl) (fun K hK => ?_)
      go_simp
      refine hK.out (At St) _ _ (fun _ h => h) (late_abs (by kernel_rfl)) ?_
      clear hK K
      try simp only [Act.put, List.setIfInBounds_toArray, List.set_cons_zero, List.set_cons_succ]
      refine rt_done (by kernel_rfl) ?_
      go_wp2_with fail
      exact bodyPost_ret (results_cc Tryd.results6 _ _ (w.heap.size + 1 + 1) (w.heap.size + 1 + 1 + 1) _ _ _ _ _ _ _ _ rfl (Blk.far2 (Blk.set2 hR.drew) (by omega) _ _) Tryd.underlying24 rfl (by kernel_rfl) rfl (Blk.set2 (Blk.far2 hT.drew (by omega) _ _)) Tryd.underlying24 rfl (by kernel_rfl)) rfl ⟨by rw [doC_put HQ.out rfl], (hF.drew.set2 (.inr (by omega)) _ _).set2 (.inr (by omega)) _ _⟩
    · subst hk
      go_wp2_with fail
      obtain ⟨St, hSt⟩ : ∃ St : World → Prop, St = Fr (fun b => b = w.heap.size + 1 + 1) W5 := ⟨_, rfl⟩
      have HT := Lib.hid (show ∀ w', Fr (fun b => b = w.heap.size + 1 + 1) W5 w' → At St w' from fun w' h => by unfold At; rw [hSt]; exact h)
      have lift : ∀ (q : Addr) (u : Value), q.block ≠ w.heap.size + 1 + 1 → W5.cell? q = some u → ∀ w', At St w' → w'.cell? q = some u := fun q u hb hq w' h => by replace h := h.out; rw [hSt] at h; exact h.cell hq hb
      have l0 := lift ⟨w.heap.size, 0, none⟩ _ (by simp only []; omega) c0'
      have l1 := lift ⟨w.heap.size, 1, none⟩ _ (by simp only []; omega) c1'
      have hT0 := HT.out W5.drew (Fr.refl _ _).drew
      have hT1 := HT.out _ ((Fr.refl (fun b => b = w.heap.size + 1 + 1) W5).drew.set2 (.inl rfl) (.bool false) (.float .f64 0))
      clear hSt lift
      refine rt_start [3] (At St) 4 (by kernel_rfl) rfl ?_
      refine rt_free 0 (v := ?_) rfl (by kernel_rfl) (by kernel_rfl) (by kernel_rfl) (by kernel_rfl) (fun _ _ _ h => h) (by rfl) (fun _ => by first | assumption | exact HS0 _ rfl | exact HT.out _ (by repeat (first | exact Fr.refl _ _ | apply Fr.drew | refine Fr.alloc ?_ _))) ?_ ?_
      rotate_left 1
      · intro w; go_simp <;> with_reducible rfl
      try simp only [Act.put, List.setIfInBounds_toArray, List.set_cons_zero, List.set_cons_succ]
      refine rt_take 1 (v := ?_) rfl (by kernel_rfl) (by kernel_rfl) (by kernel_rfl) (by kernel_rfl) (fun _ _ _ h => h) (by rfl) (by first | assumption | exact HS0 _ rfl | exact HT.out _ (by repeat (first | exact Fr.refl _ _ | apply Fr.drew | refine Fr.alloc ?_ _))) ?_ ?_
      rotate_left 1
      · intro w hSw; go_simp <;> with_reducible rfl
      try simp only [Act.put, List.setIfInBounds_toArray, List.set_cons_zero, List.set_cons_succ]
      refine rt_one 2 rfl (by kernel_rfl) (fun K hK => ?_)
      go_simp
      refine hK.out (At St) _ _ (fun _ h => h) (fun _ => by (assumption)) ?_
      clear hK K
      try simp only [Act.put, List.setIfInBounds_toArray, List.set_cons_zero, List.set_cons_succ]
      refine rt_one 3 rfl (by kernel_rfl) (fun K hK => ?_)
      go_simp
      refine hK.out (At St) _ _ (fun _ h => h) (late_abs (by kernel_rfl)) ?_
      clear hK K
      try simp only [Act.put, List.setIfInBounds_toArray, List.set_cons_zero, List.set_cons_succ]
      refine rt_done (by kernel_rfl) ?_
      go_wp2_with fail
      exact bodyPost_ret (results_cc Tryd.results6 _ _ (w.heap.size + 1 + 1) (w.heap.size + 1 + 1 + 1) _ _ _ _ _ _ _ _ rfl (Blk.far2 (Blk.set2 hR.drew) (by omega) _ _) Tryd.underlying24 rfl (by kernel_rfl) rfl (Blk.set2 (Blk.far2 hT.drew (by omega) _ _)) Tryd.underlying24 rfl (by kernel_rfl)) rfl ⟨by rw [doC_del HQ.out rfl], (hF.drew.set2 (.inr (by omega)) _ _).set2 (.inr (by omega)) _ _⟩
    · subst hk
      go_wp2_with fail
      refine (real_sum dy v ha hv _).mono ?_
      rintro r wS ⟨rfl, hFS⟩
      replace hN5 := hN5.fr hFS (fun h => h)
      replace hC := hC.fr hFS (fun h => h)
      replace hR := hR.fr hFS (fun h => h)
      replace hT := hT.fr hFS (fun h => h)
      replace hF := hF.trans hFS
      have hNq := hN5
      go_wp2_with fail
      refine (cell_some (sumC dy v) _).mono ?_
      rw [canon_sumC]
      rintro r w6 ⟨rfl, hF6⟩
      replace hN5 := (hN5.fr hF6 (fun h => h)).set2 (u := .bool true) (v := .float .f64 (sumC dy v))
      replace hC := (hC.fr hF6 (fun h => h)).far2 (k := n5) (by omega) (.bool true) (.float .f64 (sumC dy v))
      replace hR := (hR.fr hF6 (fun h => h)).far2 (k := n5) (by omega) (.bool true) (.float .f64 (sumC dy v))
      replace hT := (hT.fr hF6 (fun h => h)).far2 (k := n5) (by omega) (.bool true) (.float .f64 (sumC dy v))
      have n6 := (hNq.fr hF6 (fun h => h)).cell 0
      have n7 := (hNq.fr hF6 (fun h => h)).cell 1
      have n8 := (hNq.fr hF6 (fun h => h)).frozen
      simp only [List.getElem?_toArray, List.getElem?_cons_zero, List.getElem?_cons_succ] at n6 n7
      replace hF := (hF.trans hF6).set2 (g := n5) (.inr (by omega)) (.bool true) (.float .f64 (sumC dy v))
      obtain ⟨W7, hW7⟩ : ∃ W, (w6.setCell ⟨n5, 0, none⟩ (.bool true)).setCell ⟨n5, 1, none⟩ (.float .f64 (sumC dy v)) = W := ⟨_, rfl⟩
      rw [hW7] at hN5 hC hR hT hF
      clear n0' n1' nf' c0' c1' r0' r1' rf' t0' t1' tf' hF6
      have n0' := hN5.cell 0
      have n1' := hN5.cell 1
      have c0' := hC.cell 0
      have c1' := hC.cell 1
      have r0' := hR.cell 0
      have r1' := hR.cell 1
      have rf' := hR.frozen
      have t0' := hT.cell 0
      have t1' := hT.cell 1
      have tf' := hT.frozen
      simp only [List.getElem?_toArray, List.getElem?_cons_zero, List.getElem?_cons_succ] at n0' n1' c0' c1' r0' r1' t0' t1'
      go_wp2_with fail
      obtain ⟨St, hSt⟩ : ∃ St : World → Prop, St = Fr (fun b => b = w.heap.size + 1 + 1) W7 := ⟨_, rfl⟩
      have HT := Lib.hid (show ∀ w', Fr (fun b => b = w.heap.size + 1 + 1) W7 w' → At St w' from fun w' h => by unfold At; rw [hSt]; exact h)
      have lift : ∀ (q : Addr) (u : Value), q.block ≠ w.heap.size + 1 + 1 → W7.cell? q = some u → ∀ w', At St w' → w'.cell? q = some u := fun q u hb hq w' h => by replace h := h.out; rw [hSt] at h; exact h.cell hq hb
      have l0 := lift ⟨n5, 0, none⟩ _ (by simp only []; omega) n0'
      have l1 := lift ⟨n5, 1, none⟩ _ (by simp only []; omega) n1'
      have hT0 := HT.out W7.drew (Fr.refl _ _).drew
      have hT1 := HT.out _ ((Fr.refl (fun b => b = w.heap.size + 1 + 1) W7).drew.set2 (.inl rfl) (.bool true) (.float .f64 (sumC dy v)))
      clear hSt lift
      refine rt_start [3] (At St) 4 (by kernel_rfl) rfl ?_
      refine rt_take 0 (v := ?_) rfl (by kernel_rfl) (by kernel_rfl) (by kernel_rfl) (by kernel_rfl) (fun _ _ _ h => h) (by rfl) (by first | assumption | exact HS0 _ rfl | exact HT.out _ (by repeat (first | exact Fr.refl _ _ | apply Fr.drew | refine Fr.alloc ?_ _))) ?_ ?_
      rotate_left 1
      · intro w hSw; go_simp <;> with_reducible rfl
      try simp only [Act.put, List.setIfInBounds_toArray, List.set_cons_zero, List.set_cons_succ]
      refine rt_take 1 (v := ?_) rfl (by kernel_rfl) (by kernel_rfl) (by kernel_rfl) (by kernel_rfl) (fun _ _ _ h => h) (by rfl) (by first | assumption | exact HS0 _ rfl | exact HT.out _ (by repeat (first | exact Fr.refl _ _ | apply Fr.drew | refine Fr.alloc ?_ _))) ?_ ?_
      rotate_left 1
      · intro w hSw; go_simp <;> with_reducible rfl
      try simp only [Act.put, List.setIfInBounds_toArray, List.set_cons_zero, List.set_cons_succ]
      refine rt_one 2 rfl (by kernel_rfl) (fun K hK => ?_)
      go_simp
      refine hK.out (At St) _ _ (fun _ h => h) (fun _ => by (assumption)) ?_
      clear hK K
      try simp only [Act.put, List.setIfInBounds_toArray, List.set_cons_zero, List.set_cons_succ]
      refine rt_one 3 rfl (by kernel_rfl) (fun K hK => ?_)
      go_simp
      refine hK.out (At St) _ _ (fun _ h => h) (late_abs (by kernel_rfl)) ?_
      clear hK K
      try simp only [Act.put, List.setIfInBounds_toArray, List.set_cons_zero, List.set_cons_succ]
      refine rt_done (by kernel_rfl) ?_
      go_wp2_with fail
      exact bodyPost_ret (results_cc Tryd.results6 _ _ (w.heap.size + 1 + 1) (w.heap.size + 1 + 1 + 1) _ _ _ _ _ _ _ _ rfl (Blk.far2 (Blk.set2 hR.drew) (by omega) _ _) Tryd.underlying24 rfl (by kernel_rfl) rfl (Blk.set2 (Blk.far2 hT.drew (by omega) _ _)) Tryd.underlying24 rfl (by kernel_rfl)) rfl ⟨by rw [doC_add HQ.out rfl], (hF.drew.set2 (.inr (by omega)) _ _).set2 (.inr (by omega)) _ _⟩
  · rw [errCmd_no hq]
    have HQ := Lib.hid hq
    clear hq
    go_wp2_with fail
    exact bodyPost_ret (results_cc Tryd.results6 _ _ (w.heap.size + 1 + 1) (w.heap.size + 1 + 1 + 1) _ _ _ _ _ _ _ _ rfl (Blk.far2 (Blk.set2 hR) (by omega) _ _) Tryd.underlying24 rfl (by kernel_rfl) rfl (Blk.set2 (Blk.far2 hT (by omega) _ _)) Tryd.underlying24 rfl (by kernel_rfl)) rfl ⟨by rw [doC_bad HQ.out], (hF.set2 (.inr (by omega)) _ _).set2 (.inr (by omega)) _ _⟩
end Go.Proofs.YtmldjemjjpibmaaDoor
