/- CellForgets' walk. -/
import Derived.Test.YtmldjemjjpibmaaDoorWorks12
set_option linter.unusedVariables false
set_option linter.unusedSimpArgs false
namespace Go.Proofs.YtmldjemjjpibmaaDoor
open Go.RowKit
open Go.Proofs.YtmldjemjjpibmaaDoorW.PrintWords


theorem keyK12 : keyOk ⟨#[107]⟩ := ⟨fun i h => by
    have : i = 0 := by simp [ByteArray.size] at h; omega
    subst this
    exact .inl ⟨(by decide : 97 ≤ 107), (by decide : 107 ≤ 122)⟩, by decide, by decide⟩
abbrev put12 (v : Nat) : Cmd := (2, ⟨#[107]⟩, v)
abbrev del12 : Cmd := (3, ⟨#[107]⟩, 0)
theorem put12_do (c : CellD) (v : Nat) : doC c (put12 v) = ((true, canonP v), c) := doC_put ⟨.inr (.inl rfl), keyK12, fun h => by rcases h with h | h <;> cases h⟩ rfl
theorem del12_do (c : CellD) : doC c del12 = ((false, 0), c) := doC_del ⟨.inr (.inr (.inl rfl)), keyK12, fun _ => rfl⟩ rfl
set_option maxRecDepth 100000 in
set_option maxHeartbeats 4000000 in
theorem lawForgets12 (a b : CellD) (v : Nat) (w : World) (ha : CellOk a) (hb : CellOk b) (hv : v < 18446744073709551616) :
    Calls Tryd.prog 4 #[cellV a, cellV b, .float .f64 v] w fun r w' => r = .returned (.bool true) ∧ Fr (fun _ => False) w w' := by
  go_enter Tryd.func4, Tryd.ntmps4
  go_wp2_with fail
  refine (cell_do a (put12 v) _ ha ⟨(by decide : 1 ≤ maxLen), hv⟩).mono ?_
  rintro r w1 ⟨rfl, hF1⟩
  have A1 := Lib.hid (Blk.fr ((((Blk.newAt w _ rfl 24 #[.bool a.1, .float .f64 a.2]).alloc _).alloc _).alloc _) hF1 (fun h => h))
  have B1 := Lib.hid (Blk.fr (((Blk.newAt (w.alloc _) (w.heap.size + 1) (by simp) 24 #[.bool b.1, .float .f64 b.2]).alloc _).alloc _) hF1 (fun h => h))
  have P1 := Lib.hid (Blk.fr ((Blk.newAt ((w.alloc _).alloc _) (w.heap.size + 1 + 1) (by simp) 26 #[.int .i64 2, .string ⟨#[107]⟩, .float .f64 v]).alloc _) hF1 (fun h => h))
  have D1 := Lib.hid (Blk.fr (Blk.newAt (((w.alloc _).alloc _).alloc _) (w.heap.size + 1 + 1 + 1) (by simp) 26 #[.int .i64 3, .string ⟨#[107]⟩, .float .f64 0]) hF1 (fun h => h))
  have F1 := Lib.hid ((((((Fr.refl (fun _ => False) w).alloc _).alloc _).alloc _).alloc _).trans hF1)
  clear hF1
  generalize w.heap.size = ga at A1 B1 P1 D1 ⊢
  rw [put12_do]
  have b0 := ((B1.out.alloc (.cells #[.bool true, .float .f64 (canonP v)] 24)).alloc (.cells #[.bool (absC a).1, .float .f64 (absC a).2] 24)).cell 0
  have b1 := ((B1.out.alloc (.cells #[.bool true, .float .f64 (canonP v)] 24)).alloc (.cells #[.bool (absC a).1, .float .f64 (absC a).2] 24)).cell 1
  have p0 := ((P1.out.alloc (.cells #[.bool true, .float .f64 (canonP v)] 24)).alloc (.cells #[.bool (absC a).1, .float .f64 (absC a).2] 24)).cell 0
  have p1 := ((P1.out.alloc (.cells #[.bool true, .float .f64 (canonP v)] 24)).alloc (.cells #[.bool (absC a).1, .float .f64 (absC a).2] 24)).cell 1
  have p2 := ((P1.out.alloc (.cells #[.bool true, .float .f64 (canonP v)] 24)).alloc (.cells #[.bool (absC a).1, .float .f64 (absC a).2] 24)).cell 2
  simp only [List.getElem?_toArray, List.getElem?_cons_zero, List.getElem?_cons_succ] at b0 b1 p0 p1 p2
  go_wp2_with fail
  refine (cell_do b (put12 v) _ hb ⟨(by decide : 1 ≤ maxLen), hv⟩).mono ?_
  rintro r w2 ⟨rfl, hF2⟩
  have X2 := Lib.hid (Blk.fr ((Blk.newAt w1 _ rfl 24 #[.bool true, .float .f64 (canonP v)]).alloc _) hF2 (fun h => h))
  have H2 := Lib.hid ((((Fr.refl (fun _ => False) w1).alloc _).alloc _).trans hF2)
  have A2 := Lib.hid (A1.out.fr H2.out (fun h => h))
  have B2 := Lib.hid (B1.out.fr H2.out (fun h => h))
  have P2 := Lib.hid (P1.out.fr H2.out (fun h => h))
  have D2 := Lib.hid (D1.out.fr H2.out (fun h => h))
  have F2 := Lib.hid (F1.out.trans H2.out)
  clear hF2 b0 b1 p0 p1 p2
  generalize w1.heap.size = gx at X2 ⊢
  rw [put12_do]
  have a0 := ((A2.out.alloc (.cells #[.bool true, .float .f64 (canonP v)] 24)).alloc (.cells #[.bool (absC b).1, .float .f64 (absC b).2] 24)).cell 0
  have a1 := ((A2.out.alloc (.cells #[.bool true, .float .f64 (canonP v)] 24)).alloc (.cells #[.bool (absC b).1, .float .f64 (absC b).2] 24)).cell 1
  have d0 := ((D2.out.alloc (.cells #[.bool true, .float .f64 (canonP v)] 24)).alloc (.cells #[.bool (absC b).1, .float .f64 (absC b).2] 24)).cell 0
  have d1 := ((D2.out.alloc (.cells #[.bool true, .float .f64 (canonP v)] 24)).alloc (.cells #[.bool (absC b).1, .float .f64 (absC b).2] 24)).cell 1
  have d2 := ((D2.out.alloc (.cells #[.bool true, .float .f64 (canonP v)] 24)).alloc (.cells #[.bool (absC b).1, .float .f64 (absC b).2] 24)).cell 2
  simp only [List.getElem?_toArray, List.getElem?_cons_zero, List.getElem?_cons_succ] at a0 a1 d0 d1 d2
  go_wp2_with fail
  refine (cell_do a (del12) _ ha ⟨(by decide : 1 ≤ maxLen), (by decide : 0 < 18446744073709551616)⟩).mono ?_
  rintro r w3 ⟨rfl, hF3⟩
  have Y3 := Lib.hid (Blk.fr ((Blk.newAt w2 _ rfl 24 #[.bool true, .float .f64 (canonP v)]).alloc _) hF3 (fun h => h))
  have H3 := Lib.hid ((((Fr.refl (fun _ => False) w2).alloc _).alloc _).trans hF3)
  have A3 := Lib.hid (A2.out.fr H3.out (fun h => h))
  have B3 := Lib.hid (B2.out.fr H3.out (fun h => h))
  have P3 := Lib.hid (P2.out.fr H3.out (fun h => h))
  have D3 := Lib.hid (D2.out.fr H3.out (fun h => h))
  have X3 := Lib.hid (X2.out.fr H3.out (fun h => h))
  have F3 := Lib.hid (F2.out.trans H3.out)
  clear hF3 a0 a1 d0 d1 d2
  generalize w2.heap.size = gy at Y3 ⊢
  rw [del12_do]
  have b0 := ((B3.out.alloc (.cells #[.bool false, .float .f64 0] 24)).alloc (.cells #[.bool (absC a).1, .float .f64 (absC a).2] 24)).cell 0
  have b1 := ((B3.out.alloc (.cells #[.bool false, .float .f64 0] 24)).alloc (.cells #[.bool (absC a).1, .float .f64 (absC a).2] 24)).cell 1
  have d0 := ((D3.out.alloc (.cells #[.bool false, .float .f64 0] 24)).alloc (.cells #[.bool (absC a).1, .float .f64 (absC a).2] 24)).cell 0
  have d1 := ((D3.out.alloc (.cells #[.bool false, .float .f64 0] 24)).alloc (.cells #[.bool (absC a).1, .float .f64 (absC a).2] 24)).cell 1
  have d2 := ((D3.out.alloc (.cells #[.bool false, .float .f64 0] 24)).alloc (.cells #[.bool (absC a).1, .float .f64 (absC a).2] 24)).cell 2
  simp only [List.getElem?_toArray, List.getElem?_cons_zero, List.getElem?_cons_succ] at b0 b1 d0 d1 d2
  go_wp2_with fail
  refine (cell_do b (del12) _ hb ⟨(by decide : 1 ≤ maxLen), (by decide : 0 < 18446744073709551616)⟩).mono ?_
  rintro r w4 ⟨rfl, hF4⟩
  have Z4 := Lib.hid (Blk.fr ((Blk.newAt w3 _ rfl 24 #[.bool false, .float .f64 0]).alloc _) hF4 (fun h => h))
  have H4 := Lib.hid ((((Fr.refl (fun _ => False) w3).alloc _).alloc _).trans hF4)
  have A4 := Lib.hid (A3.out.fr H4.out (fun h => h))
  have B4 := Lib.hid (B3.out.fr H4.out (fun h => h))
  have P4 := Lib.hid (P3.out.fr H4.out (fun h => h))
  have D4 := Lib.hid (D3.out.fr H4.out (fun h => h))
  have X4 := Lib.hid (X3.out.fr H4.out (fun h => h))
  have Y4 := Lib.hid (Y3.out.fr H4.out (fun h => h))
  have F4 := Lib.hid (F3.out.trans H4.out)
  clear hF4 b0 b1 d0 d1 d2
  generalize w3.heap.size = gz at Z4 ⊢
  rw [del12_do]
  obtain ⟨W, hW⟩ : ∃ W, W = (w4.alloc (.cells #[.bool false, .float .f64 0] 24)).alloc (.cells #[.bool (absC b).1, .float .f64 (absC b).2] 24) := ⟨_, rfl⟩
  have X5 := Lib.hid (show Blk W _ _ _ from by rw [hW]; exact ((X4.out.alloc (.cells #[.bool false, .float .f64 0] 24)).alloc (.cells #[.bool (absC b).1, .float .f64 (absC b).2] 24)))
  have Y5 := Lib.hid (show Blk W _ _ _ from by rw [hW]; exact ((Y4.out.alloc (.cells #[.bool false, .float .f64 0] 24)).alloc (.cells #[.bool (absC b).1, .float .f64 (absC b).2] 24)))
  have Z5 := Lib.hid (show Blk W _ _ _ from by rw [hW]; exact ((Z4.out.alloc (.cells #[.bool false, .float .f64 0] 24)).alloc (.cells #[.bool (absC b).1, .float .f64 (absC b).2] 24)))
  have T5 := Lib.hid (show Blk W w4.heap.size 24 #[.bool false, .float .f64 0] from by rw [hW]; exact (Blk.newAt w4 _ rfl _ _).alloc _)
  have F5 := Lib.hid (show Fr (fun _ => False) w W from by rw [hW]; exact (F4.out.alloc _).alloc _)
  have x0 := X5.out.cell 0
  have x1 := X5.out.cell 1
  have y0 := Y5.out.cell 0
  have y1 := Y5.out.cell 1
  simp only [List.getElem?_toArray, List.getElem?_cons_zero, List.getElem?_cons_succ] at x0 x1 y0 y1
  rw [hW] at x0 x1 y0 y1
  go_wp2_with fail
  rw [← hW]
  refine (ref_cell_same (true, canonP v) (true, canonP v) W (canon_lt hv) (canon_lt hv)).mono ?_
  rintro r w6 ⟨rfl, hF6⟩
  rw [decide_eq_true rfl]
  have F6 := Lib.hid hF6
  have X6 := Lib.hid (X5.out.fr hF6 (fun h => h))
  clear hF6 x0 x1 y0 y1
  have x0 := X6.out.cell 0
  have x1 := X6.out.cell 1
  simp only [List.getElem?_toArray, List.getElem?_cons_zero, List.getElem?_cons_succ] at x0 x1
  go_wp2_with fail
  refine (ref_same (canonP v) v _ (canon_lt hv) hv).mono ?_
  rintro r w7 ⟨rfl, rfl⟩
  rw [decide_eq_true (key_canonP hv)]
  have F7 := F6
  have Z7 := Lib.hid (Z5.out.fr F7.out (fun h => h))
  have T7 := Lib.hid (T5.out.fr F7.out (fun h => h))
  clear x0 x1
  have z0 := Z7.out.cell 0
  have z1 := Z7.out.cell 1
  have t0 := T7.out.cell 0
  have t1 := T7.out.cell 1
  simp only [List.getElem?_toArray, List.getElem?_cons_zero, List.getElem?_cons_succ] at z0 z1 t0 t1
  go_wp2_with fail
  refine (ref_cell_same (false, 0) (false, 0) _ cell0_ok cell0_ok).mono ?_
  rintro r w8 ⟨rfl, hF8⟩
  rw [decide_eq_true rfl]
  have F8 := Lib.hid (F7.out.trans hF8)
  have Z8 := Lib.hid (Z7.out.fr hF8 (fun h => h))
  clear hF8 z0 z1 t0 t1
  have z0 := Z8.out.cell 0
  have z1 := Z8.out.cell 1
  simp only [List.getElem?_toArray, List.getElem?_cons_zero, List.getElem?_cons_succ] at z0 z1
  go_wp2_with fail
  refine (works12 _).mono ?_
  rintro r w9 ⟨rfl, hF9⟩
  have F9 := Lib.hid (F8.out.trans hF9)
  clear hF9 z0 z1
  go_wp2_with fail
  go_ret
  exact ⟨rfl, F5.out.trans F9.out⟩
end Go.Proofs.YtmldjemjjpibmaaDoor
