/- CellDoes' walk. -/
import Derived.Test.YtmldjemjjpibmaaDoorCText
import Derived.Test.YtmldjemjjpibmaaDoorFolds
set_option linter.unusedVariables false
set_option linter.unusedSimpArgs false
namespace Go.Proofs.YtmldjemjjpibmaaDoor
open Go.RowKit
open Go.Proofs.YtmldjemjjpibmaaDoorW.PrintWords

set_option maxRecDepth 100000 in
set_option maxHeartbeats 4000000 in
theorem lawDoes12 (c : CellD) (x : Cmd) (w : World) (hc : CellOk c) (hx : CmdGood x) (ht : Tab w) :
    Calls Tryd.prog 3 #[cellV c, cmdV x] w fun r w' => r = .returned (.bool true) ∧ Fr (fun _ => False) w w' := by
  have HC := Lib.hid hc
  have HX := Lib.hid hx
  have HT := Lib.hid ht
  clear hc hx ht
  go_enter Tryd.func3, Tryd.ntmps3
  go_wp2_with fail
  refine (cell_do c x _ HC.out HX.out).mono ?_
  rintro r w1 ⟨rfl, hF1⟩
  have CC := Lib.hid (doC_canon (c := absC c) (x := x) ⟨absC_ok HC.out, absC_absC c⟩ HX.out)
  have C1 := Lib.hid (Blk.fr ((Blk.newAt w _ rfl 24 #[.bool c.1, .float .f64 c.2]).alloc _) hF1 (fun h => h))
  have X1 := Lib.hid (Blk.fr (Blk.newAt (w.alloc _) (w.heap.size + 1) (by simp) 26 #[.int .i64 x.1, .string x.2.1, .float .f64 x.2.2]) hF1 (fun h => h))
  have F1 := Lib.hid ((((Fr.refl (fun _ => False) w).alloc _).alloc _).trans hF1)
  clear hF1
  generalize w.heap.size = gc at C1 X1 ⊢
  obtain ⟨a, ha⟩ : ∃ a, a = (doC (absC c) x).1 := ⟨_, rfl⟩
  obtain ⟨b, hb⟩ : ∃ b, b = (doC (absC c) x).2 := ⟨_, rfl⟩
  rw [← ha, ← hb] at CC ⊢
  have HA := Lib.hid (And.intro ha hb)
  clear ha hb
  have c0 := ((C1.out.alloc (.cells #[.bool a.1, .float .f64 a.2] 24)).alloc (.cells #[.bool b.1, .float .f64 b.2] 24)).cell 0
  have c1 := ((C1.out.alloc (.cells #[.bool a.1, .float .f64 a.2] 24)).alloc (.cells #[.bool b.1, .float .f64 b.2] 24)).cell 1
  have x0 := ((X1.out.alloc (.cells #[.bool a.1, .float .f64 a.2] 24)).alloc (.cells #[.bool b.1, .float .f64 b.2] 24)).cell 0
  have x1 := ((X1.out.alloc (.cells #[.bool a.1, .float .f64 a.2] 24)).alloc (.cells #[.bool b.1, .float .f64 b.2] 24)).cell 1
  have x2 := ((X1.out.alloc (.cells #[.bool a.1, .float .f64 a.2] 24)).alloc (.cells #[.bool b.1, .float .f64 b.2] 24)).cell 2
  simp only [List.getElem?_toArray, List.getElem?_cons_zero, List.getElem?_cons_succ] at c0 c1 x0 x1 x2
  go_wp2_with fail
  refine (ref_do c x _ HC.out HX.out).mono ?_
  rintro r w2 ⟨u, t, rfl, hu, ht, huo, hto, hF2⟩
  rw [← HA.out.1] at hu
  rw [← HA.out.2] at ht
  have A2 := Lib.hid (Blk.fr ((Blk.newAt w1 _ rfl 24 #[.bool a.1, .float .f64 a.2]).alloc _) hF2 (fun h => h))
  have B2 := Lib.hid (Blk.fr (Blk.newAt (w1.alloc _) (w1.heap.size + 1) (by simp) 24 #[.bool b.1, .float .f64 b.2]) hF2 (fun h => h))
  have H2 := Lib.hid ((((Fr.refl (fun _ => False) w1).alloc _).alloc _).trans hF2)
  have C2 := Lib.hid (C1.out.fr H2.out (fun h => h))
  have F2 := Lib.hid (F1.out.trans H2.out)
  have HU := Lib.hid (And.intro (And.intro hu ht) (And.intro huo hto))
  clear hF2 c0 c1 x0 x1 x2 hu ht huo hto
  generalize w1.heap.size = ga at A2 B2 ⊢
  go_wp2_with fail
  have A3 := (A2.out.alloc (.cells #[.bool u.1, .float .f64 u.2] 24)).alloc (.cells #[.bool t.1, .float .f64 t.2] 24)
  have B3 := (B2.out.alloc (.cells #[.bool u.1, .float .f64 u.2] 24)).alloc (.cells #[.bool t.1, .float .f64 t.2] 24)
  have C3 := (C2.out.alloc (.cells #[.bool u.1, .float .f64 u.2] 24)).alloc (.cells #[.bool t.1, .float .f64 t.2] 24)
  have U3 := (Blk.newAt w2 _ rfl 24 #[.bool u.1, .float .f64 u.2]).alloc (.cells #[.bool t.1, .float .f64 t.2] 24)
  have T3 := Blk.newAt (w2.alloc (.cells #[.bool u.1, .float .f64 u.2] 24)) (w2.heap.size + 1) (by simp) 24 #[.bool t.1, .float .f64 t.2]
  have hF3 := (F2.out.alloc (.cells #[.bool u.1, .float .f64 u.2] 24)).alloc (.cells #[.bool t.1, .float .f64 t.2] 24)
  generalize (w2.alloc (.cells #[.bool u.1, .float .f64 u.2] 24)).alloc (.cells #[.bool t.1, .float .f64 t.2] 24) = w3 at A3 B3 C3 U3 T3 hF3 ⊢
  generalize w2.heap.size = gu at U3 T3 ⊢
  obtain ⟨St, hSt⟩ : ∃ St : World → Prop, St = Fr (fun _ => False) w3 := ⟨_, rfl⟩
  have HS := Lib.hid (show ∀ w', Fr (fun _ => False) w3 w' → At St w' from fun w' h => by unfold At; rw [hSt]; exact h)
  have lift : ∀ (q : Addr) (v : Value), w3.cell? q = some v → ∀ w', At St w' → w'.cell? q = some v := fun q v hq w' h => by replace h := h.out; rw [hSt] at h; exact h.cell hq (fun h => h)
  have a0 := lift ⟨ga, 0, none⟩ _ (A3.cell 0)
  have a1 := lift ⟨ga, 1, none⟩ _ (A3.cell 1)
  have b0 := lift ⟨ga + 1, 0, none⟩ _ (B3.cell 0)
  have b1 := lift ⟨ga + 1, 1, none⟩ _ (B3.cell 1)
  have c0 := lift ⟨gc, 0, none⟩ _ (C3.cell 0)
  have c1 := lift ⟨gc, 1, none⟩ _ (C3.cell 1)
  have u0 := lift ⟨gu, 0, none⟩ _ (U3.cell 0)
  have u1 := lift ⟨gu, 1, none⟩ _ (U3.cell 1)
  have t0 := lift ⟨gu + 1, 0, none⟩ _ (T3.cell 0)
  have t1 := lift ⟨gu + 1, 1, none⟩ _ (T3.cell 1)
  have hR := (Fr.refl (fun _ => False) w3).drew
  have hT0 := HS.out _ hR
  have HTb := Lib.hid (HT.out.fr hF3)
  have HF3 := Lib.hid hF3
  obtain ⟨q, hq⟩ : ∃ q, q = decide (absC c = absC a) := ⟨_, rfl⟩
  have HQ := Lib.hid hq
  clear A3 B3 C3 U3 T3 hF3 hSt lift hq
  refine rt_start [] (At St) 41 (by kernel_rfl) rfl ?_
  refine rt_take 0 (v := ?_) rfl (by kernel_rfl) (by kernel_rfl) (by kernel_rfl) (by kernel_rfl) (fun _ _ _ h => h) (by rfl) (by first | assumption | exact HS0 _ rfl | exact HT.out _ (by repeat (first | exact Fr.refl _ _ | apply Fr.drew | refine Fr.alloc ?_ _))) ?_ ?_
  rotate_left 1
  · intro w hSw; go_simp <;> with_reducible rfl
  try simp only [Act.put, List.setIfInBounds_toArray, List.set_cons_zero, List.set_cons_succ]
  refine rt_take 1 (v := ?_) rfl (by kernel_rfl) (by kernel_rfl) (by kernel_rfl) (by kernel_rfl) (fun _ _ _ h => h) (by rfl) (by first | assumption | exact HS0 _ rfl | exact HT.out _ (by repeat (first | exact Fr.refl _ _ | apply Fr.drew | refine Fr.alloc ?_ _))) ?_ ?_
  rotate_left 1
  · intro w hSw; go_simp <;> with_reducible rfl
  try simp only [Act.put, List.setIfInBounds_toArray, List.set_cons_zero, List.set_cons_succ]
  refine rt_one 2 rfl (by kernel_rfl) (fun K hK => ?_)
  go_simp
  refine (ref_cell_same a u _ CC.out.1.1 HU.out.2.1).mono ?_
  rintro r wn ⟨rfl, hF⟩
  rw [show decide (absC a = absC u) = true from decide_eq_true (by rw [CC.out.1.2, HU.out.1.1])]
  replace hR := hR.trans hF
  have hTn := HS.out _ hR
  clear hF
  go_wp2_with fail
  refine hK.out (At St) _ _ (fun _ h => h) (fun _ => by (assumption)) ?_
  clear hK K
  try simp only [Act.put, List.setIfInBounds_toArray, List.set_cons_zero, List.set_cons_succ]
  refine rt_free 3 (v := ?_) rfl (by kernel_rfl) (by kernel_rfl) (by kernel_rfl) (by kernel_rfl) (fun _ _ _ h => h) (by rfl) (fun _ => by first | assumption | exact HS0 _ rfl | exact HT.out _ (by repeat (first | exact Fr.refl _ _ | apply Fr.drew | refine Fr.alloc ?_ _))) ?_ ?_
  rotate_left 1
  · intro w; go_simp <;> with_reducible rfl
  try simp only [Act.put, List.setIfInBounds_toArray, List.set_cons_zero, List.set_cons_succ]
  refine rt_take 4 (v := ?_) rfl (by kernel_rfl) (by kernel_rfl) (by kernel_rfl) (by kernel_rfl) (fun _ _ _ h => h) (by rfl) (by first | assumption | exact HS0 _ rfl | exact HT.out _ (by repeat (first | exact Fr.refl _ _ | apply Fr.drew | refine Fr.alloc ?_ _))) ?_ ?_
  rotate_left 1
  · intro w hSw; go_simp <;> with_reducible rfl
  try simp only [Act.put, List.setIfInBounds_toArray, List.set_cons_zero, List.set_cons_succ]
  refine rt_take 5 (v := ?_) rfl (by kernel_rfl) (by kernel_rfl) (by kernel_rfl) (by kernel_rfl) (fun _ _ _ h => h) (by rfl) (by first | assumption | exact HS0 _ rfl | exact HT.out _ (by repeat (first | exact Fr.refl _ _ | apply Fr.drew | refine Fr.alloc ?_ _))) ?_ ?_
  rotate_left 1
  · intro w hSw; go_simp <;> with_reducible rfl
  try simp only [Act.put, List.setIfInBounds_toArray, List.set_cons_zero, List.set_cons_succ]
  refine rt_one 6 rfl (by kernel_rfl) (fun K hK => ?_)
  go_simp
  refine (ref_cell_same b t _ CC.out.2.1 HU.out.2.2).mono ?_
  rintro r wn ⟨rfl, hF⟩
  rw [show decide (absC b = absC t) = true from decide_eq_true (by rw [CC.out.2.2, HU.out.1.2])]
  replace hR := hR.trans hF
  have hTn := HS.out _ hR
  clear hF
  go_wp2_with fail
  refine hK.out (At St) _ _ (fun _ h => h) (fun _ => by (assumption)) ?_
  clear hK K
  try simp only [Act.put, List.setIfInBounds_toArray, List.set_cons_zero, List.set_cons_succ]
  refine rt_free 7 (v := ?_) rfl (by kernel_rfl) (by kernel_rfl) (by kernel_rfl) (by kernel_rfl) (fun _ _ _ h => h) (by rfl) (fun _ => by first | assumption | exact HS0 _ rfl | exact HT.out _ (by repeat (first | exact Fr.refl _ _ | apply Fr.drew | refine Fr.alloc ?_ _))) ?_ ?_
  rotate_left 1
  · intro w; go_simp <;> with_reducible rfl
  try simp only [Act.put, List.setIfInBounds_toArray, List.set_cons_zero, List.set_cons_succ]
  refine rt_free 8 (v := ?_) rfl (by kernel_rfl) (by kernel_rfl) (by kernel_rfl) (by kernel_rfl) (fun _ _ _ h => h) (by rfl) (fun _ => by first | assumption | exact HS0 _ rfl | exact HT.out _ (by repeat (first | exact Fr.refl _ _ | apply Fr.drew | refine Fr.alloc ?_ _))) ?_ ?_
  rotate_left 1
  · intro w; go_simp <;> with_reducible rfl
  try simp only [Act.put, List.setIfInBounds_toArray, List.set_cons_zero, List.set_cons_succ]
  refine rt_take 9 (v := ?_) rfl (by kernel_rfl) (by kernel_rfl) (by kernel_rfl) (by kernel_rfl) (fun _ _ _ h => h) (by rfl) (by first | assumption | exact HS0 _ rfl | exact HT.out _ (by repeat (first | exact Fr.refl _ _ | apply Fr.drew | refine Fr.alloc ?_ _))) ?_ ?_
  rotate_left 1
  · intro w hSw; go_simp <;> with_reducible rfl
  try simp only [Act.put, List.setIfInBounds_toArray, List.set_cons_zero, List.set_cons_succ]
  refine rt_one 10 rfl (by kernel_rfl) (fun K hK => ?_)
  go_simp
  refine (ref_plain a CC.out.1 _).mono ?_
  rintro r wn ⟨rfl, hF⟩
  skip
  replace hR := hR.trans hF
  have hTn := HS.out _ hR
  clear hF
  go_wp2_with fail
  refine hK.out (At St) _ _ (fun _ h => h) (fun _ => by (assumption)) ?_
  clear hK K
  try simp only [Act.put, List.setIfInBounds_toArray, List.set_cons_zero, List.set_cons_succ]
  refine rt_free 11 (v := ?_) rfl (by kernel_rfl) (by kernel_rfl) (by kernel_rfl) (by kernel_rfl) (fun _ _ _ h => h) (by rfl) (fun _ => by first | assumption | exact HS0 _ rfl | exact HT.out _ (by repeat (first | exact Fr.refl _ _ | apply Fr.drew | refine Fr.alloc ?_ _))) ?_ ?_
  rotate_left 1
  · intro w; go_simp <;> with_reducible rfl
  try simp only [Act.put, List.setIfInBounds_toArray, List.set_cons_zero, List.set_cons_succ]
  refine rt_free 12 (v := ?_) rfl (by kernel_rfl) (by kernel_rfl) (by kernel_rfl) (by kernel_rfl) (fun _ _ _ h => h) (by rfl) (fun _ => by first | assumption | exact HS0 _ rfl | exact HT.out _ (by repeat (first | exact Fr.refl _ _ | apply Fr.drew | refine Fr.alloc ?_ _))) ?_ ?_
  rotate_left 1
  · intro w; go_simp <;> with_reducible rfl
  try simp only [Act.put, List.setIfInBounds_toArray, List.set_cons_zero, List.set_cons_succ]
  refine rt_take 13 (v := ?_) rfl (by kernel_rfl) (by kernel_rfl) (by kernel_rfl) (by kernel_rfl) (fun _ _ _ h => h) (by rfl) (by first | assumption | exact HS0 _ rfl | exact HT.out _ (by repeat (first | exact Fr.refl _ _ | apply Fr.drew | refine Fr.alloc ?_ _))) ?_ ?_
  rotate_left 1
  · intro w hSw; go_simp <;> with_reducible rfl
  try simp only [Act.put, List.setIfInBounds_toArray, List.set_cons_zero, List.set_cons_succ]
  refine rt_one 14 rfl (by kernel_rfl) (fun K hK => ?_)
  go_simp
  refine (ref_plain b CC.out.2 _).mono ?_
  rintro r wn ⟨rfl, hF⟩
  skip
  replace hR := hR.trans hF
  have hTn := HS.out _ hR
  clear hF
  go_wp2_with fail
  refine hK.out (At St) _ _ (fun _ h => h) (fun _ => by (assumption)) ?_
  clear hK K
  try simp only [Act.put, List.setIfInBounds_toArray, List.set_cons_zero, List.set_cons_succ]
  refine rt_free 15 (v := ?_) rfl (by kernel_rfl) (by kernel_rfl) (by kernel_rfl) (by kernel_rfl) (fun _ _ _ h => h) (by rfl) (fun _ => by first | assumption | exact HS0 _ rfl | exact HT.out _ (by repeat (first | exact Fr.refl _ _ | apply Fr.drew | refine Fr.alloc ?_ _))) ?_ ?_
  rotate_left 1
  · intro w; go_simp <;> with_reducible rfl
  try simp only [Act.put, List.setIfInBounds_toArray, List.set_cons_zero, List.set_cons_succ]
  refine rt_free 16 (v := ?_) rfl (by kernel_rfl) (by kernel_rfl) (by kernel_rfl) (by kernel_rfl) (fun _ _ _ h => h) (by rfl) (fun _ => by first | assumption | exact HS0 _ rfl | exact HT.out _ (by repeat (first | exact Fr.refl _ _ | apply Fr.drew | refine Fr.alloc ?_ _))) ?_ ?_
  rotate_left 1
  · intro w; go_simp <;> with_reducible rfl
  try simp only [Act.put, List.setIfInBounds_toArray, List.set_cons_zero, List.set_cons_succ]
  refine rt_take 17 (v := ?_) rfl (by kernel_rfl) (by kernel_rfl) (by kernel_rfl) (by kernel_rfl) (fun _ _ _ h => h) (by rfl) (by first | assumption | exact HS0 _ rfl | exact HT.out _ (by repeat (first | exact Fr.refl _ _ | apply Fr.drew | refine Fr.alloc ?_ _))) ?_ ?_
  rotate_left 1
  · intro w hSw; go_simp <;> with_reducible rfl
  try simp only [Act.put, List.setIfInBounds_toArray, List.set_cons_zero, List.set_cons_succ]
  refine rt_take 18 (v := ?_) rfl (by kernel_rfl) (by kernel_rfl) (by kernel_rfl) (by kernel_rfl) (fun _ _ _ h => h) (by rfl) (by first | assumption | exact HS0 _ rfl | exact HT.out _ (by repeat (first | exact Fr.refl _ _ | apply Fr.drew | refine Fr.alloc ?_ _))) ?_ ?_
  rotate_left 1
  · intro w hSw; go_simp <;> with_reducible rfl
  try simp only [Act.put, List.setIfInBounds_toArray, List.set_cons_zero, List.set_cons_succ]
  refine rt_one 19 rfl (by kernel_rfl) (fun K hK => ?_)
  go_simp
  refine (cell_same a u _ CC.out.1.1 HU.out.2.1).mono ?_
  rintro r wn ⟨rfl, hF⟩
  rw [show decide (absC a = absC u) = true from decide_eq_true (by rw [CC.out.1.2, HU.out.1.1])]
  replace hR := hR.trans hF
  have hTn := HS.out _ hR
  clear hF
  go_wp2_with fail
  refine hK.out (At St) _ _ (fun _ h => h) (fun _ => by (assumption)) ?_
  clear hK K
  try simp only [Act.put, List.setIfInBounds_toArray, List.set_cons_zero, List.set_cons_succ]
  refine rt_free 20 (v := ?_) rfl (by kernel_rfl) (by kernel_rfl) (by kernel_rfl) (by kernel_rfl) (fun _ _ _ h => h) (by rfl) (fun _ => by first | assumption | exact HS0 _ rfl | exact HT.out _ (by repeat (first | exact Fr.refl _ _ | apply Fr.drew | refine Fr.alloc ?_ _))) ?_ ?_
  rotate_left 1
  · intro w; go_simp <;> with_reducible rfl
  try simp only [Act.put, List.setIfInBounds_toArray, List.set_cons_zero, List.set_cons_succ]
  refine rt_free 21 (v := ?_) rfl (by kernel_rfl) (by kernel_rfl) (by kernel_rfl) (by kernel_rfl) (fun _ _ _ h => h) (by rfl) (fun _ => by first | assumption | exact HS0 _ rfl | exact HT.out _ (by repeat (first | exact Fr.refl _ _ | apply Fr.drew | refine Fr.alloc ?_ _))) ?_ ?_
  rotate_left 1
  · intro w; go_simp <;> with_reducible rfl
  try simp only [Act.put, List.setIfInBounds_toArray, List.set_cons_zero, List.set_cons_succ]
  refine rt_take 22 (v := ?_) rfl (by kernel_rfl) (by kernel_rfl) (by kernel_rfl) (by kernel_rfl) (fun _ _ _ h => h) (by rfl) (by first | assumption | exact HS0 _ rfl | exact HT.out _ (by repeat (first | exact Fr.refl _ _ | apply Fr.drew | refine Fr.alloc ?_ _))) ?_ ?_
  rotate_left 1
  · intro w hSw; go_simp <;> with_reducible rfl
  try simp only [Act.put, List.setIfInBounds_toArray, List.set_cons_zero, List.set_cons_succ]
  refine rt_take 24 (v := ?_) rfl (by kernel_rfl) (by kernel_rfl) (by kernel_rfl) (by kernel_rfl) (fun _ _ _ h => h) (by rfl) (by first | assumption | exact HS0 _ rfl | exact HT.out _ (by repeat (first | exact Fr.refl _ _ | apply Fr.drew | refine Fr.alloc ?_ _))) ?_ ?_
  rotate_left 1
  · intro w hSw; go_simp <;> with_reducible rfl
  try simp only [Act.put, List.setIfInBounds_toArray, List.set_cons_zero, List.set_cons_succ]
  refine rt_one 23 rfl (by kernel_rfl) (fun K hK => ?_)
  go_simp
  refine (cell_text c HC.out _ (HTb.out.fr hR)).mono ?_
  rintro r wn ⟨s1, rfl, hs1, hF⟩
  try obtain rfl := CText.one hs2 hs1
  replace hR := hR.trans hF
  have hTn := HS.out _ hR
  clear hF
  go_wp2_with fail
  refine hK.out (At St) _ _ (fun _ h => h) (fun _ => by (assumption)) ?_
  clear hK K
  try simp only [Act.put, List.setIfInBounds_toArray, List.set_cons_zero, List.set_cons_succ]
  refine rt_one 25 rfl (by kernel_rfl) (fun K hK => ?_)
  go_simp
  refine (ref_ctext c HC.out _).mono ?_
  rintro r wn ⟨s2, rfl, hs2, hF⟩
  try obtain rfl := CText.one hs1 hs2
  replace hR := hR.trans hF
  have hTn := HS.out _ hR
  clear hF
  go_wp2_with fail
  refine hK.out (At St) _ _ (fun _ h => h) (fun _ => by (assumption)) ?_
  clear hK K
  try simp only [Act.put, List.setIfInBounds_toArray, List.set_cons_zero, List.set_cons_succ]
  refine rt_free 26 (v := ?_) rfl (by kernel_rfl) (by kernel_rfl) (by kernel_rfl) (by kernel_rfl) (fun _ _ _ h => h) (by rfl) (fun _ => by first | assumption | exact HS0 _ rfl | exact HT.out _ (by repeat (first | exact Fr.refl _ _ | apply Fr.drew | refine Fr.alloc ?_ _))) ?_ ?_
  rotate_left 1
  · intro w; go_simp <;> with_reducible rfl
  try simp only [Act.put, List.setIfInBounds_toArray, List.set_cons_zero, List.set_cons_succ]
  refine rt_free 27 (v := ?_) rfl (by kernel_rfl) (by kernel_rfl) (by kernel_rfl) (by kernel_rfl) (fun _ _ _ h => h) (by rfl) (fun _ => by first | assumption | exact HS0 _ rfl | exact HT.out _ (by repeat (first | exact Fr.refl _ _ | apply Fr.drew | refine Fr.alloc ?_ _))) ?_ ?_
  rotate_left 1
  · intro w; go_simp <;> with_reducible rfl
  try simp only [Act.put, List.setIfInBounds_toArray, List.set_cons_zero, List.set_cons_succ]
  refine rt_free 28 (v := ?_) rfl (by kernel_rfl) (by kernel_rfl) (by kernel_rfl) (by kernel_rfl) (fun _ _ _ h => h) (by rfl) (fun _ => by first | assumption | exact HS0 _ rfl | exact HT.out _ (by repeat (first | exact Fr.refl _ _ | apply Fr.drew | refine Fr.alloc ?_ _))) ?_ ?_
  rotate_left 1
  · intro w; go_simp <;> with_reducible rfl
  try simp only [Act.put, List.setIfInBounds_toArray, List.set_cons_zero, List.set_cons_succ]
  refine rt_take 29 (v := ?_) rfl (by kernel_rfl) (by kernel_rfl) (by kernel_rfl) (by kernel_rfl) (fun _ _ _ h => h) (by rfl) (by first | assumption | exact HS0 _ rfl | exact HT.out _ (by repeat (first | exact Fr.refl _ _ | apply Fr.drew | refine Fr.alloc ?_ _))) ?_ ?_
  rotate_left 1
  · intro w hSw; go_simp <;> with_reducible rfl
  try simp only [Act.put, List.setIfInBounds_toArray, List.set_cons_zero, List.set_cons_succ]
  refine rt_take 30 (v := ?_) rfl (by kernel_rfl) (by kernel_rfl) (by kernel_rfl) (by kernel_rfl) (fun _ _ _ h => h) (by rfl) (by first | assumption | exact HS0 _ rfl | exact HT.out _ (by repeat (first | exact Fr.refl _ _ | apply Fr.drew | refine Fr.alloc ?_ _))) ?_ ?_
  rotate_left 1
  · intro w hSw; go_simp <;> with_reducible rfl
  try simp only [Act.put, List.setIfInBounds_toArray, List.set_cons_zero, List.set_cons_succ]
  refine rt_take 32 (v := ?_) rfl (by kernel_rfl) (by kernel_rfl) (by kernel_rfl) (by kernel_rfl) (fun _ _ _ h => h) (by rfl) (by first | assumption | exact HS0 _ rfl | exact HT.out _ (by repeat (first | exact Fr.refl _ _ | apply Fr.drew | refine Fr.alloc ?_ _))) ?_ ?_
  rotate_left 1
  · intro w hSw; go_simp <;> with_reducible rfl
  try simp only [Act.put, List.setIfInBounds_toArray, List.set_cons_zero, List.set_cons_succ]
  refine rt_take 33 (v := ?_) rfl (by kernel_rfl) (by kernel_rfl) (by kernel_rfl) (by kernel_rfl) (fun _ _ _ h => h) (by rfl) (by first | assumption | exact HS0 _ rfl | exact HT.out _ (by repeat (first | exact Fr.refl _ _ | apply Fr.drew | refine Fr.alloc ?_ _))) ?_ ?_
  rotate_left 1
  · intro w hSw; go_simp <;> with_reducible rfl
  try simp only [Act.put, List.setIfInBounds_toArray, List.set_cons_zero, List.set_cons_succ]
  refine rt_one 31 rfl (by kernel_rfl) (fun K hK => ?_)
  go_simp
  refine (cell_same c a _ HC.out CC.out.1.1).mono ?_
  rintro r wn ⟨rfl, hF⟩
  rw [← HQ.out]
  replace hR := hR.trans hF
  have hTn := HS.out _ hR
  clear hF
  go_wp2_with fail
  refine hK.out (At St) _ _ (fun _ h => h) (fun _ => by (assumption)) ?_
  clear hK K
  try simp only [Act.put, List.setIfInBounds_toArray, List.set_cons_zero, List.set_cons_succ]
  refine rt_one 34 rfl (by kernel_rfl) (fun K hK => ?_)
  go_simp
  refine (ref_cell_same c a _ HC.out CC.out.1.1).mono ?_
  rintro r wn ⟨rfl, hF⟩
  rw [← HQ.out]
  replace hR := hR.trans hF
  have hTn := HS.out _ hR
  clear hF
  go_wp2_with fail
  refine hK.out (At St) _ _ (fun _ h => h) (fun _ => by (assumption)) ?_
  clear hK K
  try simp only [Act.put, List.setIfInBounds_toArray, List.set_cons_zero, List.set_cons_succ]
  refine rt_free 35 (v := ?_) rfl (by kernel_rfl) (by kernel_rfl) (by kernel_rfl) (by kernel_rfl) (fun _ _ _ h => h) (by rfl) (fun _ => by first | assumption | exact HS0 _ rfl | exact HT.out _ (by repeat (first | exact Fr.refl _ _ | apply Fr.drew | refine Fr.alloc ?_ _))) ?_ ?_
  rotate_left 1
  · intro w; go_simp <;> with_reducible rfl
  try simp only [Act.put, List.setIfInBounds_toArray, List.set_cons_zero, List.set_cons_succ]
  refine rt_free 36 (v := ?_) rfl (by kernel_rfl) (by kernel_rfl) (by kernel_rfl) (by kernel_rfl) (fun _ _ _ h => h) (by rfl) (fun _ => by first | assumption | exact HS0 _ rfl | exact HT.out _ (by repeat (first | exact Fr.refl _ _ | apply Fr.drew | refine Fr.alloc ?_ _))) ?_ ?_
  rotate_left 1
  · intro w; go_simp <;> with_reducible rfl
  try simp only [Act.put, List.setIfInBounds_toArray, List.set_cons_zero, List.set_cons_succ]
  refine rt_free 37 (v := ?_) rfl (by kernel_rfl) (by kernel_rfl) (by kernel_rfl) (by kernel_rfl) (fun _ _ _ h => h) (by rfl) (fun _ => by first | assumption | exact HS0 _ rfl | exact HT.out _ (by repeat (first | exact Fr.refl _ _ | apply Fr.drew | refine Fr.alloc ?_ _))) ?_ ?_
  rotate_left 1
  · intro w; go_simp <;> with_reducible rfl
  try simp only [Act.put, List.setIfInBounds_toArray, List.set_cons_zero, List.set_cons_succ]
  refine rt_one 38 rfl (by kernel_rfl) (fun K hK => ?_)
  go_simp
  refine (works12 _).mono ?_
  rintro r wn ⟨rfl, hF⟩
  skip
  replace hR := hR.trans hF
  have hTn := HS.out _ hR
  clear hF
  go_wp2_with fail
  refine hK.out (At St) _ _ (fun _ h => h) (fun _ => by (assumption)) ?_
  clear hK K
  try simp only [Act.put, List.setIfInBounds_toArray, List.set_cons_zero, List.set_cons_succ]
  refine rt_free 39 (v := ?_) rfl (by kernel_rfl) (by kernel_rfl) (by kernel_rfl) (by kernel_rfl) (fun _ _ _ h => h) (by rfl) (fun _ => by first | assumption | exact HS0 _ rfl | exact HT.out _ (by repeat (first | exact Fr.refl _ _ | apply Fr.drew | refine Fr.alloc ?_ _))) ?_ ?_
  rotate_left 1
  · intro w; go_simp <;> with_reducible rfl
  try simp only [Act.put, List.setIfInBounds_toArray, List.set_cons_zero, List.set_cons_succ]
  refine rt_free 40 (v := ?_) rfl (by kernel_rfl) (by kernel_rfl) (by kernel_rfl) (by kernel_rfl) (fun _ _ _ h => h) (by rfl) (fun _ => by first | assumption | exact HS0 _ rfl | exact HT.out _ (by repeat (first | exact Fr.refl _ _ | apply Fr.drew | refine Fr.alloc ?_ _))) ?_ ?_
  rotate_left 1
  · intro w; go_simp <;> with_reducible rfl
  try simp only [Act.put, List.setIfInBounds_toArray, List.set_cons_zero, List.set_cons_succ]
  refine rt_done (by kernel_rfl) ?_
  go_wp2_with fail
  go_ret
  exact ⟨rfl, HF3.out.trans hR⟩
end Go.Proofs.YtmldjemjjpibmaaDoor
