/- Layer 8's works. -/
import Derived.Test.YtckcdgmcoomngaaRecS
set_option linter.unusedVariables false
set_option linter.unusedSimpArgs false
namespace Go.Proofs.Ytckcdgmcoomngaa
open Go.RowKit
open Go.Proofs.YtckcdgmcoomngaaW.PrintWords

abbrev D8 : List (Int × Int) := [(0, 1), (1, 1)]
abbrev B8 : List Cmd := [(1, ⟨#[97]⟩, 0)]
abbrev r8 : Rec := ((1, 2), 3, D8, B8)
theorem key8 : keyOk ⟨#[97]⟩ := by
  refine ⟨fun i h => ?_, by decide, by decide⟩
  have : i = 0 := by have : (⟨#[97]⟩ : ByteArray).size = 1 := rfl; omega
  subst this
  exact show charK 97 from .inl ⟨by decide, by decide⟩
theorem bat8 : errBat B8 = 0 := errBat_ok (by decide) fun i hi => by
  have : i = 0 := by have : B8.length = 1 := rfl; omega
  subst this
  exact ⟨.inl rfl, key8, fun _ => rfl⟩
theorem rec8 : errRec r8 = 0 := by
  unfold errRec
  rw [if_pos (show errOwn (1, 2) 3 = 0 from by decide), if_pos (show errDeps (1, 2) D8 = 0 from by decide)]
  exact bat8
theorem good8 : RecGood r8 := fun x hx => by
  obtain rfl : x = (1, ⟨#[97]⟩, 0) := by simpa using hx
  exact ⟨by decide, by decide⟩
set_option maxRecDepth 100000 in
set_option maxHeartbeats 4000000 in
theorem works8 (w : World) : Calls Try.prog 7 #[] w fun r w' => r = .returned (.bool true) ∧ Fr (fun _ => False) w w' := by
  go_enter Try.func7, Try.ntmps7
  go_wp2_with fail
  have hb1 := ((Blk.new w 23 #[.int .i64 0, .int .i64 1, .int .i64 1, .int .i64 1]).alloc (.cells #[.int .i64 1, .string ⟨#[97]⟩, .float .f64 0] 36)).alloc (.cells #[.int .i64 1, .int .i64 2, .int .i64 3, .slice (some ⟨w.heap.size, 0, none⟩) 2 2, .slice (some ⟨w.heap.size + 1, 0, none⟩) 1 1] 27)
  have hb2 := (Blk.new (w.alloc (.cells #[.int .i64 0, .int .i64 1, .int .i64 1, .int .i64 1] 23)) 36 #[.int .i64 1, .string ⟨#[97]⟩, .float .f64 0]).alloc (.cells #[.int .i64 1, .int .i64 2, .int .i64 3, .slice (some ⟨w.heap.size, 0, none⟩) 2 2, .slice (some ⟨w.heap.size + 1, 0, none⟩) 1 1] 27)
  have hb3 := Blk.new ((w.alloc (.cells #[.int .i64 0, .int .i64 1, .int .i64 1, .int .i64 1] 23)).alloc (.cells #[.int .i64 1, .string ⟨#[97]⟩, .float .f64 0] 36)) 27 #[.int .i64 1, .int .i64 2, .int .i64 3, .slice (some ⟨w.heap.size, 0, none⟩) 2 2, .slice (some ⟨w.heap.size + 1, 0, none⟩) 1 1]
  have hF := (((Fr.refl (fun _ => False) w).alloc (.cells #[.int .i64 0, .int .i64 1, .int .i64 1, .int .i64 1] 23)).alloc (.cells #[.int .i64 1, .string ⟨#[97]⟩, .float .f64 0] 36)).alloc (.cells #[.int .i64 1, .int .i64 2, .int .i64 3, .slice (some ⟨w.heap.size, 0, none⟩) 2 2, .slice (some ⟨w.heap.size + 1, 0, none⟩) 1 1] 27)
  rw [World.size_alloc] at hb2
  rw [World.size_alloc, World.size_alloc] at hb3
  generalize (((w.alloc (.cells #[.int .i64 0, .int .i64 1, .int .i64 1, .int .i64 1] 23)).alloc (.cells #[.int .i64 1, .string ⟨#[97]⟩, .float .f64 0] 36)).alloc (.cells #[.int .i64 1, .int .i64 2, .int .i64 3, .slice (some ⟨w.heap.size, 0, none⟩) 2 2, .slice (some ⟨w.heap.size + 1, 0, none⟩) 1 1] 27)) = w1 at hb1 hb2 hb3 hF ⊢
  generalize e3 : w.heap.size + 1 + 1 = x at hb3 ⊢
  generalize e2 : w.heap.size + 1 = g2 at hb2 hb3 ⊢
  generalize e1 : w.heap.size = g1 at hb1 hb3 ⊢
  clear e1 e2 e3
  have hR : RecAt w1 r8 (some ⟨g1, 0, none⟩) (some ⟨g2, 0, none⟩) 2 1 := ⟨by decide, by decide, idFlat.blk_C (L := D8) hb1 (by decide), cmdFlat.blk_C (L := B8) hb2 (by decide)⟩
  obtain ⟨St, hSt⟩ : ∃ St : World → Prop, St = Fr (fun _ => False) w1 := ⟨_, rfl⟩
  have HT := Lib.hid (show ∀ w', Fr (fun _ => False) w1 w' → At St w' from fun w' h => by unfold At; rw [hSt]; exact h)
  have lift : ∀ (q : Addr) (v : Value), w1.cell? q = some v → ∀ w', At St w' → w'.cell? q = some v := fun q v hq w' h => by replace h := h.out; rw [hSt] at h; exact h.cell hq (fun h => h)
  have e0 := lift ⟨x, 0, none⟩ (.int .i64 1) (hb3.cell 0)
  have e1 := lift ⟨x, 1, none⟩ (.int .i64 2) (hb3.cell 1)
  have e2 := lift ⟨x, 2, none⟩ (.int .i64 3) (hb3.cell 2)
  have e3 := lift ⟨x, 3, none⟩ (.slice (some ⟨g1, 0, none⟩) 2 2) (hb3.cell 3)
  have e4 := lift ⟨x, 4, none⟩ (.slice (some ⟨g2, 0, none⟩) 1 1) (hb3.cell 4)
  have hT0 := HT.out w1.drew (Fr.refl _ _).drew
  have HR := Lib.hid hR
  have HF := Lib.hid hF
  clear hSt lift hb1 hb2 hb3 hR hF
  refine rt_start [] (At St) 21 (by kernel_rfl) rfl ?_
  refine rt_take 0 (v := ?_) rfl (by kernel_rfl) (by kernel_rfl) (by kernel_rfl) (by kernel_rfl) (fun _ _ _ h => h) (by rfl) (by first | assumption | exact HS0 _ rfl | exact HT.out _ (by repeat (first | exact Fr.refl _ _ | apply Fr.drew | refine Fr.alloc ?_ _))) ?_ ?_
  rotate_left 1
  · intro w hSw; go_simp <;> with_reducible rfl
  try simp only [Act.put, List.setIfInBounds_toArray, List.set_cons_zero, List.set_cons_succ]
  refine rt_one 1 rfl (by kernel_rfl) (fun K hK => ?_)
  go_simp
  refine (rec_check r8 (some ⟨g1, 0, none⟩) (some ⟨g2, 0, none⟩) 2 1 _ (HR.out.fr (Fr.refl _ _).drew) good8).mono ?_
  rintro r wa ⟨rfl, hFa⟩
  rw [rec8]
  have Fa := Lib.hid ((Fr.refl (fun _ => False) w1).drew.trans hFa)
  have hTa := HT.out _ Fa.out
  clear hFa
  go_wp2_with fail
  refine hK.out (At St) _ _ (fun _ h => h) (fun _ => by (assumption)) ?_
  clear hK K
  try simp only [Act.put, List.setIfInBounds_toArray, List.set_cons_zero, List.set_cons_succ]
  refine rt_free 2 (v := ?_) rfl (by kernel_rfl) (by kernel_rfl) (by kernel_rfl) (by kernel_rfl) (fun _ _ _ h => h) (by rfl) (fun _ => by first | assumption | exact HS0 _ rfl | exact HT.out _ (by repeat (first | exact Fr.refl _ _ | apply Fr.drew | refine Fr.alloc ?_ _))) ?_ ?_
  rotate_left 1
  · intro w; go_simp <;> with_reducible rfl
  try simp only [Act.put, List.setIfInBounds_toArray, List.set_cons_zero, List.set_cons_succ]
  refine rt_free 3 (v := ?_) rfl (by kernel_rfl) (by kernel_rfl) (by kernel_rfl) (by kernel_rfl) (fun _ _ _ h => h) (by rfl) (fun _ => by first | assumption | exact HS0 _ rfl | exact HT.out _ (by repeat (first | exact Fr.refl _ _ | apply Fr.drew | refine Fr.alloc ?_ _))) ?_ ?_
  rotate_left 1
  · intro w; go_simp <;> with_reducible rfl
  try simp only [Act.put, List.setIfInBounds_toArray, List.set_cons_zero, List.set_cons_succ]
  refine rt_take 4 (v := ?_) rfl (by kernel_rfl) (by kernel_rfl) (by kernel_rfl) (by kernel_rfl) (fun _ _ _ h => h) (by rfl) (by first | assumption | exact HS0 _ rfl | exact HT.out _ (by repeat (first | exact Fr.refl _ _ | apply Fr.drew | refine Fr.alloc ?_ _))) ?_ ?_
  rotate_left 1
  · intro w hSw; go_simp <;> with_reducible rfl
  try simp only [Act.put, List.setIfInBounds_toArray, List.set_cons_zero, List.set_cons_succ]
  refine rt_take 5 (v := ?_) rfl (by kernel_rfl) (by kernel_rfl) (by kernel_rfl) (by kernel_rfl) (fun _ _ _ h => h) (by rfl) (by first | assumption | exact HS0 _ rfl | exact HT.out _ (by repeat (first | exact Fr.refl _ _ | apply Fr.drew | refine Fr.alloc ?_ _))) ?_ ?_
  rotate_left 1
  · intro w hSw; go_simp <;> with_reducible rfl
  try simp only [Act.put, List.setIfInBounds_toArray, List.set_cons_zero, List.set_cons_succ]
  refine rt_one 6 rfl (by kernel_rfl) (fun K hK => ?_)
  go_simp
  refine (rec_copy r8 (some ⟨g1, 0, none⟩) (some ⟨g2, 0, none⟩) 2 1 _ (HR.out.fr Fa.out) (by decide) (by decide)).mono ?_
  rintro r wb ⟨gd, gb, rfl, hgd, hgb, hne, hBd, hBb, hFb⟩
  have Fb := Lib.hid (Fa.out.trans hFb)
  have hTb := HT.out _ Fb.out
  have HRb := Lib.hid (show RecAt wb r8 (some ⟨gd, 0, none⟩) (some ⟨gb, 0, none⟩) 2 1 from ⟨by decide, by decide, idFlat.blk_C (L := D8) hBd (by decide), cmdFlat.blk_C (L := B8) hBb (by decide)⟩)
  clear hFb hBd hBb hgd hgb hne
  go_wp2_with fail
  refine hK.out (At St) _ _ (fun _ h => h) (fun _ => by (assumption)) ?_
  clear hK K
  try simp only [Act.put, List.setIfInBounds_toArray, List.set_cons_zero, List.set_cons_succ]
  refine rt_one 7 rfl (by kernel_rfl) (fun K hK => ?_)
  go_simp
  refine (rec_same r8 r8 (some ⟨g1, 0, none⟩) (some ⟨g2, 0, none⟩) (some ⟨gd, 0, none⟩) (some ⟨gb, 0, none⟩) 2 1 2 1 _ (HR.out.fr Fb.out) HRb.out (by decide) (by decide) (by decide) (by decide) (fun x hx => (good8 x hx).2) (fun x hx => (good8 x hx).2)).mono ?_
  rintro r wc ⟨rfl, hFc⟩
  rw [cdec_true (recS_refl _)]
  have Fc := Lib.hid (Fb.out.trans hFc)
  have hTc := HT.out _ Fc.out
  clear hFc
  go_wp2_with fail
  refine hK.out (At St) _ _ (fun _ h => h) (fun _ => by (assumption)) ?_
  clear hK K
  try simp only [Act.put, List.setIfInBounds_toArray, List.set_cons_zero, List.set_cons_succ]
  refine rt_free 8 (v := ?_) rfl (by kernel_rfl) (by kernel_rfl) (by kernel_rfl) (by kernel_rfl) (fun _ _ _ h => h) (by rfl) (fun _ => by first | assumption | exact HS0 _ rfl | exact HT.out _ (by repeat (first | exact Fr.refl _ _ | apply Fr.drew | refine Fr.alloc ?_ _))) ?_ ?_
  rotate_left 1
  · intro w; go_simp <;> with_reducible rfl
  try simp only [Act.put, List.setIfInBounds_toArray, List.set_cons_zero, List.set_cons_succ]
  refine rt_free 9 (v := ?_) rfl (by kernel_rfl) (by kernel_rfl) (by kernel_rfl) (by kernel_rfl) (fun _ _ _ h => h) (by rfl) (fun _ => by first | assumption | exact HS0 _ rfl | exact HT.out _ (by repeat (first | exact Fr.refl _ _ | apply Fr.drew | refine Fr.alloc ?_ _))) ?_ ?_
  rotate_left 1
  · intro w; go_simp <;> with_reducible rfl
  try simp only [Act.put, List.setIfInBounds_toArray, List.set_cons_zero, List.set_cons_succ]
  refine rt_take 10 (v := ?_) rfl (by kernel_rfl) (by kernel_rfl) (by kernel_rfl) (by kernel_rfl) (fun _ _ _ h => h) (by rfl) (by first | assumption | exact HS0 _ rfl | exact HT.out _ (by repeat (first | exact Fr.refl _ _ | apply Fr.drew | refine Fr.alloc ?_ _))) ?_ ?_
  rotate_left 1
  · intro w hSw; go_simp <;> with_reducible rfl
  try simp only [Act.put, List.setIfInBounds_toArray, List.set_cons_zero, List.set_cons_succ]
  refine rt_one 11 rfl (by kernel_rfl) (fun K hK => ?_)
  go_simp
  refine (rec_cost r8 (some ⟨g1, 0, none⟩) (some ⟨g2, 0, none⟩) 2 1 _ (by decide)).mono ?_
  rintro r wd ⟨rfl, hFd⟩
  rw [show (1 : Int) + (r8.2.2.1.length : Int) = 3 from rfl]
  have Fd := Lib.hid (Fc.out.trans hFd)
  have hTd := HT.out _ Fd.out
  clear hFd
  go_wp2_with fail
  refine hK.out (At St) _ _ (fun _ h => h) (fun _ => by (assumption)) ?_
  clear hK K
  try simp only [Act.put, List.setIfInBounds_toArray, List.set_cons_zero, List.set_cons_succ]
  refine rt_free 12 (v := ?_) rfl (by kernel_rfl) (by kernel_rfl) (by kernel_rfl) (by kernel_rfl) (fun _ _ _ h => h) (by rfl) (fun _ => by first | assumption | exact HS0 _ rfl | exact HT.out _ (by repeat (first | exact Fr.refl _ _ | apply Fr.drew | refine Fr.alloc ?_ _))) ?_ ?_
  rotate_left 1
  · intro w; go_simp <;> with_reducible rfl
  try simp only [Act.put, List.setIfInBounds_toArray, List.set_cons_zero, List.set_cons_succ]
  refine rt_free 13 (v := ?_) rfl (by kernel_rfl) (by kernel_rfl) (by kernel_rfl) (by kernel_rfl) (fun _ _ _ h => h) (by rfl) (fun _ => by first | assumption | exact HS0 _ rfl | exact HT.out _ (by repeat (first | exact Fr.refl _ _ | apply Fr.drew | refine Fr.alloc ?_ _))) ?_ ?_
  rotate_left 1
  · intro w; go_simp <;> with_reducible rfl
  try simp only [Act.put, List.setIfInBounds_toArray, List.set_cons_zero, List.set_cons_succ]
  refine rt_free 14 (v := ?_) rfl (by kernel_rfl) (by kernel_rfl) (by kernel_rfl) (by kernel_rfl) (fun _ _ _ h => h) (by rfl) (fun _ => by first | assumption | exact HS0 _ rfl | exact HT.out _ (by repeat (first | exact Fr.refl _ _ | apply Fr.drew | refine Fr.alloc ?_ _))) ?_ ?_
  rotate_left 1
  · intro w; go_simp <;> with_reducible rfl
  try simp only [Act.put, List.setIfInBounds_toArray, List.set_cons_zero, List.set_cons_succ]
  refine rt_take 15 (v := ?_) rfl (by kernel_rfl) (by kernel_rfl) (by kernel_rfl) (by kernel_rfl) (fun _ _ _ h => h) (by rfl) (by first | assumption | exact HS0 _ rfl | exact HT.out _ (by repeat (first | exact Fr.refl _ _ | apply Fr.drew | refine Fr.alloc ?_ _))) ?_ ?_
  rotate_left 1
  · intro w hSw; go_simp <;> with_reducible rfl
  try simp only [Act.put, List.setIfInBounds_toArray, List.set_cons_zero, List.set_cons_succ]
  refine rt_take 16 (v := ?_) rfl (by kernel_rfl) (by kernel_rfl) (by kernel_rfl) (by kernel_rfl) (fun _ _ _ h => h) (by rfl) (by first | assumption | exact HS0 _ rfl | exact HT.out _ (by repeat (first | exact Fr.refl _ _ | apply Fr.drew | refine Fr.alloc ?_ _))) ?_ ?_
  rotate_left 1
  · intro w hSw; go_simp <;> with_reducible rfl
  try simp only [Act.put, List.setIfInBounds_toArray, List.set_cons_zero, List.set_cons_succ]
  refine rt_one 17 rfl (by kernel_rfl) (fun K hK => ?_)
  go_simp
  refine (rec_less r8 r8 (some ⟨g1, 0, none⟩) (some ⟨g2, 0, none⟩) (some ⟨g1, 0, none⟩) (some ⟨g2, 0, none⟩) 2 1 2 1 _).mono ?_
  rintro r we ⟨rfl, hFe⟩
  rw [show recLess r8 r8 = false by decide]
  have Fe := Lib.hid (Fd.out.trans hFe)
  have hTe := HT.out _ Fe.out
  clear hFe
  go_wp2_with fail
  refine hK.out (At St) _ _ (fun _ h => h) (fun _ => by (assumption)) ?_
  clear hK K
  try simp only [Act.put, List.setIfInBounds_toArray, List.set_cons_zero, List.set_cons_succ]
  refine rt_free 18 (v := ?_) rfl (by kernel_rfl) (by kernel_rfl) (by kernel_rfl) (by kernel_rfl) (fun _ _ _ h => h) (by rfl) (fun _ => by first | assumption | exact HS0 _ rfl | exact HT.out _ (by repeat (first | exact Fr.refl _ _ | apply Fr.drew | refine Fr.alloc ?_ _))) ?_ ?_
  rotate_left 1
  · intro w; go_simp <;> with_reducible rfl
  try simp only [Act.put, List.setIfInBounds_toArray, List.set_cons_zero, List.set_cons_succ]
  refine rt_free 19 (v := ?_) rfl (by kernel_rfl) (by kernel_rfl) (by kernel_rfl) (by kernel_rfl) (fun _ _ _ h => h) (by rfl) (fun _ => by first | assumption | exact HS0 _ rfl | exact HT.out _ (by repeat (first | exact Fr.refl _ _ | apply Fr.drew | refine Fr.alloc ?_ _))) ?_ ?_
  rotate_left 1
  · intro w; go_simp <;> with_reducible rfl
  try simp only [Act.put, List.setIfInBounds_toArray, List.set_cons_zero, List.set_cons_succ]
  refine rt_free 20 (v := ?_) rfl (by kernel_rfl) (by kernel_rfl) (by kernel_rfl) (by kernel_rfl) (fun _ _ _ h => h) (by rfl) (fun _ => by first | assumption | exact HS0 _ rfl | exact HT.out _ (by repeat (first | exact Fr.refl _ _ | apply Fr.drew | refine Fr.alloc ?_ _))) ?_ ?_
  rotate_left 1
  · intro w; go_simp <;> with_reducible rfl
  try simp only [Act.put, List.setIfInBounds_toArray, List.set_cons_zero, List.set_cons_succ]
  refine rt_done (by kernel_rfl) ?_
  go_wp2_with fail
  go_ret
  exact ⟨rfl, HF.out.trans Fe.out⟩
end Go.Proofs.Ytckcdgmcoomngaa
