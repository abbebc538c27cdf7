/- RecordPairs: the law's walk. -/
import Derived.Test.YtckcdgmcoomngaaWorks8
set_option linter.unusedVariables false
set_option linter.unusedSimpArgs false
namespace Go.Proofs.Ytckcdgmcoomngaa
open Go.RowKit
open Go.Proofs.YtckcdgmcoomngaaW.PrintWords

theorem recLess_asym (r r' : Rec) (h : recLess r r' = true) : recLess r' r = false := by
  unfold recLess idLess at *
  by_cases h1 : r.2.1 = r'.2.1
  · rw [if_pos h1] at h
    rw [if_pos h1.symm]
    by_cases h2 : r.1.1 = r'.1.1
    · rw [if_pos h2] at h
      rw [if_pos h2.symm]
      have := of_decide_eq_true h
      exact decide_eq_false (by omega)
    · rw [if_neg h2] at h
      rw [if_neg (fun e => h2 e.symm)]
      have := of_decide_eq_true h
      exact decide_eq_false (by omega)
  · rw [if_neg h1] at h
    rw [if_neg (fun e => h1 e.symm)]
    have := of_decide_eq_true h
    exact decide_eq_false (by omega)
set_option maxRecDepth 100000 in
set_option maxHeartbeats 8000000 in
theorem lawPairs8 (r r' : Rec) (Ad Ab Ad' Ab' : Option Addr) (cd cb cd' cb' : Nat) (w : World) (h : RecAt w r Ad Ab cd cb) (h' : RecAt w r' Ad' Ab' cd' cb')
    (hL : ∀ x ∈ r.2.2.2, CmdOk x) (hL' : ∀ x ∈ r'.2.2.2, CmdOk x) :
    Calls Try.prog 4 #[recV r Ad Ab cd cb, recV r' Ad' Ab' cd' cb'] w fun e w' => e = .returned (.bool true) ∧ Fr (fun _ => False) w w' := by
  have HH := Lib.hid h
  have HH' := Lib.hid h'
  have s1 := Lib.hid (show r.2.2.1.length ≤ 9223372036854775807 from h.deps.2.1)
  have s2 := Lib.hid (show r.2.2.2.length ≤ 9223372036854775807 from h.batch.2.1)
  have s1' := Lib.hid (show r'.2.2.1.length ≤ 9223372036854775807 from h'.deps.2.1)
  have s2' := Lib.hid (show r'.2.2.2.length ≤ 9223372036854775807 from h'.batch.2.1)
  have HO := Lib.hid hL
  have HO' := Lib.hid hL'
  clear h h' hL hL'
  have hF := ((Fr.refl (fun _ => False) w).alloc (.cells #[.int .i64 r.1.1, .int .i64 r.1.2, .int .i64 r.2.1, .slice Ad r.2.2.1.length cd, .slice Ab r.2.2.2.length cb] 27)).alloc (.cells #[.int .i64 r'.1.1, .int .i64 r'.1.2, .int .i64 r'.2.1, .slice Ad' r'.2.2.1.length cd', .slice Ab' r'.2.2.2.length cb'] 27)
  have hX := (Blk.new w 27 #[.int .i64 r.1.1, .int .i64 r.1.2, .int .i64 r.2.1, .slice Ad r.2.2.1.length cd, .slice Ab r.2.2.2.length cb]).alloc (.cells #[.int .i64 r'.1.1, .int .i64 r'.1.2, .int .i64 r'.2.1, .slice Ad' r'.2.2.1.length cd', .slice Ab' r'.2.2.2.length cb'] 27)
  have hY := Blk.new (w.alloc (.cells #[.int .i64 r.1.1, .int .i64 r.1.2, .int .i64 r.2.1, .slice Ad r.2.2.1.length cd, .slice Ab r.2.2.2.length cb] 27)) 27 #[.int .i64 r'.1.1, .int .i64 r'.1.2, .int .i64 r'.2.1, .slice Ad' r'.2.2.1.length cd', .slice Ab' r'.2.2.2.length cb']
  rw [World.size_alloc] at hY
  by_cases hbig : 200 < wrap64 (wrap64 (wrap64 ((r.2.2.1.length : Int) + (r'.2.2.1.length : Int)) + (r.2.2.2.length : Int)) + (r'.2.2.2.length : Int))
  · have t1 := decide_eq_true hbig
    clear hbig
    go_enter Try.func4, Try.ntmps4
    go_wp2_with fail
    refine (works8 _).mono ?_
    rintro e w1 ⟨rfl, hF1⟩
    go_wp2_with fail
    go_ret
    exact ⟨rfl, hF.trans hF1⟩
  · have t1 := decide_eq_false hbig
    clear hbig
    go_enter Try.func4, Try.ntmps4
    go_wp2_with fail
    clear t1
    generalize ((w.alloc (.cells #[.int .i64 r.1.1, .int .i64 r.1.2, .int .i64 r.2.1, .slice Ad r.2.2.1.length cd, .slice Ab r.2.2.2.length cb] 27)).alloc (.cells #[.int .i64 r'.1.1, .int .i64 r'.1.2, .int .i64 r'.2.1, .slice Ad' r'.2.2.1.length cd', .slice Ab' r'.2.2.2.length cb'] 27)) = w1 at hX hY hF ⊢
    generalize wrap64 (wrap64 (wrap64 ((r.2.2.1.length : Int) + (r'.2.2.1.length : Int)) + (r.2.2.2.length : Int)) + (r'.2.2.2.length : Int)) = z1
    generalize wrap64 (wrap64 ((r.2.2.1.length : Int) + (r'.2.2.1.length : Int)) + (r.2.2.2.length : Int)) = z2
    generalize wrap64 ((r.2.2.1.length : Int) + (r'.2.2.1.length : Int)) = z3
    generalize w.heap.size = x at hX hY ⊢
    obtain ⟨St, hSt⟩ : ∃ St : World → Prop, St = Fr (fun _ => False) w1 := ⟨_, rfl⟩
    have HT := Lib.hid (show ∀ w', Fr (fun _ => False) w1 w' → At St w' from fun w' h => by unfold At; rw [hSt]; exact h)
    have lift : ∀ (q : Addr) (v : Value), w1.cell? q = some v → ∀ w', At St w' → w'.cell? q = some v := fun q v hq w' h => by replace h := h.out; rw [hSt] at h; exact h.cell hq (fun h => h)
    have e0 := lift ⟨x, 0, none⟩ _ (hX.cell 0)
    have e1 := lift ⟨x, 1, none⟩ _ (hX.cell 1)
    have e2 := lift ⟨x, 2, none⟩ _ (hX.cell 2)
    have e3 := lift ⟨x, 3, none⟩ _ (hX.cell 3)
    have e4 := lift ⟨x, 4, none⟩ _ (hX.cell 4)
    have f0 := lift ⟨x + 1, 0, none⟩ _ (hY.cell 0)
    have f1 := lift ⟨x + 1, 1, none⟩ _ (hY.cell 1)
    have f2 := lift ⟨x + 1, 2, none⟩ _ (hY.cell 2)
    have f3 := lift ⟨x + 1, 3, none⟩ _ (hY.cell 3)
    have f4 := lift ⟨x + 1, 4, none⟩ _ (hY.cell 4)
    have hT0 := HT.out w1.drew (Fr.refl _ _).drew
    have HF := Lib.hid hF
    have Fn := Lib.hid hF.drew
    clear hSt lift hX hY hF
    cases hls : recLess r r'
    · have HLS := Lib.hid hls
      clear hls
      refine rt_start [] (At St) 31 (by kernel_rfl) rfl ?_
      refine rt_take 0 (v := ?_) rfl (by kernel_rfl) (by kernel_rfl) (by kernel_rfl) (by kernel_rfl) (fun _ _ _ h => h) (by rfl) (by first | assumption | exact HS0 _ rfl | exact HT.out _ (by repeat (first | exact Fr.refl _ _ | apply Fr.drew | refine Fr.alloc ?_ _))) ?_ ?_
      rotate_left 1
      · intro w hSw; go_simp <;> with_reducible rfl
      try simp only [Act.put, List.setIfInBounds_toArray, List.set_cons_zero, List.set_cons_succ]
      refine rt_take 1 (v := ?_) rfl (by kernel_rfl) (by kernel_rfl) (by kernel_rfl) (by kernel_rfl) (fun _ _ _ h => h) (by rfl) (by first | assumption | exact HS0 _ rfl | exact HT.out _ (by repeat (first | exact Fr.refl _ _ | apply Fr.drew | refine Fr.alloc ?_ _))) ?_ ?_
      rotate_left 1
      · intro w hSw; go_simp <;> with_reducible rfl
      try simp only [Act.put, List.setIfInBounds_toArray, List.set_cons_zero, List.set_cons_succ]
      refine rt_take 3 (v := ?_) rfl (by kernel_rfl) (by kernel_rfl) (by kernel_rfl) (by kernel_rfl) (fun _ _ _ h => h) (by rfl) (by first | assumption | exact HS0 _ rfl | exact HT.out _ (by repeat (first | exact Fr.refl _ _ | apply Fr.drew | refine Fr.alloc ?_ _))) ?_ ?_
      rotate_left 1
      · intro w hSw; go_simp <;> with_reducible rfl
      try simp only [Act.put, List.setIfInBounds_toArray, List.set_cons_zero, List.set_cons_succ]
      refine rt_take 4 (v := ?_) rfl (by kernel_rfl) (by kernel_rfl) (by kernel_rfl) (by kernel_rfl) (fun _ _ _ h => h) (by rfl) (by first | assumption | exact HS0 _ rfl | exact HT.out _ (by repeat (first | exact Fr.refl _ _ | apply Fr.drew | refine Fr.alloc ?_ _))) ?_ ?_
      rotate_left 1
      · intro w hSw; go_simp <;> with_reducible rfl
      try simp only [Act.put, List.setIfInBounds_toArray, List.set_cons_zero, List.set_cons_succ]
      refine rt_one 2 rfl (by kernel_rfl) (fun K hK => ?_)
      go_simp
      refine (rec_same r r' Ad Ab Ad' Ab' cd cb cd' cb' _ (HH.out.fr Fn.out) (HH'.out.fr Fn.out) s1.out s2.out s1'.out s2'.out HO.out HO'.out).mono ?_
      rintro e wa ⟨rfl, hFa⟩
      have Fa := Lib.hid ((Fr.refl (fun _ => False) w1).drew.trans hFa)
      have Ga := Lib.hid (Fn.out.trans hFa)
      have hTa := HT.out _ Fa.out
      clear hFa
      go_wp2_with fail
      refine hK.out (At St) _ _ (fun _ h => h) (fun _ => by (assumption)) ?_
      clear hK K
      try simp only [Act.put, List.setIfInBounds_toArray, List.set_cons_zero, List.set_cons_succ]
      refine rt_one 5 rfl (by kernel_rfl) (fun K hK => ?_)
      go_simp
      refine (ref_rec r r' Ad Ab Ad' Ab' cd cb cd' cb' _ (HH.out.fr Ga.out) (HH'.out.fr Ga.out) s1.out s2.out s1'.out s2'.out HO.out HO'.out).mono ?_
      rintro e wb ⟨rfl, hFb⟩
      have Fb := Lib.hid (Fa.out.trans hFb)
      have hTb := HT.out _ Fb.out
      clear hFb
      go_wp2_with fail
      refine hK.out (At St) _ _ (fun _ h => h) (fun _ => by (assumption)) ?_
      clear hK K
      try simp only [Act.put, List.setIfInBounds_toArray, List.set_cons_zero, List.set_cons_succ]
      refine rt_free 6 (v := ?_) rfl (by kernel_rfl) (by kernel_rfl) (by kernel_rfl) (by kernel_rfl) (fun _ _ _ h => h) (by rfl) (fun _ => by first | assumption | exact HS0 _ rfl | exact HT.out _ (by repeat (first | exact Fr.refl _ _ | apply Fr.drew | refine Fr.alloc ?_ _))) ?_ ?_
      rotate_left 1
      · intro w; go_simp <;> with_reducible rfl
      try simp only [Act.put, List.setIfInBounds_toArray, List.set_cons_zero, List.set_cons_succ]
      refine rt_free 7 (v := ?_) rfl (by kernel_rfl) (by kernel_rfl) (by kernel_rfl) (by kernel_rfl) (fun _ _ _ h => h) (by rfl) (fun _ => by first | assumption | exact HS0 _ rfl | exact HT.out _ (by repeat (first | exact Fr.refl _ _ | apply Fr.drew | refine Fr.alloc ?_ _))) ?_ ?_
      rotate_left 1
      · intro w; go_simp <;> with_reducible rfl
      try simp only [Act.put, List.setIfInBounds_toArray, List.set_cons_zero, List.set_cons_succ]
      refine rt_take 8 (v := ?_) rfl (by kernel_rfl) (by kernel_rfl) (by kernel_rfl) (by kernel_rfl) (fun _ _ _ h => h) (by rfl) (by first | assumption | exact HS0 _ rfl | exact HT.out _ (by repeat (first | exact Fr.refl _ _ | apply Fr.drew | refine Fr.alloc ?_ _))) ?_ ?_
      rotate_left 1
      · intro w hSw; go_simp <;> with_reducible rfl
      try simp only [Act.put, List.setIfInBounds_toArray, List.set_cons_zero, List.set_cons_succ]
      refine rt_take 9 (v := ?_) rfl (by kernel_rfl) (by kernel_rfl) (by kernel_rfl) (by kernel_rfl) (fun _ _ _ h => h) (by rfl) (by first | assumption | exact HS0 _ rfl | exact HT.out _ (by repeat (first | exact Fr.refl _ _ | apply Fr.drew | refine Fr.alloc ?_ _))) ?_ ?_
      rotate_left 1
      · intro w hSw; go_simp <;> with_reducible rfl
      try simp only [Act.put, List.setIfInBounds_toArray, List.set_cons_zero, List.set_cons_succ]
      refine rt_take 11 (v := ?_) rfl (by kernel_rfl) (by kernel_rfl) (by kernel_rfl) (by kernel_rfl) (fun _ _ _ h => h) (by rfl) (by first | assumption | exact HS0 _ rfl | exact HT.out _ (by repeat (first | exact Fr.refl _ _ | apply Fr.drew | refine Fr.alloc ?_ _))) ?_ ?_
      rotate_left 1
      · intro w hSw; go_simp <;> with_reducible rfl
      try simp only [Act.put, List.setIfInBounds_toArray, List.set_cons_zero, List.set_cons_succ]
      refine rt_take 12 (v := ?_) rfl (by kernel_rfl) (by kernel_rfl) (by kernel_rfl) (by kernel_rfl) (fun _ _ _ h => h) (by rfl) (by first | assumption | exact HS0 _ rfl | exact HT.out _ (by repeat (first | exact Fr.refl _ _ | apply Fr.drew | refine Fr.alloc ?_ _))) ?_ ?_
      rotate_left 1
      · intro w hSw; go_simp <;> with_reducible rfl
      try simp only [Act.put, List.setIfInBounds_toArray, List.set_cons_zero, List.set_cons_succ]
      refine rt_one 10 rfl (by kernel_rfl) (fun K hK => ?_)
      go_simp
      refine (rec_less r r' Ad Ab Ad' Ab' cd cb cd' cb' _).mono ?_
      rintro e wc ⟨rfl, hFc⟩
      rw [HLS.out]
      have Fc := Lib.hid (Fb.out.trans hFc)
      have hTc := HT.out _ Fc.out
      clear hFc
      go_wp2_with fail
      refine hK.out (At St) _ _ (fun _ h => h) (fun _ => by (assumption)) ?_
      clear hK K
      try simp only [Act.put, List.setIfInBounds_toArray, List.set_cons_zero, List.set_cons_succ]
      refine rt_one 13 rfl (by kernel_rfl) (fun K hK => ?_)
      go_simp
      refine (ref_less r r' Ad Ab Ad' Ab' cd cb cd' cb' _).mono ?_
      rintro e wd ⟨rfl, hFd⟩
      rw [HLS.out]
      have Fd := Lib.hid (Fc.out.trans hFd)
      have hTd := HT.out _ Fd.out
      clear hFd
      go_wp2_with fail
      refine hK.out (At St) _ _ (fun _ h => h) (fun _ => by (assumption)) ?_
      clear hK K
      try simp only [Act.put, List.setIfInBounds_toArray, List.set_cons_zero, List.set_cons_succ]
      refine rt_free 14 (v := ?_) rfl (by kernel_rfl) (by kernel_rfl) (by kernel_rfl) (by kernel_rfl) (fun _ _ _ h => h) (by rfl) (fun _ => by first | assumption | exact HS0 _ rfl | exact HT.out _ (by repeat (first | exact Fr.refl _ _ | apply Fr.drew | refine Fr.alloc ?_ _))) ?_ ?_
      rotate_left 1
      · intro w; go_simp <;> with_reducible rfl
      try simp only [Act.put, List.setIfInBounds_toArray, List.set_cons_zero, List.set_cons_succ]
      refine rt_free 15 (v := ?_) rfl (by kernel_rfl) (by kernel_rfl) (by kernel_rfl) (by kernel_rfl) (fun _ _ _ h => h) (by rfl) (fun _ => by first | assumption | exact HS0 _ rfl | exact HT.out _ (by repeat (first | exact Fr.refl _ _ | apply Fr.drew | refine Fr.alloc ?_ _))) ?_ ?_
      rotate_left 1
      · intro w; go_simp <;> with_reducible rfl
      try simp only [Act.put, List.setIfInBounds_toArray, List.set_cons_zero, List.set_cons_succ]
      refine rt_free 16 (v := ?_) rfl (by kernel_rfl) (by kernel_rfl) (by kernel_rfl) (by kernel_rfl) (fun _ _ _ h => h) (by rfl) (fun _ => by first | assumption | exact HS0 _ rfl | exact HT.out _ (by repeat (first | exact Fr.refl _ _ | apply Fr.drew | refine Fr.alloc ?_ _))) ?_ ?_
      rotate_left 1
      · intro w; go_simp <;> with_reducible rfl
      try simp only [Act.put, List.setIfInBounds_toArray, List.set_cons_zero, List.set_cons_succ]
      refine rt_take 17 (v := ?_) rfl (by kernel_rfl) (by kernel_rfl) (by kernel_rfl) (by kernel_rfl) (fun _ _ _ h => h) (by rfl) (by first | assumption | exact HS0 _ rfl | exact HT.out _ (by repeat (first | exact Fr.refl _ _ | apply Fr.drew | refine Fr.alloc ?_ _))) ?_ ?_
      rotate_left 1
      · intro w hSw; go_simp <;> with_reducible rfl
      try simp only [Act.put, List.setIfInBounds_toArray, List.set_cons_zero, List.set_cons_succ]
      refine rt_take 18 (v := ?_) rfl (by kernel_rfl) (by kernel_rfl) (by kernel_rfl) (by kernel_rfl) (fun _ _ _ h => h) (by rfl) (by first | assumption | exact HS0 _ rfl | exact HT.out _ (by repeat (first | exact Fr.refl _ _ | apply Fr.drew | refine Fr.alloc ?_ _))) ?_ ?_
      rotate_left 1
      · intro w hSw; go_simp <;> with_reducible rfl
      try simp only [Act.put, List.setIfInBounds_toArray, List.set_cons_zero, List.set_cons_succ]
      refine rt_one 19 rfl (by kernel_rfl) (fun K hK => ?_)
      go_simp
      refine (rec_less r r' Ad Ab Ad' Ab' cd cb cd' cb' _).mono ?_
      rintro e we ⟨rfl, hFe⟩
      rw [HLS.out]
      have Fe := Lib.hid (Fd.out.trans hFe)
      have hTe := HT.out _ Fe.out
      clear hFe
      go_wp2_with fail
      refine hK.out (At St) _ _ (fun _ h => h) (fun _ => by (assumption)) ?_
      clear hK K
      try simp only [Act.put, List.setIfInBounds_toArray, List.set_cons_zero, List.set_cons_succ]
      refine rt_free 20 (v := ?_) rfl (by kernel_rfl) (by kernel_rfl) (by kernel_rfl) (by kernel_rfl) (fun _ _ _ h => h) (by rfl) (fun _ => by first | assumption | exact HS0 _ rfl | exact HT.out _ (by repeat (first | exact Fr.refl _ _ | apply Fr.drew | refine Fr.alloc ?_ _))) ?_ ?_
      rotate_left 1
      · intro w; go_simp <;> with_reducible rfl
      try simp only [Act.put, List.setIfInBounds_toArray, List.set_cons_zero, List.set_cons_succ]
      refine rt_skip 21 rfl (by kernel_rfl) (by kernel_rfl) (by kernel_rfl) (by kernel_rfl) (fun _ _ _ h => h) (by rfl) (fun _ => by first | assumption | exact HS0 _ rfl | exact HT.out _ (by repeat (first | exact Fr.refl _ _ | apply Fr.drew | refine Fr.alloc ?_ _))) ?_
      try simp only [Act.put, List.setIfInBounds_toArray, List.set_cons_zero, List.set_cons_succ]
      refine rt_skip 22 rfl (by kernel_rfl) (by kernel_rfl) (by kernel_rfl) (by kernel_rfl) (fun _ _ _ h => h) (by rfl) (fun _ => by first | assumption | exact HS0 _ rfl | exact HT.out _ (by repeat (first | exact Fr.refl _ _ | apply Fr.drew | refine Fr.alloc ?_ _))) ?_
      try simp only [Act.put, List.setIfInBounds_toArray, List.set_cons_zero, List.set_cons_succ]
      refine rt_skip 23 rfl (by kernel_rfl) (by kernel_rfl) (by kernel_rfl) (by kernel_rfl) (fun _ _ _ h => h) (by rfl) (fun _ => by first | assumption | exact HS0 _ rfl | exact HT.out _ (by repeat (first | exact Fr.refl _ _ | apply Fr.drew | refine Fr.alloc ?_ _))) ?_
      try simp only [Act.put, List.setIfInBounds_toArray, List.set_cons_zero, List.set_cons_succ]
      refine rt_free 24 (v := ?_) rfl (by kernel_rfl) (by kernel_rfl) (by kernel_rfl) (by kernel_rfl) (fun _ _ _ h => h) (by rfl) (fun _ => by first | assumption | exact HS0 _ rfl | exact HT.out _ (by repeat (first | exact Fr.refl _ _ | apply Fr.drew | refine Fr.alloc ?_ _))) ?_ ?_
      rotate_left 1
      · intro w; go_simp <;> with_reducible rfl
      try simp only [Act.put, List.setIfInBounds_toArray, List.set_cons_zero, List.set_cons_succ]
      refine rt_free 25 (v := ?_) rfl (by kernel_rfl) (by kernel_rfl) (by kernel_rfl) (by kernel_rfl) (fun _ _ _ h => h) (by rfl) (fun _ => by first | assumption | exact HS0 _ rfl | exact HT.out _ (by repeat (first | exact Fr.refl _ _ | apply Fr.drew | refine Fr.alloc ?_ _))) ?_ ?_
      rotate_left 1
      · intro w; go_simp <;> with_reducible rfl
      try simp only [Act.put, List.setIfInBounds_toArray, List.set_cons_zero, List.set_cons_succ]
      refine rt_free 26 (v := ?_) rfl (by kernel_rfl) (by kernel_rfl) (by kernel_rfl) (by kernel_rfl) (fun _ _ _ h => h) (by rfl) (fun _ => by first | assumption | exact HS0 _ rfl | exact HT.out _ (by repeat (first | exact Fr.refl _ _ | apply Fr.drew | refine Fr.alloc ?_ _))) ?_ ?_
      rotate_left 1
      · intro w; go_simp <;> with_reducible rfl
      try simp only [Act.put, List.setIfInBounds_toArray, List.set_cons_zero, List.set_cons_succ]
      refine rt_free 27 (v := ?_) rfl (by kernel_rfl) (by kernel_rfl) (by kernel_rfl) (by kernel_rfl) (fun _ _ _ h => h) (by rfl) (fun _ => by first | assumption | exact HS0 _ rfl | exact HT.out _ (by repeat (first | exact Fr.refl _ _ | apply Fr.drew | refine Fr.alloc ?_ _))) ?_ ?_
      rotate_left 1
      · intro w; go_simp <;> with_reducible rfl
      try simp only [Act.put, List.setIfInBounds_toArray, List.set_cons_zero, List.set_cons_succ]
      refine rt_one 28 rfl (by kernel_rfl) (fun K hK => ?_)
      go_simp
      refine (works8 _).mono ?_
      rintro e wg ⟨rfl, hFg⟩
      have Fg := Lib.hid (Fe.out.trans hFg)
      have hTg := HT.out _ Fg.out
      clear hFg
      go_wp2_with fail
      refine hK.out (At St) _ _ (fun _ h => h) (fun _ => by (assumption)) ?_
      clear hK K
      try simp only [Act.put, List.setIfInBounds_toArray, List.set_cons_zero, List.set_cons_succ]
      refine rt_free 29 (v := ?_) rfl (by kernel_rfl) (by kernel_rfl) (by kernel_rfl) (by kernel_rfl) (fun _ _ _ h => h) (by rfl) (fun _ => by first | assumption | exact HS0 _ rfl | exact HT.out _ (by repeat (first | exact Fr.refl _ _ | apply Fr.drew | refine Fr.alloc ?_ _))) ?_ ?_
      rotate_left 1
      · intro w; go_simp <;> with_reducible rfl
      try simp only [Act.put, List.setIfInBounds_toArray, List.set_cons_zero, List.set_cons_succ]
      refine rt_free 30 (v := ?_) rfl (by kernel_rfl) (by kernel_rfl) (by kernel_rfl) (by kernel_rfl) (fun _ _ _ h => h) (by rfl) (fun _ => by first | assumption | exact HS0 _ rfl | exact HT.out _ (by repeat (first | exact Fr.refl _ _ | apply Fr.drew | refine Fr.alloc ?_ _))) ?_ ?_
      rotate_left 1
      · intro w; go_simp <;> with_reducible rfl
      try simp only [Act.put, List.setIfInBounds_toArray, List.set_cons_zero, List.set_cons_succ]
      refine rt_done (by kernel_rfl) ?_
      go_wp2_with fail
      go_ret
      exact ⟨rfl, HF.out.trans Fg.out⟩
    · have HLS := Lib.hid hls
      clear hls
      refine rt_start [] (At St) 31 (by kernel_rfl) rfl ?_
      refine rt_take 0 (v := ?_) rfl (by kernel_rfl) (by kernel_rfl) (by kernel_rfl) (by kernel_rfl) (fun _ _ _ h => h) (by rfl) (by first | assumption | exact HS0 _ rfl | exact HT.out _ (by repeat (first | exact Fr.refl _ _ | apply Fr.drew | refine Fr.alloc ?_ _))) ?_ ?_
      rotate_left 1
      · intro w hSw; go_simp <;> with_reducible rfl
      try simp only [Act.put, List.setIfInBounds_toArray, List.set_cons_zero, List.set_cons_succ]
      refine rt_take 1 (v := ?_) rfl (by kernel_rfl) (by kernel_rfl) (by kernel_rfl) (by kernel_rfl) (fun _ _ _ h => h) (by rfl) (by first | assumption | exact HS0 _ rfl | exact HT.out _ (by repeat (first | exact Fr.refl _ _ | apply Fr.drew | refine Fr.alloc ?_ _))) ?_ ?_
      rotate_left 1
      · intro w hSw; go_simp <;> with_reducible rfl
      try simp only [Act.put, List.setIfInBounds_toArray, List.set_cons_zero, List.set_cons_succ]
      refine rt_take 3 (v := ?_) rfl (by kernel_rfl) (by kernel_rfl) (by kernel_rfl) (by kernel_rfl) (fun _ _ _ h => h) (by rfl) (by first | assumption | exact HS0 _ rfl | exact HT.out _ (by repeat (first | exact Fr.refl _ _ | apply Fr.drew | refine Fr.alloc ?_ _))) ?_ ?_
      rotate_left 1
      · intro w hSw; go_simp <;> with_reducible rfl
      try simp only [Act.put, List.setIfInBounds_toArray, List.set_cons_zero, List.set_cons_succ]
      refine rt_take 4 (v := ?_) rfl (by kernel_rfl) (by kernel_rfl) (by kernel_rfl) (by kernel_rfl) (fun _ _ _ h => h) (by rfl) (by first | assumption | exact HS0 _ rfl | exact HT.out _ (by repeat (first | exact Fr.refl _ _ | apply Fr.drew | refine Fr.alloc ?_ _))) ?_ ?_
      rotate_left 1
      · intro w hSw; go_simp <;> with_reducible rfl
      try simp only [Act.put, List.setIfInBounds_toArray, List.set_cons_zero, List.set_cons_succ]
      refine rt_one 2 rfl (by kernel_rfl) (fun K hK => ?_)
      go_simp
      refine (rec_same r r' Ad Ab Ad' Ab' cd cb cd' cb' _ (HH.out.fr Fn.out) (HH'.out.fr Fn.out) s1.out s2.out s1'.out s2'.out HO.out HO'.out).mono ?_
      rintro e wa ⟨rfl, hFa⟩
      have Fa := Lib.hid ((Fr.refl (fun _ => False) w1).drew.trans hFa)
      have Ga := Lib.hid (Fn.out.trans hFa)
      have hTa := HT.out _ Fa.out
      clear hFa
      go_wp2_with fail
      refine hK.out (At St) _ _ (fun _ h => h) (fun _ => by (assumption)) ?_
      clear hK K
      try simp only [Act.put, List.setIfInBounds_toArray, List.set_cons_zero, List.set_cons_succ]
      refine rt_one 5 rfl (by kernel_rfl) (fun K hK => ?_)
      go_simp
      refine (ref_rec r r' Ad Ab Ad' Ab' cd cb cd' cb' _ (HH.out.fr Ga.out) (HH'.out.fr Ga.out) s1.out s2.out s1'.out s2'.out HO.out HO'.out).mono ?_
      rintro e wb ⟨rfl, hFb⟩
      have Fb := Lib.hid (Fa.out.trans hFb)
      have hTb := HT.out _ Fb.out
      clear hFb
      go_wp2_with fail
      refine hK.out (At St) _ _ (fun _ h => h) (fun _ => by (assumption)) ?_
      clear hK K
      try simp only [Act.put, List.setIfInBounds_toArray, List.set_cons_zero, List.set_cons_succ]
      refine rt_free 6 (v := ?_) rfl (by kernel_rfl) (by kernel_rfl) (by kernel_rfl) (by kernel_rfl) (fun _ _ _ h => h) (by rfl) (fun _ => by first | assumption | exact HS0 _ rfl | exact HT.out _ (by repeat (first | exact Fr.refl _ _ | apply Fr.drew | refine Fr.alloc ?_ _))) ?_ ?_
      rotate_left 1
      · intro w; go_simp <;> with_reducible rfl
      try simp only [Act.put, List.setIfInBounds_toArray, List.set_cons_zero, List.set_cons_succ]
      refine rt_free 7 (v := ?_) rfl (by kernel_rfl) (by kernel_rfl) (by kernel_rfl) (by kernel_rfl) (fun _ _ _ h => h) (by rfl) (fun _ => by first | assumption | exact HS0 _ rfl | exact HT.out _ (by repeat (first | exact Fr.refl _ _ | apply Fr.drew | refine Fr.alloc ?_ _))) ?_ ?_
      rotate_left 1
      · intro w; go_simp <;> with_reducible rfl
      try simp only [Act.put, List.setIfInBounds_toArray, List.set_cons_zero, List.set_cons_succ]
      refine rt_take 8 (v := ?_) rfl (by kernel_rfl) (by kernel_rfl) (by kernel_rfl) (by kernel_rfl) (fun _ _ _ h => h) (by rfl) (by first | assumption | exact HS0 _ rfl | exact HT.out _ (by repeat (first | exact Fr.refl _ _ | apply Fr.drew | refine Fr.alloc ?_ _))) ?_ ?_
      rotate_left 1
      · intro w hSw; go_simp <;> with_reducible rfl
      try simp only [Act.put, List.setIfInBounds_toArray, List.set_cons_zero, List.set_cons_succ]
      refine rt_take 9 (v := ?_) rfl (by kernel_rfl) (by kernel_rfl) (by kernel_rfl) (by kernel_rfl) (fun _ _ _ h => h) (by rfl) (by first | assumption | exact HS0 _ rfl | exact HT.out _ (by repeat (first | exact Fr.refl _ _ | apply Fr.drew | refine Fr.alloc ?_ _))) ?_ ?_
      rotate_left 1
      · intro w hSw; go_simp <;> with_reducible rfl
      try simp only [Act.put, List.setIfInBounds_toArray, List.set_cons_zero, List.set_cons_succ]
      refine rt_take 11 (v := ?_) rfl (by kernel_rfl) (by kernel_rfl) (by kernel_rfl) (by kernel_rfl) (fun _ _ _ h => h) (by rfl) (by first | assumption | exact HS0 _ rfl | exact HT.out _ (by repeat (first | exact Fr.refl _ _ | apply Fr.drew | refine Fr.alloc ?_ _))) ?_ ?_
      rotate_left 1
      · intro w hSw; go_simp <;> with_reducible rfl
      try simp only [Act.put, List.setIfInBounds_toArray, List.set_cons_zero, List.set_cons_succ]
      refine rt_take 12 (v := ?_) rfl (by kernel_rfl) (by kernel_rfl) (by kernel_rfl) (by kernel_rfl) (fun _ _ _ h => h) (by rfl) (by first | assumption | exact HS0 _ rfl | exact HT.out _ (by repeat (first | exact Fr.refl _ _ | apply Fr.drew | refine Fr.alloc ?_ _))) ?_ ?_
      rotate_left 1
      · intro w hSw; go_simp <;> with_reducible rfl
      try simp only [Act.put, List.setIfInBounds_toArray, List.set_cons_zero, List.set_cons_succ]
      refine rt_one 10 rfl (by kernel_rfl) (fun K hK => ?_)
      go_simp
      refine (rec_less r r' Ad Ab Ad' Ab' cd cb cd' cb' _).mono ?_
      rintro e wc ⟨rfl, hFc⟩
      rw [HLS.out]
      have Fc := Lib.hid (Fb.out.trans hFc)
      have hTc := HT.out _ Fc.out
      clear hFc
      go_wp2_with fail
      refine hK.out (At St) _ _ (fun _ h => h) (fun _ => by (assumption)) ?_
      clear hK K
      try simp only [Act.put, List.setIfInBounds_toArray, List.set_cons_zero, List.set_cons_succ]
      refine rt_one 13 rfl (by kernel_rfl) (fun K hK => ?_)
      go_simp
      refine (ref_less r r' Ad Ab Ad' Ab' cd cb cd' cb' _).mono ?_
      rintro e wd ⟨rfl, hFd⟩
      rw [HLS.out]
      have Fd := Lib.hid (Fc.out.trans hFd)
      have hTd := HT.out _ Fd.out
      clear hFd
      go_wp2_with fail
      refine hK.out (At St) _ _ (fun _ h => h) (fun _ => by (assumption)) ?_
      clear hK K
      try simp only [Act.put, List.setIfInBounds_toArray, List.set_cons_zero, List.set_cons_succ]
      refine rt_free 14 (v := ?_) rfl (by kernel_rfl) (by kernel_rfl) (by kernel_rfl) (by kernel_rfl) (fun _ _ _ h => h) (by rfl) (fun _ => by first | assumption | exact HS0 _ rfl | exact HT.out _ (by repeat (first | exact Fr.refl _ _ | apply Fr.drew | refine Fr.alloc ?_ _))) ?_ ?_
      rotate_left 1
      · intro w; go_simp <;> with_reducible rfl
      try simp only [Act.put, List.setIfInBounds_toArray, List.set_cons_zero, List.set_cons_succ]
      refine rt_free 15 (v := ?_) rfl (by kernel_rfl) (by kernel_rfl) (by kernel_rfl) (by kernel_rfl) (fun _ _ _ h => h) (by rfl) (fun _ => by first | assumption | exact HS0 _ rfl | exact HT.out _ (by repeat (first | exact Fr.refl _ _ | apply Fr.drew | refine Fr.alloc ?_ _))) ?_ ?_
      rotate_left 1
      · intro w; go_simp <;> with_reducible rfl
      try simp only [Act.put, List.setIfInBounds_toArray, List.set_cons_zero, List.set_cons_succ]
      refine rt_free 16 (v := ?_) rfl (by kernel_rfl) (by kernel_rfl) (by kernel_rfl) (by kernel_rfl) (fun _ _ _ h => h) (by rfl) (fun _ => by first | assumption | exact HS0 _ rfl | exact HT.out _ (by repeat (first | exact Fr.refl _ _ | apply Fr.drew | refine Fr.alloc ?_ _))) ?_ ?_
      rotate_left 1
      · intro w; go_simp <;> with_reducible rfl
      try simp only [Act.put, List.setIfInBounds_toArray, List.set_cons_zero, List.set_cons_succ]
      refine rt_take 17 (v := ?_) rfl (by kernel_rfl) (by kernel_rfl) (by kernel_rfl) (by kernel_rfl) (fun _ _ _ h => h) (by rfl) (by first | assumption | exact HS0 _ rfl | exact HT.out _ (by repeat (first | exact Fr.refl _ _ | apply Fr.drew | refine Fr.alloc ?_ _))) ?_ ?_
      rotate_left 1
      · intro w hSw; go_simp <;> with_reducible rfl
      try simp only [Act.put, List.setIfInBounds_toArray, List.set_cons_zero, List.set_cons_succ]
      refine rt_take 18 (v := ?_) rfl (by kernel_rfl) (by kernel_rfl) (by kernel_rfl) (by kernel_rfl) (fun _ _ _ h => h) (by rfl) (by first | assumption | exact HS0 _ rfl | exact HT.out _ (by repeat (first | exact Fr.refl _ _ | apply Fr.drew | refine Fr.alloc ?_ _))) ?_ ?_
      rotate_left 1
      · intro w hSw; go_simp <;> with_reducible rfl
      try simp only [Act.put, List.setIfInBounds_toArray, List.set_cons_zero, List.set_cons_succ]
      refine rt_one 19 rfl (by kernel_rfl) (fun K hK => ?_)
      go_simp
      refine (rec_less r r' Ad Ab Ad' Ab' cd cb cd' cb' _).mono ?_
      rintro e we ⟨rfl, hFe⟩
      rw [HLS.out]
      have Fe := Lib.hid (Fd.out.trans hFe)
      have hTe := HT.out _ Fe.out
      clear hFe
      go_wp2_with fail
      refine hK.out (At St) _ _ (fun _ h => h) (fun _ => by (assumption)) ?_
      clear hK K
      try simp only [Act.put, List.setIfInBounds_toArray, List.set_cons_zero, List.set_cons_succ]
      refine rt_free 20 (v := ?_) rfl (by kernel_rfl) (by kernel_rfl) (by kernel_rfl) (by kernel_rfl) (fun _ _ _ h => h) (by rfl) (fun _ => by first | assumption | exact HS0 _ rfl | exact HT.out _ (by repeat (first | exact Fr.refl _ _ | apply Fr.drew | refine Fr.alloc ?_ _))) ?_ ?_
      rotate_left 1
      · intro w; go_simp <;> with_reducible rfl
      try simp only [Act.put, List.setIfInBounds_toArray, List.set_cons_zero, List.set_cons_succ]
      refine rt_take 21 (v := ?_) rfl (by kernel_rfl) (by kernel_rfl) (by kernel_rfl) (by kernel_rfl) (fun _ _ _ h => h) (by rfl) (by first | assumption | exact HS0 _ rfl | exact HT.out _ (by repeat (first | exact Fr.refl _ _ | apply Fr.drew | refine Fr.alloc ?_ _))) ?_ ?_
      rotate_left 1
      · intro w hSw; go_simp <;> with_reducible rfl
      try simp only [Act.put, List.setIfInBounds_toArray, List.set_cons_zero, List.set_cons_succ]
      refine rt_take 22 (v := ?_) rfl (by kernel_rfl) (by kernel_rfl) (by kernel_rfl) (by kernel_rfl) (fun _ _ _ h => h) (by rfl) (by first | assumption | exact HS0 _ rfl | exact HT.out _ (by repeat (first | exact Fr.refl _ _ | apply Fr.drew | refine Fr.alloc ?_ _))) ?_ ?_
      rotate_left 1
      · intro w hSw; go_simp <;> with_reducible rfl
      try simp only [Act.put, List.setIfInBounds_toArray, List.set_cons_zero, List.set_cons_succ]
      refine rt_one 23 rfl (by kernel_rfl) (fun K hK => ?_)
      go_simp
      refine (rec_less r' r Ad' Ab' Ad Ab cd' cb' cd cb _).mono ?_
      rintro e wf ⟨rfl, hFf⟩
      rw [recLess_asym r r' HLS.out]
      have Ff := Lib.hid (Fe.out.trans hFf)
      have hTf := HT.out _ Ff.out
      clear hFf
      go_wp2_with fail
      refine hK.out (At St) _ _ (fun _ h => h) (fun _ => by (assumption)) ?_
      clear hK K
      try simp only [Act.put, List.setIfInBounds_toArray, List.set_cons_zero, List.set_cons_succ]
      refine rt_free 24 (v := ?_) rfl (by kernel_rfl) (by kernel_rfl) (by kernel_rfl) (by kernel_rfl) (fun _ _ _ h => h) (by rfl) (fun _ => by first | assumption | exact HS0 _ rfl | exact HT.out _ (by repeat (first | exact Fr.refl _ _ | apply Fr.drew | refine Fr.alloc ?_ _))) ?_ ?_
      rotate_left 1
      · intro w; go_simp <;> with_reducible rfl
      try simp only [Act.put, List.setIfInBounds_toArray, List.set_cons_zero, List.set_cons_succ]
      refine rt_free 25 (v := ?_) rfl (by kernel_rfl) (by kernel_rfl) (by kernel_rfl) (by kernel_rfl) (fun _ _ _ h => h) (by rfl) (fun _ => by first | assumption | exact HS0 _ rfl | exact HT.out _ (by repeat (first | exact Fr.refl _ _ | apply Fr.drew | refine Fr.alloc ?_ _))) ?_ ?_
      rotate_left 1
      · intro w; go_simp <;> with_reducible rfl
      try simp only [Act.put, List.setIfInBounds_toArray, List.set_cons_zero, List.set_cons_succ]
      refine rt_free 26 (v := ?_) rfl (by kernel_rfl) (by kernel_rfl) (by kernel_rfl) (by kernel_rfl) (fun _ _ _ h => h) (by rfl) (fun _ => by first | assumption | exact HS0 _ rfl | exact HT.out _ (by repeat (first | exact Fr.refl _ _ | apply Fr.drew | refine Fr.alloc ?_ _))) ?_ ?_
      rotate_left 1
      · intro w; go_simp <;> with_reducible rfl
      try simp only [Act.put, List.setIfInBounds_toArray, List.set_cons_zero, List.set_cons_succ]
      refine rt_free 27 (v := ?_) rfl (by kernel_rfl) (by kernel_rfl) (by kernel_rfl) (by kernel_rfl) (fun _ _ _ h => h) (by rfl) (fun _ => by first | assumption | exact HS0 _ rfl | exact HT.out _ (by repeat (first | exact Fr.refl _ _ | apply Fr.drew | refine Fr.alloc ?_ _))) ?_ ?_
      rotate_left 1
      · intro w; go_simp <;> with_reducible rfl
      try simp only [Act.put, List.setIfInBounds_toArray, List.set_cons_zero, List.set_cons_succ]
      refine rt_one 28 rfl (by kernel_rfl) (fun K hK => ?_)
      go_simp
      refine (works8 _).mono ?_
      rintro e wg ⟨rfl, hFg⟩
      have Fg := Lib.hid (Ff.out.trans hFg)
      have hTg := HT.out _ Fg.out
      clear hFg
      go_wp2_with fail
      refine hK.out (At St) _ _ (fun _ h => h) (fun _ => by (assumption)) ?_
      clear hK K
      try simp only [Act.put, List.setIfInBounds_toArray, List.set_cons_zero, List.set_cons_succ]
      refine rt_free 29 (v := ?_) rfl (by kernel_rfl) (by kernel_rfl) (by kernel_rfl) (by kernel_rfl) (fun _ _ _ h => h) (by rfl) (fun _ => by first | assumption | exact HS0 _ rfl | exact HT.out _ (by repeat (first | exact Fr.refl _ _ | apply Fr.drew | refine Fr.alloc ?_ _))) ?_ ?_
      rotate_left 1
      · intro w; go_simp <;> with_reducible rfl
      try simp only [Act.put, List.setIfInBounds_toArray, List.set_cons_zero, List.set_cons_succ]
      refine rt_free 30 (v := ?_) rfl (by kernel_rfl) (by kernel_rfl) (by kernel_rfl) (by kernel_rfl) (fun _ _ _ h => h) (by rfl) (fun _ => by first | assumption | exact HS0 _ rfl | exact HT.out _ (by repeat (first | exact Fr.refl _ _ | apply Fr.drew | refine Fr.alloc ?_ _))) ?_ ?_
      rotate_left 1
      · intro w; go_simp <;> with_reducible rfl
      try simp only [Act.put, List.setIfInBounds_toArray, List.set_cons_zero, List.set_cons_succ]
      refine rt_done (by kernel_rfl) ?_
      go_wp2_with fail
      go_ret
      exact ⟨rfl, HF.out.trans Fg.out⟩
end Go.Proofs.Ytckcdgmcoomngaa
