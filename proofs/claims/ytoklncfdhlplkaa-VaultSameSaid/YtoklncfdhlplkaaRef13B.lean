/- Items: those that may be, in new rows; whether results are the same. -/
import Derived.Test.YtoklncfdhlplkaaRef13
set_option linter.unusedVariables false
set_option linter.unusedSimpArgs false
namespace Go.Proofs.Ytoklncfdhlplkaa
open Go.RowKit
open Go.Proofs.YtoklncfdhlplkaaW.PrintWords

theorem item_K {w : World} {a : Item} {A : Option Addr} {c : Nat} (hc : a.2.length ≤ c) (h : cmdK.C w A a.2.length a.2) : itemK.K w a (itemCells a A c) :=
  ⟨[.int .i64 a.1.1, .int .i64 a.1.2], [.slice A a.2.length c], rfl, idK.K_of_M (idK_M w 0 (fun _ => True) a.1), A, c, rfl, hc, h⟩
/-- Items whose batches lie where they came in. -/
abbrev itF (w0 : World) : Kd Item := Kd.fixed itemK w0
theorem itF_C {w0 w : World} (hb : Below w0.heap.size w0 w) {A : Option Addr} {n : Nat} {L : List Item} (h : (itF w0).C w A n L) : itemK.C w A n L :=
  Kd.C_read (d := itemK) (dm := itF w0) rfl (fun x cs hk => itemK.K_below hb hk) h
theorem info_it1 : (Try.prog.info? 80).map (fun i => (i.zero, i.size, i.bytes)) = some (some (.agg #[.int .i64 0, .int .i64 0, .slice none 0 0]), itemK.sz, 40) := by kernel_rfl
theorem info_it2 : (Try.prog.info? 34).map (fun i => (i.zero, i.size, i.bytes)) = some (some (.agg #[.int .i64 0, .int .i64 0, .slice none 0 0]), itemK.sz, 40) := by kernel_rfl
theorem goodI_succ {L : List Item} {k : Nat} (h : k < L.length) : goodI (L.take (k + 1)) = goodI (L.take k) ++ (if errBat (itx L k).2 = 0 then [itx L k] else []) := by
  rw [List.take_succ_eq_append_getElem h, ← itx_eq h]
  unfold goodI
  rw [List.filter_append]
  congr 1
  by_cases he : errBat (itx L k).2 = 0
  · rw [if_pos he, List.filter_cons_of_pos (by simpa using he)]; rfl
  · rw [if_neg he, List.filter_cons_of_neg (by simpa using he)]; rfl
theorem goodI_len (L : List Item) : (goodI L).length ≤ L.length := List.length_filter_le _ _
set_option maxRecDepth 100000 in
set_option maxHeartbeats 4000000 in
theorem both14 (A : Option Addr) (n c : Nat) (L : List Item) (w : World) (hC : itemK.C w A n L) (hL : ItemsGood L) (hn : n ≤ 1000) :
    Calls Try.prog 17 #[.slice A n c] w fun r w' => ∃ A1 c1 A2 c2, r = .returned (.tuple #[.slice A1 n c1, .slice A2 (goodI L).length c2]) ∧ itemK.C w' A1 n L ∧ itemK.C w' A2 (goodI L).length (goodI L) ∧ Fr (fun _ => False) w w' := by
  have HLn := Lib.hid (show L.length = n from hC.1)
  have HC := Lib.hid hC
  have HO := Lib.hid hL
  have hF := ((Fr.refl (fun _ => False) w).alloc (.cells #[] 80)).alloc (.cells #[] 34)
  have HRa := Lib.hid (Kd.R_alloc (R_empty (itF w) 80 w) (.cells #[] 34))
  have hrb := R_empty (itF w) 34 (w.alloc (.cells #[] 80))
  rw [World.size_alloc] at hrb
  have HRb := Lib.hid (Kd.R_mono (Kd.R_lower hrb (Nat.le_succ _)) (ok' := fun b => w.heap.size ≤ b) (fun b hb => by omega))
  have HF := Lib.hid hF
  clear hF hC hL hrb
  go_enter Try.func17, Try.ntmps17
  go_wp2_with fail
  go_loopw [4, 5, 6] (fun u v i wr => ∃ k : Nat, k ≤ n ∧ i = .int .i64 k ∧ (itF w).R 80 wr w.heap.size (fun b => w.heap.size ≤ b) u (L.take k) ∧ (itF w).R 34 wr w.heap.size (fun b => w.heap.size ≤ b) v (goodI (L.take k)) ∧ Fr (fun _ => False) w wr) (fun _ _ i _ => n - (intOf i).toNat)
  case atStart => exact ⟨0, Nat.zero_le _, rfl, HRa.out, HRb.out, HF.out⟩
  case round =>
    obtain ⟨k, hk, rfl, hRa, hRb, hG⟩ := hrel
    have HG := Lib.hid hG
    have HRa := Lib.hid hRa
    have HRb := Lib.hid hRb
    clear hG hRa hRb
    rcases Nat.lt_or_ge k n with hlt | hge
    · have HGD := Lib.hid (HO.out _ (itx_mem (i := k) (by rw [HLn.out]; exact hlt)))
      have HSU := Lib.hid (goodI_succ (L := L) (k := k) (by rw [HLn.out]; exact hlt))
      have hts : L.take (k + 1) = L.take k ++ [itx L k] := by rw [List.take_succ_eq_append_getElem (by rw [HLn.out]; exact hlt), itx_eq (by rw [HLn.out]; exact hlt)]
      have HTS := Lib.hid hts
      obtain ⟨b, off, Ab, cb, rfl, hcb, hCw, h0w, h1w, h2w⟩ := items_at HC.out hlt
      have HK := Lib.hid (item_K hcb hCw)
      have HCw := Lib.hid hCw
      obtain ⟨Wd, hWd⟩ : ∃ W, W = wr.drew := ⟨_, rfl⟩
      have HWD := Lib.hid hWd
      have hFd : Fr (fun _ => False) w Wd := by rw [hWd]; exact HG.out.drew
      have hRd : (itF w).R 80 Wd w.heap.size (fun b => w.heap.size ≤ b) u4 (L.take k) := by rw [hWd]; exact Kd.R_drew HRa.out
      have hRe : (itF w).R 34 Wd w.heap.size (fun b => w.heap.size ≤ b) u5 (goodI (L.take k)) := by rw [hWd]; exact Kd.R_drew HRb.out
      obtain ⟨St, hSt⟩ : ∃ St : World → Prop, St = Fr (fun b => some b = u4.ownBlock) Wd := ⟨_, rfl⟩
      have HT := Lib.hid (show ∀ w', Fr (fun b => some b = u4.ownBlock) Wd w' → At St w' from fun w' h => by unfold At; rw [hSt]; exact h)
      have hbo : ∀ x, w.cell? ⟨b, x, none⟩ ≠ none → some b ≠ u4.ownBlock := fun x hx e => by
        have h1 := Kd.R_base hRd b e.symm
        cases hq : w.cell? ⟨b, x, none⟩ with
        | none => exact hx hq
        | some v => have h2 := World.block_lt_of_cell? w _ hq; simp only at h2; omega
      have lift : ∀ (x : Nat) (u : Value), w.cell? ⟨b, x, none⟩ = some u → ∀ w', At St w' → w'.cell? ⟨b, x, none⟩ = some u := fun x u hq w' h => by replace h := h.out; rw [hSt] at h; exact h.cell (hFd.cell hq (fun h => h)) (hbo x (by rw [hq]; simp))
      have l0 := lift _ _ h0w
      have l1 := lift _ _ h1w
      have l2 := lift _ _ h2w
      have hT0 := HT.out Wd (Fr.refl _ _)
      have HFd := Lib.hid hFd
      have HRd := Lib.hid hRd
      have HRe := Lib.hid hRe
      have hbo0 := hbo _ (by rw [h0w]; simp)
      have HBO := Lib.hid hbo0
      have HW2 := Lib.hid h2w
      have HW1 := Lib.hid h1w
      have HW0 := Lib.hid h0w
      clear lift hSt hWd hFd hRd hRe hbo hbo0 h0w h1w h2w hts hCw
      go_wp2_with fail
      refine rt_start [14] (At St) 15 (by kernel_rfl) rfl ?_
      rw [← HWD.out]
      refine rt_free 0 (v := ?_) rfl (by kernel_rfl) (by kernel_rfl) (by kernel_rfl) (by kernel_rfl) (fun _ _ _ h => h) (by rfl) (fun _ => by first | assumption | exact HS0 _ rfl | exact HT.out _ (by repeat (first | exact Fr.refl _ _ | apply Fr.drew | refine Fr.alloc ?_ _))) ?_ ?_
      rotate_left 1
      · intro w; go_simp <;> with_reducible rfl
      try simp only [Act.put, List.setIfInBounds_toArray, List.set_cons_zero, List.set_cons_succ]
      refine rt_free 1 (v := ?_) rfl (by kernel_rfl) (by kernel_rfl) (by kernel_rfl) (by kernel_rfl) (fun _ _ _ h => h) (by rfl) (fun _ => by first | assumption | exact HS0 _ rfl | exact HT.out _ (by repeat (first | exact Fr.refl _ _ | apply Fr.drew | refine Fr.alloc ?_ _))) ?_ ?_
      rotate_left 1
      · intro w; go_simp <;> with_reducible rfl
      try simp only [Act.put, List.setIfInBounds_toArray, List.set_cons_zero, List.set_cons_succ]
      refine rt_free 2 (v := ?_) rfl (by kernel_rfl) (by kernel_rfl) (by kernel_rfl) (by kernel_rfl) (fun _ _ _ h => h) (by rfl) (fun _ => by first | assumption | exact HS0 _ rfl | exact HT.out _ (by repeat (first | exact Fr.refl _ _ | apply Fr.drew | refine Fr.alloc ?_ _))) ?_ ?_
      rotate_left 1
      · intro w; go_simp <;> with_reducible rfl
      try simp only [Act.put, List.setIfInBounds_toArray, List.set_cons_zero, List.set_cons_succ]
      refine rt_free 3 (v := ?_) rfl (by kernel_rfl) (by kernel_rfl) (by kernel_rfl) (by kernel_rfl) (fun _ _ _ h => h) (by rfl) (fun _ => by first | assumption | exact HS0 _ rfl | exact HT.out _ (by repeat (first | exact Fr.refl _ _ | apply Fr.drew | refine Fr.alloc ?_ _))) ?_ ?_
      rotate_left 1
      · intro w; go_simp <;> with_reducible rfl
      try simp only [Act.put, List.setIfInBounds_toArray, List.set_cons_zero, List.set_cons_succ]
      refine rt_free 4 (v := ?_) rfl (by kernel_rfl) (by kernel_rfl) (by kernel_rfl) (by kernel_rfl) (fun _ _ _ h => h) (by rfl) (fun _ => by first | assumption | exact HS0 _ rfl | exact HT.out _ (by repeat (first | exact Fr.refl _ _ | apply Fr.drew | refine Fr.alloc ?_ _))) ?_ ?_
      rotate_left 1
      · intro w; go_simp <;> with_reducible rfl
      try simp only [Act.put, List.setIfInBounds_toArray, List.set_cons_zero, List.set_cons_succ]
      refine rt_take 5 (v := ?_) rfl (by kernel_rfl) (by kernel_rfl) (by kernel_rfl) (by kernel_rfl) (fun _ _ _ h => h) (by rfl) (by first | assumption | exact HS0 _ rfl | exact HT.out _ (by repeat (first | exact Fr.refl _ _ | apply Fr.drew | refine Fr.alloc ?_ _))) ?_ ?_
      rotate_left 1
      · intro w hSw; go_simp <;> with_reducible rfl
      try simp only [Act.put, List.setIfInBounds_toArray, List.set_cons_zero, List.set_cons_succ]
      refine rt_free 6 (v := ?_) rfl (by kernel_rfl) (by kernel_rfl) (by kernel_rfl) (by kernel_rfl) (fun _ _ _ h => h) (by rfl) (fun _ => by first | assumption | exact HS0 _ rfl | exact HT.out _ (by repeat (first | exact Fr.refl _ _ | apply Fr.drew | refine Fr.alloc ?_ _))) ?_ ?_
      rotate_left 1
      · intro w; go_simp <;> with_reducible rfl
      try simp only [Act.put, List.setIfInBounds_toArray, List.set_cons_zero, List.set_cons_succ]
      refine rt_free 7 (v := ?_) rfl (by kernel_rfl) (by kernel_rfl) (by kernel_rfl) (by kernel_rfl) (fun _ _ _ h => h) (by rfl) (fun _ => by first | assumption | exact HS0 _ rfl | exact HT.out _ (by repeat (first | exact Fr.refl _ _ | apply Fr.drew | refine Fr.alloc ?_ _))) ?_ ?_
      rotate_left 1
      · intro w; go_simp <;> with_reducible rfl
      try simp only [Act.put, List.setIfInBounds_toArray, List.set_cons_zero, List.set_cons_succ]
      refine rt_free 8 (v := ?_) rfl (by kernel_rfl) (by kernel_rfl) (by kernel_rfl) (by kernel_rfl) (fun _ _ _ h => h) (by rfl) (fun _ => by first | assumption | exact HS0 _ rfl | exact HT.out _ (by repeat (first | exact Fr.refl _ _ | apply Fr.drew | refine Fr.alloc ?_ _))) ?_ ?_
      rotate_left 1
      · intro w; go_simp <;> with_reducible rfl
      try simp only [Act.put, List.setIfInBounds_toArray, List.set_cons_zero, List.set_cons_succ]
      refine rt_free 9 (v := ?_) rfl (by kernel_rfl) (by kernel_rfl) (by kernel_rfl) (by kernel_rfl) (fun _ _ _ h => h) (by rfl) (fun _ => by first | assumption | exact HS0 _ rfl | exact HT.out _ (by repeat (first | exact Fr.refl _ _ | apply Fr.drew | refine Fr.alloc ?_ _))) ?_ ?_
      rotate_left 1
      · intro w; go_simp <;> with_reducible rfl
      try simp only [Act.put, List.setIfInBounds_toArray, List.set_cons_zero, List.set_cons_succ]
      refine rt_take 10 (v := ?_) rfl (by kernel_rfl) (by kernel_rfl) (by kernel_rfl) (by kernel_rfl) (fun _ _ _ h => h) (by rfl) (by first | assumption | exact HS0 _ rfl | exact HT.out _ (by repeat (first | exact Fr.refl _ _ | apply Fr.drew | refine Fr.alloc ?_ _))) ?_ ?_
      rotate_left 1
      · intro w hSw; go_simp <;> with_reducible rfl
      try simp only [Act.put, List.setIfInBounds_toArray, List.set_cons_zero, List.set_cons_succ]
      refine rt_free 11 (v := ?_) rfl (by kernel_rfl) (by kernel_rfl) (by kernel_rfl) (by kernel_rfl) (fun _ _ _ h => h) (by rfl) (fun _ => by first | assumption | exact HS0 _ rfl | exact HT.out _ (by repeat (first | exact Fr.refl _ _ | apply Fr.drew | refine Fr.alloc ?_ _))) ?_ ?_
      rotate_left 1
      · intro w; go_simp <;> with_reducible rfl
      try simp only [Act.put, List.setIfInBounds_toArray, List.set_cons_zero, List.set_cons_succ]
      refine rt_one 12 rfl (by kernel_rfl) (fun K hK => ?_)
      go_simp
      refine hK.out (At St) _ _ (fun _ h => h) (fun _ => by (exact HT.out _ ((Fr.refl _ _).alloc _))) ?_
      clear hK K
      try simp only [Act.put, List.setIfInBounds_toArray, List.set_cons_zero, List.set_cons_succ]
      refine rt_one 13 rfl (by kernel_rfl) (fun K hK => ?_)
      refine Kd.R_append_step (itF w) w.heap.size rfl (.tmp 15) (.tmp 27) 47 80 _ 40 rfl Try.underlying47 info_it1 rfl (show 0 < itemK.sz by decide) (by decide) u4 (L.take k) (itx L k) (itemCells (itx L k) Ab cb) (fun b => w.heap.size ≤ b) (fun _ => False) (by rfl) (by rfl) HK.out (fun _ h => h.elim) (fun b hb => Nat.le_trans HFd.out.size hb) HRd.out (Below.refl _ _) HFd.out.size (by rw [List.length_take]; omega) ?_
      intro v1 W6 hR1 hB1 hg1 hat1
      have hT6 := HT.out _ (Fr.of_grown hg1)
      refine hK.out (At St) _ _ (fun _ h => h) (fun _ => by (assumption)) ?_
      clear hK K
      try simp only [Act.put, List.setIfInBounds_toArray, List.set_cons_zero, List.set_cons_succ]
      refine rt_one 14 rfl (by kernel_rfl) (fun K hK => ?_)
      go_simp
      refine hK.out (At St) _ _ (fun _ h => h) (late_abs (by kernel_rfl)) ?_
      clear hK K
      try simp only [Act.put, List.setIfInBounds_toArray, List.set_cons_zero, List.set_cons_succ]
      refine rt_done (by kernel_rfl) ?_
      have hRe6 := Kd.R_over' HRe.out (Kd.R_typed HRd.out) (show ∀ q, q ∈ 34 :: ([] : List Nat) → q ≠ 80 by decide) hg1
      have hF6 := HFd.out.trans' (Fr.of_grown hg1) (fun i hi h => by have := Kd.R_base HRd.out i h.symm; omega)
      have HR6 := Lib.hid hR1
      have HRe6 := Lib.hid hRe6
      have HF6 := Lib.hid hF6
      have a0 := hF6.cell HW0.out (fun h => h)
      have a1 := hF6.cell HW1.out (fun h => h)
      have a2 := hF6.cell HW2.out (fun h => h)
      clear l0 l1 l2 hT0 hT6 hR1 hB1 hg1 hat1 hRe6 hF6
      go_wp2_with fail
      refine (ref_bat Ab (itx L k).2.length cb (itx L k).2 W6 (Kd.C_below HCw.out (HF6.out.below (fun _ _ h => h))) HGD.out).mono ?_
      rintro r W7 ⟨rfl, hF7⟩
      have hx0 := hF7.cell a0 (fun h => h)
      have hx1 := hF7.cell a1 (fun h => h)
      have hx2 := hF7.cell a2 (fun h => h)
      have HF7 := Lib.hid (HF6.out.trans hF7)
      have HR7 := Lib.hid (Kd.R_below HR6.out (hF7.below (fun _ _ h => h)))
      have HRe7 := Lib.hid (Kd.R_below HRe6.out (hF7.below (fun _ _ h => h)))
      clear a0 a1 a2 hF7
      by_cases he : errBat (itx L k).2 = 0
      · rw [he]
        have hsu := HSU.out
        rw [if_pos he] at hsu
        have HSU2 := Lib.hid hsu
        have hgl := goodI_len (L.take k)
        rw [List.length_take] at hgl
        have HGL := Lib.hid hgl
        clear he hsu hgl
        go_wp2_with (at_builtin; refine Kd.R_append (itF w) w.heap.size rfl (.tmp 36) (.tmp 41) 22 34 _ 40 rfl Try.underlying22 info_it2 rfl (show 0 < itemK.sz by decide) (by decide) u5 (goodI (L.take k)) (itx L k) (itemCells (itx L k) Ab cb) (fun b => w.heap.size ≤ b) (fun _ => False) (by rfl) (by rfl) HK.out (fun _ h => h.elim) (fun b hb => Nat.le_trans HF7.out.size hb) HRe7.out (Below.refl _ _) HF7.out.size (by have := HGL.out; omega) ?_; intro v2 W8 hR1 hB1 hg1 hat1; have HR8 := Lib.hid hR1; have HG8 := Lib.hid hg1; clear hR1 hB1 hg1 hat1)
        go_roundw
        case rel =>
          refine ⟨k + 1, by omega, by go_num, ?_, ?_, HF7.out.trans' (Fr.of_grown HG8.out) (fun i hi h => by have := Kd.R_base HRe7.out i h.symm; omega)⟩
          · rw [HTS.out]
            exact Kd.R_over' HR7.out (Kd.R_typed HRe7.out) (show ∀ q, q ∈ 80 :: ([] : List Nat) → q ≠ 34 by decide) HG8.out
          · rw [HSU2.out]
            exact HR8.out
        case measure => simp [intOf]; omega
      · have tne : (errBat (itx L k).2 == 0) = false := by simpa using he
        have hsu := HSU.out
        rw [if_neg he, List.append_nil] at hsu
        have HSU2 := Lib.hid hsu
        clear he hsu
        go_wp2_with fail
        go_roundw
        case rel =>
          refine ⟨k + 1, by omega, by go_num, ?_, ?_, HF7.out⟩
          · rw [HTS.out]; exact HR7.out
          · rw [HSU2.out]; exact HRe7.out
        case measure => simp [intOf]; omega
    · obtain rfl : n = k := by omega
      have tnn : decide (n < n) = false := decide_eq_false (by omega)
      have hl : L.take n = L := by rw [← HLn.out]; exact List.take_length
      have ha := HRa.out
      have hb := HRb.out
      rw [hl] at ha hb
      obtain ⟨A1, c1, rfl⟩ := Kd.R_slice ha
      obtain ⟨A2, c2, rfl⟩ := Kd.R_slice hb
      have q1 := (Kd.R_reads' ha).2.2
      have q2 := (Kd.R_reads' hb).2.2
      have Q1 := Lib.hid q1
      have Q2 := Lib.hid q2
      clear ha hb q1 q2
      go_wp2_with fail
      go_ret2
      refine ⟨A1, c1, A2, c2, by rw [← HLn.out]; rfl, ?_, itF_C (HG.out.below (fun _ _ h => h)) Q2.out, HG.out⟩
      have := itF_C (HG.out.below (fun _ _ h => h)) Q1.out
      rwa [HLn.out] at this
end Go.Proofs.Ytoklncfdhlplkaa
