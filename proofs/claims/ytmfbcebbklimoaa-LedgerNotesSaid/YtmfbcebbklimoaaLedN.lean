/- Ledger.Note: an answer is counted and kept, and the record of an OK. -/
import Derived.Test.YtmfbcebbklimoaaLedD
set_option linter.unusedVariables false
set_option linter.unusedSimpArgs false
namespace Go.Proofs.Ytmfbcebbklimoaa
open Go.RowKit
open Go.Proofs.YtmfbcebbklimoaaW.PrintWords

theorem info_err : (Try.prog.info? 23).map (fun i => (i.zero, i.size, i.bytes)) = some (some (.int .i64 0), errK.sz, 8) := by kernel_rfl
theorem info_recL : (Try.prog.info? 33).map (fun i => (i.zero, i.size, i.bytes)) = some (some (.agg #[.int .i64 0, .int .i64 0, .int .i64 0, .slice none 0 0, .slice none 0 0]), recK.sz, 72) := by kernel_rfl
set_option maxRecDepth 100000 in
set_option maxHeartbeats 8000000 in
theorem led_note (g : Nat) (S : Nat → Prop) (E : List Int) (R : List Rec) (e : Int) (r : Rec) (Ad Ab : Option Addr) (cd cb : Nat) (w : World) (h : LedRep w S g E R) (he : (Lit.int .i64 e).wf = true) (hr : ∀ w', Fr S w w' → RecAt w' r Ad Ab cd cb)
    (s1 : r.2.2.1.length ≤ 1000000) (s2 : r.2.2.2.length ≤ 1000000) (hE : E.length ≤ 1000000) (hR : R.length ≤ 1000000) :
    Calls Try.prog 7 #[.pointer (some ⟨g, 0, none⟩), .int .i64 e, recV r Ad Ab cd cb] w fun q w' => q = .returned (.tuple #[]) ∧ ∃ S', LedRep w' S' g (E ++ [e]) (if e = 0 then R ++ [r] else R) ∧ (∀ b, S' b → S b ∨ w.heap.size ≤ b) ∧ Fr S w w' := by
  obtain ⟨mc, vr, va, hL⟩ := h
  have hX := Blk.new w 33 #[.int .i64 r.1.1, .int .i64 r.1.2, .int .i64 r.2.1, .slice Ad r.2.2.1.length cd, .slice Ab r.2.2.2.length cb]
  have hF1 := (Fr.refl (fun _ => False) w).alloc (.cells #[.int .i64 r.1.1, .int .i64 r.1.2, .int .i64 r.2.1, .slice Ad r.2.2.1.length cd, .slice Ab r.2.2.2.length cb] 33)
  have hL1 := hL.fr hF1 (fun _ _ h => h)
  obtain ⟨W1, hW1⟩ : ∃ W1, W1 = w.alloc (.cells #[.int .i64 r.1.1, .int .i64 r.1.2, .int .i64 r.2.1, .slice Ad r.2.2.1.length cd, .slice Ab r.2.2.2.length cb] 33) := ⟨_, rfl⟩
  rw [← hW1] at hX hF1 hL1
  have HGL := Lib.hid (And.intro (hL.lt _ hL.own.1) (hL.lt _ hL.own.2))
  have HSO := Lib.hid hL.own
  have c0 := hL1.blk.cell 0
  simp only [List.getElem?_toArray, List.getElem?_cons_zero] at c0
  have hz : (zeroValue 2).run Try.prog W1 = .ok (.int .i64 0) W1 := by kernel_rfl
  have hk := hL1.map.lookup Try.underlying45 hz (a := e) he
  rw [fE_val] at hk
  obtain ⟨W2, hrun, hM2, hF2, hs2⟩ := hL1.map.update Try.underlying45 (a := e) he (E.count e + 1)
  rw [fE_snoc] at hM2
  have hcv : cntV (E.count e + 1) = .int .i64 ((E.count e : Int) + 1) := by unfold cntV; rw [Int.natCast_add]; rfl
  rw [hcv] at hrun
  obtain ⟨n, hn⟩ : ∃ n, n = E.count e := ⟨_, rfl⟩
  rw [← hn] at hk hrun
  have hnb : n ≤ 1000000 := by rw [hn]; exact Nat.le_trans List.count_le_length hE
  have hk' : (Instr.lookup 45 (.map (some mc)) (.int .i64 e) false).run Try.prog W1 = .ok (.int .i64 (n : Int)) W1 := hk
  have hrun' : (Instr.mapUpdate 45 (.map (some mc)) (.int .i64 e) (.int .i64 ((n : Int) + 1))).run Try.prog W1 = .ok () W2 := hrun
  have twr : IntKind.i64.wrap ((n : Int) + 1) = (n : Int) + 1 := by
    simp only [IntKind.wrap, IntKind.signed, IntKind.bits]
    first | omega | go_num
  have hgm : g ≠ mc := hL1.map.ne_blk hL1.blk
  have hB2 := hL1.blk.fr hF2 hgm
  have hX2 := hX.fr hF2 (hL1.map.ne_blk hX)
  have hR2 := Kd.R_mono (Kd.R_step hL1.recs (fun b hb hl => hF2.block b hl hb.2.1)) (ok' := fun b => (S b ∨ w.heap.size ≤ b) ∧ b ≠ mc ∧ b ≠ g) (fun b hb => ⟨.inl hb.1, hb.2⟩)
  have hA2 := Kd.R_mono (Kd.R_step hL1.ans (fun b hb hl => hF2.block b hl hb.2.1)) (ok' := fun b => (S b ∨ w.heap.size ≤ b) ∧ b ≠ mc ∧ b ≠ g) (fun b hb => ⟨.inl hb.1, hb.2⟩)
  have hF02 : Fr S w W2 := (hF1.mono (fun _ _ h => h.elim)).trans' hF2 (fun i hi h => by rw [h]; exact hL.own.2)
  have k2 := hB2.cell 2
  simp only [List.getElem?_toArray, List.getElem?_cons_zero, List.getElem?_cons_succ] at k2
  have HB2 := Lib.hid hB2
  have HX2 := Lib.hid hX2
  have HR2 := Lib.hid hR2
  have HA2 := Lib.hid hA2
  have HM2 := Lib.hid hM2
  have HF02 := Lib.hid hF02
  have HWF := Lib.hid hL.wf
  have HVO := Lib.hid (show ∀ b, vr.ownBlock = some b → b < w.heap.size from fun b hb => hL.lt b (hL.recs.1 b hb).1)
  have HEE := Lib.hid hE
  have HRR := Lib.hid hR
  have HGM := Lib.hid hgm
  have HHR := Lib.hid hr
  have HE := Lib.hid he
  have hW1' := hW1.symm
  clear hL hL1 hX hF1 hz hk hrun hM2 hF2 hs2 hcv hgm hB2 hX2 hR2 hA2 hF02 hE hR hr hn he hW1
  by_cases hq : e = 0
  · subst hq
    have tq : ((0 : Int) == 0) = true := rfl
    go_enter Try.func7, Try.ntmps7
    go_wp2_with (at_builtin; refine Kd.R_append errK 0 rfl (.tmp 19) (.tmp 21) 37 23 _ 8 rfl Try.underlying37 info_err rfl (by decide) (by decide) va E 0 [.int .i64 0] (fun b => (S b ∨ w.heap.size ≤ b) ∧ b ≠ mc ∧ b ≠ g) (fun _ => False) (by rfl) (by rfl) rfl (fun _ h => h.elim) (fun b hb => ⟨.inr (Nat.le_trans HF02.out.size hb), by have := HGL.out; have := HF02.out.size; omega, by have := HGL.out; have := HF02.out.size; omega⟩) HA2.out (Below.refl _ _) (Nat.zero_le _) (by have := HEE.out; omega) ?_; intro v1 W3 hR3 hB3 hg3 hat3; obtain ⟨A3, c3, rfl⟩ := Kd.R_slice hR3; obtain ⟨nE, hnE⟩ : ∃ x, x = (E ++ [0]).length := ⟨_, rfl⟩; rw [← hnE] at hR3 ⊢; have hgB := HB2.out.fr (Fr.of_grown hg3) (Kd.R_ne HA2.out HB2.out (by decide)); have k2 := hgB.cell 2; have kf := hgB.frozen; have HR3 := Lib.hid hR3; have HG3 := Lib.hid hg3; have HGB := Lib.hid hgB; have HNE := Lib.hid hnE; clear hR3 hB3 hg3 hat3 hgB hnE; simp only [List.getElem?_toArray, List.getElem?_cons_zero, List.getElem?_cons_succ] at k2)
    have hb3 := HGB.out.set_ 2 (.slice A3 nE c3)
    have hf3 : Fr S w W3 := HF02.out.trans' (Fr.of_grown HG3.out) (fun i hi h => ((HA2.out.1 i h.symm).1).elim id (fun h => absurd hi (by omega)))
    have hmo : ¬ some mc = va.ownBlock := fun h => (HA2.out.1 mc h.symm).2.1 rfl
    have hgl := HGL.out
    have hxg : w.heap.size ≠ g := by omega
    obtain ⟨W4, hW4⟩ : ∃ W, W = (W3.setCell ⟨g, 2, none⟩ (.slice A3 nE c3)).drew := ⟨_, rfl⟩
    have hFd : Fr (fun _ => False) (W3.setCell ⟨g, 2, none⟩ (.slice A3 nE c3)) W4 := by rw [hW4]; exact (Fr.refl _ _).drew
    have hB4 : Blk W4 g 47 #[.map (some mc), vr, .slice A3 nE c3] := hb3.fr hFd (fun h => h)
    have hX4 := ((HX2.out.fr (Fr.of_grown HG3.out) (Kd.R_ne HA2.out HX2.out (by decide))).far (p := ⟨g, 2, none⟩) hxg (.slice A3 nE c3)).fr hFd (fun h => h)
    have hM4 := ((HM2.out.fr (Fr.of_grown HG3.out) hmo).far (p := ⟨g, 2, none⟩) HGM.out.symm (.slice A3 nE c3)).fr hFd (fun h => h)
    have hR4 := Kd.R_below (Kd.R_far (Kd.R_over' HR2.out (Kd.R_typed HA2.out) (by decide) HG3.out) (p := ⟨g, 2, none⟩) (fun k hk => hk.2.2) (.slice A3 nE c3)) (hFd.below (fun _ _ h => h))
    have hA4 := Kd.R_below (Kd.R_far HR3.out (p := ⟨g, 2, none⟩) (fun k hk => hk.2.2) (.slice A3 nE c3)) (hFd.below (fun _ _ h => h))
    have hF4 : Fr S w W4 := (hf3.setCell (p := ⟨g, 2, none⟩) (.inl HSO.out.1) (.slice A3 nE c3)).trans' hFd (fun _ _ h => h.elim)
    obtain ⟨St, hSt⟩ : ∃ St : World → Prop, St = Fr (fun b => some b = vr.ownBlock) W4 := ⟨_, rfl⟩
    have HT := Lib.hid (show ∀ w', Fr (fun b => some b = vr.ownBlock) W4 w' → At St w' from fun w' h => by unfold At; rw [hSt]; exact h)
    have lift : ∀ (q : Addr) (u : Value), some q.block ≠ vr.ownBlock → W4.cell? q = some u → ∀ w', At St w' → w'.cell? q = some u := fun q u hb hq w' h => by replace h := h.out; rw [hSt] at h; exact h.cell hq hb
    have nx : some w.heap.size ≠ vr.ownBlock := fun h => absurd (HVO.out _ h.symm) (by omega)
    have ng : some g ≠ vr.ownBlock := Kd.R_ne hR4 hB4 (by decide)
    have l1 := lift ⟨g, 1, none⟩ _ ng (hB4.cell 1)
    have x0 := lift ⟨w.heap.size, 0, none⟩ _ nx (hX4.cell 0)
    have x1 := lift ⟨w.heap.size, 1, none⟩ _ nx (hX4.cell 1)
    have x2 := lift ⟨w.heap.size, 2, none⟩ _ nx (hX4.cell 2)
    have x3 := lift ⟨w.heap.size, 3, none⟩ _ nx (hX4.cell 3)
    have x4 := lift ⟨w.heap.size, 4, none⟩ _ nx (hX4.cell 4)
    have hFr := Fr.refl (fun _ => False) W4
    have hT0 := HT.out W4 (Fr.refl _ _)
    have HB4 := Lib.hid hB4
    have HM4 := Lib.hid hM4
    have HR4 := Lib.hid hR4
    have HA4 := Lib.hid hA4
    have HF4 := Lib.hid hF4
    have HW4 := Lib.hid hW4
    have HNG := Lib.hid ng
    clear hb3 hf3 hmo hgl hxg hFd hB4 hX4 hM4 hR4 hA4 hF4 hSt lift nx ng hW4 k2 tq hW1' hrun' hk' twr c0
    refine rt_start [11] (At St) 12 (by kernel_rfl) rfl ?_
    rw [← HW4.out]
    refine rt_free 0 (v := ?_) rfl (by kernel_rfl) (by kernel_rfl) (by kernel_rfl) (by kernel_rfl) (fun _ _ _ h => h) (by rfl) (fun _ => by first | assumption | exact HS0 _ rfl | exact HT.out _ (by repeat (first | exact Fr.refl _ _ | apply Fr.drew | refine Fr.alloc ?_ _))) ?_ ?_
    rotate_left 1
    · intro w; go_simp <;> with_reducible rfl
    try simp only [Act.put, List.setIfInBounds_toArray, List.set_cons_zero, List.set_cons_succ]
    refine rt_free 1 (v := ?_) rfl (by kernel_rfl) (by kernel_rfl) (by kernel_rfl) (by kernel_rfl) (fun _ _ _ h => h) (by rfl) (fun _ => by first | assumption | exact HS0 _ rfl | exact HT.out _ (by repeat (first | exact Fr.refl _ _ | apply Fr.drew | refine Fr.alloc ?_ _))) ?_ ?_
    rotate_left 1
    · intro w; go_simp <;> with_reducible rfl
    try simp only [Act.put, List.setIfInBounds_toArray, List.set_cons_zero, List.set_cons_succ]
    refine rt_free 2 (v := ?_) rfl (by kernel_rfl) (by kernel_rfl) (by kernel_rfl) (by kernel_rfl) (fun _ _ _ h => h) (by rfl) (fun _ => by first | assumption | exact HS0 _ rfl | exact HT.out _ (by repeat (first | exact Fr.refl _ _ | apply Fr.drew | refine Fr.alloc ?_ _))) ?_ ?_
    rotate_left 1
    · intro w; go_simp <;> with_reducible rfl
    try simp only [Act.put, List.setIfInBounds_toArray, List.set_cons_zero, List.set_cons_succ]
    refine rt_free 3 (v := ?_) rfl (by kernel_rfl) (by kernel_rfl) (by kernel_rfl) (by kernel_rfl) (fun _ _ _ h => h) (by rfl) (fun _ => by first | assumption | exact HS0 _ rfl | exact HT.out _ (by repeat (first | exact Fr.refl _ _ | apply Fr.drew | refine Fr.alloc ?_ _))) ?_ ?_
    rotate_left 1
    · intro w; go_simp <;> with_reducible rfl
    try simp only [Act.put, List.setIfInBounds_toArray, List.set_cons_zero, List.set_cons_succ]
    refine rt_take 4 (v := ?_) rfl (by kernel_rfl) (by kernel_rfl) (by kernel_rfl) (by kernel_rfl) (fun _ _ _ h => h) (by rfl) (by first | assumption | exact HS0 _ rfl | exact HT.out _ (by repeat (first | exact Fr.refl _ _ | apply Fr.drew | refine Fr.alloc ?_ _))) ?_ ?_
    rotate_left 1
    · intro w hSw; go_simp <;> with_reducible rfl
    try simp only [Act.put, List.setIfInBounds_toArray, List.set_cons_zero, List.set_cons_succ]
    refine rt_take 5 (v := ?_) rfl (by kernel_rfl) (by kernel_rfl) (by kernel_rfl) (by kernel_rfl) (fun _ _ _ h => h) (by rfl) (by first | assumption | exact HS0 _ rfl | exact HT.out _ (by repeat (first | exact Fr.refl _ _ | apply Fr.drew | refine Fr.alloc ?_ _))) ?_ ?_
    rotate_left 1
    · intro w hSw; go_simp <;> with_reducible rfl
    try simp only [Act.put, List.setIfInBounds_toArray, List.set_cons_zero, List.set_cons_succ]
    refine rt_one 6 rfl (by kernel_rfl) (fun K hK => ?_)
    go_simp
    refine (rec_copy r Ad Ab cd cb W4 (HHR.out _ HF4.out) s1 s2).mono ?_
    rintro q Wc ⟨gd, gb, rfl, hgd, hgb, hne, hBd, hBb, hFc⟩
    replace hFr := hFr.trans hFc
    have hTn := HT.out _ (hFr.mono (fun _ _ h => h.elim))
    have HMM := Lib.hid (recK_M (idFlat.blk_R (base := 0) (ok := fun k => k = gd ∨ k = gb) hBd (Nat.zero_le _) (.inl rfl) (Nat.le_trans s1 (by omega))) (cmdFlat.blk_R hBb (Nat.zero_le _) (.inr rfl) (Nat.le_trans s2 (by omega))))
    have HGD := Lib.hid (And.intro hgd hgb)
    have HRn := Lib.hid (Kd.R_below HR4.out (hFc.below (fun _ _ h => h)))
    have HAn := Lib.hid (Kd.R_below HA4.out (hFc.below (fun _ _ h => h)))
    clear hgd hgb hne hBd hBb hFc
    go_wp2_with fail
    refine hK.out (At St) _ _ (fun _ h => h) (fun _ => by (assumption)) ?_
    clear hK K
    try simp only [Act.put, List.setIfInBounds_toArray, List.set_cons_zero, List.set_cons_succ]
    refine rt_one 7 rfl (by kernel_rfl) (fun K hK => ?_)
    go_simp
    refine hK.out (At St) _ _ (fun _ h => h) (fun _ => by (exact HT.out _ ((hFr.mono (fun _ _ h => h.elim)).alloc _))) ?_
    clear hK K
    try simp only [Act.put, List.setIfInBounds_toArray, List.set_cons_zero, List.set_cons_succ]
    refine rt_one 8 rfl (by kernel_rfl) (fun K hK => ?_)
    refine Kd.R_append_step recK 0 rfl (.tmp 31) (.tmp 34) 27 33 _ 72 rfl Try.underlying27 info_recL rfl (by decide) (by decide) vr R r (recCells r (some ⟨gd, 0, none⟩) (some ⟨gb, 0, none⟩) r.2.2.1.length r.2.2.2.length) (fun b => (S b ∨ w.heap.size ≤ b) ∧ b ≠ mc ∧ b ≠ g) (fun k => k = gd ∨ k = gb) (by rfl) (by rfl) HMM.out (fun j hj => by have h1 := HGD.out; have h2 := HF4.out.size; have h3 := HGL.out; exact ⟨⟨.inr (by omega), by omega, by omega⟩, fun e => by have := HVO.out j e.symm; omega⟩) (fun b hb => by have h1 := hFr.size; have h2 := HF4.out.size; have h3 := HGL.out; exact ⟨.inr (by omega), by omega, by omega⟩) HRn.out (Below.refl _ _) (Nat.zero_le _) (by have := HRR.out; omega) ?_
    intro v1 w8 hR8 hB8 hg8 hat8
    obtain ⟨A8, c8, rfl⟩ := Kd.R_slice hR8
    obtain ⟨nR, hnR⟩ : ∃ x, x = (R ++ [r]).length := ⟨_, rfl⟩
    rw [← hnR] at hR8 ⊢
    have HNR := Lib.hid hnR
    clear hnR
    have hb8 := (HB4.out.fr hFr (fun h => h)).fr (Fr.of_grown hg8) HNG.out
    have k1 := hb8.cell 1
    have kf := hb8.frozen
    replace k1 : w8.cell? ⟨g, 1, none⟩ = some vr := k1
    have hT8 := HT.out _ ((hFr.mono (fun _ _ h => h.elim)).trans (Fr.of_grown hg8))
    refine hK.out (At St) _ _ (fun _ h => h) (fun _ => by (assumption)) ?_
    clear hK K
    try simp only [Act.put, List.setIfInBounds_toArray, List.set_cons_zero, List.set_cons_succ]
    refine rt_free 9 (v := ?_) rfl (by kernel_rfl) (by kernel_rfl) (by kernel_rfl) (by kernel_rfl) (fun _ _ _ h => h) (by rfl) (fun _ => by first | assumption | exact HS0 _ rfl | exact HT.out _ (by repeat (first | exact Fr.refl _ _ | apply Fr.drew | refine Fr.alloc ?_ _))) ?_ ?_
    rotate_left 1
    · intro w; go_simp <;> with_reducible rfl
    try simp only [Act.put, List.setIfInBounds_toArray, List.set_cons_zero, List.set_cons_succ]
    refine rt_free 10 (v := ?_) rfl (by kernel_rfl) (by kernel_rfl) (by kernel_rfl) (by kernel_rfl) (fun _ _ _ h => h) (by rfl) (fun _ => by first | assumption | exact HS0 _ rfl | exact HT.out _ (by repeat (first | exact Fr.refl _ _ | apply Fr.drew | refine Fr.alloc ?_ _))) ?_ ?_
    rotate_left 1
    · intro w; go_simp <;> with_reducible rfl
    try simp only [Act.put, List.setIfInBounds_toArray, List.set_cons_zero, List.set_cons_succ]
    refine rt_one 11 rfl (by kernel_rfl) (fun K hK => ?_)
    go_simp
    refine hK.out (At St) _ _ (fun _ h => h) (late_abs (by kernel_rfl)) ?_
    clear hK K
    try simp only [Act.put, List.setIfInBounds_toArray, List.set_cons_zero, List.set_cons_succ]
    refine rt_done (by kernel_rfl) ?_
    go_wp2_with fail
    go_end0
    have hgl := HGL.out
    have hf8 : Fr (fun b => some b = vr.ownBlock) W4 w8 := (hFr.mono (fun _ _ h => h.elim)).trans' (Fr.of_grown hg8) (fun _ _ h => h)
    have hfw : Fr S w w8 := HF4.out.trans' hf8 (fun i hi h => ((HR4.out.1 i h.symm).1).elim id (fun h2 => absurd hi (by omega)))
    have hmo : ¬ some mc = vr.ownBlock := fun h => (HR4.out.1 mc h.symm).2.1 rfl
    have hm8 := HM4.out.fr hf8 hmo
    have ha8 := Kd.R_over' HAn.out (Kd.R_typed HRn.out) (by decide) hg8
    have hs8 := hfw.size
    refine ⟨rfl, fun b => (S b ∨ w.heap.size ≤ b) ∧ b < w8.heap.size, ⟨mc, .slice A8 nR c8, .slice A3 nE c3, ⟨hb8.set_ 1 (.slice A8 nR c8), ⟨⟨.inl HSO.out.1, by omega⟩, ⟨.inl HSO.out.2, by omega⟩⟩, hm8.far (p := ⟨g, 1, none⟩) HGM.out.symm _, ?_, ?_, fun b hb => by simpa [World.setCell] using hb.2, fun x hx => (List.mem_append.1 hx).elim (HWF.out x) (fun h => by rw [List.mem_singleton.1 h]; exact HE.out)⟩⟩, fun b hb => hb.1, hfw.setCell (p := ⟨g, 1, none⟩) (.inl HSO.out.1) _⟩
    · exact Kd.R_mono (Kd.R_bound (Kd.R_far hR8 (p := ⟨g, 1, none⟩) (fun k hk => hk.2.2) _)) (fun b hb => ⟨⟨hb.1.1, by simpa [World.setCell] using hb.2.2.1⟩, hb.1.2⟩)
    · exact Kd.R_mono (Kd.R_bound (Kd.R_far ha8 (p := ⟨g, 1, none⟩) (fun k hk => hk.2.2) _)) (fun b hb => ⟨⟨hb.1.1, by simpa [World.setCell] using hb.2.2.1⟩, hb.1.2⟩)
  · have tq : (e == 0) = false := by simpa using hq
    have HQ := Lib.hid hq
    clear hq
    go_enter Try.func7, Try.ntmps7
    go_wp2_with (at_builtin; refine Kd.R_append errK 0 rfl (.tmp 19) (.tmp 21) 37 23 _ 8 rfl Try.underlying37 info_err rfl (by decide) (by decide) va E e [.int .i64 e] (fun b => (S b ∨ w.heap.size ≤ b) ∧ b ≠ mc ∧ b ≠ g) (fun _ => False) (by rfl) (by rfl) rfl (fun _ h => h.elim) (fun b hb => ⟨.inr (Nat.le_trans HF02.out.size hb), by have := HGL.out; have := HF02.out.size; omega, by have := HGL.out; have := HF02.out.size; omega⟩) HA2.out (Below.refl _ _) (Nat.zero_le _) (by have := HEE.out; omega) ?_; intro v1 W3 hR3 hB3 hg3 hat3; obtain ⟨A3, c3, rfl⟩ := Kd.R_slice hR3; obtain ⟨nE, hnE⟩ : ∃ x, x = (E ++ [e]).length := ⟨_, rfl⟩; rw [← hnE] at hR3 ⊢; have hgB := HB2.out.fr (Fr.of_grown hg3) (Kd.R_ne HA2.out HB2.out (by decide)); have k2 := hgB.cell 2; have kf := hgB.frozen; have HR3 := Lib.hid hR3; have HG3 := Lib.hid hg3; have HGB := Lib.hid hgB; have HNE := Lib.hid hnE; clear hR3 hB3 hg3 hat3 hgB hnE; simp only [List.getElem?_toArray, List.getElem?_cons_zero, List.getElem?_cons_succ] at k2)
    go_end0
    have hb3 := HGB.out.set_ 2 (.slice A3 nE c3)
    have hf3 : Fr S w W3 := HF02.out.trans' (Fr.of_grown HG3.out) (fun i hi h => ((HA2.out.1 i h.symm).1).elim id (fun h => absurd hi (by omega)))
    have hmo : ¬ some mc = va.ownBlock := fun h => (HA2.out.1 mc h.symm).2.1 rfl
    have hm3 := HM2.out.fr (Fr.of_grown HG3.out) hmo
    have hr3 := Kd.R_over' HR2.out (Kd.R_typed HA2.out) (by decide) HG3.out
    have hs3 := hf3.size
    refine ⟨rfl, fun b => (S b ∨ w.heap.size ≤ b) ∧ b < W3.heap.size, ⟨mc, vr, .slice A3 nE c3, ⟨hb3, ⟨⟨.inl HSO.out.1, by have := HGL.out; omega⟩, ⟨.inl HSO.out.2, by have := HGL.out; omega⟩⟩, hm3.far (p := ⟨g, 2, none⟩) HGM.out.symm _, ?_, ?_, fun b hb => by simpa [World.setCell] using hb.2, fun x hx => (List.mem_append.1 hx).elim (HWF.out x) (fun h => by rw [List.mem_singleton.1 h]; exact HE.out)⟩⟩, fun b hb => hb.1, hf3.setCell (p := ⟨g, 2, none⟩) (.inl HSO.out.1) _⟩
    · exact Kd.R_mono (Kd.R_bound (Kd.R_far hr3 (p := ⟨g, 2, none⟩) (fun k hk => hk.2.2) _)) (fun b hb => ⟨⟨hb.1.1, by simpa [World.setCell] using hb.2.2.1⟩, hb.1.2⟩)
    · exact Kd.R_mono (Kd.R_bound (Kd.R_far HR3.out (p := ⟨g, 2, none⟩) (fun k hk => hk.2.2) _)) (fun b hb => ⟨⟨hb.1.1, by simpa [World.setCell] using hb.2.2.1⟩, hb.1.2⟩)
end Go.Proofs.Ytmfbcebbklimoaa
