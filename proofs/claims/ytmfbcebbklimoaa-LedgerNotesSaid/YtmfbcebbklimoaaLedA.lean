/- Ledger.Answers and Records: all that was told, in new memory. -/
import Derived.Test.YtmfbcebbklimoaaLedN
set_option linter.unusedVariables false
set_option linter.unusedSimpArgs false
namespace Go.Proofs.Ytmfbcebbklimoaa
open Go.RowKit
open Go.Proofs.YtmfbcebbklimoaaW.PrintWords

theorem errFlat : Flat errK (fun i => [.int .i64 i]) := ⟨fun _ => rfl, fun h => h, fun _ _ _ _ => rfl⟩
theorem errs_C {w : World} {S : Nat → Prop} {g mc : Nat} {vr va : Value} {E : List Int} {R : List Rec} (h : LedAt w S g mc vr va E R) : ∃ A c, va = .slice A E.length c ∧ errK.C w A E.length E := by
  obtain ⟨A, c, rfl⟩ := Kd.R_slice h.ans
  exact ⟨A, c, rfl, (Kd.R_reads' h.ans).2.2⟩
theorem make_errs (n : Nat) (hn : n ≤ 1000000) (W : World) : (Instr.makeSlice 37 (.int .i64 (n : Int)) (.int .i64 (n : Int))).run Try.prog W = .ok (.slice (some ⟨W.heap.size, 0, none⟩) n n) (W.alloc (.cells (madeCells #[.int .i64 0] n) 23)) := by
  obtain ⟨i0, hi, hz0, hz1, hz2⟩ := info_parts info_err
  have := run_make (P := Try.prog) (w := W) 37 23 i0 _ Try.underlying37 hi hz0 .i64 .i64 (n : Int) (n : Int) (by omega) (by omega) (by rw [hz2]; omega) (by omega)
  rw [hz1, show errK.sz = 1 from rfl] at this
  simpa [Value.cells] using this
set_option maxRecDepth 100000 in
set_option maxHeartbeats 4000000 in
theorem led_answers (g : Nat) (S : Nat → Prop) (E : List Int) (R : List Rec) (w : World) (h : LedRep w S g E R) (hE : E.length ≤ 1000000) :
    Calls Try.prog 8 #[.pointer (some ⟨g, 0, none⟩)] w fun q w' => ∃ b, q = .returned (.slice (some ⟨b, 0, none⟩) E.length E.length) ∧ w.heap.size ≤ b ∧ Blk w' b 23 (E.flatMap (fun i => [.int .i64 i])).toArray ∧ Fr (fun _ => False) w w' := by
  obtain ⟨mc, vr, va, h⟩ := h
  obtain ⟨A, c, rfl, hC⟩ := errs_C h
  have hB := h.blk
  clear h
  obtain ⟨n, hn⟩ : ∃ n, n = E.length := ⟨_, rfl⟩
  rw [← hn] at hB hC hE ⊢
  have hmk := fun W => make_errs n hE W
  have c2 := hB.cell 2
  simp only [List.getElem?_toArray, List.getElem?_cons_zero, List.getElem?_cons_succ] at c2
  have hN := Blk.new w 23 (madeCells #[.int .i64 0] n)
  have hF := (Fr.refl (fun _ => False) w).alloc (.cells (madeCells #[.int .i64 0] n) 23)
  have d2 := (hB.alloc (.cells (madeCells #[.int .i64 0] n) 23)).cell 2
  simp only [List.getElem?_toArray, List.getElem?_cons_zero, List.getElem?_cons_succ] at d2
  obtain ⟨w2, hr, hB2, hF2⟩ := errFlat.copy_all (P := Try.prog) hN (n := n) (by show (madeCells _ _).size = n * 1; simp [madeCells]) (c := c) (Kd.C_below hC (hF.below (fun _ _ h => h))) 37 37 3 Try.underlying37 (by kernel_rfl)

  have HB2 := Lib.hid hB2
  have HF2 := Lib.hid (hF.trans' hF2 (fun i hi e => by omega))
  have HN := Lib.hid hn
  clear hB hC hN hF hB2 hF2 hn
  go_enter Try.func8, Try.ntmps8
  go_wp2_with fail
  go_ret
  exact ⟨_, rfl, Nat.le_refl _, HB2.out, HF2.out⟩
set_option maxRecDepth 100000 in
set_option maxHeartbeats 8000000 in
theorem led_records (g : Nat) (S : Nat → Prop) (E : List Int) (R : List Rec) (w : World) (h : LedRep w S g E R) (hR : R.length ≤ 1000000) (hL : ∀ r ∈ R, r.2.2.1.length ≤ 1000000 ∧ r.2.2.2.length ≤ 1000000) :
    Calls Try.prog 9 #[.pointer (some ⟨g, 0, none⟩)] w fun q w' => ∃ v, q = .returned v ∧ recK.R 33 w' w.heap.size (fun b => w.heap.size ≤ b) v R ∧ Fr (fun _ => False) w w' := by
  obtain ⟨mc, vr, va, h⟩ := h
  obtain ⟨A, c, rfl⟩ := Kd.R_slice h.recs
  have hC := (Kd.R_reads' h.recs).2.2
  have c1 := h.blk.cell 1
  simp only [List.getElem?_toArray, List.getElem?_cons_zero, List.getElem?_cons_succ] at c1
  obtain ⟨n, hn⟩ : ∃ n, n = R.length := ⟨_, rfl⟩
  rw [← hn] at hC c1 hR
  have HC := Lib.hid hC
  have HN := Lib.hid hn
  have HL := Lib.hid hL
  clear h hC hn hL
  go_enter Try.func9, Try.ntmps9
  go_wp2_with fail
  go_loopw [3, 13] (fun v i wr => ∃ (k : Nat), k ≤ n ∧ i = .int .i64 k ∧ recK.R 33 wr w.heap.size (fun b => w.heap.size ≤ b) v (R.take k) ∧ Fr (fun _ => False) w wr) (fun _ i _ => n - (intOf i).toNat)
  case atStart => exact ⟨0, by omega, rfl, Kd.R_nil _ _ _ _ _, Fr.refl _ _⟩
  case round =>
    obtain ⟨k, hk, rfl, hV, hG⟩ := hrel
    have HV := Lib.hid hV
    have HG := Lib.hid hG
    clear hV
    rcases Nat.lt_or_ge k n with hlt | hge
    · obtain ⟨b2, off2, Ad, Ab, cd, cb2, rfl, hRA, z0, z1, z2, z3, z4⟩ := recs_at (Kd.C_below HC.out (hG.below (fun _ _ h => h))) hlt
      have HRA := Lib.hid hRA
      have HKM := Lib.hid (rcx_mem (L := R) (i := k) (by rw [← HN.out]; exact hlt))
      have HTK := Lib.hid (show R.take (k + 1) = R.take k ++ [rcx R k] from by rw [List.take_succ_eq_append_getElem (by rw [← HN.out]; exact hlt), ← rcx_eq])
      obtain ⟨r, hr⟩ : ∃ r, r = rcx R k := ⟨_, rfl⟩
      rw [← hr] at HRA HKM HTK z0 z1 z2 z3 z4
      have hFa := (Fr.refl (fun _ => False) wr).alloc (.cells #[.int .i64 r.1.1, .int .i64 r.1.2, .int .i64 r.2.1, .slice Ad r.2.2.1.length cd, .slice Ab r.2.2.2.length cb2] 33)
      have HFa := Lib.hid hFa
      clear hG hRA hr hFa
      go_wp2_with fail
      refine (rec_copy r Ad Ab cd cb2 _ (HRA.out.fr HFa.out) (HL.out _ HKM.out).1 (HL.out _ HKM.out).2).mono ?_
      rintro q w2 ⟨gd, gb, rfl, hgd, hgb, hne, hBd, hBb, hF2⟩
      have hF12 := HFa.out.trans hF2
      have hs1 := HFa.out.size
      have hM : recK.M w2 w.heap.size (fun k => k = gd ∨ k = gb) r (recCells r (some ⟨gd, 0, none⟩) (some ⟨gb, 0, none⟩) r.2.2.1.length r.2.2.2.length) :=
        recK_M (idFlat.blk_R hBd (Nat.le_trans HG.out.size (Nat.le_trans hs1 hgd)) (.inl rfl) (Nat.le_trans (HL.out _ HKM.out).1 (by omega))) (cmdFlat.blk_R hBb (Nat.le_trans HG.out.size (Nat.le_trans hs1 hgb)) (.inr rfl) (Nat.le_trans (HL.out _ HKM.out).2 (by omega)))
      have HMM := Lib.hid hM
      have HV2 := Lib.hid (Kd.R_below HV.out (hF12.below (fun _ _ h => h)))
      have HLT := Lib.hid (Kd.R_lt HV.out)
      have HG2 := Lib.hid (HG.out.trans hF12)
      have HGD := Lib.hid (And.intro (Nat.le_trans hs1 hgd) (Nat.le_trans hs1 hgb))
      have HGS := Lib.hid HG.out.size
      clear hM hF2 hF12 hs1 hgd hgb hne hBd hBb z0 z1 z2 z3 z4 HFa HRA
      go_wp2_with (at_builtin; refine Kd.R_append recK w.heap.size rfl (.tmp 17) (.tmp 20) 27 33 _ 72 rfl Try.underlying27 info_recL rfl (by decide) (by decide) u3 (R.take k) r (recCells r (some ⟨gd, 0, none⟩) (some ⟨gb, 0, none⟩) r.2.2.1.length r.2.2.2.length) (fun b => w.heap.size ≤ b) (fun k => k = gd ∨ k = gb) (by rfl) (by rfl) HMM.out (fun j hj => by have h1 := HGD.out; have h2 := HGS.out; exact ⟨by omega, fun e => by have := HLT.out j e.symm; omega⟩) (fun b hb => Nat.le_trans HG2.out.size hb) HV2.out (Below.refl _ _) HG2.out.size (by rw [List.length_take]; omega) ?_; intro v1 w3 hR1 hB1 hg1 hat1; have HR1 := Lib.hid hR1; have HG1 := Lib.hid hg1; clear hR1 hB1 hg1 hat1)
      go_roundw
      case rel =>
        refine ⟨k + 1, by omega, by go_num, ?_, HG2.out.trans' (Fr.of_grown HG1.out) (fun i hi h => by have := Kd.R_base HV2.out i h.symm; omega)⟩
        rw [HTK.out]
        exact HR1.out
      case measure => simp [intOf]; omega
    · obtain rfl : n = k := by omega
      have tnn : decide (n < n) = false := decide_eq_false (by omega)
      clear hG
      have HV9 := Lib.hid (show recK.R 33 wr w.heap.size (fun b => w.heap.size ≤ b) u3 R from by have h := HV.out; rw [HN.out, List.take_length] at h; exact h)
      go_wp2_with fail
      go_ret
      exact ⟨_, rfl, HV9.out, HG.out⟩
end Go.Proofs.Ytmfbcebbklimoaa
