/- shuffle.Apply: records put in an order, in new memory. -/
import Derived.Test.YtjaajfpnpijacaaRecC
import Derived.Test.YtjaajfpnpijacaaShufQ
set_option linter.unusedVariables false
set_option linter.unusedSimpArgs false
namespace Go.Proofs.Ytjaajfpnpijacaa
open Go.RowKit
open Go.Proofs.YtjaajfpnpijacaaW.PrintWords

theorem info_rec : (Try.prog.info? 43).map (fun i => (i.zero, i.size, i.bytes)) = some (some (.agg #[.int .i64 0, .int .i64 0, .int .i64 0, .slice none 0 0, .slice none 0 0]), recK.sz, 72) := by kernel_rfl
/-- The records in that order. -/
def putR (L : List Rec) (p : List Int) : List Rec := p.map fun i => rcx L i.toNat
theorem putR_len (L : List Rec) (p : List Int) : (putR L p).length = p.length := by simp [putR]
theorem putR_at (L : List Rec) (p : List Int) {i : Nat} (h : i < p.length) : rcx (putR L p) i = rcx L (ix p i).toNat := by
  rw [rcx_eq (by rw [putR_len]; exact h)]
  simp only [putR, List.getElem_map, ix_eq h]
theorem putR_take (L : List Rec) (p : List Int) {k : Nat} (h : k < p.length) : putR L (p.take (k + 1)) = putR L (p.take k) ++ [rcx L (ix p k).toNat] := by
  rw [List.take_succ_eq_append_getElem h]
  simp only [putR, List.map_append, List.map_cons, List.map_nil, ix_eq h]
def ApplyTells (w : World) (L : List Rec) (p : List Int) (e : Ending) (w' : World) : Prop :=
  (RightR p ∧ p.length = L.length ∧ ∃ A c, e = .returned (.tuple #[.slice A p.length c, .int .i64 0]) ∧ recK.C w' A p.length (putR L p) ∧ Fr (fun _ => False) w w') ∨
  (¬ (RightR p ∧ p.length = L.length) ∧ e = .returned (.tuple #[.slice none 0 0, .int .i64 3]) ∧ Fr (fun _ => False) w w')
theorem recs_mem {L : List Rec} {i : Nat} (h : i < L.length) : rcx L i ∈ L := by rw [rcx_eq h]; exact List.getElem_mem h
set_option maxRecDepth 100000 in
set_option maxHeartbeats 4000000 in
theorem shuf_apply (A B : Option Addr) (m n ca cb : Nat) (L : List Rec) (p : List Int) (w : World) (h : recK.C w A m L) (hp : intK.C w B n p) (hn : n ≤ 1000)
    (hL : ∀ r ∈ L, r.2.2.1.length ≤ 1000000 ∧ r.2.2.2.length ≤ 1000000) :
    Calls Try.prog 14 #[.slice A m ca, .slice B n cb] w (ApplyTells w L p) := by
  have HM := Lib.hid (show L.length = m from h.1)
  have HN := Lib.hid (show p.length = n from hp.1)
  have HC := Lib.hid h
  have HP := Lib.hid hp
  have HL := Lib.hid hL
  clear h hp hL
  go_enter Try.func14, Try.ntmps14
  go_wp2_with fail
  refine (shuf_right B n cb p w HP.out (by omega)).mono ?_
  rintro r w1 ⟨rfl, hF⟩
  have HF := Lib.hid hF
  clear hF
  by_cases hr : RightR p
  · rw [decide_eq_true hr]
    have HR := Lib.hid hr
    clear hr
    by_cases hnm : n = m
    · subst hnm
      have t1 : decide ((n : Int) = (n : Int)) = true := decide_eq_true rfl
      go_wp2_with fail
      go_loopw [6, 21] (fun v i wr => ∃ (k : Nat), k ≤ n ∧ i = .int .i64 k ∧ recK.R 43 wr w.heap.size (fun _ => True) v (putR L (p.take k)) ∧ Fr (fun _ => False) w wr) (fun _ i _ => n - (intOf i).toNat)
      case atStart => exact ⟨0, by omega, rfl, Kd.R_nil _ _ _ _ _, HF.out⟩
      case round =>
        clear HF
        obtain ⟨k, hk, rfl, hR, hG⟩ := hrel
        have HV := Lib.hid hR
        have HG := Lib.hid hG
        clear hR
        rcases Nat.lt_or_ge k n with hlt | hge
        · have hin := (HR.out.2 (ix p k) (ix_mem (by rw [HN.out]; exact hlt)))
          rw [HN.out] at hin
          obtain ⟨x, hx⟩ : ∃ x : Nat, ix p k = x := ⟨(ix p k).toNat, by omega⟩
          have hxn : x < n := by omega
          obtain ⟨b, off, rfl, x0⟩ := ints_at (Kd.C_below HP.out (hG.below (fun _ _ h => h))) hlt
          rw [hx] at x0
          obtain ⟨b2, off2, Ad, Ab, cd, cb2, rfl, hRA, z0, z1, z2, z3, z4⟩ := recs_at (Kd.C_below HC.out (hG.below (fun _ _ h => h))) hxn
          have HX := Lib.hid hx
          have HRA := Lib.hid hRA
          clear hG hx hin hRA
          go_wp2_with fail
          refine (rec_copy (rcx L x) Ad Ab cd cb2 wr HRA.out (HL.out _ (recs_mem (by rw [HM.out]; exact hxn))).1 (HL.out _ (recs_mem (by rw [HM.out]; exact hxn))).2).mono ?_
          rintro r w2 ⟨gd, gb, rfl, hgd, hgb, hne, hBd, hBb, hF2⟩
          have hM : recK.M w2 w.heap.size (fun k => k = gd ∨ k = gb) (rcx L x) (recCells (rcx L x) (some ⟨gd, 0, none⟩) (some ⟨gb, 0, none⟩) (rcx L x).2.2.1.length (rcx L x).2.2.2.length) :=
            recK_M (idFlat.blk_R hBd (Nat.le_trans HG.out.size hgd) (.inl rfl) (Nat.le_trans (HL.out _ (recs_mem (by rw [HM.out]; exact hxn))).1 (by omega))) (cmdFlat.blk_R hBb (Nat.le_trans HG.out.size hgb) (.inr rfl) (Nat.le_trans (HL.out _ (recs_mem (by rw [HM.out]; exact hxn))).2 (by omega)))
          have hV2 := Kd.R_below HV.out (hF2.below (fun _ _ h => h))
          have hlt2 := Kd.R_lt HV.out
          have HMM := Lib.hid hM
          have HV2 := Lib.hid hV2
          have HLT := Lib.hid hlt2
          have HG2 := Lib.hid (HG.out.trans hF2)
          have HGD := Lib.hid hgd
          have HGB := Lib.hid hgb
          clear hM hV2 hlt2 hF2 hgd hgb hne hBd hBb z0 z1 z2 z3 z4 x0 HRA
          go_wp2_with (at_builtin; refine Kd.R_append recK w.heap.size rfl (.tmp 25) (.tmp 31) 37 43 _ 72 rfl Try.underlying37 info_rec rfl (by decide) (by decide) u6 (putR L (p.take k)) (rcx L x) (recCells (rcx L x) (some ⟨gd, 0, none⟩) (some ⟨gb, 0, none⟩) (rcx L x).2.2.1.length (rcx L x).2.2.2.length) (fun _ => True) (fun k => k = gd ∨ k = gb) (by rfl) (by rfl) HMM.out (fun j hj => ⟨trivial, fun e => by have := HLT.out j e.symm; have := HGD.out; have := HGB.out; omega⟩) (fun _ _ => trivial) HV2.out (Below.refl _ _) HG2.out.size (by rw [putR_len, List.length_take]; omega) ?_; intro v1 w3 hR1 hB1 hg1 hat1; have HR1 := Lib.hid hR1; have HG1 := Lib.hid hg1; clear hR1 hB1 hg1 hat1)
          go_roundw
          case rel =>
            refine ⟨k + 1, by omega, by go_num, ?_, HG2.out.trans' (Fr.of_grown ⟨HG1.out.os, HG1.out.tape, HG1.out.output, HG1.out.size, HG1.out.block⟩) (fun i hi h => by have := Kd.R_base HV2.out i h.symm; omega)⟩
            rw [putR_take L p (by rw [HN.out]; exact hlt), HX.out]
            exact HR1.out
          case measure => simp [intOf]; omega
        · obtain rfl : n = k := by omega
          have tnn : decide (n < n) = false := decide_eq_false (by omega)
          clear hG
          obtain ⟨A1, c1, rfl, hc1, hC1⟩ := Kd.R_reads HV.out
          rw [show putR L (p.take n) = putR L p by rw [← HN.out, List.take_length], putR_len, HN.out] at hC1 ⊢
          have HC1 := Lib.hid hC1
          clear hC1
          go_wp2_with fail
          go_ret2
          refine .inl ⟨HR.out, by rw [HN.out, HM.out], A1, c1, ?_, ?_, HG.out⟩
          · rw [HN.out]; rfl
          · rw [HN.out]; exact HC1.out
    · have t1 : ((n : Int) != (m : Int)) = true := bne_iff_ne.2 (by omega)
      have hno : ¬ (RightR p ∧ p.length = L.length) := by rw [HN.out, HM.out]; exact fun h => hnm h.2
      clear hnm
      go_wp2_with fail
      go_ret2
      exact .inr ⟨hno, rfl, HF.out⟩
  · rw [decide_eq_false hr]
    have hno : ¬ (RightR p ∧ p.length = L.length) := fun h => hr h.1
    clear hr
    go_wp2_with fail
    go_ret2
    exact .inr ⟨hno, rfl, HF.out⟩
end Go.Proofs.Ytjaajfpnpijacaa
