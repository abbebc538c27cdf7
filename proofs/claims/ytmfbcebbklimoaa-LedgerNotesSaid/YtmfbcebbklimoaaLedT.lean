/- Ledger.Twin: a ledger with the same, in new memory. -/
import Derived.Test.YtmfbcebbklimoaaLedW
set_option linter.unusedVariables false
set_option linter.unusedSimpArgs false
namespace Go.Proofs.Ytmfbcebbklimoaa
open Go.RowKit
open Go.Proofs.YtmfbcebbklimoaaW.PrintWords

set_option maxRecDepth 100000 in
set_option maxHeartbeats 8000000 in
theorem led_twin (g : Nat) (S : Nat → Prop) (E : List Int) (R : List Rec) (w : World) (h : LedRep w S g E R) (hE : E.length ≤ 1000000) (hR : R.length ≤ 1000000) (hL : ∀ r ∈ R, r.2.2.1.length ≤ 1000000 ∧ r.2.2.2.length ≤ 1000000) :
    Calls Try.prog 6 #[.pointer (some ⟨g, 0, none⟩)] w fun q w' => ∃ g' S', q = .returned (.pointer (some ⟨g', 0, none⟩)) ∧ LedRep w' S' g' E R ∧ (∀ b, S' b → w.heap.size ≤ b) ∧ Fr (fun _ => False) w w' := by
  have HREP := Lib.hid h
  obtain ⟨mc, vr, va, h⟩ := h
  have HV := Lib.hid h
  have HLL := Lib.hid hL
  clear h hL
  go_enter Try.func6, Try.ntmps6
  go_wp2_with fail
  refine (led_new' w).mono ?_
  rintro r w1 ⟨g', mc', S0, rfl, hV0, hS0, hge1, hge2, hF1⟩
  have hV1 := HV.out.fr hF1 (fun _ _ h => h)
  obtain ⟨W3, cnt0, hrange, hit0, hFr3, hsz3⟩ := hV1.map.range (t := 45) Try.underlying45
  have c0 := hV1.blk.cell 0
  simp only [List.getElem?_toArray, List.getElem?_cons_zero] at c0
  obtain ⟨q, hq⟩ : ∃ q, q = w1.heap.size := ⟨_, rfl⟩
  rw [← hq] at hrange hit0 hsz3
  have HIT := Lib.hid hit0
  have HV3 := Lib.hid (hV0.fr hFr3 (fun _ _ h => h))
  have HF3 := Lib.hid (hF1.trans hFr3)
  have HGE := Lib.hid (And.intro hge1 hge2)
  have HLT0 := Lib.hid (And.intro hV0.map.lt hV0.blk.lt)
  have HNE := Lib.hid (hV0.map.ne_blk hV0.blk)
  have HQ := Lib.hid hq
  have HSZ1 := Lib.hid hF1.size
  clear hV0 hS0 hge1 hge2 hF1 hV1 hit0 hFr3 hsz3 hq
  go_wp2_with fail
  go_loopw [4] (fun _ wr => ∃ (left : Int → Prop) (cnt : Nat) (F1 : Int → Option Nat), MapIt errE cntV wr mc q (fE E) left cnt ∧ MapIn errE cntV wr mc' F1 ∧ (∀ s, left s → F1 s = none) ∧ (∀ s, ¬ left s → F1 s = fE E s) ∧ Blk wr g' 47 #[.map (some mc'), .slice none 0 0, .slice none 0 0] ∧ Fr (fun _ => False) w wr ∧ w1.heap.size ≤ wr.heap.size) (fun _ wr => wr.rangeLeft mc q)
  case atStart => exact ⟨_, _, _, HIT.out, HV3.out.map, fun _ _ => rfl, fun s hn => by rw [Option.not_isSome_iff_eq_none.1 hn]; rfl, HV3.out.blk, HF3.out, by have := HIT.out.lt; have := HQ.out; omega⟩
  case round =>
    clear HIT HV3 HF3
    obtain ⟨left, cnt, F1, hit, hM, hf1, hf2, hB, hG, hsz⟩ := hrel
    have HM := Lib.hid hM
    have HF1 := Lib.hid hf1
    have HF2 := Lib.hid hf2
    have HB := Lib.hid hB
    have HG := Lib.hid hG
    have HSZ := Lib.hid hsz
    clear hM hf1 hf2 hB hG hsz
    rcases hit.next 0 with ⟨hno, hnext⟩ | ⟨a, n, w2, cnt1, hok, hla, hfa, hnext, hit1, hlt1, hFn, hszn, hen⟩
    · have hFF : F1 = fE E := funext fun s => HF2.out s (hno s)
      have HMF := Lib.hid (show MapIn errE cntV wr mc' (fE E) from by rw [← hFF]; exact HM.out)
      clear hit hno hFF HM HF1 HF2
      go_wp2_with fail
      refine (led_records g S E R wr (HREP.out.fr HG.out (fun _ _ h => h)) hR HLL.out).mono ?_
      rintro r w4 ⟨v4, rfl, hR4, hF4⟩
      obtain ⟨A4, c4, rfl⟩ := Kd.R_slice hR4
      obtain ⟨nR, hnR⟩ : ∃ x, x = R.length := ⟨_, rfl⟩
      rw [← hnR] at hR4 ⊢
      have HR4 := Lib.hid hR4
      have HF4 := Lib.hid hF4
      clear hR4 hF4 hnR
      go_wp2_with fail
      refine (led_answers g S E R w4 (HREP.out.fr (HG.out.trans HF4.out) (fun _ _ h => h)) hE).mono ?_
      rintro r w5 ⟨b5, rfl, hb5, hB5, hF5⟩
      have hBg := (HB.out.fr HF4.out (fun h => h)).fr hF5 (fun h => h)
      have k1 := hBg.cell 1
      have k2 := hBg.cell 2
      have kf := hBg.frozen
      simp only [List.getElem?_toArray, List.getElem?_cons_zero, List.getElem?_cons_succ] at k1 k2
      obtain ⟨nE, hnE⟩ : ∃ x, x = E.length := ⟨_, rfl⟩
      rw [← hnE]
      have HNE2 := Lib.hid hnE
      have HBg := Lib.hid hBg
      have HB5 := Lib.hid hB5
      have HGB := Lib.hid hb5
      have HF5 := Lib.hid hF5
      clear hBg hB5 hb5 hF5 hnE
      go_wp2_with fail
      go_ret
      have hwf := HV.out.wf
      have hgl := HGE.out
      have hlt := HLT0.out
      have hw5 := HF5.out.size
      have hw4 := HF4.out.size
      have hsz := HSZ.out
      have hsz1 := HSZ1.out
      have hgb := HGB.out
      have hm5 := (HMF.out.fr HF4.out (fun h => h)).fr HF5.out (fun h => h)
      have hr5 := Kd.R_mono (Kd.R_bound (Kd.R_below HR4.out (HF5.out.below (fun _ _ h => h)))) (ok' := fun b => (w.heap.size ≤ b ∧ b < w5.heap.size) ∧ b ≠ mc' ∧ b ≠ g') (fun b hb => by
        have h1 := hb.2.1
        exact ⟨⟨by omega, hb.2.2.1⟩, by omega, by omega⟩)
      have ha5 : errK.R 23 w5 0 (fun b => (w.heap.size ≤ b ∧ b < w5.heap.size) ∧ b ≠ mc' ∧ b ≠ g') (.slice (some ⟨b5, 0, none⟩) nE nE) E := by
        rw [HNE2.out]
        exact errFlat.blk_R HB5.out (Nat.zero_le _) ⟨⟨by omega, HB5.out.lt⟩, by omega, by omega⟩ (by omega)
      have hr6 := Kd.R_far (Kd.R_far hr5 (p := ⟨g', 1, none⟩) (fun k hk => hk.2.2) (.slice A4 nR c4)) (p := ⟨g', 2, none⟩) (fun k hk => hk.2.2) (.slice (some ⟨b5, 0, none⟩) nE nE)
      have ha6 := Kd.R_far (Kd.R_far ha5 (p := ⟨g', 1, none⟩) (fun k hk => hk.2.2) (.slice A4 nR c4)) (p := ⟨g', 2, none⟩) (fun k hk => hk.2.2) (.slice (some ⟨b5, 0, none⟩) nE nE)
      refine ⟨g', fun b => w.heap.size ≤ b ∧ b < w5.heap.size, rfl, ⟨mc', .slice A4 nR c4, .slice (some ⟨b5, 0, none⟩) nE nE, ⟨(HBg.out.set_ 1 _).set_ 2 _, ⟨⟨hgl.2, by omega⟩, ⟨hgl.1, by omega⟩⟩, (hm5.far (p := ⟨g', 1, none⟩) HNE.out.symm _).far (p := ⟨g', 2, none⟩) HNE.out.symm _, Kd.R_lower hr6 (Nat.zero_le _), ha6, fun b hb => by simpa [World.setCell] using hb.2, hwf⟩⟩, fun b hb => hb.1, (((HG.out.trans HF4.out).trans HF5.out).setCell (p := ⟨g', 1, none⟩) (.inr hgl.2) _).setCell (p := ⟨g', 2, none⟩) (.inr hgl.2) _⟩
    · have hgl := HGE.out
      have hnem : q ≠ mc := hit.ne
      have hqm : mc' ≠ q := by have := HLT0.out; have := HQ.out; omega
      have hqg : g' ≠ q := by have := HLT0.out; have := HQ.out; omega
      have hB2 := HB.out.fr hFn hqg
      have hM2 := HM.out.fr hFn hqm
      obtain ⟨W6, hrun, hM6, hF6, hs6⟩ := hM2.update (t := 45) (et := 2) Try.underlying45 (a := a) hok n
      have hrun' : (Instr.mapUpdate 45 (.map (some mc')) (.int .i64 a) (.int .i64 (n : Int))).run Try.prog w2 = .ok () W6 := hrun
      have g0 := hB2.cell 0
      simp only [List.getElem?_toArray, List.getElem?_cons_zero] at g0
      have hmm : mc ≠ mc' := by have h1 := HV.out.map.lt; omega
      have hit6 := hit1.fr hF6 (fun e => hmm e) (fun e => hqm e.symm)
      have HIT6 := Lib.hid hit6
      have HM6 := Lib.hid hM6
      have HB6 := Lib.hid (hB2.fr hF6 (fun e => HNE.out e))
      have HFA := Lib.hid hfa
      have HLA := Lib.hid hla
      have HG6 := Lib.hid ((HG.out.trans' hFn (fun i hi e => by have h1 := HQ.out; have h2 := HSZ1.out; omega)).trans' hF6 (fun i hi e => by omega))
      have HS6 := Lib.hid (show w1.heap.size ≤ W6.heap.size from Nat.le_trans HSZ.out (Nat.le_trans hFn.size hF6.size))
      have HMS := Lib.hid (show W6.rangeLeft mc q < wr.rangeLeft mc q from by rw [hit.left_eq, hit6.left_eq]; exact hlt1)
      replace hnext : (Instr.next (.pointer (some ⟨q, 0, none⟩)) false 0).run Try.prog wr = .ok (.tuple #[.bool true, .int .i64 a, .int .i64 (n : Int)]) w2 := hnext
      replace hen : (Instr.entry (.pointer (some ⟨q, 0, none⟩))).run Try.prog w2 = .ok (.tuple #[.int .i64 a, .int .i64 (n : Int)]) w2 := hen
      clear hit hit1 hok hla hfa hlt1 hFn hszn hnem hqm hqg hB2 hM2 hrun hM6 hF6 hs6 hmm hit6 hgl
      go_wp2_with fail
      go_roundw
      case rel =>
        refine ⟨_, cnt1, _, HIT6.out, HM6.out, fun s hs => ?_, fun s hs => ?_, HB6.out, HG6.out, HS6.out⟩
        · show (if s = a then some n else F1 s) = none
          rw [if_neg hs.2]
          exact HF1.out s hs.1
        · show (if s = a then some n else F1 s) = fE E s
          by_cases h : s = a
          · rw [if_pos h, h, HFA.out]
          · rw [if_neg h]
            exact HF2.out s (fun h' => hs ⟨h', h⟩)
      case measure => exact HMS.out
end Go.Proofs.Ytmfbcebbklimoaa
