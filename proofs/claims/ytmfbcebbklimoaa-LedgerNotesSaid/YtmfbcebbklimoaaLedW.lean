/- Ledger.Worst: the error that was told most often, the least of them. -/
import Derived.Test.YtmfbcebbklimoaaLedP
set_option linter.unusedVariables false
set_option linter.unusedSimpArgs false
namespace Go.Proofs.Ytmfbcebbklimoaa
open Go.RowKit
open Go.Proofs.YtmfbcebbklimoaaW.PrintWords

theorem fE_some {E : List Int} {a : Int} {b : Nat} (h : fE E a = some b) : b = E.count a ∧ 0 < E.count a := by
  unfold fE at h
  split at h
  · cases h
  · cases h
    exact ⟨rfl, by omega⟩
theorem fE_mem {E : List Int} {a : Int} : (fE E a).isSome = true ↔ a ∈ E := by
  unfold fE
  rw [← List.count_pos_iff]
  split
  · rename_i h; simp [h]
  · rename_i h; exact ⟨fun _ => by omega, fun _ => rfl⟩
set_option maxRecDepth 100000 in
set_option maxHeartbeats 8000000 in
theorem led_worst (g : Nat) (S : Nat → Prop) (E : List Int) (R : List Rec) (w : World) (h : LedRep w S g E R) (hE : E.length ≤ 1000000) :
    Calls Try.prog 10 #[.pointer (some ⟨g, 0, none⟩)] w fun q w' => ∃ (x : Int) (m : Nat), q = .returned (.tuple #[.int .i64 x, .int .i64 m]) ∧ IsWorst (fun e => e ∈ E) (fun e => E.count e) x m ∧ Fr (fun _ => False) w w' := by
  obtain ⟨mc, vr, va, h⟩ := h
  have HV := Lib.hid h
  obtain ⟨W3, cnt0, hrange, hit0, hFr3, hsz3⟩ := h.map.range (t := 45) Try.underlying45
  have c0 := h.blk.cell 0
  simp only [List.getElem?_toArray, List.getElem?_cons_zero] at c0
  obtain ⟨q, hq⟩ : ∃ q, q = w.heap.size := ⟨_, rfl⟩
  rw [← hq] at hrange hit0 hsz3
  have HIT := Lib.hid hit0
  have HF3 := Lib.hid hFr3
  have HQ := Lib.hid hq
  clear h hit0 hFr3 hsz3 hq
  go_enter Try.func10, Try.ntmps10
  go_wp2_with fail
  go_loopw [4, 5] (fun u v wr => ∃ (left : Int → Prop) (cnt : Nat) (x : Int) (m : Nat), u = .int .i64 x ∧ v = .int .i64 m ∧ m ≤ 1000000 ∧ MapIt errE cntV wr mc q (fE E) left cnt ∧ IsWorst (fun e => e ∈ E ∧ ¬ left e) (fun e => E.count e) x m ∧ Fr (fun _ => False) w wr) (fun _ _ wr => wr.rangeLeft mc q)
  case atStart => exact ⟨_, _, 0, 0, rfl, rfl, by omega, HIT.out, (IsWorst.start _).congr (fun e => ⟨fun h => h.elim, fun h => h.2 (fE_mem.2 h.1)⟩), HF3.out⟩
  case round =>
    clear HIT HF3
    obtain ⟨left, cnt, x, m, rfl, rfl, hm, hit, hw, hG⟩ := hrel
    have HIT := Lib.hid hit
    have HW := Lib.hid hw
    have HG := Lib.hid hG
    clear hw hG
    rcases hit.next 0 with ⟨hno, hnext⟩ | ⟨a, n, w2, cnt1, hok, hla, hfa, hnext, hit1, hlt1, hFn, hszn, hen⟩
    · have HNO := Lib.hid hno
      clear hit hno
      go_wp2_with fail
      go_ret2
      exact ⟨x, m, rfl, HW.out.congr (fun e => ⟨fun h => h.1, fun h => ⟨h, HNO.out e⟩⟩), HG.out⟩
    · obtain ⟨hb, hbp⟩ := fE_some hfa
      have hnb : n ≤ 1000000 := by rw [hb]; exact Nat.le_trans List.count_le_length hE
      have HIT1 := Lib.hid hit1
      have HB := Lib.hid hb
      have HBP := Lib.hid hbp
      have HMA := Lib.hid (show a ∈ E from fE_mem.1 (by rw [hfa]; rfl))
      have HLA := Lib.hid hla
      have HG2 := Lib.hid (show Fr (fun _ => False) w w2 from HG.out.trans' hFn (fun i hi e => by have h1 := hit.lt; have h2 := hit.isin; exact absurd hi (by have := HQ.out; omega)))
      have HMS := Lib.hid (show w2.rangeLeft mc q < wr.rangeLeft mc q from by rw [hit.left_eq, hit1.left_eq]; exact hlt1)
      have HPE := Lib.hid (show ∀ e, ((e ∈ E ∧ ¬ left e) ∨ e = a) ↔ (e ∈ E ∧ ¬ (left e ∧ e ≠ a)) from fun e => by
        constructor
        · rintro (⟨h1, h2⟩ | rfl)
          · exact ⟨h1, fun h => h2 h.1⟩
          · exact ⟨HMA.out, fun h => h.2 rfl⟩
        · rintro ⟨h1, h2⟩
          by_cases he : e = a
          · exact .inr he
          · exact .inl ⟨h1, fun h => h2 ⟨h, he⟩⟩)
      replace hnext : (Instr.next (.pointer (some ⟨q, 0, none⟩)) false 0).run Try.prog wr = .ok (.tuple #[.bool true, .int .i64 a, .int .i64 (n : Int)]) w2 := hnext
      replace hen : (Instr.entry (.pointer (some ⟨q, 0, none⟩))).run Try.prog w2 = .ok (.tuple #[.int .i64 a, .int .i64 (n : Int)]) w2 := hen
      clear hit hit1 hok hla hfa hlt1 hFn hszn hb hbp
      by_cases ha : a = 0
      · skip
        have HWS := Lib.hid (show ¬ worse x m a n from fun h => h.1 ha)
        have q0 : (a != 0) = false := by simpa using ha
        have q0b : (a == 0) = true := by simpa using ha
        clear ha
        go_wp2_with fail
        go_roundw
        case rel =>
          refine ⟨_, cnt1, x, m, rfl, rfl, hm, HIT1.out, ?_, HG2.out⟩
          exact (HW.out.skip (a := a) HBP.out (by rw [← HB.out]; exact HWS.out)).congr HPE.out
        case measure => exact HMS.out
      · by_cases h1 : m < n
        · skip
          have HWS := Lib.hid (show worse x m a n from ⟨ha, .inl h1⟩)
          have q0 : (a != 0) = true := by simpa using ha
          have q0b : (a == 0) = false := by simpa using ha
          have q1 : decide (m < n) = true := decide_eq_true h1
          have q1b : decide ((m : Int) < (n : Int)) = true := decide_eq_true (by omega)
          clear ha h1
          go_wp2_with fail
          go_roundw
          case rel =>
            refine ⟨_, cnt1, a, n, rfl, rfl, hnb, HIT1.out, ?_, HG2.out⟩
            have := HW.out.take (a := a) HBP.out (by rw [← HB.out]; exact HWS.out)
            rw [← HB.out] at this
            exact this.congr HPE.out
          case measure => exact HMS.out
        · by_cases h2 : n = m
          · by_cases h3 : a < x
            · skip
              have HWS := Lib.hid (show worse x m a n from ⟨ha, .inr ⟨h2, h3⟩⟩)
              have q0 : (a != 0) = true := by simpa using ha
              have q0b : (a == 0) = false := by simpa using ha
              have q1 : decide (m < n) = false := decide_eq_false h1
              have q1b : decide ((m : Int) < (n : Int)) = false := decide_eq_false (by omega)
              have q2 : (n == m) = true := by simpa using h2
              have q2b : ((n : Int) == (m : Int)) = true := by simp; omega
              have q3 : decide (a < x) = true := decide_eq_true h3
              clear ha h1 h2 h3
              go_wp2_with fail
              go_roundw
              case rel =>
                refine ⟨_, cnt1, a, n, rfl, rfl, hnb, HIT1.out, ?_, HG2.out⟩
                have := HW.out.take (a := a) HBP.out (by rw [← HB.out]; exact HWS.out)
                rw [← HB.out] at this
                exact this.congr HPE.out
              case measure => exact HMS.out
            · skip
              have HWS := Lib.hid (show ¬ worse x m a n from fun h => h.2.elim h1 (fun h => h3 h.2))
              have q0 : (a != 0) = true := by simpa using ha
              have q0b : (a == 0) = false := by simpa using ha
              have q1 : decide (m < n) = false := decide_eq_false h1
              have q1b : decide ((m : Int) < (n : Int)) = false := decide_eq_false (by omega)
              have q2 : (n == m) = true := by simpa using h2
              have q2b : ((n : Int) == (m : Int)) = true := by simp; omega
              have q3 : decide (a < x) = false := decide_eq_false h3
              clear ha h1 h2 h3
              go_wp2_with fail
              go_roundw
              case rel =>
                refine ⟨_, cnt1, x, m, rfl, rfl, hm, HIT1.out, ?_, HG2.out⟩
                exact (HW.out.skip (a := a) HBP.out (by rw [← HB.out]; exact HWS.out)).congr HPE.out
              case measure => exact HMS.out
          · skip
            have HWS := Lib.hid (show ¬ worse x m a n from fun h => h.2.elim h1 (fun h => h2 h.1))
            have q0 : (a != 0) = true := by simpa using ha
            have q0b : (a == 0) = false := by simpa using ha
            have q1 : decide (m < n) = false := decide_eq_false h1
            have q1b : decide ((m : Int) < (n : Int)) = false := decide_eq_false (by omega)
            have q2 : (n == m) = false := by simpa using h2
            have q2b : ((n : Int) == (m : Int)) = false := by simp; omega
            clear ha h1 h2
            go_wp2_with fail
            go_roundw
            case rel =>
              refine ⟨_, cnt1, x, m, rfl, rfl, hm, HIT1.out, ?_, HG2.out⟩
              exact (HW.out.skip (a := a) HBP.out (by rw [← HB.out]; exact HWS.out)).congr HPE.out
            case measure => exact HMS.out
end Go.Proofs.Ytmfbcebbklimoaa
