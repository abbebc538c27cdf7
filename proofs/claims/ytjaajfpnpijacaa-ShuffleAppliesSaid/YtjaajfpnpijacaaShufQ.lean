/- Which lists are orders: what the two tests tell. -/
import Derived.Test.YtjaajfpnpijacaaShufR
set_option linter.unusedVariables false
set_option linter.unusedSimpArgs false
namespace Go.Proofs.Ytjaajfpnpijacaa
open Go.RowKit
open Go.Proofs.YtjaajfpnpijacaaW.PrintWords

theorem info_bool : (Try.prog.info? 4).map (fun i => (i.zero, i.size, i.bytes)) = some (some (.bool false), 1, 1) := by kernel_rfl
theorem bx_set {s : List Bool} {i j : Nat} {x : Bool} (h : i < s.length) : bx (s.set i x) j = if i = j then x else bx s j := by
  unfold bx
  rw [List.getD_eq_getElem?_getD, List.getD_eq_getElem?_getD, List.getElem?_set]
  by_cases e : i = j
  · subst e; simp [h]
  · simp [e]
/-- The marks of the first k places. -/
def Marks (p : List Int) (k : Nat) (s : List Bool) : Prop := s.length = p.length ∧ ∀ j, j < p.length → (bx s j = true ↔ ∃ i, i < k ∧ ix p i = j)
theorem marks_zero (p : List Int) : Marks p 0 (List.replicate p.length false) := by
  refine ⟨by simp, fun j hj => ?_⟩
  have : bx (List.replicate p.length false) j = false := by simp [bx, List.getD_eq_getElem?_getD, hj]
  rw [this]
  simp
theorem marks_step {p : List Int} {k x : Nat} {s : List Bool} (h : Marks p k s) (hx : ix p k = x) (hl : x < p.length) : Marks p (k + 1) (s.set x true) := by
  refine ⟨by rw [List.length_set]; exact h.1, fun j hj => ?_⟩
  rw [bx_set (by rw [h.1]; exact hl)]
  by_cases e : x = j
  · subst e
    simp only [if_true, true_iff]
    exact ⟨k, by omega, hx⟩
  · rw [if_neg e, h.2 j hj]
    constructor
    · rintro ⟨i, hi, he⟩
      exact ⟨i, by omega, he⟩
    · rintro ⟨i, hi, he⟩
      rcases Nat.lt_or_ge i k with h' | h'
      · exact ⟨i, h', he⟩
      · rw [show i = k by omega, hx] at he; omega
set_option maxHeartbeats 2000000 in
theorem shuf_right (A : Option Addr) (n c : Nat) (p : List Int) (w : World) (h : intK.C w A n p) (hn : n ≤ 1000000) :
    Calls Try.prog 16 #[.slice A n c] w fun r w' => r = .returned (.bool (decide (RightR p))) ∧ Fr (fun _ => False) w w' := by
  have HL := Lib.hid (show p.length = n from h.1)
  have HC := Lib.hid h
  have hmk := print_make_of (P := Try.prog) 53 4 (.bool false) 1 Try.underlying53 info_bool rfl (by omega) n (by omega)
  clear h
  go_enter Try.func16, Try.ntmps16
  go_wp2_with fail
  have hB0 := BoolsAt.made w n
  have hF0 := (Fr.refl (fun _ => False) w).alloc (.cells (madeCells #[.bool false] n) 4)
  generalize w.alloc (.cells (madeCells #[.bool false] n) 4) = w1 at hB0 hF0 ⊢
  go_loopw [11] (fun i wr => ∃ (k : Nat) (s : List Bool), k ≤ n ∧ i = .int .i64 k ∧ BoolsAt wr w.heap.size s ∧ Marks p k s ∧ RPre p k ∧ Fr (fun _ => False) w wr) (fun i _ => n - (intOf i).toNat)
  case atStart => exact ⟨0, _, by omega, rfl, hB0, by rw [← HL.out]; exact marks_zero p, ⟨fun _ h => by omega, fun _ _ _ h => by omega⟩, hF0⟩
  case round =>
    clear hB0 hF0
    obtain ⟨k, s, hk, rfl, hB, hM, hP, hG⟩ := hrel
    have HB := Lib.hid hB
    have HM := Lib.hid hM
    have HP := Lib.hid hP
    have HG := Lib.hid hG
    rcases Nat.lt_or_ge k n with hlt | hge
    · obtain ⟨b, off, rfl, x0⟩ := ints_at (Kd.C_below HC.out (hG.below (fun _ _ h => h))) hlt
      clear hB hM hP hG hmk
      have out : ∀ {P : Prop}, ¬ (0 ≤ ix p k ∧ ix p k < n) → decide (RightR p) = false := fun {P} h => decide_eq_false fun hr => h (by
        have := ((rpre_right p).1 hr).1 k (by rw [HL.out]; exact hlt)
        rwa [HL.out] at this)
      have HOUT := Lib.hid (@out True)
      clear out
      rcases Int.lt_or_le (ix p k) 0 with hneg | hpos
      · have t1 : decide (ix p k < 0) = true := decide_eq_true hneg
        have e1 := HOUT.out (by omega)
        go_wp2_with fail
        go_ret
        exact ⟨ret_bool e1.symm, HG.out⟩
      · have t1 : decide (ix p k < 0) = false := decide_eq_false (by omega)
        rcases Int.lt_or_le (ix p k) n with hin | hout
        · obtain ⟨x, hx⟩ : ∃ x : Nat, ix p k = x := ⟨(ix p k).toNat, by omega⟩
          have HX := Lib.hid hx
          rw [hx] at x0 t1 hin hpos
          have hxn : x < n := by omega
          have t2 : decide ((n : Int) ≤ (x : Int)) = false := decide_eq_false (by omega)
          obtain ⟨s0, sf⟩ := HB.out.cell (i := x) (by rw [HM.out.1, HL.out]; exact hxn)
          clear hx
          cases hs : bx s x
          · rw [hs] at s0
            replace hs := Lib.hid hs
            go_wp2_with fail
            go_roundw
            case rel => exact ⟨k + 1, s.set x true, by omega, by go_num, HB.out.set_ x true, marks_step HM.out HX.out (by rw [HL.out]; exact hxn), rpre_step HP.out (by rw [HX.out, HL.out]; omega) (fun j hj he => by
              have := (HM.out.2 x (by rw [HL.out]; exact hxn)).2 ⟨j, hj, by rw [he, HX.out]⟩
              rw [hs.out] at this
              cases this), HG.out.setCell (p := ⟨w.heap.size, x, none⟩) (.inr (Nat.le_refl _)) _⟩
            case measure => simp [intOf]; omega
          · rw [hs] at s0
            replace hs := Lib.hid hs
            go_wp2_with fail
            go_ret
            refine ⟨ret_bool (decide_eq_false fun hr => ?_).symm, HG.out⟩
            obtain ⟨i, hi, he⟩ := (HM.out.2 x (by rw [HL.out]; exact hxn)).1 hs.out
            exact ((rpre_right p).1 hr).2 i k hi (by rw [HL.out]; exact hlt) (by rw [he, HX.out])
        · have t2 : decide ((n : Int) ≤ ix p k) = true := decide_eq_true hout
          have e1 := HOUT.out (by omega)
          go_wp2_with fail
          go_ret
          exact ⟨ret_bool e1.symm, HG.out⟩
    · clear hB hM hP hG hmk
      go_wp2_with fail
      go_ret
      exact ⟨ret_bool (decide_eq_true ((rpre_right p).2 (rpre_mono HP.out (by rw [HL.out]; exact hge)))).symm, HG.out⟩
set_option maxHeartbeats 2000000 in
theorem ref_right (A : Option Addr) (n c : Nat) (p : List Int) (w : World) (h : intK.C w A n p) (hn : n ≤ 1000000) :
    Calls Try.prog 8 #[.slice A n c] w fun r w' => r = .returned (.bool (decide (RightR p))) ∧ Fr (fun _ => False) w w' := by
  have HL := Lib.hid (show p.length = n from h.1)
  have HC := Lib.hid h
  clear h
  go_enter Try.func8, Try.ntmps8
  go_wp2_with fail
  go_loopw [3] (fun i wr => ∃ (k : Nat), k ≤ n ∧ i = .int .i64 k ∧ RPre p k ∧ Fr (fun _ => False) w wr) (fun i _ => n - (intOf i).toNat)
  case atStart => exact ⟨0, by omega, rfl, ⟨fun _ h => by omega, fun _ _ _ h => by omega⟩, Fr.refl _ _⟩
  case round =>
    obtain ⟨k, hk, rfl, hP, hG⟩ := hrel
    have HP := Lib.hid hP
    have HG := Lib.hid hG
    rcases Nat.lt_or_ge k n with hlt | hge
    · obtain ⟨b, off, rfl, x0⟩ := ints_at (Kd.C_below HC.out (hG.below (fun _ _ h => h))) hlt
      clear hP hG
      have out : ¬ (0 ≤ ix p k ∧ ix p k < n) → decide (RightR p) = false := fun h => decide_eq_false fun hr => h (by
        have := ((rpre_right p).1 hr).1 k (by rw [HL.out]; exact hlt)
        rwa [HL.out] at this)
      have HOUT := Lib.hid out
      clear out
      rcases Int.lt_or_le (ix p k) 0 with hneg | hpos
      · have t1 : decide (ix p k < 0) = true := decide_eq_true hneg
        have e1 := HOUT.out (by omega)
        go_wp2_with fail
        go_ret
        exact ⟨ret_bool e1.symm, HG.out⟩
      · have t1 : decide (ix p k < 0) = false := decide_eq_false (by omega)
        rcases Int.lt_or_le (ix p k) n with hin | hout
        · have t2 : decide ((n : Int) ≤ ix p k) = false := decide_eq_false (by omega)
          obtain ⟨wo, hwo⟩ : ∃ wo : World, wo = wr := ⟨_, rfl⟩
          subst hwo
          go_wp2_with fail
          go_loopw [4] (fun j wi => ∃ (l : Nat), l ≤ k ∧ j = .int .i64 l ∧ (∀ i, i < l → ix p i ≠ ix p k) ∧ Fr (fun _ => False) w wi) (fun j _ => k - (intOf j).toNat)
          case atStart => exact ⟨0, by omega, rfl, fun _ h => by omega, HG.out⟩
          case round =>
            obtain ⟨l, hl, rfl, hno, hG'⟩ := hrel
            have HNO := Lib.hid hno
            have HG' := Lib.hid hG'
            clear hno
            rcases Nat.lt_or_ge l k with hlt' | hge'
            · have hall := ints_at (Kd.C_below HC.out (hG'.below (fun _ _ h => h))) hlt
              obtain ⟨b1, off1, e, y0⟩ := hall
              injection e with e
              injection e with e1 e2
              subst e1 e2
              have hall := ints_at (Kd.C_below HC.out (hG'.below (fun _ _ h => h))) (show l < n by omega)
              obtain ⟨b1, off1, e, y1⟩ := hall
              injection e with e
              injection e with e1 e2
              subst e1 e2
              clear hG' x0
              by_cases hq : ix p l = ix p k
              · have t3 : (ix p l == ix p k) = true := by simp [hq]
                replace hq := Lib.hid hq
                go_wp2_with fail
                go_quiet (fail)
                go_wp2_with fail
                go_ret
                exact ⟨ret_bool (decide_eq_false fun hr => ((rpre_right p).1 hr).2 l k hlt' (by rw [HL.out]; exact hlt) hq.out).symm, HG'.out.drewN _⟩
              · have t3 : (ix p l == ix p k) = false := by simp [hq]
                replace hq := Lib.hid hq
                go_wp2_with fail
                go_quiet (fail)
                go_wp2_with fail
                go_roundw
                case rel => exact ⟨l + 1, by omega, by go_num, fun i hi => by
                  rcases Nat.lt_or_ge i l with h' | h'
                  · exact HNO.out i h'
                  · rw [show i = l by omega]; exact hq.out, HG'.out.drewN _⟩
                case measure => simp [intOf]; omega
            · have hlk : l = k := by omega
              have HLK := Lib.hid hlk
              clear hG' hlk
              go_wp2_with fail
              go_roundw
              case rel => exact ⟨k + 1, by omega, by go_num, rpre_step HP.out (by rw [HL.out]; omega) (fun j hj => HNO.out j (by rw [HLK.out]; exact hj)), HG'.out⟩
              case measure => simp [intOf]; omega
        · have t2 : decide ((n : Int) ≤ ix p k) = true := decide_eq_true hout
          have e1 := HOUT.out (by omega)
          go_wp2_with fail
          go_ret
          exact ⟨ret_bool e1.symm, HG.out⟩
    · clear hP hG
      go_wp2_with fail
      go_ret
      exact ⟨ret_bool (decide_eq_true ((rpre_right p).2 (rpre_mono HP.out (by rw [HL.out]; exact hge)))).symm, HG.out⟩
end Go.Proofs.Ytjaajfpnpijacaa
