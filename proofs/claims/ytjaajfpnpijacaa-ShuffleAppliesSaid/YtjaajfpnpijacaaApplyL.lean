/- ShuffleApplies: the law's walk. -/
import Derived.Test.YtjaajfpnpijacaaApply
import Derived.Test.YtjaajfpnpijacaaShufU
import Derived.Test.YtjaajfpnpijacaaReg3
set_option linter.unusedVariables false
set_option linter.unusedSimpArgs false
namespace Go.Proofs.Ytjaajfpnpijacaa
open Go.RowKit
open Go.Proofs.YtjaajfpnpijacaaW.PrintWords

set_option maxRecDepth 100000 in
set_option maxHeartbeats 8000000 in
theorem lawApplies (A B : Option Addr) (m n ca cb : Nat) (L : List Rec) (p : List Int) (w : World) (h : recK.C w A m L) (hp : intK.C w B n p) (hO : ∀ r ∈ L, RecOk r) :
    Calls Try.prog 5 #[.slice A m ca, .slice B n cb] w fun r w' => r = .returned (.bool true) ∧ Fr (fun _ => False) w w' := by
  have HM := Lib.hid (show L.length = m from h.1)
  have HN := Lib.hid (show p.length = n from hp.1)
  have HC := Lib.hid h
  have HP := Lib.hid hp
  have HO := Lib.hid hO
  clear h hp hO
  have big : ∀ (a b : Nat), (30 < a ∨ 60 < b) → a = m → b = n → Calls Try.prog 5 #[.slice A m ca, .slice B n cb] w fun r w' => r = .returned (.bool true) ∧ Fr (fun _ => False) w w' := by
    rintro a b hab rfl rfl
    rcases Nat.lt_or_ge 30 a with h1 | h1
    · have t1 : decide ((30 : Int) < (a : Int)) = true := decide_eq_true (by omega)
      go_enter Try.func5, Try.ntmps5
      go_wp2_with fail
      refine (works33 _).mono ?_
      rintro r w1 ⟨rfl, hF⟩
      go_wp2_with fail
      go_ret
      exact ⟨rfl, hF⟩
    · have t1 : decide ((30 : Int) < (a : Int)) = false := decide_eq_false (by omega)
      have t2 : decide ((60 : Int) < (b : Int)) = true := decide_eq_true (by omega)
      go_enter Try.func5, Try.ntmps5
      go_wp2_with fail
      refine (works33 _).mono ?_
      rintro r w1 ⟨rfl, hF⟩
      go_wp2_with fail
      go_ret
      exact ⟨rfl, hF⟩
  by_cases hb : 30 < m ∨ 60 < n
  · exact big m n hb rfl rfl
  have hm : m ≤ 30 := by omega
  have hn : n ≤ 60 := by omega
  clear big hb
  have t1 : decide ((30 : Int) < (m : Int)) = false := decide_eq_false (by omega)
  have t2 : decide ((60 : Int) < (n : Int)) = false := decide_eq_false (by omega)
  go_enter Try.func5, Try.ntmps5
  go_wp2_with fail
  go_loopw [5] (fun i wr => ∃ k : Nat, k ≤ m ∧ i = .int .i64 k ∧ (∀ j, j < k → (rcx L j).2.2.1.length ≤ 30 ∧ (rcx L j).2.2.2.length ≤ 30) ∧ Fr (fun _ => False) w wr) (fun i _ => m - (intOf i).toNat)
  case atStart => exact ⟨0, by omega, rfl, fun _ h => by omega, Fr.refl _ _⟩
  case round =>
    clear t1 t2
    obtain ⟨k, hk, rfl, hAll, hG⟩ := hrel
    have HA := Lib.hid hAll
    have HG := Lib.hid hG
    clear hAll
    rcases Nat.lt_or_ge k m with hlt | hge
    · obtain ⟨b, off, Ad, Ab, cd, cb2, rfl, hRA, z0, z1, z2, z3, z4⟩ := recs_at (Kd.C_below HC.out (hG.below (fun _ _ h => h))) hlt
      clear hG z0 z1 z2 hRA
      rcases Nat.lt_or_ge 30 (rcx L k).2.2.1.length with h1 | h1
      · have t1 : decide ((30 : Int) < ((rcx L k).2.2.1.length : Int)) = true := decide_eq_true (by omega)
        go_wp2_with fail
        refine (works33 _).mono ?_
        rintro r w1 ⟨rfl, hF⟩
        go_wp2_with fail
        go_ret
        exact ⟨rfl, HG.out.trans hF⟩
      · have t1 : decide ((30 : Int) < ((rcx L k).2.2.1.length : Int)) = false := decide_eq_false (by omega)
        rcases Nat.lt_or_ge 30 (rcx L k).2.2.2.length with h2 | h2
        · have t2 : decide ((30 : Int) < ((rcx L k).2.2.2.length : Int)) = true := decide_eq_true (by omega)
          go_wp2_with fail
          refine (works33 _).mono ?_
          rintro r w1 ⟨rfl, hF⟩
          go_wp2_with fail
          go_ret
          exact ⟨rfl, HG.out.trans hF⟩
        · have t2 : decide ((30 : Int) < ((rcx L k).2.2.2.length : Int)) = false := decide_eq_false (by omega)
          go_wp2_with fail
          go_roundw
          case rel =>
            refine ⟨k + 1, by omega, by go_num, fun j hj => ?_, HG.out⟩
            rcases Nat.lt_or_ge j k with h | h
            · exact HA.out j h
            · obtain rfl : j = k := by omega
              exact ⟨h1, h2⟩
          case measure => simp [intOf]; omega
    · obtain rfl : m = k := by omega
      clear hG
      have tmm : decide (m < m) = false := decide_eq_false (by omega)
      have hS : ∀ r ∈ L, r.2.2.1.length ≤ 1000000 ∧ r.2.2.2.length ≤ 1000000 := fun r hr => by
        obtain ⟨j, hj, rfl⟩ := List.mem_iff_getElem.1 hr
        have := HA.out j (by rw [← HM.out]; exact hj)
        rw [rcx_eq hj] at this
        omega
      have HS := Lib.hid hS
      clear hS
      go_wp2_with fail
      refine (shuf_apply A B m n ca cb L p wr (Kd.C_below HC.out (HG.out.below (fun _ _ h => h))) (Kd.C_below HP.out (HG.out.below (fun _ _ h => h))) (by omega) HS.out).mono ?_
      rintro r w2 (⟨hR, hpl, A1, c1, rfl, hC1, hF2⟩ | ⟨hno, rfl, hF2⟩)
      · rw [HN.out] at hC1 hpl ⊢
        obtain rfl : n = m := by rw [hpl]; exact HM.out
        have HR := Lib.hid hR
        have HC1 := Lib.hid hC1
        have HG2 := Lib.hid (HG.out.trans hF2)
        clear hR hpl hC1 hF2 HG
        go_wp2_with fail
        refine (ref_right B n cb p w2 (Kd.C_below HP.out (HG2.out.below (fun _ _ h => h))) (by omega)).mono ?_
        rintro r w3 ⟨rfl, hF3⟩
        rw [decide_eq_true HR.out]
        have HG3 := Lib.hid (HG2.out.trans hF3)
        replace HC1 := Lib.hid (Kd.C_below HC1.out (hF3.below (fun _ _ h => h)))
        clear hF3 HG2
        go_wp2_with fail
        go_loopw [8] (fun i wl => ∃ k : Nat, k ≤ n ∧ i = .int .i64 k ∧ Fr (fun _ => False) w3 wl) (fun i _ => n - (intOf i).toNat)
        case atStart => exact ⟨0, by omega, rfl, Fr.refl _ _⟩
        case round =>
          obtain ⟨k, hk, rfl, hG4⟩ := hrel
          have HG4 := Lib.hid hG4
          clear hG4
          rcases Nat.lt_or_ge k n with hlt | hge
          · go_wp2_with fail
            have hin := (HR.out.2 (ix p k) (ix_mem (by rw [HN.out]; exact hlt)))
            rw [HN.out] at hin
            obtain ⟨x, hx⟩ : ∃ x : Nat, ix p k = x := ⟨(ix p k).toNat, by omega⟩
            have hxn : x < n := by omega
            obtain ⟨bB, oB, rfl, x0⟩ := ints_at (Kd.C_below HP.out ((HG3.out.trans HG4.out).below (fun _ _ h => h))) hlt
            obtain ⟨b1, o1, Ad1, Ab1, cd1, cb1, rfl, hRA1, y0, y1, y2, y3, y4⟩ := recs_at (Kd.C_below HC1.out (HG4.out.below (fun _ _ h => h))) hlt
            obtain ⟨b2, o2, Ad2, Ab2, cd2, cb2, rfl, hRA2, z0, z1, z2, z3, z4⟩ := recs_at (Kd.C_below HC.out ((HG3.out.trans HG4.out).below (fun _ _ h => h))) hxn
            rw [putR_at L p (by rw [HN.out]; exact hlt), hx, Int.toNat_natCast] at hRA1 y0 y1 y2 y3 y4
            rw [hx] at x0
            have hmem : rcx L x ∈ L := recs_mem (by rw [HM.out]; exact hxn)
            have HMEM := Lib.hid hmem
            have HRA1 := Lib.hid hRA1
            have HRA2 := Lib.hid hRA2
            clear hin hx hRA1 hRA2 hmem
            obtain ⟨St, hSt⟩ : ∃ St : World → Prop, St = Fr (fun _ => False) wr := ⟨_, rfl⟩
            have HT := Lib.hid (show ∀ w', Fr (fun _ => False) wr w' → At St w' from fun w' h => by unfold At; rw [hSt]; exact h)
            have lift : ∀ (q : Addr) (v : Value), wr.cell? q = some v → ∀ w', At St w' → w'.cell? q = some v := fun q v hq w' h => by replace h := h.out; rw [hSt] at h; exact h.cell hq (fun h => h)
            have ex := lift _ _ x0
            have e0 := lift _ _ y0
            have e1 := lift _ _ y1
            have e2 := lift _ _ y2
            have e3 := lift _ _ y3
            have e4 := lift _ _ y4
            have f0 := lift _ _ z0
            have f1 := lift _ _ z1
            have f2 := lift _ _ z2
            have f3 := lift _ _ z3
            have f4 := lift _ _ z4
            have hT0 := HT.out wr.drew (Fr.refl _ _).drew
            clear hSt lift x0 y0 y1 y2 y3 y4 z0 z1 z2 z3 z4
            refine rt_start [] (At St) 13 (by kernel_rfl) rfl ?_
            refine rt_free 0 (v := ?_) rfl (by kernel_rfl) (by kernel_rfl) (by kernel_rfl) (by kernel_rfl) (fun _ _ _ h => h) (by rfl) (fun _ => by first | assumption | exact HS0 _ rfl | exact HT.out _ (by repeat (first | exact Fr.refl _ _ | apply Fr.drew | refine Fr.alloc ?_ _))) ?_ ?_
            rotate_left 1
            · intro w; go_simp <;> with_reducible rfl
            try simp only [Act.put, List.setIfInBounds_toArray, List.set_cons_zero, List.set_cons_succ]
            refine rt_free 1 (v := ?_) rfl (by kernel_rfl) (by kernel_rfl) (by kernel_rfl) (by kernel_rfl) (fun _ _ _ h => h) (by rfl) (fun _ => by first | assumption | exact HS0 _ rfl | exact HT.out _ (by repeat (first | exact Fr.refl _ _ | apply Fr.drew | refine Fr.alloc ?_ _))) ?_ ?_
            rotate_left 1
            · intro w; go_simp <;> with_reducible rfl
            try simp only [Act.put, List.setIfInBounds_toArray, List.set_cons_zero, List.set_cons_succ]
            refine rt_free 2 (v := ?_) rfl (by kernel_rfl) (by kernel_rfl) (by kernel_rfl) (by kernel_rfl) (fun _ _ _ h => h) (by rfl) (fun _ => by first | assumption | exact HS0 _ rfl | exact HT.out _ (by repeat (first | exact Fr.refl _ _ | apply Fr.drew | refine Fr.alloc ?_ _))) ?_ ?_
            rotate_left 1
            · intro w; go_simp <;> with_reducible rfl
            try simp only [Act.put, List.setIfInBounds_toArray, List.set_cons_zero, List.set_cons_succ]
            refine rt_take 3 (v := ?_) rfl (by kernel_rfl) (by kernel_rfl) (by kernel_rfl) (by kernel_rfl) (fun _ _ _ h => h) (by rfl) (by first | assumption | exact HS0 _ rfl | exact HT.out _ (by repeat (first | exact Fr.refl _ _ | apply Fr.drew | refine Fr.alloc ?_ _))) ?_ ?_
            rotate_left 1
            · intro w hSw; go_simp <;> with_reducible rfl
            try simp only [Act.put, List.setIfInBounds_toArray, List.set_cons_zero, List.set_cons_succ]
            refine rt_free 4 (v := ?_) rfl (by kernel_rfl) (by kernel_rfl) (by kernel_rfl) (by kernel_rfl) (fun _ _ _ h => h) (by rfl) (fun _ => by first | assumption | exact HS0 _ rfl | exact HT.out _ (by repeat (first | exact Fr.refl _ _ | apply Fr.drew | refine Fr.alloc ?_ _))) ?_ ?_
            rotate_left 1
            · intro w; go_simp <;> with_reducible rfl
            try simp only [Act.put, List.setIfInBounds_toArray, List.set_cons_zero, List.set_cons_succ]
            refine rt_free 5 (v := ?_) rfl (by kernel_rfl) (by kernel_rfl) (by kernel_rfl) (by kernel_rfl) (fun _ _ _ h => h) (by rfl) (fun _ => by first | assumption | exact HS0 _ rfl | exact HT.out _ (by repeat (first | exact Fr.refl _ _ | apply Fr.drew | refine Fr.alloc ?_ _))) ?_ ?_
            rotate_left 1
            · intro w; go_simp <;> with_reducible rfl
            try simp only [Act.put, List.setIfInBounds_toArray, List.set_cons_zero, List.set_cons_succ]
            refine rt_free 6 (v := ?_) rfl (by kernel_rfl) (by kernel_rfl) (by kernel_rfl) (by kernel_rfl) (fun _ _ _ h => h) (by rfl) (fun _ => by first | assumption | exact HS0 _ rfl | exact HT.out _ (by repeat (first | exact Fr.refl _ _ | apply Fr.drew | refine Fr.alloc ?_ _))) ?_ ?_
            rotate_left 1
            · intro w; go_simp <;> with_reducible rfl
            try simp only [Act.put, List.setIfInBounds_toArray, List.set_cons_zero, List.set_cons_succ]
            refine rt_free 7 (v := ?_) rfl (by kernel_rfl) (by kernel_rfl) (by kernel_rfl) (by kernel_rfl) (fun _ _ _ h => h) (by rfl) (fun _ => by first | assumption | exact HS0 _ rfl | exact HT.out _ (by repeat (first | exact Fr.refl _ _ | apply Fr.drew | refine Fr.alloc ?_ _))) ?_ ?_
            rotate_left 1
            · intro w; go_simp <;> with_reducible rfl
            try simp only [Act.put, List.setIfInBounds_toArray, List.set_cons_zero, List.set_cons_succ]
            refine rt_take 8 (v := ?_) rfl (by kernel_rfl) (by kernel_rfl) (by kernel_rfl) (by kernel_rfl) (fun _ _ _ h => h) (by rfl) (by first | assumption | exact HS0 _ rfl | exact HT.out _ (by repeat (first | exact Fr.refl _ _ | apply Fr.drew | refine Fr.alloc ?_ _))) ?_ ?_
            rotate_left 1
            · intro w hSw; go_simp <;> with_reducible rfl
            try simp only [Act.put, List.setIfInBounds_toArray, List.set_cons_zero, List.set_cons_succ]
            refine rt_free 9 (v := ?_) rfl (by kernel_rfl) (by kernel_rfl) (by kernel_rfl) (by kernel_rfl) (fun _ _ _ h => h) (by rfl) (fun _ => by first | assumption | exact HS0 _ rfl | exact HT.out _ (by repeat (first | exact Fr.refl _ _ | apply Fr.drew | refine Fr.alloc ?_ _))) ?_ ?_
            rotate_left 1
            · intro w; go_simp <;> with_reducible rfl
            try simp only [Act.put, List.setIfInBounds_toArray, List.set_cons_zero, List.set_cons_succ]
            refine rt_take 10 (v := ?_) rfl (by kernel_rfl) (by kernel_rfl) (by kernel_rfl) (by kernel_rfl) (fun _ _ _ h => h) (by rfl) (by first | assumption | exact HS0 _ rfl | exact HT.out _ (by repeat (first | exact Fr.refl _ _ | apply Fr.drew | refine Fr.alloc ?_ _))) ?_ ?_
            rotate_left 1
            · intro w hSw; go_simp <;> with_reducible rfl
            try simp only [Act.put, List.setIfInBounds_toArray, List.set_cons_zero, List.set_cons_succ]
            refine rt_one 11 rfl (by kernel_rfl) (fun K hK => ?_)
            go_simp
            refine (ref_rec (rcx L x) (rcx L x) Ad1 Ab1 Ad2 Ab2 cd1 cb1 cd2 cb2 wr.drew (HRA1.out.fr (Fr.refl _ _).drew) (HRA2.out.fr (Fr.refl _ _).drew) (HS.out _ HMEM.out).1 (HS.out _ HMEM.out).2 (HS.out _ HMEM.out).1 (HS.out _ HMEM.out).2 (HO.out _ HMEM.out).2.2.2 (HO.out _ HMEM.out).2.2.2).mono ?_
            rintro r w5 ⟨rfl, hF5⟩
            rw [cdec_true (recS_refl _)]
            have F5 := Lib.hid ((Fr.refl (fun _ => False) wr).drew.trans hF5)
            have hT5 := HT.out _ F5.out
            clear hF5
            go_wp2_with fail
            refine hK.out (At St) _ _ (fun _ h => h) (fun _ => by (assumption)) ?_
            clear hK K
            try simp only [Act.put, List.setIfInBounds_toArray, List.set_cons_zero, List.set_cons_succ]
            refine rt_free 12 (v := ?_) rfl (by kernel_rfl) (by kernel_rfl) (by kernel_rfl) (by kernel_rfl) (fun _ _ _ h => h) (by rfl) (fun _ => by first | assumption | exact HS0 _ rfl | exact HT.out _ (by repeat (first | exact Fr.refl _ _ | apply Fr.drew | refine Fr.alloc ?_ _))) ?_ ?_
            rotate_left 1
            · intro w; go_simp <;> with_reducible rfl
            try simp only [Act.put, List.setIfInBounds_toArray, List.set_cons_zero, List.set_cons_succ]
            refine rt_done (by kernel_rfl) ?_
            clear ex e0 e1 e2 e3 e4 f0 f1 f2 f3 f4 hT0 hT5
            go_wp2_with fail
            go_roundw
            case rel => exact ⟨k + 1, by omega, by go_num, HG4.out.trans F5.out⟩
            case measure => simp [intOf]; omega
          · obtain rfl : n = k := by omega
            have tnn : decide (n < n) = false := decide_eq_false (by omega)
            go_wp2_with fail
            refine (works33 _).mono ?_
            rintro r w1 ⟨rfl, hF⟩
            go_wp2_with fail
            go_ret
            exact ⟨rfl, (HG3.out.trans HG4.out).trans hF⟩
      · have HNO := Lib.hid hno
        have HG2 := Lib.hid (HG.out.trans hF2)
        clear hno hF2 HG
        go_wp2_with fail
        refine (ref_right B n cb p w2 (Kd.C_below HP.out (HG2.out.below (fun _ _ h => h))) (by omega)).mono ?_
        rintro r w3 ⟨rfl, hF3⟩
        have HG3 := Lib.hid (HG2.out.trans hF3)
        clear hF3 HG2
        by_cases hr : RightR p
        · have hne : ((n : Int) != (m : Int)) = true := bne_iff_ne.2 fun e => HNO.out ⟨hr, by rw [HN.out, HM.out]; omega⟩
          rw [decide_eq_true hr]
          clear hr
          go_wp2_with fail
          refine (works33 _).mono ?_
          rintro r w1 ⟨rfl, hF⟩
          go_wp2_with fail
          go_ret
          exact ⟨rfl, HG3.out.trans hF⟩
        · rw [decide_eq_false hr]
          clear hr
          go_wp2_with fail
          refine (works33 _).mono ?_
          rintro r w1 ⟨rfl, hF⟩
          go_wp2_with fail
          go_ret
          exact ⟨rfl, HG3.out.trans hF⟩
end Go.Proofs.Ytjaajfpnpijacaa
