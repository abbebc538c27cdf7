/- Texts of Cod, merged (23 of 27): RefC. -/
import Derived.Test.YtelfpnpplknlpaaGCod22
set_option linter.unusedVariables false
set_option linter.unusedSimpArgs false
/- Records: what is wrong first, by the reference. -/
namespace Go.Proofs.Ytelfpnpplknlpaa
open Go.RowKit
open Go.Proofs.YtelfpnpplknlpaaW.PrintWords

set_option maxRecDepth 100000 in
set_option maxHeartbeats 8000000 in
theorem ref_check (r : Rec) (Ad Ab : Option Addr) (cd cb : Nat) (w : World) (h : RecAt w r Ad Ab cd cb) (hg : RecGood r) :
    Calls Try.prog 13 #[recV r Ad Ab cd cb] w fun e w' => e = .returned (.int .i64 (errRec r)) ∧ Fr (fun _ => False) w w' := by
  obtain ⟨⟨i1, i2⟩, q, D, B⟩ := r
  obtain ⟨nd, hnd⟩ : ∃ nd, nd = D.length := ⟨_, rfl⟩
  obtain ⟨nb, hnb⟩ : ∃ nb, nb = B.length := ⟨_, rfl⟩
  have HC := Lib.hid (show idK.C w Ad nd D by rw [hnd]; exact h.deps)
  have HB := Lib.hid (show cmdK.C w Ab nb B by rw [hnb]; exact h.batch)
  have HG := Lib.hid (show ∀ x ∈ B, CmdGood x from hg)
  have hmx : nd ≤ 9223372036854775807 := by rw [hnd]; exact h.deps.2.1
  rw [show recV ((i1, i2), q, D, B) Ad Ab cd cb = .agg #[.int .i64 i1, .int .i64 i2, .int .i64 q, .slice Ad nd cd, .slice Ab nb cb] by rw [hnd, hnb]]
  have HL := Lib.hid hnd.symm
  clear h hg hnd hnb
  have hF := (Fr.refl (fun _ => False) w).alloc (.cells #[.int .i64 i1, .int .i64 i2, .int .i64 q, .slice Ad nd cd, .slice Ab nb cb] 32)
  have hX := Blk.new w 32 #[.int .i64 i1, .int .i64 i2, .int .i64 q, .slice Ad nd cd, .slice Ab nb cb]
  by_cases hid0 : errId (i1, i2) = 0
  · have t0 : (errId (i1, i2) != 0) = false := by simp [hid0]
    by_cases hq1 : q < 1
    · have t1 : decide (q < 1) = true := decide_eq_true hq1
      have e : errRec ((i1, i2), q, D, B) = 9 := by
        have : errOwn (i1, i2) q = 9 := by unfold errOwn; rw [if_pos hid0, if_pos (.inl hq1)]
        unfold errRec; rw [this]; rfl
      rw [e]
      clear e hid0 hq1
      go_enter Try.func13, Try.ntmps13
      go_wp2_with fail
      refine (ref_id i1 i2 _).mono ?_
      rintro r w1 ⟨rfl, hF1⟩
      have x0 := (hX.fr hF1 (fun h => h)).cell 0
      have x1 := (hX.fr hF1 (fun h => h)).cell 1
      have x2 := (hX.fr hF1 (fun h => h)).cell 2
      have x3 := (hX.fr hF1 (fun h => h)).cell 3
      have x4 := (hX.fr hF1 (fun h => h)).cell 4
      simp only [List.getElem?_toArray, List.getElem?_cons_zero, List.getElem?_cons_succ] at x0 x1 x2 x3 x4
      go_wp2_with fail
      go_ret
      exact ⟨rfl, hF.trans hF1⟩
    · have t1 : decide (q < 1) = false := decide_eq_false hq1
      by_cases hq2 : 1073741824 < q
      · have t2 : decide (1073741824 < q) = true := decide_eq_true hq2
        have e : errRec ((i1, i2), q, D, B) = 9 := by
          have : errOwn (i1, i2) q = 9 := by unfold errOwn; rw [if_pos hid0, if_pos (.inr hq2)]
          unfold errRec; rw [this]; rfl
        rw [e]
        clear e hid0 hq1 hq2
        go_enter Try.func13, Try.ntmps13
        go_wp2_with fail
        refine (ref_id i1 i2 _).mono ?_
        rintro r w1 ⟨rfl, hF1⟩
        have x0 := (hX.fr hF1 (fun h => h)).cell 0
        have x1 := (hX.fr hF1 (fun h => h)).cell 1
        have x2 := (hX.fr hF1 (fun h => h)).cell 2
        have x3 := (hX.fr hF1 (fun h => h)).cell 3
        have x4 := (hX.fr hF1 (fun h => h)).cell 4
        simp only [List.getElem?_toArray, List.getElem?_cons_zero, List.getElem?_cons_succ] at x0 x1 x2 x3 x4
        go_wp2_with fail
        go_ret
        exact ⟨rfl, hF.trans hF1⟩
      · have t2 : decide (1073741824 < q) = false := decide_eq_false hq2
        have o0 : errOwn (i1, i2) q = 0 := by unfold errOwn; rw [if_pos hid0, if_neg (fun h => h.elim hq1 hq2)]
        clear hid0 hq1 hq2
        by_cases h16 : 16 < nd
        · have t3 : decide ((16 : Int) < (nd : Int)) = true := decide_eq_true (by omega)
          have e : errRec ((i1, i2), q, D, B) = 10 := by
            have : errDeps (i1, i2) D = 10 := if_pos (by rw [HL.out]; exact h16)
            unfold errRec; rw [if_pos o0, this]; rfl
          rw [e]
          clear e h16 o0
          go_enter Try.func13, Try.ntmps13
          go_wp2_with fail
          refine (ref_id i1 i2 _).mono ?_
          rintro r w1 ⟨rfl, hF1⟩
          have x0 := (hX.fr hF1 (fun h => h)).cell 0
          have x1 := (hX.fr hF1 (fun h => h)).cell 1
          have x2 := (hX.fr hF1 (fun h => h)).cell 2
          have x3 := (hX.fr hF1 (fun h => h)).cell 3
          have x4 := (hX.fr hF1 (fun h => h)).cell 4
          simp only [List.getElem?_toArray, List.getElem?_cons_zero, List.getElem?_cons_succ] at x0 x1 x2 x3 x4
          go_wp2_with fail
          go_ret
          exact ⟨rfl, hF.trans hF1⟩
        · have t3 : decide ((16 : Int) < (nd : Int)) = false := decide_eq_false (by omega)
          have e0 : errDeps (i1, i2) D = fnz (errDep (i1, i2) D) D.length 0 := if_neg (by rw [HL.out]; exact h16)
          have E0 := Lib.hid e0
          have O0 := Lib.hid o0
          clear e0 o0
          go_enter Try.func13, Try.ntmps13
          go_wp2_with fail
          refine (ref_id i1 i2 _).mono ?_
          rintro r w1 ⟨rfl, hF1⟩
          have hX1 := hX.fr hF1 (fun h => h)
          have x0 := hX1.cell 0
          have x1 := hX1.cell 1
          have x2 := hX1.cell 2
          have x3 := hX1.cell 3
          have x4 := hX1.cell 4
          simp only [List.getElem?_toArray, List.getElem?_cons_zero, List.getElem?_cons_succ] at x0 x1 x2 x3 x4
          have HF := Lib.hid (hF.trans hF1)
          have HX := Lib.hid hX1
          obtain ⟨x, hx⟩ : ∃ x, x = w.heap.size := ⟨_, rfl⟩
          rw [← hx] at HX x0 x1 x2 x3 x4 ⊢
          clear hF hX hX1 hF1 hx
          go_wp2_with fail
          clear t1 t2 t3 x0 x1 x2 x3 x4 t0
          go_loopw [3] (fun i wr => ∃ k : Nat, k ≤ nd ∧ i = .int .i64 k ∧ (∀ j, j < k → errDep (i1, i2) D j = 0) ∧ Fr (fun _ => False) w1 wr) (fun i _ => nd - (intOf i).toNat)
          case atStart => exact ⟨0, Nat.zero_le _, rfl, fun _ h => by omega, Fr.refl _ _⟩
          case round =>
            obtain ⟨k, hk, rfl, hno, hG⟩ := hrel
            replace hno := Lib.hid hno
            replace hG := Lib.hid hG
            have hX1 := HX.out.fr hG.out (fun h => h)
            have x0 := hX1.cell 0
            have x1 := hX1.cell 1
            have x2 := hX1.cell 2
            have x3 := hX1.cell 3
            have x4 := hX1.cell 4
            simp only [List.getElem?_toArray, List.getElem?_cons_zero, List.getElem?_cons_succ] at x0 x1 x2 x3 x4
            clear hX1
            rcases Nat.lt_or_ge k nd with hlt | hge
            · obtain ⟨b, off, rfl, h0, h1⟩ := ids_at (Kd.C_below HC.out ((HF.out.trans hG.out).below (fun _ _ h => h))) hlt
              go_wp2_with fail
              refine (ref_id (ida D k).1 (ida D k).2 _).mono ?_
              rintro r w2 ⟨rfl, hF2⟩
              rw [show (((ida D k).1, (ida D k).2) : Int × Int) = ida D k from rfl]
              have HF2 := Lib.hid (hG.out.trans hF2)
              have HX2 := Lib.hid (HX.out.fr HF2.out (fun h => h))
              replace h0 := hF2.cell h0 (fun h => h)
              replace h1 := hF2.cell h1 (fun h => h)
              clear hF2 x0 x1 x2 x3 x4
              have x0 := HX2.out.cell 0
              have x1 := HX2.out.cell 1
              have x2 := HX2.out.cell 2
              have x3 := HX2.out.cell 3
              have x4 := HX2.out.cell 4
              simp only [List.getElem?_toArray, List.getElem?_cons_zero, List.getElem?_cons_succ] at x0 x1 x2 x3 x4
              have eAt : errDep (i1, i2) D k ≠ 0 → errRec ((i1, i2), q, D, B) = errDep (i1, i2) D k := fun h => by
                have h' : errDeps (i1, i2) D = errDep (i1, i2) D k := E0.out.trans (fnz_at _ _ _ k (Nat.zero_le _) (by rw [HL.out]; omega) (fun j _ hj => hno.out j hj) h)
                unfold errRec; rw [if_pos O0.out, h', if_neg h]
              have EAT := Lib.hid eAt
              clear eAt
              by_cases hz : errId (ida D k) = 0
              · have t0 : (errId (ida D k) != 0) = false := by simp [hz]
                go_wp2_with fail
                clear t0
                obtain ⟨St, hSt⟩ : ∃ St : World → Prop, St = Fr (fun _ => False) w2 := ⟨_, rfl⟩
                have HT := Lib.hid (show ∀ w', Fr (fun _ => False) w2 w' → At St w' from fun w' h => by unfold At; rw [hSt]; exact h)
                have lift : ∀ (q : Addr) (v : Value), w2.cell? q = some v → ∀ w', At St w' → w'.cell? q = some v := fun q v hq w' h => by replace h := h.out; rw [hSt] at h; exact h.cell hq (fun h => h)
                have e0 := lift _ _ x0
                have e1 := lift _ _ x1
                have e3 := lift _ _ x3
                have d0 := lift _ _ h0
                have d1 := lift _ _ h1
                have hT0 := HT.out w2.drew (Fr.refl _ _).drew
                have LIFT := Lib.hid lift
                clear hSt lift x0 x1 x2 x3 x4 h0 h1
                have he := fun w => eqId (ida D k).1 (ida D k).2 i1 i2 w
                by_cases hq : ida D k = (i1, i2)
                · have hqd : decide (((ida D k).1, (ida D k).2) = (i1, i2)) = true := decide_eq_true hq
                  simp only [hqd] at he
                  have e6 : errDep (i1, i2) D k = 6 := by unfold errDep; rw [if_pos hz, if_pos hq]
                  have e7 := EAT.out (by rw [e6]; decide)
                  rw [e6] at e7
                  have E7 := Lib.hid e7
                  clear hz hq hqd e6 e7
                  refine rt_start [] (At St) 8 (by kernel_rfl) rfl ?_
                  refine rt_free 0 (v := ?_) rfl (by kernel_rfl) (by kernel_rfl) (by kernel_rfl) (by kernel_rfl) (fun _ _ _ h => h) (by rfl) (fun _ => by first | assumption | exact HS0 _ rfl | exact HT.out _ (by repeat (first | exact Fr.refl _ _ | apply Fr.drew | refine Fr.alloc ?_ _))) ?_ ?_
                  rotate_left 1
                  · intro w; go_simp <;> with_reducible rfl
                  try simp only [Act.put, List.setIfInBounds_toArray, List.set_cons_zero, List.set_cons_succ]
                  refine rt_take 1 (v := ?_) rfl (by kernel_rfl) (by kernel_rfl) (by kernel_rfl) (by kernel_rfl) (fun _ _ _ h => h) (by rfl) (by first | assumption | exact HS0 _ rfl | exact HT.out _ (by repeat (first | exact Fr.refl _ _ | apply Fr.drew | refine Fr.alloc ?_ _))) ?_ ?_
                  rotate_left 1
                  · intro w hSw; go_simp <;> with_reducible rfl
                  try simp only [Act.put, List.setIfInBounds_toArray, List.set_cons_zero, List.set_cons_succ]
                  refine rt_free 2 (v := ?_) rfl (by kernel_rfl) (by kernel_rfl) (by kernel_rfl) (by kernel_rfl) (fun _ _ _ h => h) (by rfl) (fun _ => by first | assumption | exact HS0 _ rfl | exact HT.out _ (by repeat (first | exact Fr.refl _ _ | apply Fr.drew | refine Fr.alloc ?_ _))) ?_ ?_
                  rotate_left 1
                  · intro w; go_simp <;> with_reducible rfl
                  try simp only [Act.put, List.setIfInBounds_toArray, List.set_cons_zero, List.set_cons_succ]
                  refine rt_free 3 (v := ?_) rfl (by kernel_rfl) (by kernel_rfl) (by kernel_rfl) (by kernel_rfl) (fun _ _ _ h => h) (by rfl) (fun _ => by first | assumption | exact HS0 _ rfl | exact HT.out _ (by repeat (first | exact Fr.refl _ _ | apply Fr.drew | refine Fr.alloc ?_ _))) ?_ ?_
                  rotate_left 1
                  · intro w; go_simp <;> with_reducible rfl
                  try simp only [Act.put, List.setIfInBounds_toArray, List.set_cons_zero, List.set_cons_succ]
                  refine rt_take 4 (v := ?_) rfl (by kernel_rfl) (by kernel_rfl) (by kernel_rfl) (by kernel_rfl) (fun _ _ _ h => h) (by rfl) (by first | assumption | exact HS0 _ rfl | exact HT.out _ (by repeat (first | exact Fr.refl _ _ | apply Fr.drew | refine Fr.alloc ?_ _))) ?_ ?_
                  rotate_left 1
                  · intro w hSw; go_simp <;> with_reducible rfl
                  try simp only [Act.put, List.setIfInBounds_toArray, List.set_cons_zero, List.set_cons_succ]
                  refine rt_free 5 (v := ?_) rfl (by kernel_rfl) (by kernel_rfl) (by kernel_rfl) (by kernel_rfl) (fun _ _ _ h => h) (by rfl) (fun _ => by first | assumption | exact HS0 _ rfl | exact HT.out _ (by repeat (first | exact Fr.refl _ _ | apply Fr.drew | refine Fr.alloc ?_ _))) ?_ ?_
                  rotate_left 1
                  · intro w; go_simp <;> with_reducible rfl
                  try simp only [Act.put, List.setIfInBounds_toArray, List.set_cons_zero, List.set_cons_succ]
                  refine rt_take 6 (v := ?_) rfl (by kernel_rfl) (by kernel_rfl) (by kernel_rfl) (by kernel_rfl) (fun _ _ _ h => h) (by rfl) (by first | assumption | exact HS0 _ rfl | exact HT.out _ (by repeat (first | exact Fr.refl _ _ | apply Fr.drew | refine Fr.alloc ?_ _))) ?_ ?_
                  rotate_left 1
                  · intro w hSw; go_simp <;> with_reducible rfl
                  try simp only [Act.put, List.setIfInBounds_toArray, List.set_cons_zero, List.set_cons_succ]
                  refine rt_free 7 (v := ?_) rfl (by kernel_rfl) (by kernel_rfl) (by kernel_rfl) (by kernel_rfl) (fun _ _ _ h => h) (by rfl) (fun _ => by first | assumption | exact HS0 _ rfl | exact HT.out _ (by repeat (first | exact Fr.refl _ _ | apply Fr.drew | refine Fr.alloc ?_ _))) ?_ ?_
                  rotate_left 1
                  · intro w; go_simp <;> with_reducible rfl
                  try simp only [Act.put, List.setIfInBounds_toArray, List.set_cons_zero, List.set_cons_succ]
                  refine rt_done (by kernel_rfl) ?_
                  go_wp2_with fail
                  go_ret
                  refine ⟨?_, HF.out.trans HF2.out.drew⟩
                  rw [E7.out]
                  rfl
                · have hqd : decide (((ida D k).1, (ida D k).2) = (i1, i2)) = false := decide_eq_false hq
                  simp only [hqd] at he
                  have ed : errDep (i1, i2) D k = if 0 < k ∧ idLess (ida D (k - 1)) (ida D k) = false then 11 else 0 := by unfold errDep; rw [if_pos hz, if_neg hq]
                  have ED := Lib.hid ed
                  clear hz hq hqd ed
                  refine rt_start [] (At St) 8 (by kernel_rfl) rfl ?_
                  refine rt_free 0 (v := ?_) rfl (by kernel_rfl) (by kernel_rfl) (by kernel_rfl) (by kernel_rfl) (fun _ _ _ h => h) (by rfl) (fun _ => by first | assumption | exact HS0 _ rfl | exact HT.out _ (by repeat (first | exact Fr.refl _ _ | apply Fr.drew | refine Fr.alloc ?_ _))) ?_ ?_
                  rotate_left 1
                  · intro w; go_simp <;> with_reducible rfl
                  try simp only [Act.put, List.setIfInBounds_toArray, List.set_cons_zero, List.set_cons_succ]
                  refine rt_take 1 (v := ?_) rfl (by kernel_rfl) (by kernel_rfl) (by kernel_rfl) (by kernel_rfl) (fun _ _ _ h => h) (by rfl) (by first | assumption | exact HS0 _ rfl | exact HT.out _ (by repeat (first | exact Fr.refl _ _ | apply Fr.drew | refine Fr.alloc ?_ _))) ?_ ?_
                  rotate_left 1
                  · intro w hSw; go_simp <;> with_reducible rfl
                  try simp only [Act.put, List.setIfInBounds_toArray, List.set_cons_zero, List.set_cons_succ]
                  refine rt_free 2 (v := ?_) rfl (by kernel_rfl) (by kernel_rfl) (by kernel_rfl) (by kernel_rfl) (fun _ _ _ h => h) (by rfl) (fun _ => by first | assumption | exact HS0 _ rfl | exact HT.out _ (by repeat (first | exact Fr.refl _ _ | apply Fr.drew | refine Fr.alloc ?_ _))) ?_ ?_
                  rotate_left 1
                  · intro w; go_simp <;> with_reducible rfl
                  try simp only [Act.put, List.setIfInBounds_toArray, List.set_cons_zero, List.set_cons_succ]
                  refine rt_free 3 (v := ?_) rfl (by kernel_rfl) (by kernel_rfl) (by kernel_rfl) (by kernel_rfl) (fun _ _ _ h => h) (by rfl) (fun _ => by first | assumption | exact HS0 _ rfl | exact HT.out _ (by repeat (first | exact Fr.refl _ _ | apply Fr.drew | refine Fr.alloc ?_ _))) ?_ ?_
                  rotate_left 1
                  · intro w; go_simp <;> with_reducible rfl
                  try simp only [Act.put, List.setIfInBounds_toArray, List.set_cons_zero, List.set_cons_succ]
                  refine rt_take 4 (v := ?_) rfl (by kernel_rfl) (by kernel_rfl) (by kernel_rfl) (by kernel_rfl) (fun _ _ _ h => h) (by rfl) (by first | assumption | exact HS0 _ rfl | exact HT.out _ (by repeat (first | exact Fr.refl _ _ | apply Fr.drew | refine Fr.alloc ?_ _))) ?_ ?_
                  rotate_left 1
                  · intro w hSw; go_simp <;> with_reducible rfl
                  try simp only [Act.put, List.setIfInBounds_toArray, List.set_cons_zero, List.set_cons_succ]
                  refine rt_free 5 (v := ?_) rfl (by kernel_rfl) (by kernel_rfl) (by kernel_rfl) (by kernel_rfl) (fun _ _ _ h => h) (by rfl) (fun _ => by first | assumption | exact HS0 _ rfl | exact HT.out _ (by repeat (first | exact Fr.refl _ _ | apply Fr.drew | refine Fr.alloc ?_ _))) ?_ ?_
                  rotate_left 1
                  · intro w; go_simp <;> with_reducible rfl
                  try simp only [Act.put, List.setIfInBounds_toArray, List.set_cons_zero, List.set_cons_succ]
                  refine rt_take 6 (v := ?_) rfl (by kernel_rfl) (by kernel_rfl) (by kernel_rfl) (by kernel_rfl) (fun _ _ _ h => h) (by rfl) (by first | assumption | exact HS0 _ rfl | exact HT.out _ (by repeat (first | exact Fr.refl _ _ | apply Fr.drew | refine Fr.alloc ?_ _))) ?_ ?_
                  rotate_left 1
                  · intro w hSw; go_simp <;> with_reducible rfl
                  try simp only [Act.put, List.setIfInBounds_toArray, List.set_cons_zero, List.set_cons_succ]
                  refine rt_free 7 (v := ?_) rfl (by kernel_rfl) (by kernel_rfl) (by kernel_rfl) (by kernel_rfl) (fun _ _ _ h => h) (by rfl) (fun _ => by first | assumption | exact HS0 _ rfl | exact HT.out _ (by repeat (first | exact Fr.refl _ _ | apply Fr.drew | refine Fr.alloc ?_ _))) ?_ ?_
                  rotate_left 1
                  · intro w; go_simp <;> with_reducible rfl
                  try simp only [Act.put, List.setIfInBounds_toArray, List.set_cons_zero, List.set_cons_succ]
                  refine rt_done (by kernel_rfl) ?_
                  go_wp2_with fail
                  clear he
                  have hT1 := HT.out w2.drew.drew (Fr.refl _ _).drew.drew
                  by_cases hk0 : 0 < k
                  · have t1 : decide (0 < k) = true := decide_eq_true hk0
                    obtain ⟨j, hj⟩ : ∃ j, j = k - 1 := ⟨_, rfl⟩
                    have tk : (k : Int) - 1 = (j : Int) := by omega
                    have twj : IntKind.i64.wrap (j : Int) = (j : Int) := wrap_in (j : Int) (by omega) (by omega)
                    have hjn : j < nd := by omega
                    obtain ⟨b1, o1, hA, h0, h1⟩ := ids_at (Kd.C_below HC.out ((HF.out.trans HF2.out).below (fun _ _ h => h))) hjn
                    injection hA with hA
                    injection hA with hA1 hA2
                    subst hA1
                    subst hA2
                    have j0 : ∀ w', At St w' → w'.cell? ⟨b, off + j * 2, none⟩ = some (.int .i64 (ida D j).1) := fun w' h => LIFT.out _ _ h0 w' h
                    have j1 : ∀ w', At St w' → w'.cell? ⟨b, off + j * 2 + 1, none⟩ = some (.int .i64 (ida D j).2) := fun w' h => LIFT.out _ _ h1 w' h
                    obtain ⟨lc, hlc⟩ : ∃ lc, lc = idLess ((ida D j).1, (ida D j).2) ((ida D k).1, (ida D k).2) := ⟨_, rfl⟩
                    have ex : errDep (i1, i2) D k = if lc = false then 11 else 0 := by
                      rw [ED.out, hlc, hj]
                      by_cases h : idLess (ida D (k - 1)) (ida D k) = false
                      · rw [if_pos ⟨hk0, h⟩, if_pos h]
                      · rw [if_neg (fun h' => h h'.2), if_neg h]
                    have EX := Lib.hid ex
                    have HLC := Lib.hid hlc
                    clear h0 h1 hj hk0 hlc ex
                    refine rt_start [] (At St) 17 (by kernel_rfl) rfl ?_
                    refine rt_free 0 (v := ?_) rfl (by kernel_rfl) (by kernel_rfl) (by kernel_rfl) (by kernel_rfl) (fun _ _ _ h => h) (by rfl) (fun _ => by first | assumption | exact HS0 _ rfl | exact HT.out _ (by repeat (first | exact Fr.refl _ _ | apply Fr.drew | refine Fr.alloc ?_ _))) ?_ ?_
                    rotate_left 1
                    · intro w; go_simp <;> with_reducible rfl
                    try simp only [Act.put, List.setIfInBounds_toArray, List.set_cons_zero, List.set_cons_succ]
                    refine rt_free 1 (v := ?_) rfl (by kernel_rfl) (by kernel_rfl) (by kernel_rfl) (by kernel_rfl) (fun _ _ _ h => h) (by rfl) (fun _ => by first | assumption | exact HS0 _ rfl | exact HT.out _ (by repeat (first | exact Fr.refl _ _ | apply Fr.drew | refine Fr.alloc ?_ _))) ?_ ?_
                    rotate_left 1
                    · intro w; go_simp <;> with_reducible rfl
                    try simp only [Act.put, List.setIfInBounds_toArray, List.set_cons_zero, List.set_cons_succ]
                    refine rt_free 2 (v := ?_) rfl (by kernel_rfl) (by kernel_rfl) (by kernel_rfl) (by kernel_rfl) (fun _ _ _ h => h) (by rfl) (fun _ => by first | assumption | exact HS0 _ rfl | exact HT.out _ (by repeat (first | exact Fr.refl _ _ | apply Fr.drew | refine Fr.alloc ?_ _))) ?_ ?_
                    rotate_left 1
                    · intro w; go_simp <;> with_reducible rfl
                    try simp only [Act.put, List.setIfInBounds_toArray, List.set_cons_zero, List.set_cons_succ]
                    refine rt_free 3 (v := ?_) rfl (by kernel_rfl) (by kernel_rfl) (by kernel_rfl) (by kernel_rfl) (fun _ _ _ h => h) (by rfl) (fun _ => by first | assumption | exact HS0 _ rfl | exact HT.out _ (by repeat (first | exact Fr.refl _ _ | apply Fr.drew | refine Fr.alloc ?_ _))) ?_ ?_
                    rotate_left 1
                    · intro w; go_simp <;> with_reducible rfl
                    try simp only [Act.put, List.setIfInBounds_toArray, List.set_cons_zero, List.set_cons_succ]
                    refine rt_take 4 (v := ?_) rfl (by kernel_rfl) (by kernel_rfl) (by kernel_rfl) (by kernel_rfl) (fun _ _ _ h => h) (by rfl) (by first | assumption | exact HS0 _ rfl | exact HT.out _ (by repeat (first | exact Fr.refl _ _ | apply Fr.drew | refine Fr.alloc ?_ _))) ?_ ?_
                    rotate_left 1
                    · intro w hSw; go_simp <;> with_reducible rfl
                    try simp only [Act.put, List.setIfInBounds_toArray, List.set_cons_zero, List.set_cons_succ]
                    refine rt_free 5 (v := ?_) rfl (by kernel_rfl) (by kernel_rfl) (by kernel_rfl) (by kernel_rfl) (fun _ _ _ h => h) (by rfl) (fun _ => by first | assumption | exact HS0 _ rfl | exact HT.out _ (by repeat (first | exact Fr.refl _ _ | apply Fr.drew | refine Fr.alloc ?_ _))) ?_ ?_
                    rotate_left 1
                    · intro w; go_simp <;> with_reducible rfl
                    try simp only [Act.put, List.setIfInBounds_toArray, List.set_cons_zero, List.set_cons_succ]
                    refine rt_free 6 (v := ?_) rfl (by kernel_rfl) (by kernel_rfl) (by kernel_rfl) (by kernel_rfl) (fun _ _ _ h => h) (by rfl) (fun _ => by first | assumption | exact HS0 _ rfl | exact HT.out _ (by repeat (first | exact Fr.refl _ _ | apply Fr.drew | refine Fr.alloc ?_ _))) ?_ ?_
                    rotate_left 1
                    · intro w; go_simp <;> with_reducible rfl
                    try simp only [Act.put, List.setIfInBounds_toArray, List.set_cons_zero, List.set_cons_succ]
                    refine rt_free 7 (v := ?_) rfl (by kernel_rfl) (by kernel_rfl) (by kernel_rfl) (by kernel_rfl) (fun _ _ _ h => h) (by rfl) (fun _ => by first | assumption | exact HS0 _ rfl | exact HT.out _ (by repeat (first | exact Fr.refl _ _ | apply Fr.drew | refine Fr.alloc ?_ _))) ?_ ?_
                    rotate_left 1
                    · intro w; go_simp <;> with_reducible rfl
                    try simp only [Act.put, List.setIfInBounds_toArray, List.set_cons_zero, List.set_cons_succ]
                    refine rt_take 8 (v := ?_) rfl (by kernel_rfl) (by kernel_rfl) (by kernel_rfl) (by kernel_rfl) (fun _ _ _ h => h) (by rfl) (by first | assumption | exact HS0 _ rfl | exact HT.out _ (by repeat (first | exact Fr.refl _ _ | apply Fr.drew | refine Fr.alloc ?_ _))) ?_ ?_
                    rotate_left 1
                    · intro w hSw; go_simp <;> with_reducible rfl
                    try simp only [Act.put, List.setIfInBounds_toArray, List.set_cons_zero, List.set_cons_succ]
                    refine rt_free 9 (v := ?_) rfl (by kernel_rfl) (by kernel_rfl) (by kernel_rfl) (by kernel_rfl) (fun _ _ _ h => h) (by rfl) (fun _ => by first | assumption | exact HS0 _ rfl | exact HT.out _ (by repeat (first | exact Fr.refl _ _ | apply Fr.drew | refine Fr.alloc ?_ _))) ?_ ?_
                    rotate_left 1
                    · intro w; go_simp <;> with_reducible rfl
                    try simp only [Act.put, List.setIfInBounds_toArray, List.set_cons_zero, List.set_cons_succ]
                    refine rt_take 10 (v := ?_) rfl (by kernel_rfl) (by kernel_rfl) (by kernel_rfl) (by kernel_rfl) (fun _ _ _ h => h) (by rfl) (by first | assumption | exact HS0 _ rfl | exact HT.out _ (by repeat (first | exact Fr.refl _ _ | apply Fr.drew | refine Fr.alloc ?_ _))) ?_ ?_
                    rotate_left 1
                    · intro w hSw; go_simp <;> with_reducible rfl
                    try simp only [Act.put, List.setIfInBounds_toArray, List.set_cons_zero, List.set_cons_succ]
                    refine rt_free 11 (v := ?_) rfl (by kernel_rfl) (by kernel_rfl) (by kernel_rfl) (by kernel_rfl) (fun _ _ _ h => h) (by rfl) (fun _ => by first | assumption | exact HS0 _ rfl | exact HT.out _ (by repeat (first | exact Fr.refl _ _ | apply Fr.drew | refine Fr.alloc ?_ _))) ?_ ?_
                    rotate_left 1
                    · intro w; go_simp <;> with_reducible rfl
                    try simp only [Act.put, List.setIfInBounds_toArray, List.set_cons_zero, List.set_cons_succ]
                    refine rt_free 12 (v := ?_) rfl (by kernel_rfl) (by kernel_rfl) (by kernel_rfl) (by kernel_rfl) (fun _ _ _ h => h) (by rfl) (fun _ => by first | assumption | exact HS0 _ rfl | exact HT.out _ (by repeat (first | exact Fr.refl _ _ | apply Fr.drew | refine Fr.alloc ?_ _))) ?_ ?_
                    rotate_left 1
                    · intro w; go_simp <;> with_reducible rfl
                    try simp only [Act.put, List.setIfInBounds_toArray, List.set_cons_zero, List.set_cons_succ]
                    refine rt_take 13 (v := ?_) rfl (by kernel_rfl) (by kernel_rfl) (by kernel_rfl) (by kernel_rfl) (fun _ _ _ h => h) (by rfl) (by first | assumption | exact HS0 _ rfl | exact HT.out _ (by repeat (first | exact Fr.refl _ _ | apply Fr.drew | refine Fr.alloc ?_ _))) ?_ ?_
                    rotate_left 1
                    · intro w hSw; go_simp <;> with_reducible rfl
                    try simp only [Act.put, List.setIfInBounds_toArray, List.set_cons_zero, List.set_cons_succ]
                    refine rt_one 14 rfl (by kernel_rfl) (fun K hK => ?_)
                    go_simp
                    refine (ref_id_less (ida D j).1 (ida D j).2 (ida D k).1 (ida D k).2 _).mono ?_
                    rintro r w5 ⟨rfl, hF5⟩
                    rw [← HLC.out]
                    have F5 := Lib.hid ((Fr.refl (fun _ => False) w2).drew.drew.trans hF5)
                    have hT5 := HT.out _ F5.out
                    clear hF5
                    go_wp2_with fail
                    refine hK.out (At St) _ _ (fun _ h => h) (fun _ => by (exact hT5)) ?_
                    clear hK K
                    try simp only [Act.put, List.setIfInBounds_toArray, List.set_cons_zero, List.set_cons_succ]
                    refine rt_free 15 (v := ?_) rfl (by kernel_rfl) (by kernel_rfl) (by kernel_rfl) (by kernel_rfl) (fun _ _ _ h => h) (by rfl) (fun _ => by first | assumption | exact HS0 _ rfl | exact HT.out _ (by repeat (first | exact Fr.refl _ _ | apply Fr.drew | refine Fr.alloc ?_ _))) ?_ ?_
                    rotate_left 1
                    · intro w; go_simp <;> with_reducible rfl
                    try simp only [Act.put, List.setIfInBounds_toArray, List.set_cons_zero, List.set_cons_succ]
                    refine rt_free 16 (v := ?_) rfl (by kernel_rfl) (by kernel_rfl) (by kernel_rfl) (by kernel_rfl) (fun _ _ _ h => h) (by rfl) (fun _ => by first | assumption | exact HS0 _ rfl | exact HT.out _ (by repeat (first | exact Fr.refl _ _ | apply Fr.drew | refine Fr.alloc ?_ _))) ?_ ?_
                    rotate_left 1
                    · intro w; go_simp <;> with_reducible rfl
                    try simp only [Act.put, List.setIfInBounds_toArray, List.set_cons_zero, List.set_cons_succ]
                    refine rt_done (by kernel_rfl) ?_
                    clear e0 e1 e3 d0 d1 j0 j1 hT0 hT1 hT5 t1 tk twj
                    cases lc
                    · have e6 : errDep (i1, i2) D k = 11 := EX.out.trans (if_pos rfl)
                      have e7 := EAT.out (by rw [e6]; decide)
                      rw [e6] at e7
                      have E7 := Lib.hid e7
                      clear e6 e7
                      go_wp2_with fail
                      go_ret
                      refine ⟨?_, (HF.out.trans HF2.out).trans F5.out⟩
                      rw [E7.out]
                      rfl
                    · have E8 := Lib.hid (EX.out.trans (if_neg (fun h => by cases h)))
                      go_wp2_with fail
                      go_roundw
                      case rel =>
                        refine ⟨k + 1, by omega, by go_num, fun j hj => ?_, HF2.out.trans F5.out⟩
                        rcases Nat.lt_or_ge j k with h | h
                        · exact hno.out j h
                        · obtain rfl : j = k := by omega
                          exact E8.out
                      case measure => simp [intOf]; omega
                  · have t1 : decide (0 < k) = false := decide_eq_false hk0
                    have e8 := ED.out.trans (if_neg (fun h => hk0 h.1))
                    have E8 := Lib.hid e8
                    clear hk0 e8
                    refine rt_start [] (At St) 17 (by kernel_rfl) rfl ?_
                    refine rt_free 0 (v := ?_) rfl (by kernel_rfl) (by kernel_rfl) (by kernel_rfl) (by kernel_rfl) (fun _ _ _ h => h) (by rfl) (fun _ => by first | assumption | exact HS0 _ rfl | exact HT.out _ (by repeat (first | exact Fr.refl _ _ | apply Fr.drew | refine Fr.alloc ?_ _))) ?_ ?_
                    rotate_left 1
                    · intro w; go_simp <;> with_reducible rfl
                    try simp only [Act.put, List.setIfInBounds_toArray, List.set_cons_zero, List.set_cons_succ]
                    refine rt_free 1 (v := ?_) rfl (by kernel_rfl) (by kernel_rfl) (by kernel_rfl) (by kernel_rfl) (fun _ _ _ h => h) (by rfl) (fun _ => by first | assumption | exact HS0 _ rfl | exact HT.out _ (by repeat (first | exact Fr.refl _ _ | apply Fr.drew | refine Fr.alloc ?_ _))) ?_ ?_
                    rotate_left 1
                    · intro w; go_simp <;> with_reducible rfl
                    try simp only [Act.put, List.setIfInBounds_toArray, List.set_cons_zero, List.set_cons_succ]
                    refine rt_free 2 (v := ?_) rfl (by kernel_rfl) (by kernel_rfl) (by kernel_rfl) (by kernel_rfl) (fun _ _ _ h => h) (by rfl) (fun _ => by first | assumption | exact HS0 _ rfl | exact HT.out _ (by repeat (first | exact Fr.refl _ _ | apply Fr.drew | refine Fr.alloc ?_ _))) ?_ ?_
                    rotate_left 1
                    · intro w; go_simp <;> with_reducible rfl
                    try simp only [Act.put, List.setIfInBounds_toArray, List.set_cons_zero, List.set_cons_succ]
                    refine rt_skip 3 rfl (by kernel_rfl) (by kernel_rfl) (by kernel_rfl) (by kernel_rfl) (fun _ _ _ h => h) (by rfl) (fun _ => by first | assumption | exact HS0 _ rfl | exact HT.out _ (by repeat (first | exact Fr.refl _ _ | apply Fr.drew | refine Fr.alloc ?_ _))) ?_
                    try simp only [Act.put, List.setIfInBounds_toArray, List.set_cons_zero, List.set_cons_succ]
                    refine rt_skip 4 rfl (by kernel_rfl) (by kernel_rfl) (by kernel_rfl) (by kernel_rfl) (fun _ _ _ h => h) (by rfl) (fun _ => by first | assumption | exact HS0 _ rfl | exact HT.out _ (by repeat (first | exact Fr.refl _ _ | apply Fr.drew | refine Fr.alloc ?_ _))) ?_
                    try simp only [Act.put, List.setIfInBounds_toArray, List.set_cons_zero, List.set_cons_succ]
                    refine rt_skip 5 rfl (by kernel_rfl) (by kernel_rfl) (by kernel_rfl) (by kernel_rfl) (fun _ _ _ h => h) (by rfl) (fun _ => by first | assumption | exact HS0 _ rfl | exact HT.out _ (by repeat (first | exact Fr.refl _ _ | apply Fr.drew | refine Fr.alloc ?_ _))) ?_
                    try simp only [Act.put, List.setIfInBounds_toArray, List.set_cons_zero, List.set_cons_succ]
                    refine rt_skip 6 rfl (by kernel_rfl) (by kernel_rfl) (by kernel_rfl) (by kernel_rfl) (fun _ _ _ h => h) (by rfl) (fun _ => by first | assumption | exact HS0 _ rfl | exact HT.out _ (by repeat (first | exact Fr.refl _ _ | apply Fr.drew | refine Fr.alloc ?_ _))) ?_
                    try simp only [Act.put, List.setIfInBounds_toArray, List.set_cons_zero, List.set_cons_succ]
                    refine rt_skip 7 rfl (by kernel_rfl) (by kernel_rfl) (by kernel_rfl) (by kernel_rfl) (fun _ _ _ h => h) (by rfl) (fun _ => by first | assumption | exact HS0 _ rfl | exact HT.out _ (by repeat (first | exact Fr.refl _ _ | apply Fr.drew | refine Fr.alloc ?_ _))) ?_
                    try simp only [Act.put, List.setIfInBounds_toArray, List.set_cons_zero, List.set_cons_succ]
                    refine rt_skip 8 rfl (by kernel_rfl) (by kernel_rfl) (by kernel_rfl) (by kernel_rfl) (fun _ _ _ h => h) (by rfl) (fun _ => by first | assumption | exact HS0 _ rfl | exact HT.out _ (by repeat (first | exact Fr.refl _ _ | apply Fr.drew | refine Fr.alloc ?_ _))) ?_
                    try simp only [Act.put, List.setIfInBounds_toArray, List.set_cons_zero, List.set_cons_succ]
                    refine rt_skip 9 rfl (by kernel_rfl) (by kernel_rfl) (by kernel_rfl) (by kernel_rfl) (fun _ _ _ h => h) (by rfl) (fun _ => by first | assumption | exact HS0 _ rfl | exact HT.out _ (by repeat (first | exact Fr.refl _ _ | apply Fr.drew | refine Fr.alloc ?_ _))) ?_
                    try simp only [Act.put, List.setIfInBounds_toArray, List.set_cons_zero, List.set_cons_succ]
                    refine rt_skip 10 rfl (by kernel_rfl) (by kernel_rfl) (by kernel_rfl) (by kernel_rfl) (fun _ _ _ h => h) (by rfl) (fun _ => by first | assumption | exact HS0 _ rfl | exact HT.out _ (by repeat (first | exact Fr.refl _ _ | apply Fr.drew | refine Fr.alloc ?_ _))) ?_
                    try simp only [Act.put, List.setIfInBounds_toArray, List.set_cons_zero, List.set_cons_succ]
                    refine rt_skip 11 rfl (by kernel_rfl) (by kernel_rfl) (by kernel_rfl) (by kernel_rfl) (fun _ _ _ h => h) (by rfl) (fun _ => by first | assumption | exact HS0 _ rfl | exact HT.out _ (by repeat (first | exact Fr.refl _ _ | apply Fr.drew | refine Fr.alloc ?_ _))) ?_
                    try simp only [Act.put, List.setIfInBounds_toArray, List.set_cons_zero, List.set_cons_succ]
                    refine rt_skip 12 rfl (by kernel_rfl) (by kernel_rfl) (by kernel_rfl) (by kernel_rfl) (fun _ _ _ h => h) (by rfl) (fun _ => by first | assumption | exact HS0 _ rfl | exact HT.out _ (by repeat (first | exact Fr.refl _ _ | apply Fr.drew | refine Fr.alloc ?_ _))) ?_
                    try simp only [Act.put, List.setIfInBounds_toArray, List.set_cons_zero, List.set_cons_succ]
                    refine rt_skip 13 rfl (by kernel_rfl) (by kernel_rfl) (by kernel_rfl) (by kernel_rfl) (fun _ _ _ h => h) (by rfl) (fun _ => by first | assumption | exact HS0 _ rfl | exact HT.out _ (by repeat (first | exact Fr.refl _ _ | apply Fr.drew | refine Fr.alloc ?_ _))) ?_
                    try simp only [Act.put, List.setIfInBounds_toArray, List.set_cons_zero, List.set_cons_succ]
                    refine rt_skip 14 rfl (by kernel_rfl) (by kernel_rfl) (by kernel_rfl) (by kernel_rfl) (fun _ _ _ h => h) (by rfl) (fun _ => by first | assumption | exact HS0 _ rfl | exact HT.out _ (by repeat (first | exact Fr.refl _ _ | apply Fr.drew | refine Fr.alloc ?_ _))) ?_
                    try simp only [Act.put, List.setIfInBounds_toArray, List.set_cons_zero, List.set_cons_succ]
                    refine rt_skip 15 rfl (by kernel_rfl) (by kernel_rfl) (by kernel_rfl) (by kernel_rfl) (fun _ _ _ h => h) (by rfl) (fun _ => by first | assumption | exact HS0 _ rfl | exact HT.out _ (by repeat (first | exact Fr.refl _ _ | apply Fr.drew | refine Fr.alloc ?_ _))) ?_
                    try simp only [Act.put, List.setIfInBounds_toArray, List.set_cons_zero, List.set_cons_succ]
                    refine rt_free 16 (v := ?_) rfl (by kernel_rfl) (by kernel_rfl) (by kernel_rfl) (by kernel_rfl) (fun _ _ _ h => h) (by rfl) (fun _ => by first | assumption | exact HS0 _ rfl | exact HT.out _ (by repeat (first | exact Fr.refl _ _ | apply Fr.drew | refine Fr.alloc ?_ _))) ?_ ?_
                    rotate_left 1
                    · intro w; go_simp <;> with_reducible rfl
                    try simp only [Act.put, List.setIfInBounds_toArray, List.set_cons_zero, List.set_cons_succ]
                    refine rt_done (by kernel_rfl) ?_
                    clear e0 e1 e3 d0 d1 hT0 hT1
                    go_wp2_with fail
                    go_roundw
                    case rel =>
                      refine ⟨k + 1, by omega, by go_num, fun j hj => ?_, HF2.out.drew.drew⟩
                      rcases Nat.lt_or_ge j k with h | h
                      · exact hno.out j h
                      · obtain rfl : j = k := by omega
                        exact E8.out
                    case measure => simp [intOf]; omega
              · have t0 : (errId (ida D k) != 0) = true := by simp [hz]
                have e6 : errDep (i1, i2) D k = errId (ida D k) := by unfold errDep; rw [if_neg hz]
                have e7 := EAT.out (by rw [e6]; exact hz)
                rw [e6] at e7
                have E7 := Lib.hid e7
                clear hz e6 e7
                go_wp2_with fail
                refine (ref_id (ida D k).1 (ida D k).2 _).mono ?_
                rintro r w3 ⟨rfl, hF3⟩
                rw [show (((ida D k).1, (ida D k).2) : Int × Int) = ida D k from rfl]
                go_wp2_with fail
                go_ret
                refine ⟨?_, (HF.out.trans HF2.out).trans hF3⟩
                rw [E7.out]
                rfl
            · have e1 : errDeps (i1, i2) D = 0 := E0.out.trans (fnz_zero _ _ _ fun j _ hj => hno.out j (by rw [HL.out] at hj; omega))
              have e2 : errRec ((i1, i2), q, D, B) = errBat B := by unfold errRec; rw [if_pos O0.out, if_pos e1]
              have E2 := Lib.hid e2
              obtain rfl : nd = k := by omega
              have tnn : decide (nd < nd) = false := decide_eq_false (by omega)
              clear e1 e2
              go_wp2_with fail
              refine (ref_bat Ab nb cb B _ (Kd.C_below HB.out ((HF.out.trans hG.out).below (fun _ _ h => h))) HG.out).mono ?_
              rintro r w2 ⟨rfl, hF2⟩
              go_wp2_with fail
              go_ret
              refine ⟨?_, (HF.out.trans hG.out).trans hF2⟩
              rw [E2.out]
              rfl
  · have t0 : (errId (i1, i2) != 0) = true := by simp [hid0]
    have e : errRec ((i1, i2), q, D, B) = errId (i1, i2) := by
      have : errOwn (i1, i2) q = errId (i1, i2) := if_neg hid0
      unfold errRec; rw [this, if_neg hid0]
    rw [e]
    clear e hid0
    go_enter Try.func13, Try.ntmps13
    go_wp2_with fail
    refine (ref_id i1 i2 _).mono ?_
    rintro r w1 ⟨rfl, hF1⟩
    have x0 := (hX.fr hF1 (fun h => h)).cell 0
    have x1 := (hX.fr hF1 (fun h => h)).cell 1
    have x2 := (hX.fr hF1 (fun h => h)).cell 2
    have x3 := (hX.fr hF1 (fun h => h)).cell 3
    have x4 := (hX.fr hF1 (fun h => h)).cell 4
    simp only [List.getElem?_toArray, List.getElem?_cons_zero, List.getElem?_cons_succ] at x0 x1 x2 x3 x4
    go_wp2_with fail
    refine (ref_id i1 i2 _).mono ?_
    rintro r w2 ⟨rfl, hF2⟩
    go_wp2_with fail
    go_ret
    exact ⟨rfl, (hF.trans hF1).trans hF2⟩
end Go.Proofs.Ytelfpnpplknlpaa
