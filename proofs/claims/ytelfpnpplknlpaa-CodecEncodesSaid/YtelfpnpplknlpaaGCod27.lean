/- Texts of Cod, merged (27 of 27): Enc11. -/
import Derived.Test.YtelfpnpplknlpaaGCod26
set_option linter.unusedVariables false
set_option linter.unusedSimpArgs false
/- The law CodecEncodes, walked. -/
namespace Go.Proofs.Ytelfpnpplknlpaa
open Go.RowKit
open Go.Proofs.YtelfpnpplknlpaaW.PrintWords

set_option maxRecDepth 100000 in
set_option maxHeartbeats 2000000 in
theorem lawEncodes11 (r : Rec) (Ad Ab : Option Addr) (cd cb : Nat) (w : World) (h : RecAt w r Ad Ab cd cb) (hg : RecGood r) :
    Calls Try.prog 5 #[recV r Ad Ab cd cb] w fun e w' => e = .returned (.bool true) ∧ Fr (fun _ => False) w w' := by
  obtain ⟨⟨i1, i2⟩, q, D, B⟩ := r
  have hlens := h.lens
  simp only at hlens
  obtain ⟨s1, s2⟩ := hlens
  have hF := (Fr.refl (fun _ => False) w).alloc (.cells #[.int .i64 i1, .int .i64 i2, .int .i64 q, .slice Ad D.length cd, .slice Ab B.length cb] 32)
  have HX := Lib.hid (Blk.new w 32 #[.int .i64 i1, .int .i64 i2, .int .i64 q, .slice Ad D.length cd, .slice Ab B.length cb])
  have HC := Lib.hid (cod_encode ((i1, i2), q, D, B) Ad Ab cd cb _ (h.fr hF) hg)
  have HF := Lib.hid hF
  have HA := Lib.hid h
  have HG := Lib.hid hg
  have HLN := Lib.hid h.lens
  have x0 := HX.out.cell 0
  have x1 := HX.out.cell 1
  have x2 := HX.out.cell 2
  have x3 := HX.out.cell 3
  have x4 := HX.out.cell 4
  simp only [List.getElem?_toArray, List.getElem?_cons_zero, List.getElem?_cons_succ] at x0 x1 x2 x3 x4
  clear hF h hg
  by_cases hD : 100 < D.length
  · have t1 : decide ((100 : Int) < (D.length : Int)) = true := decide_eq_true (by omega)
    have t1' : decide (100 < D.length) = true := decide_eq_true hD
    clear hD
    go_enter Try.func5, Try.ntmps5
    go_wp2_with fail
    refine (works11 _).mono ?_
    rintro r w3 ⟨rfl, hF3⟩
    have HF3 := Lib.hid (HF.out.trans hF3)
    clear hF3
    go_wp2_with fail
    go_ret
    exact ⟨rfl, HF3.out⟩
  have t1 : decide ((100 : Int) < (D.length : Int)) = false := decide_eq_false (by omega)
  have t1' : decide (100 < D.length) = false := decide_eq_false hD
  clear hD
  by_cases hB : 100 < B.length
  · have t2 : decide ((100 : Int) < (B.length : Int)) = true := decide_eq_true (by omega)
    have t2' : decide (100 < B.length) = true := decide_eq_true hB
    clear hB
    go_enter Try.func5, Try.ntmps5
    go_wp2_with fail
    refine (works11 _).mono ?_
    rintro r w3 ⟨rfl, hF3⟩
    have HF3 := Lib.hid (HF.out.trans hF3)
    clear hF3
    go_wp2_with fail
    go_ret
    exact ⟨rfl, HF3.out⟩
  have t2 : decide ((100 : Int) < (B.length : Int)) = false := decide_eq_false (by omega)
  have t2' : decide (100 < B.length) = false := decide_eq_false hB
  clear hB
  obtain ⟨e, he⟩ : ∃ e, e = errRec ((i1, i2), q, D, B) := ⟨_, rfl⟩
  have HE := Lib.hid he
  by_cases h0 : e = 0
  · have HZ := Lib.hid (show errRec ((i1, i2), q, D, B) = 0 from he.symm.trans h0)
    obtain ⟨S, hS⟩ : ∃ S, S = encRec ((i1, i2), q, D, B) ++ be8 (dOf (encRec ((i1, i2), q, D, B))) := ⟨_, rfl⟩
    have hsl : S.length ≤ 1008 := by rw [hS, List.length_append]; have h1 := encRec_len HZ.out; have h2 : (be8 (dOf (encRec ((i1, i2), q, D, B)))).length = 8 := rfl; omega
    have HSB := Lib.hid (show Byt S from by rw [hS]; exact (encRec_byt HZ.out).append (beTo_byt _ 8))
    have HDE := Lib.hid (show decR S = .ok (canonRec ((i1, i2), q, D, B)) from by rw [hS]; exact decR_enc HZ.out HG.out)
    have HSE := Lib.hid hS
    subst h0
    clear he hS
    go_enter Try.func5, Try.ntmps5
    go_wp2_with fail
    refine HC.out.mono ?_
    rintro r w1 ⟨hF1, _, h2⟩
    obtain ⟨v, rfl, ho⟩ := h2 HZ.out
    rw [← HSE.out] at ho
    obtain ⟨A1, c1, rfl, _⟩ := ho.reads
    have HO := Lib.hid ho
    have HX1 := Lib.hid (HX.out.fr hF1 (fun h => h))
    have HF1 := Lib.hid (HF.out.trans hF1)
    clear h2 ho hF1 x0 x1 x2 x3 x4
    have x0 := HX1.out.cell 0
    have x1 := HX1.out.cell 1
    have x2 := HX1.out.cell 2
    have x3 := HX1.out.cell 3
    have x4 := HX1.out.cell 4
    simp only [List.getElem?_toArray, List.getElem?_cons_zero, List.getElem?_cons_succ] at x0 x1 x2 x3 x4
    go_wp2_with fail
    refine (ref_check ((i1, i2), q, D, B) Ad Ab cd cb _ (HA.out.fr HF1.out) HG.out).mono ?_
    rintro r w2 ⟨rfl, hF2⟩
    rw [HZ.out]
    have HO2 := Lib.hid (HO.out.fr hF2 (fun _ _ _ h => h))
    have HX2 := Lib.hid (HX1.out.fr hF2 (fun h => h))
    have HF2 := Lib.hid (HF1.out.trans hF2)
    clear hF2 x0 x1 x2 x3 x4 t1 t1' t2 t2'
    go_wp2_with fail
    refine (cod_decode A1 S c1 w2 HO2.out.cap HO2.out.rdb HSB.out (by omega)).mono ?_
    rintro r w3 ⟨hF3, hm⟩
    rw [HDE.out] at hm
    obtain ⟨Ae, Af, ce, cf, rfl, hR3⟩ := hm
    obtain ⟨B', hB'⟩ : ∃ B', B' = B.map canonCmd := ⟨_, rfl⟩
    have hcr : canonRec ((i1, i2), q, D, B) = ((i1, i2), q, D, B') := by rw [hB']; rfl
    have HCR := Lib.hid hcr
    rw [hcr] at hR3
    rw [hcr]
    have hBn := Blk.new w3 32 #[.int .i64 i1, .int .i64 i2, .int .i64 q, .slice Ae D.length ce, .slice Af B'.length cf]
    have hF := (Fr.refl (fun _ => False) w3).alloc (.cells #[.int .i64 i1, .int .i64 i2, .int .i64 q, .slice Ae D.length ce, .slice Af B'.length cf] 32)
    have HB4 := Lib.hid hBn
    have HO4 := Lib.hid ((HO2.out.fr hF3 (fun _ _ _ h => h)).fr hF (fun _ _ _ h => h))
    have HX4 := Lib.hid ((HX2.out.fr hF3 (fun h => h)).fr hF (fun h => h))
    have HF4 := Lib.hid ((HF2.out.trans hF3).trans hF)
    have HR4 := Lib.hid (hR3.fr hF)
    clear hB' hcr hBn hF hF3 hR3
    go_wp2_with fail
    generalize World.alloc _ _ = w4 at HB4 HO4 HX4 HF4 HR4 ⊢
    generalize w3.heap.size = g4 at HB4 ⊢
    obtain ⟨gx, hgx⟩ : ∃ gx, gx = w.heap.size := ⟨_, rfl⟩
    rw [← hgx] at HX4 ⊢
    obtain ⟨St, hSt⟩ : ∃ St : World → Prop, St = Fr (fun _ => False) w4 := ⟨_, rfl⟩
    have HT := Lib.hid (show ∀ x, Fr (fun _ => False) w4 x → At St x from fun x hx => by unfold At; rw [hSt]; exact hx)
    have HTI := Lib.hid (show ∀ x, At St x → Fr (fun _ => False) w4 x from fun x hx => by have h1 := hx.out; rw [hSt] at h1; exact h1)
    have l0 : ∀ x, At St x → x.cell? ⟨gx, 0, none⟩ = some (.int .i64 i1) := fun x hx => ((HX4.out.fr (HTI.out x hx) (fun h => h)).cell 0)
    have l1 : ∀ x, At St x → x.cell? ⟨gx, 1, none⟩ = some (.int .i64 i2) := fun x hx => ((HX4.out.fr (HTI.out x hx) (fun h => h)).cell 1)
    have l2 : ∀ x, At St x → x.cell? ⟨gx, 2, none⟩ = some (.int .i64 q) := fun x hx => ((HX4.out.fr (HTI.out x hx) (fun h => h)).cell 2)
    have l3 : ∀ x, At St x → x.cell? ⟨gx, 3, none⟩ = some (.slice Ad D.length cd) := fun x hx => ((HX4.out.fr (HTI.out x hx) (fun h => h)).cell 3)
    have l4 : ∀ x, At St x → x.cell? ⟨gx, 4, none⟩ = some (.slice Ab B.length cb) := fun x hx => ((HX4.out.fr (HTI.out x hx) (fun h => h)).cell 4)
    have m0 : ∀ x, At St x → x.cell? ⟨g4, 0, none⟩ = some (.int .i64 i1) := fun x hx => ((HB4.out.fr (HTI.out x hx) (fun h => h)).cell 0)
    have m1 : ∀ x, At St x → x.cell? ⟨g4, 1, none⟩ = some (.int .i64 i2) := fun x hx => ((HB4.out.fr (HTI.out x hx) (fun h => h)).cell 1)
    have m2 : ∀ x, At St x → x.cell? ⟨g4, 2, none⟩ = some (.int .i64 q) := fun x hx => ((HB4.out.fr (HTI.out x hx) (fun h => h)).cell 2)
    have m3 : ∀ x, At St x → x.cell? ⟨g4, 3, none⟩ = some (.slice Ae D.length ce) := fun x hx => ((HB4.out.fr (HTI.out x hx) (fun h => h)).cell 3)
    have m4 : ∀ x, At St x → x.cell? ⟨g4, 4, none⟩ = some (.slice Af B'.length cf) := fun x hx => ((HB4.out.fr (HTI.out x hx) (fun h => h)).cell 4)
    have hcvb : ∀ x, At St x → (convert 22 9 (.slice A1 S.length c1)).run Try.prog x = .ok (.string (strOfNums S)) x := fun x hx => conv_str8 (HO4.out.fr (HTI.out x hx) (fun _ _ _ h => h)).rdb
    have hT0 : At St w4.drew := HT.out _ (Fr.refl _ _).drew
    clear hgx hSt
    refine rt_start [] (At St) 30 (by kernel_rfl) rfl ?_
    refine rt_free 0 (v := ?_) rfl (by kernel_rfl) (by kernel_rfl) (by kernel_rfl) (by kernel_rfl) (fun _ _ _ h => h) (by rfl) (fun _ => by first | assumption | exact HS0 _ rfl | exact HT.out _ (by repeat (first | exact Fr.refl _ _ | apply Fr.drew | refine Fr.alloc ?_ _))) ?_ ?_
    rotate_left 1
    · intro w; go_simp <;> with_reducible rfl
    try simp only [Act.put, List.setIfInBounds_toArray, List.set_cons_zero, List.set_cons_succ]
    refine rt_take 1 (v := ?_) rfl (by kernel_rfl) (by kernel_rfl) (by kernel_rfl) (by kernel_rfl) (fun _ _ _ h => h) (by rfl) (by first | assumption | exact HS0 _ rfl | exact HT.out _ (by repeat (first | exact Fr.refl _ _ | apply Fr.drew | refine Fr.alloc ?_ _))) ?_ ?_
    rotate_left 1
    · intro w hSw; go_simp <;> with_reducible rfl
    try simp only [Act.put, List.setIfInBounds_toArray, List.set_cons_zero, List.set_cons_succ]
    refine rt_take 2 (v := ?_) rfl (by kernel_rfl) (by kernel_rfl) (by kernel_rfl) (by kernel_rfl) (fun _ _ _ h => h) (by rfl) (by first | assumption | exact HS0 _ rfl | exact HT.out _ (by repeat (first | exact Fr.refl _ _ | apply Fr.drew | refine Fr.alloc ?_ _))) ?_ ?_
    rotate_left 1
    · intro w hSw; go_simp <;> with_reducible rfl
    try simp only [Act.put, List.setIfInBounds_toArray, List.set_cons_zero, List.set_cons_succ]
    refine rt_one 3 rfl (by kernel_rfl) (fun K hK => ?_)
    go_simp
    refine (ref_bytes11 ((i1, i2), q, D, B) Ad Ab cd cb _ (HA.out.fr (HF4.out.trans (Fr.refl (fun _ => False) w4).drew)) HG.out HZ.out).mono ?_
    rintro r w5 ⟨v5, rfl, ho5, hF5⟩
    rw [← HSE.out] at ho5
    obtain ⟨A5, c5, rfl, _⟩ := ho5.reads
    have hG5 := (Fr.refl (fun _ => False) w4).drew.trans hF5
    have hT5 := HT.out _ hG5
    have hcv5 := conv_str8 (c := c5) ho5.rdb
    have HG5 := Lib.hid hG5
    clear ho5 hF5 hG5 hT0
    refine hK.out (At St) _ _ (fun _ h => h) (fun _ => by (assumption)) ?_
    clear hK K
    try simp only [Act.put, List.setIfInBounds_toArray, List.set_cons_zero, List.set_cons_succ]
    refine rt_one 4 rfl (by kernel_rfl) (fun K hK => ?_)
    go_simp
    refine hK.out (At St) _ _ (fun _ h => h) (fun _ => by (assumption)) ?_
    clear hK K
    try simp only [Act.put, List.setIfInBounds_toArray, List.set_cons_zero, List.set_cons_succ]
    refine rt_free 5 (v := ?_) rfl (by kernel_rfl) (by kernel_rfl) (by kernel_rfl) (by kernel_rfl) (fun _ _ _ h => h) (by rfl) (fun _ => by first | assumption | exact HS0 _ rfl | exact HT.out _ (by repeat (first | exact Fr.refl _ _ | apply Fr.drew | refine Fr.alloc ?_ _))) ?_ ?_
    rotate_left 1
    · intro w; go_simp <;> with_reducible rfl
    try simp only [Act.put, List.setIfInBounds_toArray, List.set_cons_zero, List.set_cons_succ]
    refine rt_free 6 (v := ?_) rfl (by kernel_rfl) (by kernel_rfl) (by kernel_rfl) (by kernel_rfl) (fun _ _ _ h => h) (by rfl) (fun _ => by first | assumption | exact HS0 _ rfl | exact HT.out _ (by repeat (first | exact Fr.refl _ _ | apply Fr.drew | refine Fr.alloc ?_ _))) ?_ ?_
    rotate_left 1
    · intro w; go_simp <;> with_reducible rfl
    try simp only [Act.put, List.setIfInBounds_toArray, List.set_cons_zero, List.set_cons_succ]
    refine rt_free 7 (v := ?_) rfl (by kernel_rfl) (by kernel_rfl) (by kernel_rfl) (by kernel_rfl) (fun _ _ _ h => h) (by rfl) (fun _ => by first | assumption | exact HS0 _ rfl | exact HT.out _ (by repeat (first | exact Fr.refl _ _ | apply Fr.drew | refine Fr.alloc ?_ _))) ?_ ?_
    rotate_left 1
    · intro w; go_simp <;> with_reducible rfl
    try simp only [Act.put, List.setIfInBounds_toArray, List.set_cons_zero, List.set_cons_succ]
    refine rt_free 8 (v := ?_) rfl (by kernel_rfl) (by kernel_rfl) (by kernel_rfl) (by kernel_rfl) (fun _ _ _ h => h) (by rfl) (fun _ => by first | assumption | exact HS0 _ rfl | exact HT.out _ (by repeat (first | exact Fr.refl _ _ | apply Fr.drew | refine Fr.alloc ?_ _))) ?_ ?_
    rotate_left 1
    · intro w; go_simp <;> with_reducible rfl
    try simp only [Act.put, List.setIfInBounds_toArray, List.set_cons_zero, List.set_cons_succ]
    refine rt_free 9 (v := ?_) rfl (by kernel_rfl) (by kernel_rfl) (by kernel_rfl) (by kernel_rfl) (fun _ _ _ h => h) (by rfl) (fun _ => by first | assumption | exact HS0 _ rfl | exact HT.out _ (by repeat (first | exact Fr.refl _ _ | apply Fr.drew | refine Fr.alloc ?_ _))) ?_ ?_
    rotate_left 1
    · intro w; go_simp <;> with_reducible rfl
    try simp only [Act.put, List.setIfInBounds_toArray, List.set_cons_zero, List.set_cons_succ]
    refine rt_free 10 (v := ?_) rfl (by kernel_rfl) (by kernel_rfl) (by kernel_rfl) (by kernel_rfl) (fun _ _ _ h => h) (by rfl) (fun _ => by first | assumption | exact HS0 _ rfl | exact HT.out _ (by repeat (first | exact Fr.refl _ _ | apply Fr.drew | refine Fr.alloc ?_ _))) ?_ ?_
    rotate_left 1
    · intro w; go_simp <;> with_reducible rfl
    try simp only [Act.put, List.setIfInBounds_toArray, List.set_cons_zero, List.set_cons_succ]
    refine rt_take 11 (v := ?_) rfl (by kernel_rfl) (by kernel_rfl) (by kernel_rfl) (by kernel_rfl) (fun _ _ _ h => h) (by rfl) (by first | assumption | exact HS0 _ rfl | exact HT.out _ (by repeat (first | exact Fr.refl _ _ | apply Fr.drew | refine Fr.alloc ?_ _))) ?_ ?_
    rotate_left 1
    · intro w hSw; go_simp <;> with_reducible rfl
    try simp only [Act.put, List.setIfInBounds_toArray, List.set_cons_zero, List.set_cons_succ]
    refine rt_free 13 (v := ?_) rfl (by kernel_rfl) (by kernel_rfl) (by kernel_rfl) (by kernel_rfl) (fun _ _ _ h => h) (by rfl) (fun _ => by first | assumption | exact HS0 _ rfl | exact HT.out _ (by repeat (first | exact Fr.refl _ _ | apply Fr.drew | refine Fr.alloc ?_ _))) ?_ ?_
    rotate_left 1
    · intro w; go_simp <;> with_reducible rfl
    try simp only [Act.put, List.setIfInBounds_toArray, List.set_cons_zero, List.set_cons_succ]
    refine rt_free 14 (v := ?_) rfl (by kernel_rfl) (by kernel_rfl) (by kernel_rfl) (by kernel_rfl) (fun _ _ _ h => h) (by rfl) (fun _ => by first | assumption | exact HS0 _ rfl | exact HT.out _ (by repeat (first | exact Fr.refl _ _ | apply Fr.drew | refine Fr.alloc ?_ _))) ?_ ?_
    rotate_left 1
    · intro w; go_simp <;> with_reducible rfl
    try simp only [Act.put, List.setIfInBounds_toArray, List.set_cons_zero, List.set_cons_succ]
    refine rt_one 12 rfl (by kernel_rfl) (fun K hK => ?_)
    go_simp
    refine (cod_size ((i1, i2), q, D, B) Ad Ab cd cb _ (HA.out.fr (HF4.out.trans HG5.out)) HG.out).mono ?_
    rintro r w6 ⟨rfl, hF6⟩
    rw [if_pos HZ.out, ← HSE.out]
    have hG6 := HG5.out.trans hF6
    have hT6 := HT.out _ hG6
    have HG6 := Lib.hid hG6
    clear hF6 hG6 hT5 hcv5
    refine hK.out (At St) _ _ (fun _ h => h) (fun _ => by (assumption)) ?_
    clear hK K
    try simp only [Act.put, List.setIfInBounds_toArray, List.set_cons_zero, List.set_cons_succ]
    refine rt_free 15 (v := ?_) rfl (by kernel_rfl) (by kernel_rfl) (by kernel_rfl) (by kernel_rfl) (fun _ _ _ h => h) (by rfl) (fun _ => by first | assumption | exact HS0 _ rfl | exact HT.out _ (by repeat (first | exact Fr.refl _ _ | apply Fr.drew | refine Fr.alloc ?_ _))) ?_ ?_
    rotate_left 1
    · intro w; go_simp <;> with_reducible rfl
    try simp only [Act.put, List.setIfInBounds_toArray, List.set_cons_zero, List.set_cons_succ]
    refine rt_free 16 (v := ?_) rfl (by kernel_rfl) (by kernel_rfl) (by kernel_rfl) (by kernel_rfl) (fun _ _ _ h => h) (by rfl) (fun _ => by first | assumption | exact HS0 _ rfl | exact HT.out _ (by repeat (first | exact Fr.refl _ _ | apply Fr.drew | refine Fr.alloc ?_ _))) ?_ ?_
    rotate_left 1
    · intro w; go_simp <;> with_reducible rfl
    try simp only [Act.put, List.setIfInBounds_toArray, List.set_cons_zero, List.set_cons_succ]
    refine rt_free 17 (v := ?_) rfl (by kernel_rfl) (by kernel_rfl) (by kernel_rfl) (by kernel_rfl) (fun _ _ _ h => h) (by rfl) (fun _ => by first | assumption | exact HS0 _ rfl | exact HT.out _ (by repeat (first | exact Fr.refl _ _ | apply Fr.drew | refine Fr.alloc ?_ _))) ?_ ?_
    rotate_left 1
    · intro w; go_simp <;> with_reducible rfl
    try simp only [Act.put, List.setIfInBounds_toArray, List.set_cons_zero, List.set_cons_succ]
    refine rt_free 18 (v := ?_) rfl (by kernel_rfl) (by kernel_rfl) (by kernel_rfl) (by kernel_rfl) (fun _ _ _ h => h) (by rfl) (fun _ => by first | assumption | exact HS0 _ rfl | exact HT.out _ (by repeat (first | exact Fr.refl _ _ | apply Fr.drew | refine Fr.alloc ?_ _))) ?_ ?_
    rotate_left 1
    · intro w; go_simp <;> with_reducible rfl
    try simp only [Act.put, List.setIfInBounds_toArray, List.set_cons_zero, List.set_cons_succ]
    refine rt_free 19 (v := ?_) rfl (by kernel_rfl) (by kernel_rfl) (by kernel_rfl) (by kernel_rfl) (fun _ _ _ h => h) (by rfl) (fun _ => by first | assumption | exact HS0 _ rfl | exact HT.out _ (by repeat (first | exact Fr.refl _ _ | apply Fr.drew | refine Fr.alloc ?_ _))) ?_ ?_
    rotate_left 1
    · intro w; go_simp <;> with_reducible rfl
    try simp only [Act.put, List.setIfInBounds_toArray, List.set_cons_zero, List.set_cons_succ]
    refine rt_free 20 (v := ?_) rfl (by kernel_rfl) (by kernel_rfl) (by kernel_rfl) (by kernel_rfl) (fun _ _ _ h => h) (by rfl) (fun _ => by first | assumption | exact HS0 _ rfl | exact HT.out _ (by repeat (first | exact Fr.refl _ _ | apply Fr.drew | refine Fr.alloc ?_ _))) ?_ ?_
    rotate_left 1
    · intro w; go_simp <;> with_reducible rfl
    try simp only [Act.put, List.setIfInBounds_toArray, List.set_cons_zero, List.set_cons_succ]
    refine rt_free 21 (v := ?_) rfl (by kernel_rfl) (by kernel_rfl) (by kernel_rfl) (by kernel_rfl) (fun _ _ _ h => h) (by rfl) (fun _ => by first | assumption | exact HS0 _ rfl | exact HT.out _ (by repeat (first | exact Fr.refl _ _ | apply Fr.drew | refine Fr.alloc ?_ _))) ?_ ?_
    rotate_left 1
    · intro w; go_simp <;> with_reducible rfl
    try simp only [Act.put, List.setIfInBounds_toArray, List.set_cons_zero, List.set_cons_succ]
    refine rt_take 22 (v := ?_) rfl (by kernel_rfl) (by kernel_rfl) (by kernel_rfl) (by kernel_rfl) (fun _ _ _ h => h) (by rfl) (by first | assumption | exact HS0 _ rfl | exact HT.out _ (by repeat (first | exact Fr.refl _ _ | apply Fr.drew | refine Fr.alloc ?_ _))) ?_ ?_
    rotate_left 1
    · intro w hSw; go_simp <;> with_reducible rfl
    try simp only [Act.put, List.setIfInBounds_toArray, List.set_cons_zero, List.set_cons_succ]
    refine rt_take 23 (v := ?_) rfl (by kernel_rfl) (by kernel_rfl) (by kernel_rfl) (by kernel_rfl) (fun _ _ _ h => h) (by rfl) (by first | assumption | exact HS0 _ rfl | exact HT.out _ (by repeat (first | exact Fr.refl _ _ | apply Fr.drew | refine Fr.alloc ?_ _))) ?_ ?_
    rotate_left 1
    · intro w hSw; go_simp <;> with_reducible rfl
    try simp only [Act.put, List.setIfInBounds_toArray, List.set_cons_zero, List.set_cons_succ]
    refine rt_one 24 rfl (by kernel_rfl) (fun K hK => ?_)
    go_simp
    refine (ref_rec ((i1, i2), q, D, B') ((i1, i2), q, D, B) Ae Af Ad Ab ce cf cd cb _ (HR4.out.fr HG6.out) (HA.out.fr (HF4.out.trans HG6.out)) HLN.out.1 (HR4.out.lens.2) HLN.out.1 HLN.out.2 (fun x hx => by have h1 := (decR_ok HSB.out HDE.out).2.2.2; rw [HCR.out] at h1; exact (h1 x hx).2) (fun x hx => (HG.out x hx).2)).mono ?_
    rintro r w7 ⟨rfl, hF7⟩
    rw [cdec_true (by rw [← HCR.out]; exact recS_canon rfl (fun x hx => (HG.out x hx).2))]
    have hG7 := HG6.out.trans hF7
    have hT7 := HT.out _ hG7
    have HG7 := Lib.hid hG7
    clear hF7 hG7 hT6
    refine hK.out (At St) _ _ (fun _ h => h) (fun _ => by (assumption)) ?_
    clear hK K
    try simp only [Act.put, List.setIfInBounds_toArray, List.set_cons_zero, List.set_cons_succ]
    refine rt_free 25 (v := ?_) rfl (by kernel_rfl) (by kernel_rfl) (by kernel_rfl) (by kernel_rfl) (fun _ _ _ h => h) (by rfl) (fun _ => by first | assumption | exact HS0 _ rfl | exact HT.out _ (by repeat (first | exact Fr.refl _ _ | apply Fr.drew | refine Fr.alloc ?_ _))) ?_ ?_
    rotate_left 1
    · intro w; go_simp <;> with_reducible rfl
    try simp only [Act.put, List.setIfInBounds_toArray, List.set_cons_zero, List.set_cons_succ]
    refine rt_free 26 (v := ?_) rfl (by kernel_rfl) (by kernel_rfl) (by kernel_rfl) (by kernel_rfl) (fun _ _ _ h => h) (by rfl) (fun _ => by first | assumption | exact HS0 _ rfl | exact HT.out _ (by repeat (first | exact Fr.refl _ _ | apply Fr.drew | refine Fr.alloc ?_ _))) ?_ ?_
    rotate_left 1
    · intro w; go_simp <;> with_reducible rfl
    try simp only [Act.put, List.setIfInBounds_toArray, List.set_cons_zero, List.set_cons_succ]
    refine rt_one 27 rfl (by kernel_rfl) (fun K hK => ?_)
    go_simp
    refine (works11 _).mono ?_
    rintro r w8 ⟨rfl, hF8⟩
    have hG8 := HG7.out.trans hF8
    have hT8 := HT.out _ hG8
    have HG8 := Lib.hid hG8
    clear hF8 hG8 hT7
    refine hK.out (At St) _ _ (fun _ h => h) (fun _ => by (assumption)) ?_
    clear hK K
    try simp only [Act.put, List.setIfInBounds_toArray, List.set_cons_zero, List.set_cons_succ]
    refine rt_free 28 (v := ?_) rfl (by kernel_rfl) (by kernel_rfl) (by kernel_rfl) (by kernel_rfl) (fun _ _ _ h => h) (by rfl) (fun _ => by first | assumption | exact HS0 _ rfl | exact HT.out _ (by repeat (first | exact Fr.refl _ _ | apply Fr.drew | refine Fr.alloc ?_ _))) ?_ ?_
    rotate_left 1
    · intro w; go_simp <;> with_reducible rfl
    try simp only [Act.put, List.setIfInBounds_toArray, List.set_cons_zero, List.set_cons_succ]
    refine rt_free 29 (v := ?_) rfl (by kernel_rfl) (by kernel_rfl) (by kernel_rfl) (by kernel_rfl) (fun _ _ _ h => h) (by rfl) (fun _ => by first | assumption | exact HS0 _ rfl | exact HT.out _ (by repeat (first | exact Fr.refl _ _ | apply Fr.drew | refine Fr.alloc ?_ _))) ?_ ?_
    rotate_left 1
    · intro w; go_simp <;> with_reducible rfl
    try simp only [Act.put, List.setIfInBounds_toArray, List.set_cons_zero, List.set_cons_succ]
    refine rt_done (by kernel_rfl) ?_
    go_wp2_with fail
    first | go_ret | skip
    exact ⟨rfl, HF4.out.trans HG8.out⟩
  · have te : (e != 0) = true := by simpa using h0
    have tee : (e == e) = true := beq_self_eq_true _
    have HN := Lib.hid (show errRec ((i1, i2), q, D, B) ≠ 0 from fun h => h0 (he.trans h))
    clear h0 he
    go_enter Try.func5, Try.ntmps5
    go_wp2_with fail
    refine HC.out.mono ?_
    rintro r w1 ⟨hF1, h1, _⟩
    obtain rfl := h1 HN.out
    rw [← HE.out]
    have HX1 := Lib.hid (HX.out.fr hF1 (fun h => h))
    have HF1 := Lib.hid (HF.out.trans hF1)
    clear h1 hF1 x0 x1 x2 x3 x4
    have x0 := HX1.out.cell 0
    have x1 := HX1.out.cell 1
    have x2 := HX1.out.cell 2
    have x3 := HX1.out.cell 3
    have x4 := HX1.out.cell 4
    simp only [List.getElem?_toArray, List.getElem?_cons_zero, List.getElem?_cons_succ] at x0 x1 x2 x3 x4
    go_wp2_with fail
    refine (ref_check ((i1, i2), q, D, B) Ad Ab cd cb _ (HA.out.fr HF1.out) HG.out).mono ?_
    rintro r w2 ⟨rfl, hF2⟩
    rw [← HE.out]
    have HX2 := Lib.hid (HX1.out.fr hF2 (fun h => h))
    have HF2 := Lib.hid (HF1.out.trans hF2)
    clear hF2 x0 x1 x2 x3 x4 t1 t1' t2 t2'
    have x0 := HX2.out.cell 0
    have x1 := HX2.out.cell 1
    have x2 := HX2.out.cell 2
    have x3 := HX2.out.cell 3
    have x4 := HX2.out.cell 4
    simp only [List.getElem?_toArray, List.getElem?_cons_zero, List.getElem?_cons_succ] at x0 x1 x2 x3 x4
    go_wp2_with fail
    refine (cod_size ((i1, i2), q, D, B) Ad Ab cd cb _ (HA.out.fr HF2.out) HG.out).mono ?_
    rintro r w3 ⟨rfl, hF3⟩
    rw [if_neg HN.out]
    have HF3 := Lib.hid (HF2.out.trans hF3)
    clear hF3 x0 x1 x2 x3 x4
    go_wp2_with fail
    refine (works11 _).mono ?_
    rintro r w4 ⟨rfl, hF4⟩
    have HF4 := Lib.hid (HF3.out.trans hF4)
    clear hF4
    go_wp2_with fail
    first | go_ret | skip
    exact ⟨rfl, HF4.out⟩
end Go.Proofs.Ytelfpnpplknlpaa
