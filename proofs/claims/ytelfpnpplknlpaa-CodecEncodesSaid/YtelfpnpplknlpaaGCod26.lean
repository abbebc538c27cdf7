/- Texts of Cod, merged (26 of 27): Dec11. -/
import Derived.Test.YtelfpnpplknlpaaGCod25
set_option linter.unusedVariables false
set_option linter.unusedSimpArgs false
/- The law CodecDecodes, walked. -/
namespace Go.Proofs.Ytelfpnpplknlpaa
open Go.RowKit
open Go.Proofs.YtelfpnpplknlpaaW.PrintWords

theorem recAt_zero (w : World) : RecAt w ((0, 0), 0, [], []) none none 0 0 := ⟨Nat.le_refl _, Nat.le_refl _, Kd.C_nil _ _, Kd.C_nil _ _⟩
theorem RecAt.lens {w : World} {r : Rec} {Ad Ab : Option Addr} {cd cb : Nat} (h : RecAt w r Ad Ab cd cb) : r.2.2.1.length ≤ 9223372036854775807 ∧ r.2.2.2.length ≤ 9223372036854775807 := ⟨h.deps.2.1, h.batch.2.1⟩
set_option maxRecDepth 100000 in
theorem lawDecodes_long (A : Option Addr) (n c : Nat) (s : Bool) (w : World) (hl : 2000 < n) (hn : n ≤ 9223372036854775807) :
    Calls Try.prog 3 #[.slice A n c, .bool s] w fun r w' => r = .returned (.bool true) ∧ Fr (fun _ => False) w w' := by
  have tl : decide ((2000 : Int) < (n : Int)) = true := decide_eq_true (by omega)
  have tl' : decide (2000 < n) = true := decide_eq_true hl
  go_enter Try.func3, Try.ntmps3
  go_wp2_with fail
  refine (works11 _).mono ?_
  rintro r w4 ⟨rfl, F4⟩
  go_wp2_with fail
  go_ret
  exact ⟨rfl, F4⟩
set_option maxRecDepth 100000 in
set_option maxHeartbeats 2000000 in
theorem lawDecodes11 (A : Option Addr) (l : List Int) (c : Nat) (s : Bool) (w : World) (hl : l.length ≤ 2000) (hc : l.length ≤ c) (hr : RdB w A l) (hx : Byt l) :
    Calls Try.prog 3 #[.slice A l.length c, .bool s] w fun r w' => r = .returned (.bool true) ∧ Fr (fun _ => False) w w' := by
  have tl : decide ((2000 : Int) < (l.length : Int)) = false := decide_eq_false (by omega)
  have tl' : decide (2000 < l.length) = false := decide_eq_false (by omega)
  have hb1 : ([] : List Int).length + l.length ≤ 140737488355328 := by simp; omega
  have HHR := Lib.hid hr
  have HXL := Lib.hid hx
  have HLL := Lib.hid hl
  have hr0 : RdB (w.alloc (.cells #[] 5)) A l := hr.fr ((Fr.refl (fun _ => False) _).alloc _) (fun _ _ h => h)
  have F0 : Fr (fun _ => False) w (w.alloc (.cells #[] 5)) := (Fr.refl _ _).alloc _
  have ho0 := ow_lit0 w
  have hs0 : w.heap.size ≤ (w.alloc (.cells #[] 5)).heap.size := F0.size
  clear hr hx
  cases s with
  | false =>
    have HXX := Lib.hid (show Byt l ∧ l.length ≤ 2008 from ⟨HXL.out, by have := HLL.out; omega⟩)
    go_enter Try.func3, Try.ntmps3
    go_wp2_with (at_builtin; first | (refine append8_row w.heap.size rfl _ _ rfl (.slice (some ⟨w.heap.size, 0, none⟩) 0 0) [] l A c rfl rfl ho0 hr0 hs0 hb1 ?_; intro v1 w1 hown hF; simp only [List.nil_append] at hown; have F1 : Fr (fun _ => False) w w1 := F0.trans' hF (fun i hi hk => by have := hk.1; omega); clear F0 hF ho0 hr0 hs0 tl tl' hb1; obtain ⟨A1, c1, rfl, _⟩ := hown.reads; have HO1 := Lib.hid hown; have HF1 := Lib.hid F1; clear hown F1; have hX2 : l.length ≤ 2008 := HXX.out.2; have hc0 := ow_lit0 w1; have fc0 : Fr (fun _ => False) w1 (w1.alloc (.cells #[] 5)) := (Fr.refl _ _).alloc _; have hcr : RdB (w1.alloc (.cells #[] 5)) A1 l := HO1.out.rdb.fr fc0 (fun _ _ h => h); have hcs : w1.heap.size ≤ (w1.alloc (.cells #[] 5)).heap.size := fc0.size; have hcb : ([] : List Int).length + l.length ≤ 140737488355328 := by simp; omega) | (refine append8_row w1.heap.size rfl _ _ rfl (.slice (some ⟨w1.heap.size, 0, none⟩) 0 0) [] l A1 c1 rfl rfl hc0 hcr hcs hcb ?_; intro v2 w2 hown hF; simp only [List.nil_append] at hown; obtain ⟨A2, c2, rfl, _⟩ := hown.reads; have HO2 := Lib.hid hown; have HF2 := Lib.hid (HF1.out.trans (fc0.trans' hF (fun i hi hk => by have := hk.1; omega))); have HOX := Lib.hid (HO1.out.fr (fc0.trans' (S := fun _ => False) hF (fun i hi hk => by have := hk.1; omega)) (fun _ _ _ h => h)); clear hown hF))
    clear hc0 fc0 hcr hcs hcb
    refine (cod_decode A2 l c2 w2 HO2.out.cap HO2.out.rdb HXX.out.1 (by omega)).mono ?_
    rintro r w3 ⟨hF3, hm⟩
    have HF3 := Lib.hid (HF2.out.trans hF3)
    have HOX3 := Lib.hid (HOX.out.fr hF3 (fun _ _ _ h => h))
    clear hF3 HO2 HOX
    cases hd : decR l with
    | error e =>
      rw [hd] at hm
      subst hm
      have he0 := decR_ne hd
      have te : (e != 0) = true := by simpa using he0
      have tee : (e != e) = false := by simp
      have hB := Blk.new w3 32 #[.int .i64 0, .int .i64 0, .int .i64 0, .slice none 0 0, .slice none 0 0]
      have hF := (Fr.refl (fun _ => False) w3).alloc (.cells #[.int .i64 0, .int .i64 0, .int .i64 0, .slice none 0 0, .slice none 0 0] 32)
      have HB4 := Lib.hid hB
      have HF4 := Lib.hid (HF3.out.trans hF)
      have HOX4 := Lib.hid (HOX3.out.fr hF (fun _ _ _ h => h))
      have HD := Lib.hid hd
      clear hB hF hd he0
      go_wp2_with fail
      generalize World.alloc _ _ = w4 at HB4 HF4 HOX4 ⊢
      generalize w3.heap.size = g4 at HB4 ⊢
      refine (ref_read11 A1 l c1 w4 HOX4.out.cap HOX4.out.rdb HXX.out.1 (by omega)).mono ?_
      rintro r w5 ⟨hF5, hm⟩
      rw [HD.out] at hm
      subst hm
      have hB := Blk.new w5 32 #[.int .i64 0, .int .i64 0, .int .i64 0, .slice none 0 0, .slice none 0 0]
      have hF := (Fr.refl (fun _ => False) w5).alloc (.cells #[.int .i64 0, .int .i64 0, .int .i64 0, .slice none 0 0, .slice none 0 0] 32)
      have HB6 := Lib.hid ((HB4.out.fr hF5 (fun h => h)).fr hF (fun h => h))
      have HF6 := Lib.hid ((HF4.out.trans hF5).trans hF)
      have HC6 := Lib.hid hB
      have x0 := HB6.out.cell 0
      have x1 := HB6.out.cell 1
      have x2 := HB6.out.cell 2
      have x3 := HB6.out.cell 3
      have x4 := HB6.out.cell 4
      have y0 := HC6.out.cell 0
      have y1 := HC6.out.cell 1
      have y2 := HC6.out.cell 2
      have y3 := HC6.out.cell 3
      have y4 := HC6.out.cell 4
      simp only [List.getElem?_toArray, List.getElem?_cons_zero, List.getElem?_cons_succ] at x0 x1 x2 x3 x4 y0 y1 y2 y3 y4
      clear hB hF hF5
      go_wp2_with fail
      refine (ref_rec ((0, 0), 0, [], []) ((0, 0), 0, [], []) none none none none 0 0 0 0 _ (recAt_zero _) (recAt_zero _) (by decide) (by decide) (by decide) (by decide) (fun x h => by cases h) (fun x h => by cases h)).mono ?_
      rintro r w7 ⟨rfl, hF7⟩
      rw [cdec_true (recS_refl _)]
      have HF7 := Lib.hid (HF6.out.trans hF7)
      clear hF7 x0 x1 x2 x3 x4 y0 y1 y2 y3 y4
      go_wp2_with fail
      refine (works11 _).mono ?_
      rintro r w8 ⟨rfl, hF8⟩
      have HF8 := Lib.hid (HF7.out.trans hF8)
      clear hF8
      go_wp2_with fail
      go_ret
      exact ⟨rfl, HF8.out⟩
    | ok R =>
      rw [hd] at hm
      obtain ⟨Ad, Ab, cd, cb, rfl, hR3⟩ := hm
      obtain ⟨e1, e2, e3, e4⟩ := decR_ok HXX.out.1 hd
      have HD := Lib.hid hd
      have HE := Lib.hid (And.intro e1 (And.intro e2 (And.intro e3 e4)))
      obtain ⟨⟨i1, i2⟩, q, D, B⟩ := R
      have hB := Blk.new w3 32 #[.int .i64 i1, .int .i64 i2, .int .i64 q, .slice Ad D.length cd, .slice Ab B.length cb]
      have hF := (Fr.refl (fun _ => False) w3).alloc (.cells #[.int .i64 i1, .int .i64 i2, .int .i64 q, .slice Ad D.length cd, .slice Ab B.length cb] 32)
      have HB4 := Lib.hid hB
      have HF4 := Lib.hid (HF3.out.trans hF)
      have HOX4 := Lib.hid (HOX3.out.fr hF (fun _ _ _ h => h))
      have HR4 := Lib.hid (hR3.fr hF)
      clear hB hF hd e1 e2 e3 e4 hR3
      go_wp2_with fail
      generalize World.alloc _ _ = w4 at HB4 HF4 HOX4 HR4 ⊢
      generalize w3.heap.size = g4 at HB4 ⊢
      refine (ref_read11 A1 l c1 w4 HOX4.out.cap HOX4.out.rdb HXX.out.1 (by omega)).mono ?_
      rintro r w5 ⟨hF5, hm⟩
      rw [HD.out] at hm
      obtain ⟨⟨⟨j1, j2⟩, q', D', B'⟩, Ae, Af, ce, cf, rfl, hcan, hgd, hR5⟩ := hm
      have hB := Blk.new w5 32 #[.int .i64 j1, .int .i64 j2, .int .i64 q', .slice Ae D'.length ce, .slice Af B'.length cf]
      have hF := (Fr.refl (fun _ => False) w5).alloc (.cells #[.int .i64 j1, .int .i64 j2, .int .i64 q', .slice Ae D'.length ce, .slice Af B'.length cf] 32)
      have HB6 := Lib.hid ((HB4.out.fr hF5 (fun h => h)).fr hF (fun h => h))
      have HF6 := Lib.hid ((HF4.out.trans hF5).trans hF)
      have HC6 := Lib.hid hB
      have HR6 := Lib.hid ((HR4.out.fr hF5).fr hF)
      have HRR6 := Lib.hid (hR5.fr hF)
      have HOX6 := Lib.hid ((HOX4.out.fr hF5 (fun _ _ _ h => h)).fr hF (fun _ _ _ h => h))
      have HSM := Lib.hid (recS_canon hcan (fun x hx => (hgd x hx).2))
      have HGD := Lib.hid hgd
      have x0 := HB6.out.cell 0
      have x1 := HB6.out.cell 1
      have x2 := HB6.out.cell 2
      have x3 := HB6.out.cell 3
      have x4 := HB6.out.cell 4
      have y0 := HC6.out.cell 0
      have y1 := HC6.out.cell 1
      have y2 := HC6.out.cell 2
      have y3 := HC6.out.cell 3
      have y4 := HC6.out.cell 4
      simp only [List.getElem?_toArray, List.getElem?_cons_zero, List.getElem?_cons_succ] at x0 x1 x2 x3 x4 y0 y1 y2 y3 y4
      clear hB hF hF5 hcan hgd hR5 HR4 HB4
      go_wp2_with fail
      refine (ref_rec ((i1, i2), q, D, B) ((j1, j2), q', D', B') Ad Ab Ae Af cd cb ce cf _ HR6.out HRR6.out HR6.out.lens.1 HR6.out.lens.2 HRR6.out.lens.1 HRR6.out.lens.2 (fun x h => (HE.out.2.2.2 x h).2) (fun x h => (HGD.out x h).2)).mono ?_
      rintro r w7 ⟨rfl, hF7⟩
      rw [cdec_true HSM.out]
      have HF7 := Lib.hid (HF6.out.trans hF7)
      have HB7 := Lib.hid (HB6.out.fr hF7 (fun h => h))
      have HR7 := Lib.hid (HR6.out.fr hF7)
      have HOX7 := Lib.hid (HOX6.out.fr hF7 (fun _ _ _ h => h))
      clear hF7 x0 x1 x2 x3 x4 y0 y1 y2 y3 y4
      have x0 := HB7.out.cell 0
      have x1 := HB7.out.cell 1
      have x2 := HB7.out.cell 2
      have x3 := HB7.out.cell 3
      have x4 := HB7.out.cell 4
      simp only [List.getElem?_toArray, List.getElem?_cons_zero, List.getElem?_cons_succ] at x0 x1 x2 x3 x4
      go_wp2_with fail
      refine (cod_encode ((i1, i2), q, D, B) Ad Ab cd cb _ HR7.out HE.out.2.2.2).mono ?_
      rintro r w8 ⟨hF8, _, h2⟩
      obtain ⟨v8, rfl, ho⟩ := h2 HE.out.2.1
      rw [← HE.out.1] at ho
      obtain ⟨A8, c8, rfl, _⟩ := ho.reads
      have hcv8 := conv_str8 (c := c8) ho.rdb
      have hcvx := conv_str8 (c := c1) (HOX7.out.fr hF8 (fun _ _ _ h => h)).rdb
      have tq : ((strOfNums l).toList == (strOfNums l).toList) = true := beq_self_eq_true _
      have HF8 := Lib.hid (HF7.out.trans hF8)
      clear hF8 h2 ho x0 x1 x2 x3 x4
      go_wp2_with fail
      refine (works11 _).mono ?_
      rintro r w9 ⟨rfl, hF9⟩
      have HF9 := Lib.hid (HF8.out.trans hF9)
      clear hF9
      go_wp2_with fail
      go_ret
      exact ⟨rfl, HF9.out⟩

  | true =>
    go_enter Try.func3, Try.ntmps3
    go_wp2_with (at_builtin; (refine append8_row w.heap.size rfl _ _ rfl (.slice (some ⟨w.heap.size, 0, none⟩) 0 0) [] l A c rfl rfl ho0 hr0 hs0 hb1 ?_; intro v1 w1 hown hF; simp only [List.nil_append] at hown; have F1 : Fr (fun _ => False) w w1 := F0.trans' hF (fun i hi hk => by have := hk.1; omega); clear F0 hF ho0 hr0 hs0 tl tl' hb1; obtain ⟨A1, c1, rfl, _⟩ := hown.reads; have HO1 := Lib.hid hown; have HF1 := Lib.hid F1; clear hown F1))
    refine (ref_of A l c _ (HHR.out.fr HF1.out (fun _ _ h => h)) HXL.out (by omega)).mono ?_
    rintro r wo ⟨rfl, rfl⟩
    go_wp2_with fail
    refine (ref_big (dOf l) _ (dOf_lt l)).mono ?_
    rintro r wb ⟨vb, rfl, hob, hFb⟩
    obtain ⟨Ab8, cb8, rfl, hrb⟩ := hob.reads
    have HOb := Lib.hid (HO1.out.fr hFb (fun _ _ _ h => h))
    have HFb := Lib.hid (HF1.out.trans hFb)
    have hl9 : l.length + (be8 (dOf l)).length ≤ 140737488355328 := by have h2 : (be8 (dOf l)).length = 8 := rfl; omega
    have hb9 : w.heap.size ≤ wb.heap.size := HFb.out.size
    clear hob hFb
    go_wp2_with (at_builtin; first | (refine append8_mine w.heap.size rfl _ _ rfl (.slice A1 l.length c1) l (be8 (dOf l)) Ab8 cb8 rfl rfl HOb.out hrb hb9 hl9 ?_; intro va wa ho hF; obtain ⟨X, hX⟩ : ∃ X, X = l ++ be8 (dOf l) := ⟨_, rfl⟩; rw [← hX] at ho; obtain ⟨A1x, c1x, rfl, _⟩ := ho.reads; have hXl : X.length = l.length + (be8 (dOf l)).length := (by rw [hX, List.length_append]); have HO1x := Lib.hid ho; have HF1x := Lib.hid (HFb.out.trans' hF (fun i hi h => by have := own_base HOb.out i h.symm; omega)); have HXX := Lib.hid (show Byt X ∧ X.length ≤ 2008 from ⟨by rw [hX]; exact HXL.out.append (beTo_byt _ 8), by have h2 : (be8 (dOf l)).length = 8 := rfl; have := HLL.out; omega⟩); clear ho hF hX hXl hl9 hb9 hrb HOb HFb; have hX2 : X.length ≤ 2008 := HXX.out.2; have hc0 := ow_lit0 wa; have fc0 : Fr (fun _ => False) wa (wa.alloc (.cells #[] 5)) := (Fr.refl _ _).alloc _; have hcr : RdB (wa.alloc (.cells #[] 5)) A1x X := HO1x.out.rdb.fr fc0 (fun _ _ h => h); have hcs : wa.heap.size ≤ (wa.alloc (.cells #[] 5)).heap.size := fc0.size; have hcb : ([] : List Int).length + X.length ≤ 140737488355328 := by simp; omega) | (refine append8_row wa.heap.size rfl _ _ rfl (.slice (some ⟨wa.heap.size, 0, none⟩) 0 0) [] X A1x c1x rfl rfl hc0 hcr hcs hcb ?_; intro v2 w2 hown hF; simp only [List.nil_append] at hown; obtain ⟨A2, c2, rfl, _⟩ := hown.reads; have HO2 := Lib.hid hown; have HF2 := Lib.hid (HF1x.out.trans (fc0.trans' hF (fun i hi hk => by have := hk.1; omega))); have HOX := Lib.hid (HO1x.out.fr (fc0.trans' (S := fun _ => False) hF (fun i hi hk => by have := hk.1; omega)) (fun _ _ _ h => h)); clear hown hF))
    clear hc0 fc0 hcr hcs hcb
    refine (cod_decode A2 X c2 w2 HO2.out.cap HO2.out.rdb HXX.out.1 (by omega)).mono ?_
    rintro r w3 ⟨hF3, hm⟩
    have HF3 := Lib.hid (HF2.out.trans hF3)
    have HOX3 := Lib.hid (HOX.out.fr hF3 (fun _ _ _ h => h))
    clear hF3 HO2 HOX
    cases hd : decR X with
    | error e =>
      rw [hd] at hm
      subst hm
      have he0 := decR_ne hd
      have te : (e != 0) = true := by simpa using he0
      have tee : (e != e) = false := by simp
      have hB := Blk.new w3 32 #[.int .i64 0, .int .i64 0, .int .i64 0, .slice none 0 0, .slice none 0 0]
      have hF := (Fr.refl (fun _ => False) w3).alloc (.cells #[.int .i64 0, .int .i64 0, .int .i64 0, .slice none 0 0, .slice none 0 0] 32)
      have HB4 := Lib.hid hB
      have HF4 := Lib.hid (HF3.out.trans hF)
      have HOX4 := Lib.hid (HOX3.out.fr hF (fun _ _ _ h => h))
      have HD := Lib.hid hd
      clear hB hF hd he0
      go_wp2_with fail
      generalize World.alloc _ _ = w4 at HB4 HF4 HOX4 ⊢
      generalize w3.heap.size = g4 at HB4 ⊢
      refine (ref_read11 A1x X c1x w4 HOX4.out.cap HOX4.out.rdb HXX.out.1 (by omega)).mono ?_
      rintro r w5 ⟨hF5, hm⟩
      rw [HD.out] at hm
      subst hm
      have hB := Blk.new w5 32 #[.int .i64 0, .int .i64 0, .int .i64 0, .slice none 0 0, .slice none 0 0]
      have hF := (Fr.refl (fun _ => False) w5).alloc (.cells #[.int .i64 0, .int .i64 0, .int .i64 0, .slice none 0 0, .slice none 0 0] 32)
      have HB6 := Lib.hid ((HB4.out.fr hF5 (fun h => h)).fr hF (fun h => h))
      have HF6 := Lib.hid ((HF4.out.trans hF5).trans hF)
      have HC6 := Lib.hid hB
      have x0 := HB6.out.cell 0
      have x1 := HB6.out.cell 1
      have x2 := HB6.out.cell 2
      have x3 := HB6.out.cell 3
      have x4 := HB6.out.cell 4
      have y0 := HC6.out.cell 0
      have y1 := HC6.out.cell 1
      have y2 := HC6.out.cell 2
      have y3 := HC6.out.cell 3
      have y4 := HC6.out.cell 4
      simp only [List.getElem?_toArray, List.getElem?_cons_zero, List.getElem?_cons_succ] at x0 x1 x2 x3 x4 y0 y1 y2 y3 y4
      clear hB hF hF5
      go_wp2_with fail
      refine (ref_rec ((0, 0), 0, [], []) ((0, 0), 0, [], []) none none none none 0 0 0 0 _ (recAt_zero _) (recAt_zero _) (by decide) (by decide) (by decide) (by decide) (fun x h => by cases h) (fun x h => by cases h)).mono ?_
      rintro r w7 ⟨rfl, hF7⟩
      rw [cdec_true (recS_refl _)]
      have HF7 := Lib.hid (HF6.out.trans hF7)
      clear hF7 x0 x1 x2 x3 x4 y0 y1 y2 y3 y4
      go_wp2_with fail
      refine (works11 _).mono ?_
      rintro r w8 ⟨rfl, hF8⟩
      have HF8 := Lib.hid (HF7.out.trans hF8)
      clear hF8
      go_wp2_with fail
      go_ret
      exact ⟨rfl, HF8.out⟩
    | ok R =>
      rw [hd] at hm
      obtain ⟨Ad, Ab, cd, cb, rfl, hR3⟩ := hm
      obtain ⟨e1, e2, e3, e4⟩ := decR_ok HXX.out.1 hd
      have HD := Lib.hid hd
      have HE := Lib.hid (And.intro e1 (And.intro e2 (And.intro e3 e4)))
      obtain ⟨⟨i1, i2⟩, q, D, B⟩ := R
      have hB := Blk.new w3 32 #[.int .i64 i1, .int .i64 i2, .int .i64 q, .slice Ad D.length cd, .slice Ab B.length cb]
      have hF := (Fr.refl (fun _ => False) w3).alloc (.cells #[.int .i64 i1, .int .i64 i2, .int .i64 q, .slice Ad D.length cd, .slice Ab B.length cb] 32)
      have HB4 := Lib.hid hB
      have HF4 := Lib.hid (HF3.out.trans hF)
      have HOX4 := Lib.hid (HOX3.out.fr hF (fun _ _ _ h => h))
      have HR4 := Lib.hid (hR3.fr hF)
      clear hB hF hd e1 e2 e3 e4 hR3
      go_wp2_with fail
      generalize World.alloc _ _ = w4 at HB4 HF4 HOX4 HR4 ⊢
      generalize w3.heap.size = g4 at HB4 ⊢
      refine (ref_read11 A1x X c1x w4 HOX4.out.cap HOX4.out.rdb HXX.out.1 (by omega)).mono ?_
      rintro r w5 ⟨hF5, hm⟩
      rw [HD.out] at hm
      obtain ⟨⟨⟨j1, j2⟩, q', D', B'⟩, Ae, Af, ce, cf, rfl, hcan, hgd, hR5⟩ := hm
      have hB := Blk.new w5 32 #[.int .i64 j1, .int .i64 j2, .int .i64 q', .slice Ae D'.length ce, .slice Af B'.length cf]
      have hF := (Fr.refl (fun _ => False) w5).alloc (.cells #[.int .i64 j1, .int .i64 j2, .int .i64 q', .slice Ae D'.length ce, .slice Af B'.length cf] 32)
      have HB6 := Lib.hid ((HB4.out.fr hF5 (fun h => h)).fr hF (fun h => h))
      have HF6 := Lib.hid ((HF4.out.trans hF5).trans hF)
      have HC6 := Lib.hid hB
      have HR6 := Lib.hid ((HR4.out.fr hF5).fr hF)
      have HRR6 := Lib.hid (hR5.fr hF)
      have HOX6 := Lib.hid ((HOX4.out.fr hF5 (fun _ _ _ h => h)).fr hF (fun _ _ _ h => h))
      have HSM := Lib.hid (recS_canon hcan (fun x hx => (hgd x hx).2))
      have HGD := Lib.hid hgd
      have x0 := HB6.out.cell 0
      have x1 := HB6.out.cell 1
      have x2 := HB6.out.cell 2
      have x3 := HB6.out.cell 3
      have x4 := HB6.out.cell 4
      have y0 := HC6.out.cell 0
      have y1 := HC6.out.cell 1
      have y2 := HC6.out.cell 2
      have y3 := HC6.out.cell 3
      have y4 := HC6.out.cell 4
      simp only [List.getElem?_toArray, List.getElem?_cons_zero, List.getElem?_cons_succ] at x0 x1 x2 x3 x4 y0 y1 y2 y3 y4
      clear hB hF hF5 hcan hgd hR5 HR4 HB4
      go_wp2_with fail
      refine (ref_rec ((i1, i2), q, D, B) ((j1, j2), q', D', B') Ad Ab Ae Af cd cb ce cf _ HR6.out HRR6.out HR6.out.lens.1 HR6.out.lens.2 HRR6.out.lens.1 HRR6.out.lens.2 (fun x h => (HE.out.2.2.2 x h).2) (fun x h => (HGD.out x h).2)).mono ?_
      rintro r w7 ⟨rfl, hF7⟩
      rw [cdec_true HSM.out]
      have HF7 := Lib.hid (HF6.out.trans hF7)
      have HB7 := Lib.hid (HB6.out.fr hF7 (fun h => h))
      have HR7 := Lib.hid (HR6.out.fr hF7)
      have HOX7 := Lib.hid (HOX6.out.fr hF7 (fun _ _ _ h => h))
      clear hF7 x0 x1 x2 x3 x4 y0 y1 y2 y3 y4
      have x0 := HB7.out.cell 0
      have x1 := HB7.out.cell 1
      have x2 := HB7.out.cell 2
      have x3 := HB7.out.cell 3
      have x4 := HB7.out.cell 4
      simp only [List.getElem?_toArray, List.getElem?_cons_zero, List.getElem?_cons_succ] at x0 x1 x2 x3 x4
      go_wp2_with fail
      refine (cod_encode ((i1, i2), q, D, B) Ad Ab cd cb _ HR7.out HE.out.2.2.2).mono ?_
      rintro r w8 ⟨hF8, _, h2⟩
      obtain ⟨v8, rfl, ho⟩ := h2 HE.out.2.1
      rw [← HE.out.1] at ho
      obtain ⟨A8, c8, rfl, _⟩ := ho.reads
      have hcv8 := conv_str8 (c := c8) ho.rdb
      have hcvx := conv_str8 (c := c1x) (HOX7.out.fr hF8 (fun _ _ _ h => h)).rdb
      have tq : ((strOfNums X).toList == (strOfNums X).toList) = true := beq_self_eq_true _
      have HF8 := Lib.hid (HF7.out.trans hF8)
      clear hF8 h2 ho x0 x1 x2 x3 x4
      go_wp2_with fail
      refine (works11 _).mono ?_
      rintro r w9 ⟨rfl, hF9⟩
      have HF9 := Lib.hid (HF8.out.trans hF9)
      clear hF9
      go_wp2_with fail
      go_ret
      exact ⟨rfl, HF9.out⟩
end Go.Proofs.Ytelfpnpplknlpaa
